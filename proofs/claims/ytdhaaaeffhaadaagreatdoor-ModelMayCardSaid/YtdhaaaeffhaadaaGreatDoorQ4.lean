/- A part of the proof that ModelMay returns true for every input: the machine of values, its soundness, the program and the document as plain functions, the laws. Conditions: those of the given row. -/
import Derived.Test.YtdhaaaeffhaadaaGreatDoorQ3
set_option linter.unusedVariables false
set_option linter.unusedSimpArgs false
noncomputable section
section
namespace Go.Proofs.YtdhaaaeffhaadaaGreatDoor
open Go.RowKit Go.Dc Go.Vx
set_option maxRecDepth 100000
set_option maxHeartbeats 4000000
noncomputable def IV (U:List Int) (p1:List ah) (p2 p3:Int):AS SS:=⟨[(0,(vs .dF)),(1,(va 4 0)),(9,(vi (↑p1.length:Int))),(10,(vi p3))],[(bX 142 [(.bR .i64 16 U),(.aP 23 p1)]),(bX 28 [(lu p2)]),(bX 143 [(.v (.pointer none))]),(some (.bM 127 [] [(.one (.br 4 0))])),(bX 140 [(.br 0 0)])],5,(some ⟨⟨Tryz.f89,ax 89⟩,[9,10],(gk (aU Tryz.f89) 4),(gl (aU Tryz.f89) 4),[(3,(va 1 0)),(4,(va 2 0)),(8,(vc 3))],none⟩),false,[],[]⟩
noncomputable def Yv (U:List Int) (p1:List ah) (p2:Int):AS SS:=IV U p1 p2 0
noncomputable def agl (U:List Int) (p1:List ah) (p2:Int) (a0:ah):AS SS:=⟨[],[(bX 142 [(.bR .i64 16 U),(.aP 23 p1)]),(bX 28 [(lu p2)]),(bX 143 [(.ptr 69 a0 0)]),(some (.bM 127 [] [(.one (.br 4 0))])),(bX 140 [(.br 0 0)])],5,(some ⟨⟨Tryz.f89,ax 89⟩,[9,10],(gk (aU Tryz.f89) 4),(gl (aU Tryz.f89) 4),[(3,(va 1 0)),(4,(va 2 0)),(8,(vc 3))],(some .ret)⟩),false,[],[2]⟩
noncomputable def agm (U:List Int) (p1:List ah) (p2:Int) (a0:Bool) (a1:Int):AS SS:= { IV U p1 p2 p2 with env:=[(11,(vb a0)),(0,(vs .dF)),(1,(va 4 0)),(9,(vi (↑p1.length:Int))),(10,(vi a1))] }
noncomputable def Qw (sh:Sh) (U:List Int) (p1:List ah) (p2 p3:Int) (z0:ah) (a:Unit):T (Unit ⊕ ah ⊕ (Bool×Int)):=
 .bf (z0.ae==p2) (
  .ok (.inr (.inl z0)))<|
 .ok (.inl ())
noncomputable def OF (sh:Sh) (U:List Int) (p1:List ah) (p2 p3:Int) (a:Unit):T (ah ⊕ (Bool×Int)):=
 .ok (.inr ((decide (p3<(↑p1.length:Int))),p3))
noncomputable def PR (sh:Sh) (U:List Int) (p1:List ah) (p2:Int):Option (ah ⊕ (Bool×Int)):=cg sh (Qw sh U p1 p2) (OF sh U p1 p2) p1 ()
noncomputable def ach {R:Type} (k:AX->AS SS->Option R) (U:List Int) (p1:List ah) (p2:Int) (x:ah ⊕ (Bool×Int)):Option R:=(λx=>Sum.rec (λv=>k .ret (agl U p1 p2 v)) (λv=>k (.exit 0) (agm U p1 p2 v.1 v.2)) x) x
noncomputable def VD:bo SS:=bJ 2 (λst=>((dU st 3 127).bind λ_=>jB st 18 4).bind λ_=>(fN (aZ st 0 0)).bind λU=>(bb 23 (aZ st 0 1)).bind λp1=>(bE (aZ st 1 0)).bind λp2=>some (U,p1,p2)) (λp=>Yv p.1 p.2.1 p.2.2) (λp=>PR shut p.1 p.2.1 p.2.2) (λk p=>ach k p.1 p.2.1 p.2.2)
theorem amf:aC KK Tryz.prog ⟨Tryz.f127,ax 127⟩ (bI (aU Tryz.f127) 2) VD:=
 aC.ck (π:=List Int×List ah×Int) (σ:=Unit) (ab.all Fg rfl) (au.nil) rfl 60 (λp i a=>IV p.1 p.2.1 p.2.2 i) (λp=>p.2.1) (λp=>()) (St:=λp=>Qw shut p.1 p.2.1 p.2.2) (F:=λp=>OF shut p.1 p.2.1 p.2.2) (λp=>rfl)
  (λm p i a k=>by kernel_rfl) (by rintro p (x|x)<;>exact⟨_,_,λ_=>rfl⟩) (λp N C A O w a hr=>Ld hr (j:=0) (n:=1) (t:=23) rfl rfl λv h=>h)
noncomputable def Ou:az SS:= { (tZ shut) with T:=bl ((tZ shut).T) 127 ⟨⟨Tryz.f127,ax 127⟩,[VD]⟩ }
theorem abn:aF Ou Tryz.prog:=(aF.bK (ab.all Fg rfl) Tryz.func127 rfl bg λc hc=>by cases hc;exact au.cons (au.nil) (by kernel_rfl) amf)
noncomputable def RC (sh:Sh) (p:b_) (pid:Int):T (ah×Bool):=
 .bd (qn sh p) λy0=>
  .bf (y0 !=0) (
   .ok (⟨0,0,false,0⟩,false))<|
  .gd (Yv p.aR p.ao pid)<|
   .bd (PR sh p.aR p.ao pid) λx4=> .cs x4 (λy1=>
    .ok (y1,true)) λy1=>
    .ok (⟨0,0,false,0⟩,false)
noncomputable def SV (sh:Sh) (p:b_) (pid:Int):Option (ah×Bool):=sh.s _ (RC sh p pid).val
theorem api {R:Type} (p:b_) (pid:Int) (k:Rs SS->Option R):bu Ou 100 72 [KK.aa 25 p,KK.aa 28 pid] [] (bD KK [69,4] k)=(RC shut p pid).run (λr=>k (.ret (.aY [KK.aa 69 r.1,KK.aa 4 r.2]))):=by kernel_rfl
noncomputable def ae9 (sh:Sh):bq SS:=bw KK 72 [25,28] (λ{R} xs k=>match xs with| .cons p (.cons pid .nil)=>(SV sh p pid).bind (λr=>k (.ret (.aY [KK.aa 69 r.1,KK.aa 4 r.2]))))
noncomputable def zD (sh:Sh):az SS:= { (tZ sh) with C:=ae9 sh::(tZ sh).C }
theorem Pz:ab (zD shut) Tryz.prog:=ab.bB Fg λxs k z _ hz=>bG abn (λ{R} xs k z h=>by
 match xs,h with
 | .cons p (.cons pid .nil),h=>exact⟨100,(api p pid k).trans (bH h)⟩) hz
noncomputable def Rt (sh:Sh) (p:b_) (pid:Int):T (Bool):=
 .bd (SV sh p pid) λy0=>
  .bf (y0.2) (
   .ok (!y0.1.bW))<|
  .ok false
noncomputable def B3 (sh:Sh) (p:b_) (pid:Int):Option (Bool):=sh.s _ (Rt sh p pid).val
theorem aoU {R:Type} (p:b_) (pid:Int) (k:Rs SS->Option R):bu (zD shut) 100 28 [KK.aa 25 p,KK.aa 28 pid] [] (bD KK [4] k)=(Rt shut p pid).run (λr=>k (.ret (.s (KK.aa 4 r)))):=by kernel_rfl
noncomputable def aeH (sh:Sh):bq SS:=bw KK 28 [25,28] (λ{R} xs k=>match xs with| .cons p (.cons pid .nil)=>(B3 sh p pid).bind (λr=>k (.ret (.s (KK.aa 4 r)))))
noncomputable def lG (sh:Sh):az SS:= { (zD sh) with C:=aeH sh::(zD sh).C }
theorem uw:ab (lG shut) Tryz.prog:=ab.bB Pz λxs k z _ hz=>bG (ab.all Pz rfl) (λ{R} xs k z h=>by
 match xs,h with
 | .cons p (.cons pid .nil),h=>exact⟨100,(aoU p pid k).trans (bH h)⟩) hz
noncomputable def IP (U:List Int) (p1:List ah) (p2 p3:Int):AS SS:=⟨[(0,(vs .dF)),(1,(va 5 0)),(9,(vi (↑p1.length:Int))),(10,(vi p3))],[(bX 142 [(.bR .i64 16 U),(.own 1)]),(rX 69 p1),(bX 28 [(lu p2)]),(bX 143 [(.v (.pointer none))]),(some (.bM 127 [] [(.one (.br 5 0))])),(bX 140 [(.br 0 0)])],6,(some ⟨⟨Tryz.f89,ax 89⟩,[9,10],(gk (aU Tryz.f89) 4),(gl (aU Tryz.f89) 4),[(3,(va 2 0)),(4,(va 3 0)),(8,(vc 4))],none⟩),false,[],[]⟩
noncomputable def Yt (U:List Int) (p1:List ah) (p2:Int):AS SS:=IP U p1 p2 0
noncomputable def af' (U:List Int) (p1:List ah) (p2:Int) (a0:Nat):AS SS:=⟨[],[(bX 142 [(.bR .i64 16 U),(.own 1)]),(rX 69 p1),(bX 28 [(lu p2)]),(bX 143 [(.f_ 69 1 a0 0)]),(some (.bM 127 [] [(.one (.br 5 0))])),(bX 140 [(.br 0 0)])],6,(some ⟨⟨Tryz.f89,ax 89⟩,[9,10],(gk (aU Tryz.f89) 4),(gl (aU Tryz.f89) 4),[(3,(va 2 0)),(4,(va 3 0)),(8,(vc 4))],(some .ret)⟩),false,[],[3]⟩
noncomputable def aga (U:List Int) (p1:List ah) (p2:Int) (a0:Bool) (a1:Int):AS SS:= { IP U p1 p2 p2 with env:=[(11,(vb a0)),(0,(vs .dF)),(1,(va 5 0)),(9,(vi (↑p1.length:Int))),(10,(vi a1))] }
noncomputable def Qs (sh:Sh) (U:List Int) (p1:List ah) (p2 p3:Int) (z0:ah) (a:Unit):T (Unit ⊕ Nat ⊕ (Bool×Int)):=
 .bd (p1[p3.toNat]?) λz1=>
  .bf (z1.ae==p2) (
   .ok (.inr (.inl p3.toNat)))<|
  .ok (.inl ())
noncomputable def OC (sh:Sh) (U:List Int) (p1:List ah) (p2 p3:Int) (a:Unit):T (Nat ⊕ (Bool×Int)):=
 .ok (.inr ((decide (p3<(↑p1.length:Int))),p3))
noncomputable def PN (sh:Sh) (U:List Int) (p1:List ah) (p2:Int):Option (Nat ⊕ (Bool×Int)):=cg sh (Qs sh U p1 p2) (OC sh U p1 p2) p1 ()
noncomputable def aca {R:Type} (k:AX->AS SS->Option R) (U:List Int) (p1:List ah) (p2:Int) (x:Nat ⊕ (Bool×Int)):Option R:=(λx=>Sum.rec (λv=>k .ret (af' U p1 p2 v)) (λv=>k (.exit 0) (aga U p1 p2 v.1 v.2)) x) x
noncomputable def xu:bo SS:=bJ 2 (λst=>((dU st 4 127).bind λ_=>jB st 18 4).bind λ_=>(fN (aZ st 0 0)).bind λU=>(db st 1 69).bind λp1=>(bE (aZ st 2 0)).bind λp2=>some (U,p1,p2)) (λp=>Yt p.1 p.2.1 p.2.2) (λp=>PN shut p.1 p.2.1 p.2.2) (λk p=>aca k p.1 p.2.1 p.2.2)
theorem LU:aC KK Tryz.prog ⟨Tryz.f127,ax 127⟩ (bI (aU Tryz.f127) 2) xu:=
 aC.ck (π:=List Int×List ah×Int) (σ:=Unit) (ab.all uw rfl) (au.nil) rfl 60 (λp i a=>IP p.1 p.2.1 p.2.2 i) (λp=>p.2.1) (λp=>()) (St:=λp=>Qs shut p.1 p.2.1 p.2.2) (F:=λp=>OC shut p.1 p.2.1 p.2.2) (λp=>rfl)
  (λm p i a k=>by kernel_rfl) (by rintro p (x|x)<;>exact⟨_,_,λ_=>rfl⟩) (λp N C A O w a hr=>qV (j:=1) hr rfl)
noncomputable def CI (U:List ah) (p1 p2:Int):AS SS:=⟨[(0,(vo 0)),(1,(vc 1)),(7,(vi (↑U.length:Int))),(8,(vi p2))],[(rX 69 U),(some (.bM 253 [] [(.one (.br 2 0))])),(bX 3 [(li p1)])],3,none,false,[],[]⟩
noncomputable def YC (U:List ah) (p1:Int):AS SS:=CI U p1 0
noncomputable def agP (U:List ah) (p1 a0:Int):AS SS:= { CI U p1 p1 with env:=[(4,(vi a0))] }
noncomputable def agQ (U:List ah) (p1:Int) (a0:Bool) (a1:Int):AS SS:= { CI U p1 p1 with env:=[(9,(vb a0)),(0,(vo 0)),(1,(vc 1)),(7,(vi (↑U.length:Int))),(8,(vi a1))] }
noncomputable def QH (sh:Sh) (U:List ah) (p1 p2:Int) (z0:ah) (a:Unit):T (Unit ⊕ Int ⊕ (Bool×Int)):=
 .bd (U[p2.toNat]?) λz1=>
  .bd (qo sh z1.ae) λy2=>
   .bf (y2==IntKind.i64.wrap (p1+1)) (
    .ok (.inr (.inl p2)))<|
   .ok (.inl ())
noncomputable def OK (sh:Sh) (U:List ah) (p1 p2:Int) (a:Unit):T (Int ⊕ (Bool×Int)):=
 .ok (.inr ((decide (p2<(↑U.length:Int))),p2))
noncomputable def P2 (sh:Sh) (U:List ah) (p1:Int):Option (Int ⊕ (Bool×Int)):=cg sh (QH sh U p1) (OK sh U p1) U ()
noncomputable def acC {R:Type} (k:AX->AS SS->Option R) (U:List ah) (p1:Int) (x:Int ⊕ (Bool×Int)):Option R:=(λx=>Sum.rec (λv=>k .ret (agP U p1 v)) (λv=>k (.exit 0) (agQ U p1 v.1 v.2)) x) x
noncomputable def K5:bo SS:=bJ 3 (λst=>(dU st 1 253).bind λ_=>(db st 0 69).bind λU=>(bE (aZ st 2 0)).bind λp1=>some (U,p1)) (λp=>YC p.1 p.2) (λp=>P2 shut p.1 p.2) (λk p=>acC k p.1 p.2)
noncomputable def aau:az SS:= { (lG shut) with T:=bl ((lG shut).T) 127 ⟨⟨Tryz.f127,ax 127⟩,[xu]⟩ }
theorem NC:aF aau Tryz.prog:=(aF.bK (ab.all uw rfl) Tryz.func127 rfl bg λc hc=>by cases hc;exact au.cons (au.nil) (by kernel_rfl) LU)
theorem Xv:aC KK Tryz.prog ⟨Tryz.f254,ax 254⟩ (bI (aU Tryz.f254) 3) K5:=
 aC.ck (π:=List ah×Int) (σ:=Unit) NC (au.nil) rfl 60 (λp i a=>CI p.1 p.2 i) (λp=>p.1) (λp=>()) (St:=λp=>QH shut p.1 p.2) (F:=λp=>OK shut p.1 p.2) (λp=>rfl)
  (λm p i a k=>by kernel_rfl) (by rintro p (x|x)<;>exact⟨_,_,λ_=>rfl⟩) (λp N C A O w a hr=>qV (j:=0) hr rfl)
noncomputable def CE (U:List Int) (p1:List ah) (p2:Int):AS SS:=⟨[(0,(va 0 0)),(3,(va 2 0))],[(bX 142 [(.bR .i64 16 U),(.own 1)]),(rX 69 p1),(bX 3 [(li p2)])],2,none,false,[],[]⟩
noncomputable def agG (U:List Int) (p1:List ah) (a0:Bool) (a1:Int):AS SS:= { CE U p1 a1 with env:=[(6,(vb a0)),(5,(vi a1)),(0,(va 0 0)),(3,(va 2 0))] }
noncomputable def agH (U:List Int) (p1:List ah) (a0:Bool) (a1:Int) (a2:Nat) (a3:Int) (a4 a5 a6:Bool):AS SS:=⟨[(26,(vb a0)),(25,(vb a0)),(17,(vb true)),(24,(vi a1)),(17,(vb true)),(23,(vs (.gU 0 0 16 a2))),(17,(vb true)),(22,(va 0 0)),(17,(vb true)),(21,(va 0 0)),(17,(vb true)),(20,(va 0 0)),(17,(vb true)),(19,(vi a3)),(17,(vb true)),(18,(va 0 0)),(17,(vb true)),(17,(vb a4)),(16,(vb a4)),(15,(vb a5)),(4,(vb a5)),(14,(vb a5)),(13,(vc 3)),(12,(vo 1)),(11,(va 0 16)),(10,(va 0 0)),(9,(va 0 0)),(8,(va 0 0)),(7,(.aY [])),(6,(vb a6)),(5,(vi a3)),(0,(va 0 0)),(3,(va 2 0))],[(bX 142 [(.bR .i64 16 U),(.own 1)]),(rX 69 p1),(bX 3 [(li a3)]),(some (.bM 253 [] [(.one (.br 2 0))]))],2,none,false,[],[]⟩
noncomputable def QA (sh:Sh) (U:List Int) (p1:List ah) (a:Int):T (Int ⊕ (Bool×Int) ⊕ (Bool×Int×Nat×Int×Bool×Bool×Bool)):=
 .bf (!decide (a<16)) (
  .ok (.inr (.inl ((decide (a<16)),a))))<|
 .gd (YC p1 a)<|
  .bd (P2 sh p1 a) λx3=> .cs x3 (λy0=>
   .bf (!decide (y0>=0)) (
    .bd (fk a 16) λz1=>
     .bf (decide (aN U z1<=65535)) (
      .ok (.inr (.inr ((decide (aN U z1<=65535)),(aN U z1),z1,a,(!decide (y0>=0)),(decide (y0>=0)),(decide (a<16))))))<|
     .ok (.inl (IntKind.i64.wrap (a+1))))<|
   .ok (.inl (IntKind.i64.wrap (a+1)))) λy0=>
   .bd (fk a 16) λz1=>
    .bf (decide (aN U z1<=65535)) (
     .ok (.inr (.inr ((decide (aN U z1<=65535)),(aN U z1),z1,a,true,false,(decide (a<16))))))<|
    .ok (.inl (IntKind.i64.wrap (a+1)))
noncomputable def PV (sh:Sh) (U:List Int) (p1:List ah) (p2:Int):Option ((Bool×Int) ⊕ (Bool×Int×Nat×Int×Bool×Bool×Bool)):=cA sh (QA sh U p1) 1000000 p2
noncomputable def acv {R:Type} (k:AX->AS SS->Option R) (U:List Int) (p1:List ah) (x:(Bool×Int) ⊕ (Bool×Int×Nat×Int×Bool×Bool×Bool)):Option R:=(λx=>Sum.rec (λv=>k (.bN (.iface 40 (.int .i64 322))) (agG U p1 v.1 v.2)) (λv=>k (.exit 0) (agH U p1 v.1 v.2.1 v.2.2.1 v.2.2.2.1 v.2.2.2.2.1 v.2.2.2.2.2.1 v.2.2.2.2.2.2)) x) x
noncomputable def K2:bo SS:=bJ 3 (λst=>(fN (aZ st 0 0)).bind λU=>(db st 1 69).bind λp1=>(bE (aZ st 2 0)).bind λp2=>some (U,p1,p2)) (λp=>CE p.1 p.2.1 p.2.2) (λp=>PV shut p.1 p.2.1 p.2.2) (λk p=>acv k p.1 p.2.1)
noncomputable def aav:az SS:= { (lG shut) with T:=bl (bl ((lG shut).T) 127 ⟨⟨Tryz.f127,ax 127⟩,[xu]⟩) 254 ⟨⟨Tryz.f254,ax 254⟩,[K5]⟩ }
theorem aaw:aF aav Tryz.prog:=(aF.bK NC Tryz.func254 rfl bg λc hc=>by cases hc;exact au.cons (au.nil) (by kernel_rfl) Xv)
theorem Xt:aC KK Tryz.prog ⟨Tryz.f217,ax 217⟩ (bI (aU Tryz.f217) 3) K2:=
 aC.cA (π:=List Int×List ah×Int) (σ:=Int) aaw (au.nil) rfl 60 (λp a=>CE p.1 p.2.1 a) (λp=>p.2.2) (St:=λp=>QA shut p.1 p.2.1) (λp=>1000000) (λp=>rfl)
  (λm p a k=>by kernel_rfl)
noncomputable def CJ (U:List ah) (p1 p2 p3:Int):AS SS:=⟨[(0,(vo 0)),(1,(vc 1)),(7,(vi (↑U.length:Int))),(8,(vi p3))],[(rX 69 U),(some (.bM 255 [] [(.one (.br 2 0))])),(bX 69 [(lu p1),(lu p2),(.v (.bool false)),(lu 0)])],3,none,false,[],[]⟩
noncomputable def YD (U:List ah) (p1 p2:Int):AS SS:=CJ U p1 p2 0
noncomputable def agR (U:List ah) (p1 p2 a0:Int):AS SS:= { CJ U p1 p2 p1 with env:=[(4,(vi a0))] }
noncomputable def agS (U:List ah) (p1 p2:Int) (a0:Bool) (a1:Int):AS SS:= { CJ U p1 p2 p1 with env:=[(9,(vb a0)),(0,(vo 0)),(1,(vc 1)),(7,(vi (↑U.length:Int))),(8,(vi a1))] }
noncomputable def QI (sh:Sh) (U:List ah) (p1 p2 p3:Int) (z0:ah) (a:Unit):T (Unit ⊕ Int ⊕ (Bool×Int)):=
 .bd (U[p3.toNat]?) λz1=>
  .bd (qo sh z1.ae) λy2=>
   .bd (qo sh p1) λy3=>
    .bf (decide (y2>y3)) (
     .ok (.inr (.inl p3)))<|
    .ok (.inl ())
noncomputable def OL (sh:Sh) (U:List ah) (p1 p2 p3:Int) (a:Unit):T (Int ⊕ (Bool×Int)):=
 .ok (.inr ((decide (p3<(↑U.length:Int))),p3))
noncomputable def P3 (sh:Sh) (U:List ah) (p1 p2:Int):Option (Int ⊕ (Bool×Int)):=cg sh (QI sh U p1 p2) (OL sh U p1 p2) U ()
noncomputable def acD {R:Type} (k:AX->AS SS->Option R) (U:List ah) (p1 p2:Int) (x:Int ⊕ (Bool×Int)):Option R:=(λx=>Sum.rec (λv=>k .ret (agR U p1 p2 v)) (λv=>k (.exit 0) (agS U p1 p2 v.1 v.2)) x) x
noncomputable def VT:bo SS:=bJ 3 (λst=>(dU st 1 255).bind λ_=>(db st 0 69).bind λU=>(bE (aZ st 2 0)).bind λp1=>(bE (aZ st 2 1)).bind λp2=>some (U,p1,p2)) (λp=>YD p.1 p.2.1 p.2.2) (λp=>P3 shut p.1 p.2.1 p.2.2) (λk p=>acD k p.1 p.2.1 p.2.2)
noncomputable def aax:az SS:= { (lG shut) with T:=bl (bl ((lG shut).T) 127 ⟨⟨Tryz.f127,ax 127⟩,[xu]⟩) 217 ⟨⟨Tryz.f217,ax 217⟩,[K2]⟩ }
theorem aay:aF aax Tryz.prog:=(aF.bK (aF.bK (ab.all uw rfl) Tryz.func127 rfl bg λc hc=>by cases hc;exact au.cons (au.nil) (by kernel_rfl) LU) Tryz.func217 rfl bg λc hc=>by cases hc;exact au.cons (au.nil) (by kernel_rfl) Xt)
theorem amw:aC KK Tryz.prog ⟨Tryz.f254,ax 254⟩ (bI (aU Tryz.f254) 3) VT:=
 aC.ck (π:=List ah×Int×Int) (σ:=Unit) aay (au.nil) rfl 60 (λp i a=>CJ p.1 p.2.1 p.2.2 i) (λp=>p.1) (λp=>()) (St:=λp=>QI shut p.1 p.2.1 p.2.2) (F:=λp=>OL shut p.1 p.2.1 p.2.2) (λp=>rfl)
  (λm p i a k=>by kernel_rfl) (by rintro p (x|x)<;>exact⟨_,_,λ_=>rfl⟩) (λp N C A O w a hr=>qV (j:=0) hr rfl)
noncomputable def NF:az SS:= { (lG shut) with T:=bl (bl (bl ((lG shut).T) 127 ⟨⟨Tryz.f127,ax 127⟩,[xu]⟩) 254 ⟨⟨Tryz.f254,ax 254⟩,[vk (λst=>dU st 1 253) K5 (VT)]⟩) 217 ⟨⟨Tryz.f217,ax 217⟩,[K2]⟩ }
theorem aaz:aF NF Tryz.prog:=(aF.bK (aF.bK (aF.bK (ab.all uw rfl) Tryz.func127 rfl bg λc hc=>by cases hc;exact au.cons (au.nil) (by kernel_rfl) LU) Tryz.func254 rfl bg λc hc=>by cases hc;exact au.cons (au.nil) (by kernel_rfl) (aC.alt Xv amw)) Tryz.func217 rfl bg λc hc=>by cases hc;exact au.cons (au.nil) (by kernel_rfl) Xt)
noncomputable def Q5 (sh:Sh) (p:b_) (parent:Int):T (b_×Int×Int):=
 .bd (qn sh p) λy0=>
  .bf (!y0==0) (
   .ok (⟨[0,0,0,0,0,0,0,0,0,0,0,0,0,0,0,0],[]⟩,0,320))<|
  .bd (app 32 [] p.ao) λz1=>
   .gd (Yt p.aR z1 parent)<|
    .bd (PN sh p.aR z1 parent) λx5=> .cs x5 (λy2=>
     .bd (z1[y2]?) λz3=>
      .bf (!!z3.bW) (
       .ok (⟨[0,0,0,0,0,0,0,0,0,0,0,0,0,0,0,0],[]⟩,0,321))<|
      .gd (CE p.aR z1 0)<|
       .bd (PV sh p.aR z1 0) λx8=> .cs x8 (λy4=>
        .ok (⟨[0,0,0,0,0,0,0,0,0,0,0,0,0,0,0,0],[]⟩,0,322)) λy4=>
        .bd (fk y4.2.2.2.1 16) λz5=>
         .bd (fk y4.2.2.2.1 16) λz6=>
          .bd (fk y4.2.2.2.1 16) λz7=>
           .bf (true&&p.aR.length.beq 16) (
            .gd (YD z1 (IntKind.u64.wrap (IntKind.i64.wrap (IntKind.i64.wrap (IntKind.i64.wrap (aN p.aR z5*64)+y4.2.2.2.1)+1))) parent)<|
             .bd (P3 sh z1 (IntKind.u64.wrap (IntKind.i64.wrap (IntKind.i64.wrap (IntKind.i64.wrap (aN p.aR z5*64)+y4.2.2.2.1)+1))) parent) λx14=> .cs x14 (λy8=>
              .bf (decide (y8<0)) (
               .bd (sZ z1 (↑z1.length:Int) [ah.mk (IntKind.u64.wrap (IntKind.i64.wrap (IntKind.i64.wrap (IntKind.i64.wrap (aN p.aR z5*64)+y4.2.2.2.1)+1))) parent false 0]) λz9=>
                .ok (⟨(p.aR.set z7 (IntKind.i64.wrap (aN p.aR z6+1))),z9⟩,(IntKind.u64.wrap (IntKind.i64.wrap (IntKind.i64.wrap (IntKind.i64.wrap (aN p.aR z5*64)+y4.2.2.2.1)+1))),0))<|
              .bd (sZ z1 y8 [ah.mk (IntKind.u64.wrap (IntKind.i64.wrap (IntKind.i64.wrap (IntKind.i64.wrap (aN p.aR z5*64)+y4.2.2.2.1)+1))) parent false 0]) λz9=>
               .ok (⟨(p.aR.set z7 (IntKind.i64.wrap (aN p.aR z6+1))),z9⟩,(IntKind.u64.wrap (IntKind.i64.wrap (IntKind.i64.wrap (IntKind.i64.wrap (aN p.aR z5*64)+y4.2.2.2.1)+1))),0)) λy8=>
              .bd (sZ z1 (↑z1.length:Int) [ah.mk (IntKind.u64.wrap (IntKind.i64.wrap (IntKind.i64.wrap (IntKind.i64.wrap (aN p.aR z5*64)+y4.2.2.2.1)+1))) parent false 0]) λz9=>
               .ok (⟨(p.aR.set z7 (IntKind.i64.wrap (aN p.aR z6+1))),z9⟩,(IntKind.u64.wrap (IntKind.i64.wrap (IntKind.i64.wrap (IntKind.i64.wrap (aN p.aR z5*64)+y4.2.2.2.1)+1))),0))<|
           .no) λy2=>
     .ok (⟨[0,0,0,0,0,0,0,0,0,0,0,0,0,0,0,0],[]⟩,0,321)
noncomputable def HQ (sh:Sh) (p:b_) (parent:Int):Option (b_×Int×Int):=sh.s _ (Q5 sh p parent).val
theorem aox {R:Type} (p:b_) (parent:Int) (k:Rs SS->Option R):bu NF 100 177 [KK.aa 25 p,KK.aa 28 parent] [] (bD KK [25,28,40] k)=(Q5 shut p parent).run (λr=>k (.ret (.aY [KK.aa 25 r.1,KK.aa 28 r.2.1,KK.aa 40 r.2.2]))):=by kernel_rfl
noncomputable def aeh (sh:Sh):bq SS:=bw KK 177 [25,28] (λ{R} xs k=>match xs with| .cons p (.cons parent .nil)=>(HQ sh p parent).bind (λr=>k (.ret (.aY [KK.aa 25 r.1,KK.aa 28 r.2.1,KK.aa 40 r.2.2]))))
noncomputable def mV (sh:Sh):az SS:= { (lG sh) with C:=aeh sh::(lG sh).C }
theorem uf:ab (mV shut) Tryz.prog:=ab.bB uw λxs k z _ hz=>bG aaz (λ{R} xs k z h=>by
 match xs,h with
 | .cons p (.cons parent .nil),h=>exact⟨100,(aox p parent k).trans (bH h)⟩) hz
noncomputable def IQ (U:List Int) (p1:List ah) (p2 p3:Int):AS SS:=⟨[(0,(vs .dF)),(1,(va 5 0)),(9,(vi (↑p1.length:Int))),(10,(vi p3))],[(bX 142 [(.bR .i64 16 U),(.own 1)]),(rX 69 p1),(bX 28 [(lu p2)]),(bX 143 [(.v (.pointer none))]),(some (.bM 127 [] [(.one (.br 5 0))])),(bX 140 [(.br 0 0)])],6,(some ⟨⟨Tryz.f89,ax 89⟩,[9,10],(gk (aU Tryz.f89) 4),(gl (aU Tryz.f89) 4),[(3,(va 2 0)),(4,(va 3 0)),(8,(vc 4))],none⟩),false,[],[]⟩
noncomputable def Yu (U:List Int) (p1:List ah) (p2:Int):AS SS:=IQ U p1 p2 0
noncomputable def agb (U:List Int) (p1:List ah) (p2:Int) (a0:Nat):AS SS:=⟨[],[(bX 142 [(.bR .i64 16 U),(.own 1)]),(rX 69 p1),(bX 28 [(lu p2)]),(bX 143 [(.f_ 69 1 a0 0)]),(some (.bM 127 [] [(.one (.br 5 0))])),(bX 140 [(.br 0 0)])],6,(some ⟨⟨Tryz.f89,ax 89⟩,[9,10],(gk (aU Tryz.f89) 4),(gl (aU Tryz.f89) 4),[(3,(va 2 0)),(4,(va 3 0)),(8,(vc 4))],(some .ret)⟩),false,[],[3]⟩
noncomputable def agc (U:List Int) (p1:List ah) (p2:Int) (a0:Bool) (a1:Int):AS SS:= { IQ U p1 p2 p2 with env:=[(11,(vb a0)),(0,(vs .dF)),(1,(va 5 0)),(9,(vi (↑p1.length:Int))),(10,(vi a1))] }
noncomputable def Qt (sh:Sh) (U:List Int) (p1:List ah) (p2 p3:Int) (z0:ah) (a:Unit):T (Unit ⊕ Nat ⊕ (Bool×Int)):=
 .bd (p1[p3.toNat]?) λz1=>
  .bf (z1.ae==p2) (
   .ok (.inr (.inl p3.toNat)))<|
  .ok (.inl ())
noncomputable def OD (sh:Sh) (U:List Int) (p1:List ah) (p2 p3:Int) (a:Unit):T (Nat ⊕ (Bool×Int)):=
 .ok (.inr ((decide (p3<(↑p1.length:Int))),p3))
noncomputable def PO (sh:Sh) (U:List Int) (p1:List ah) (p2:Int):Option (Nat ⊕ (Bool×Int)):=cg sh (Qt sh U p1 p2) (OD sh U p1 p2) p1 ()
noncomputable def acb {R:Type} (k:AX->AS SS->Option R) (U:List Int) (p1:List ah) (p2:Int) (x:Nat ⊕ (Bool×Int)):Option R:=(λx=>Sum.rec (λv=>k .ret (agb U p1 p2 v)) (λv=>k (.exit 0) (agc U p1 p2 v.1 v.2)) x) x
noncomputable def KZ:bo SS:=bJ 2 (λst=>((dU st 4 127).bind λ_=>jB st 18 4).bind λ_=>(fN (aZ st 0 0)).bind λU=>(db st 1 69).bind λp1=>(bE (aZ st 2 0)).bind λp2=>some (U,p1,p2)) (λp=>Yu p.1 p.2.1 p.2.2) (λp=>PO shut p.1 p.2.1 p.2.2) (λk p=>acb k p.1 p.2.1 p.2.2)
theorem Xr:aC KK Tryz.prog ⟨Tryz.f127,ax 127⟩ (bI (aU Tryz.f127) 2) KZ:=
 aC.ck (π:=List Int×List ah×Int) (σ:=Unit) (ab.all uf rfl) (au.nil) rfl 60 (λp i a=>IQ p.1 p.2.1 p.2.2 i) (λp=>p.2.1) (λp=>()) (St:=λp=>Qt shut p.1 p.2.1 p.2.2) (F:=λp=>OD shut p.1 p.2.1 p.2.2) (λp=>rfl)
  (λm p i a k=>by kernel_rfl) (by rintro p (x|x)<;>exact⟨_,_,λ_=>rfl⟩) (λp N C A O w a hr=>qV (j:=1) hr rfl)
noncomputable def CF (U:List ah) (p1:Int) (p2:Bool) (p3 p4:Int) (p5:List ah):AS SS:=⟨[(1,(vc 1)),(5,(vo 4)),(8,(vo 0)),(9,(vi p3)),(10,(vi p4))],[(rX 69 U),(some (.bM 222 [] [(.one (.br 2 0)),(.one (.br 3 0))])),(bX 28 [(lu p1)]),(bX 4 [(.v (.bool p2))]),(rX 69 p5)],4,none,false,[],[]⟩
noncomputable def agI (U:List ah) (p1:Int) (p2:Bool) (p3:Int) (a0:Bool) (a1:Int) (a2:List ah):AS SS:= { CF U p1 p2 p3 p1 a2 with env:=[(11,(vb a0)),(1,(vc 1)),(5,(vo 4)),(8,(vo 0)),(9,(vi p3)),(10,(vi a1))] }
noncomputable def QB (sh:Sh) (U:List ah) (p1:Int) (p2:Bool) (p3:Int) (a:Int×List ah):T ((Int×List ah) ⊕ (Bool×Int×List ah)):=
 .bf (decide (a.1<p3)) (
  .bd (idx U a.1) λz0=>
   .bd (U[a.1.toNat]?) λz1=>
    .bf (z1.ae !=p1) (
     .bf (z1.bn !=p1) (
      .bd (app 32 a.2 [z1]) λz2=>
       .ok (.inl ((IntKind.i64.wrap (a.1+1)),z2)))<|
     .bf (!z1.bW) (
      .bd (app 32 a.2 [z1]) λz2=>
       .ok (.inl ((IntKind.i64.wrap (a.1+1)),z2)))<|
     .ok (.inl ((IntKind.i64.wrap (a.1+1)),a.2)))<|
    .bf (!p2) (
     .bf (z1.bn !=p1) (
      .bd (app 32 a.2 [z1]) λz2=>
       .ok (.inl ((IntKind.i64.wrap (a.1+1)),z2)))<|
     .bf (!z1.bW) (
      .bd (app 32 a.2 [z1]) λz2=>
       .ok (.inl ((IntKind.i64.wrap (a.1+1)),z2)))<|
     .ok (.inl ((IntKind.i64.wrap (a.1+1)),a.2)))<|
    .ok (.inl ((IntKind.i64.wrap (a.1+1)),a.2)))<|
 .ok (.inr ((decide (a.1<p3)),a.1,a.2))
noncomputable def PW (sh:Sh) (U:List ah) (p1:Int) (p2:Bool) (p3 p4:Int) (p5:List ah):Option ((Bool×Int×List ah)):=cA sh (QB sh U p1 p2 p3) 1000000 (p4,p5)
noncomputable def acw {R:Type} (k:AX->AS SS->Option R) (U:List ah) (p1:Int) (p2:Bool) (p3:Int) (x:(Bool×Int×List ah)):Option R:=(λv=>k (.exit 0) (agI U p1 p2 p3 v.1 v.2.1 v.2.2)) x
noncomputable def K3:bo SS:=bJ 4 (λst=>(dU st 1 222).bind λ_=>(db st 0 69).bind λU=>(bE (aZ st 2 0)).bind λp1=>(oJ (aZ st 3 0)).bind λp2=>(bE (aS st 9 0)).bind λp3=>(bE (aS st 10 0)).bind λp4=>(db st 4 69).bind λp5=>some (U,p1,p2,p3,p4,p5)) (λp=>CF p.1 p.2.1 p.2.2.1 p.2.2.2.1 p.2.2.2.2.1 p.2.2.2.2.2) (λp=>PW shut p.1 p.2.1 p.2.2.1 p.2.2.2.1 p.2.2.2.2.1 p.2.2.2.2.2) (λk p=>acw k p.1 p.2.1 p.2.2.1 p.2.2.2.1)
noncomputable def aaA:az SS:= { (mV shut) with T:=bl ((mV shut).T) 127 ⟨⟨Tryz.f127,ax 127⟩,[KZ]⟩ }
theorem aaB:aF aaA Tryz.prog:=(aF.bK (ab.all uf rfl) Tryz.func127 rfl bg λc hc=>by cases hc;exact au.cons (au.nil) (by kernel_rfl) Xr)
theorem Xu:aC KK Tryz.prog ⟨Tryz.f221,ax 221⟩ (bI (aU Tryz.f221) 4) K3:=
 aC.cA (π:=List ah×Int×Bool×Int×Int×List ah) (σ:=Int×List ah) aaB (au.nil) rfl 60 (λp a=>CF p.1 p.2.1 p.2.2.1 p.2.2.2.1 a.1 a.2) (λp=>(p.2.2.2.2.1,p.2.2.2.2.2)) (St:=λp=>QB shut p.1 p.2.1 p.2.2.1 p.2.2.2.1) (λp=>1000000) (λp=>rfl)
  (λm p a k=>by kernel_rfl)
noncomputable def Cw (U:List Int) (p1:List ah) (p2 p3:Int) (p4:List ah) (p5:Int) (p6:List ah):AS SS:=⟨[(0,(vs .dF)),(1,(va 6 0)),(9,(vi (↑p4.length:Int))),(10,(vi p5))],[(bX 142 [(.bR .i64 16 U),(.own 4)]),(rX 69 p1),(bX 28 [(lu p2)]),(bX 28 [(lu p3)]),(rX 69 p6),(some (.bM 127 [] [(.one (.br 6 0))])),(bX 140 [(.br 0 0)])],7,(some ⟨⟨Tryz.f219,ax 219⟩,[41,42],(gk (aU Tryz.f219) 8),(gl (aU Tryz.f219) 8),[(1,(va 2 0)),(40,(vc 5))],none⟩),false,[],[4]⟩
noncomputable def agd (U:List Int) (p1:List ah) (p2 p3:Int) (p4:List ah) (a0:Bool) (a1:Int) (a2:List ah):AS SS:= { Cw U p1 p2 p3 p4 p2 a2 with env:=[(11,(vb a0)),(0,(vs .dF)),(1,(va 6 0)),(9,(vi (↑p4.length:Int))),(10,(vi a1))] }
noncomputable def Qu (sh:Sh) (U:List Int) (p1:List ah) (p2 p3:Int) (p4:List ah) (a:Int×List ah):T ((Int×List ah) ⊕ (Bool×Int×List ah)):=
 .bf (decide (a.1<(↑p4.length:Int))) (
  .bd (idx a.2 a.1) λz0=>
   .bd (a.2[a.1.toNat]?) λz1=>
    .bf (z1.bn==p2) (
     .bd (a.2[a.1.toNat]?) λz2=>
      .ok (.inl ((IntKind.i64.wrap (a.1+1)),(a.2.set a.1.toNat (ah.mk z2.ae 0 z2.bW z2.cP)))))<|
    .ok (.inl ((IntKind.i64.wrap (a.1+1)),a.2)))<|
 .ok (.inr ((decide (a.1<(↑p4.length:Int))),a.1,a.2))
noncomputable def PQ (sh:Sh) (U:List Int) (p1:List ah) (p2 p3:Int) (p4:List ah) (p5:Int) (p6:List ah):Option ((Bool×Int×List ah)):=cA sh (Qu sh U p1 p2 p3 p4) 1000000 (p5,p6)
noncomputable def acd {R:Type} (k:AX->AS SS->Option R) (U:List Int) (p1:List ah) (p2 p3:Int) (p4:List ah) (x:(Bool×Int×List ah)):Option R:=(λv=>k (.exit 0) (agd U p1 p2 p3 p4 v.1 v.2.1 v.2.2)) x
noncomputable def VB:bo SS:=nT (λst=>gc (ax 127 2) (jq [4] (st)))<|bJ 2 (λst=>((dU st 5 127).bind λ_=>jB st 52 8).bind λ_=>(fN (aZ st 0 0)).bind λU=>(db st 1 69).bind λp1=>(bE (aZ st 2 0)).bind λp2=>(bE (aZ st 3 0)).bind λp3=>(db st 4 69).bind λp4=>(bE (aS st 10 0)).bind λp5=>(db st 4 69).bind λp6=>some (U,p1,p2,p3,p4,p5,p6)) (λp=>Cw p.1 p.2.1 p.2.2.1 p.2.2.2.1 p.2.2.2.2.1 p.2.2.2.2.2.1 p.2.2.2.2.2.2) (λp=>PQ shut p.1 p.2.1 p.2.2.1 p.2.2.2.1 p.2.2.2.2.1 p.2.2.2.2.2.1 p.2.2.2.2.2.2) (λk p=>acd k p.1 p.2.1 p.2.2.1 p.2.2.2.1 p.2.2.2.2.1)
noncomputable def aaC:az SS:= { (mV shut) with T:=bl ((mV shut).T) 221 ⟨⟨Tryz.f221,ax 221⟩,[K3]⟩ }
theorem aaD:aF aaC Tryz.prog:=(aF.bK (ab.all uf rfl) Tryz.func221 rfl bg λc hc=>by cases hc;exact au.cons (au.nil) (by kernel_rfl) Xu)
theorem amc:aC KK Tryz.prog ⟨Tryz.f127,ax 127⟩ (bI (aU Tryz.f127) 2) VB:=aC.pre (c7.comp (c7.gc (ax 127 2)) (c7.jq [4]))<|
 aC.cA (π:=List Int×List ah×Int×Int×List ah×Int×List ah) (σ:=Int×List ah) aaD (au.nil) rfl 60 (λp a=>Cw p.1 p.2.1 p.2.2.1 p.2.2.2.1 p.2.2.2.2.1 a.1 a.2) (λp=>(p.2.2.2.2.2.1,p.2.2.2.2.2.2)) (St:=λp=>Qu shut p.1 p.2.1 p.2.2.1 p.2.2.2.1 p.2.2.2.2.1) (λp=>1000000) (λp=>rfl)
  (λm p a k=>by kernel_rfl)
noncomputable def NG:az SS:= { (mV shut) with T:=bl (bl ((mV shut).T) 127 ⟨⟨Tryz.f127,ax 127⟩,[vk (λst=>(dU st 4 127).bind λ_=>jB st 18 4) KZ (VB)]⟩) 221 ⟨⟨Tryz.f221,ax 221⟩,[K3]⟩ }
theorem aaE:aF NG Tryz.prog:=(aF.bK (aF.bK (ab.all uf rfl) Tryz.func127 rfl bg λc hc=>by cases hc;exact au.cons (au.nil) (by kernel_rfl) (aC.alt Xr amc)) Tryz.func221 rfl bg λc hc=>by cases hc;exact au.cons (au.nil) (by kernel_rfl) Xu)
noncomputable def Q6 (sh:Sh) (p:b_) (pid code:Int):T (b_×Int):=
 .bd (qn sh p) λy0=>
  .bf (!y0==0) (
   .ok (⟨[0,0,0,0,0,0,0,0,0,0,0,0,0,0,0,0],[]⟩,320))<|
  .bd (app 32 [] p.ao) λz1=>
   .gd (Yu p.aR z1 pid)<|
    .bd (PO sh p.aR z1 pid) λx5=> .cs x5 (λy2=>
     .bd (z1[y2]?) λz3=>
      .bf (!!z3.bW) (
       .ok (⟨[0,0,0,0,0,0,0,0,0,0,0,0,0,0,0,0],[]⟩,321))<|
      .bf (!pid !=1) (
       .ok (⟨[0,0,0,0,0,0,0,0,0,0,0,0,0,0,0,0],[]⟩,323))<|
      .bd (z1[y2]?) λz4=>
       .bd ((z1.set y2 (ah.mk z4.ae z4.bn true z4.cP))[y2]?) λz5=>
        .bd (((z1.set y2 (ah.mk z4.ae z4.bn true z4.cP)).set y2 (ah.mk z5.ae z5.bn z5.bW code))[y2]?) λz6=>
         .gd (CF ((z1.set y2 (ah.mk z4.ae z4.bn true z4.cP)).set y2 (ah.mk z5.ae z5.bn z5.bW code)) pid (z6.bn==0) ((↑((z1.set y2 (ah.mk z4.ae z4.bn true z4.cP)).set y2 (ah.mk z5.ae z5.bn z5.bW code)).length:Int)) 0 [])<|
          .bd (PW sh ((z1.set y2 (ah.mk z4.ae z4.bn true z4.cP)).set y2 (ah.mk z5.ae z5.bn z5.bW code)) pid (z6.bn==0) ((↑((z1.set y2 (ah.mk z4.ae z4.bn true z4.cP)).set y2 (ah.mk z5.ae z5.bn z5.bW code)).length:Int)) 0 []) λy7=>
           .gd (Cw p.aR ((z1.set y2 (ah.mk z4.ae z4.bn true z4.cP)).set y2 (ah.mk z5.ae z5.bn z5.bW code)) pid code y7.2.2 0 y7.2.2)<|
            .bd (PQ sh p.aR ((z1.set y2 (ah.mk z4.ae z4.bn true z4.cP)).set y2 (ah.mk z5.ae z5.bn z5.bW code)) pid code y7.2.2 0 y7.2.2) λy8=>
             .ok (⟨p.aR,y8.2.2⟩,0)) λy2=>
     .ok (⟨[0,0,0,0,0,0,0,0,0,0,0,0,0,0,0,0],[]⟩,321)
noncomputable def HR (sh:Sh) (p:b_) (pid code:Int):Option (b_×Int):=sh.s _ (Q6 sh p pid code).val
theorem aoy {R:Type} (p:b_) (pid code:Int) (k:Rs SS->Option R):bu NG 100 179 [KK.aa 25 p,KK.aa 28 pid,KK.aa 28 code] [] (bD KK [25,40] k)=(Q6 shut p pid code).run (λr=>k (.ret (.aY [KK.aa 25 r.1,KK.aa 40 r.2]))):=by kernel_rfl
noncomputable def aei (sh:Sh):bq SS:=bw KK 179 [25,28,28] (λ{R} xs k=>match xs with| .cons p (.cons pid (.cons code .nil))=>(HR sh p pid code).bind (λr=>k (.ret (.aY [KK.aa 25 r.1,KK.aa 40 r.2]))))
noncomputable def pR (sh:Sh):az SS:= { (mV sh) with C:=aei sh::(mV sh).C }
theorem Fm:ab (pR shut) Tryz.prog:=ab.bB uf λxs k z _ hz=>bG aaE (λ{R} xs k z h=>by
 match xs,h with
 | .cons p (.cons pid (.cons code .nil)),h=>exact⟨100,(aoy p pid code k).trans (bH h)⟩) hz
noncomputable def IS (U:List Int) (p1:List ah) (p2 p3:Int):AS SS:=⟨[(0,(vs .dF)),(1,(va 5 0)),(9,(vi (↑p1.length:Int))),(10,(vi p3))],[(bX 142 [(.bR .i64 16 U),(.own 1)]),(rX 69 p1),(bX 28 [(lu p2)]),(bX 143 [(.v (.pointer none))]),(some (.bM 127 [] [(.one (.br 5 0))])),(bX 140 [(.br 0 0)])],6,(some ⟨⟨Tryz.f89,ax 89⟩,[9,10],(gk (aU Tryz.f89) 4),(gl (aU Tryz.f89) 4),[(3,(va 2 0)),(4,(va 3 0)),(8,(vc 4))],none⟩),false,[],[]⟩
noncomputable def Mo (U:List Int) (p1:List ah) (p2:Int):AS SS:=IS U p1 p2 0
noncomputable def age (U:List Int) (p1:List ah) (p2:Int) (a0:Nat):AS SS:=⟨[],[(bX 142 [(.bR .i64 16 U),(.own 1)]),(rX 69 p1),(bX 28 [(lu p2)]),(bX 143 [(.f_ 69 1 a0 0)]),(some (.bM 127 [] [(.one (.br 5 0))])),(bX 140 [(.br 0 0)])],6,(some ⟨⟨Tryz.f89,ax 89⟩,[9,10],(gk (aU Tryz.f89) 4),(gl (aU Tryz.f89) 4),[(3,(va 2 0)),(4,(va 3 0)),(8,(vc 4))],(some .ret)⟩),false,[],[3]⟩
noncomputable def agf (U:List Int) (p1:List ah) (p2:Int) (a0:Bool) (a1:Int):AS SS:= { IS U p1 p2 p2 with env:=[(11,(vb a0)),(0,(vs .dF)),(1,(va 5 0)),(9,(vi (↑p1.length:Int))),(10,(vi a1))] }
noncomputable def Qv (sh:Sh) (U:List Int) (p1:List ah) (p2 p3:Int) (z0:ah) (a:Unit):T (Unit ⊕ Nat ⊕ (Bool×Int)):=
 .bd (p1[p3.toNat]?) λz1=>
  .bf (z1.ae==p2) (
   .ok (.inr (.inl p3.toNat)))<|
  .ok (.inl ())
noncomputable def OE (sh:Sh) (U:List Int) (p1:List ah) (p2 p3:Int) (a:Unit):T (Nat ⊕ (Bool×Int)):=
 .ok (.inr ((decide (p3<(↑p1.length:Int))),p3))
noncomputable def Ga (sh:Sh) (U:List Int) (p1:List ah) (p2:Int):Option (Nat ⊕ (Bool×Int)):=cg sh (Qv sh U p1 p2) (OE sh U p1 p2) p1 ()
noncomputable def ace {R:Type} (k:AX->AS SS->Option R) (U:List Int) (p1:List ah) (p2:Int) (x:Nat ⊕ (Bool×Int)):Option R:=(λx=>Sum.rec (λv=>k .ret (age U p1 p2 v)) (λv=>k (.exit 0) (agf U p1 p2 v.1 v.2)) x) x
noncomputable def K0:bo SS:=bJ 2 (λst=>((dU st 4 127).bind λ_=>jB st 18 4).bind λ_=>(fN (aZ st 0 0)).bind λU=>(db st 1 69).bind λp1=>(bE (aZ st 2 0)).bind λp2=>some (U,p1,p2)) (λp=>Mo p.1 p.2.1 p.2.2) (λp=>Ga shut p.1 p.2.1 p.2.2) (λk p=>ace k p.1 p.2.1 p.2.2)
theorem amd:aC KK Tryz.prog ⟨Tryz.f127,ax 127⟩ (bI (aU Tryz.f127) 2) K0:=
 aC.ck (π:=List Int×List ah×Int) (σ:=Unit) (ab.all Fm rfl) (au.nil) rfl 60 (λp i a=>IS p.1 p.2.1 p.2.2 i) (λp=>p.2.1) (λp=>()) (St:=λp=>Qv shut p.1 p.2.1 p.2.2) (F:=λp=>OE shut p.1 p.2.1 p.2.2) (λp=>rfl)
  (λm p i a k=>by kernel_rfl) (by rintro p (x|x)<;>exact⟨_,_,λ_=>rfl⟩) (λp N C A O w a hr=>qV (j:=1) hr rfl)
noncomputable def IY (U:List ah) (p1 p2:Int) (p3:List ah):AS SS:=⟨[(1,(vc 1)),(5,(vo 3)),(8,(vo 0)),(9,(vi (↑U.length:Int))),(10,(vi p2))],[(rX 69 U),(some (.bM 224 [] [(.one (.br 2 0))])),(bX 28 [(lu p1)]),(rX 69 p3)],3,none,false,[],[]⟩
noncomputable def YA (U:List ah) (p1:Int) (p3:List ah):AS SS:=IY U p1 0 p3
noncomputable def agJ (U:List ah) (p1:Int) (a0:Bool) (a1:Int) (a2:List ah):AS SS:= { IY U p1 p1 a2 with env:=[(11,(vb a0)),(1,(vc 1)),(5,(vo 3)),(8,(vo 0)),(9,(vi (↑U.length:Int))),(10,(vi a1))] }
noncomputable def QC (sh:Sh) (U:List ah) (p1 p2:Int) (z0:ah) (a:List ah):T (List ah ⊕ (Bool×Int×List ah)):=
 .bd (U[p2.toNat]?) λz1=>
  .bf (z1.ae !=p1) (
   .bd (app 32 a [z1]) λz2=>
    .ok (.inl z2))<|
  .ok (.inl a)
noncomputable def OI (sh:Sh) (U:List ah) (p1 p2:Int) (a:List ah):T ((Bool×Int×List ah)):=
 .ok ((decide (p2<(↑U.length:Int))),p2,a)
noncomputable def PX (sh:Sh) (U:List ah) (p1:Int) (p3:List ah):Option ((Bool×Int×List ah)):=cg sh (QC sh U p1) (OI sh U p1) U p3
noncomputable def acx {R:Type} (k:AX->AS SS->Option R) (U:List ah) (p1:Int) (x:(Bool×Int×List ah)):Option R:=(λv=>k (.exit 0) (agJ U p1 v.1 v.2.1 v.2.2)) x
noncomputable def VP:bo SS:=bJ 4 (λst=>(dU st 1 224).bind λ_=>(db st 0 69).bind λU=>(bE (aZ st 2 0)).bind λp1=>(db st 3 69).bind λp3=>some (U,p1,p3)) (λp=>YA p.1 p.2.1 p.2.2) (λp=>PX shut p.1 p.2.1 p.2.2) (λk p=>acx k p.1 p.2.1)
noncomputable def aaF:az SS:= { (pR shut) with T:=bl ((pR shut).T) 127 ⟨⟨Tryz.f127,ax 127⟩,[K0]⟩ }
theorem NH:aF aaF Tryz.prog:=(aF.bK (ab.all Fm rfl) Tryz.func127 rfl bg λc hc=>by cases hc;exact au.cons (au.nil) (by kernel_rfl) amd)
theorem amr:aC KK Tryz.prog ⟨Tryz.f221,ax 221⟩ (bI (aU Tryz.f221) 4) VP:=
 aC.ck (π:=List ah×Int×List ah) (σ:=List ah) NH (au.nil) rfl 60 (λp i a=>IY p.1 p.2.1 i a) (λp=>p.1) (λp=>p.2.2) (St:=λp=>QC shut p.1 p.2.1) (F:=λp=>OI shut p.1 p.2.1) (λp=>rfl)
  (λm p i a k=>by kernel_rfl) (λp x=>⟨_,_,λ_=>rfl⟩) (λp N C A O w a hr=>qV (j:=0) hr rfl)
noncomputable def NI:az SS:= { (pR shut) with T:=bl (bl ((pR shut).T) 127 ⟨⟨Tryz.f127,ax 127⟩,[K0]⟩) 221 ⟨⟨Tryz.f221,ax 221⟩,[VP]⟩ }
theorem aaG:aF NI Tryz.prog:=(aF.bK NH Tryz.func221 rfl bg λc hc=>by cases hc;exact au.cons (au.nil) (by kernel_rfl) amr)
noncomputable def Q7 (sh:Sh) (p:b_) (pid child:Int):T (b_×Int×Int):=
 .bd (qn sh p) λy0=>
  .bf (!y0==0) (
   .ok (⟨[0,0,0,0,0,0,0,0,0,0,0,0,0,0,0,0],[]⟩,0,320))<|
  .bd (app 32 [] p.ao) λz1=>
   .gd (Mo p.aR z1 pid)<|
    .bd (Ga sh p.aR z1 pid) λx5=> .cs x5 (λy2=>
     .bd (z1[y2]?) λz3=>
      .bf (!!z3.bW) (
       .ok (⟨[0,0,0,0,0,0,0,0,0,0,0,0,0,0,0,0],[]⟩,0,321))<|
      .gd (Mo p.aR z1 child)<|
       .bd (Ga sh p.aR z1 child) λx8=> .cs x8 (λy4=>
        .bd (z1[y4]?) λz5=>
         .bf (!z5.bn==pid) (
          .ok (⟨[0,0,0,0,0,0,0,0,0,0,0,0,0,0,0,0],[]⟩,0,324))<|
         .bd (z1[y4]?) λz6=>
          .bf (!z6.bW) (
           .ok (⟨[0,0,0,0,0,0,0,0,0,0,0,0,0,0,0,0],[]⟩,0,322))<|
          .bd (z1[y4]?) λz7=>
           .gd (YA z1 child [])<|
            .bd (PX sh z1 child []) λy8=>
             .ok (⟨p.aR,y8.2.2⟩,z7.cP,0)) λy4=>
        .ok (⟨[0,0,0,0,0,0,0,0,0,0,0,0,0,0,0,0],[]⟩,0,324)) λy2=>
     .ok (⟨[0,0,0,0,0,0,0,0,0,0,0,0,0,0,0,0],[]⟩,0,321)
noncomputable def HS (sh:Sh) (p:b_) (pid child:Int):Option (b_×Int×Int):=sh.s _ (Q7 sh p pid child).val
theorem aoz {R:Type} (p:b_) (pid child:Int) (k:Rs SS->Option R):bu NI 100 181 [KK.aa 25 p,KK.aa 28 pid,KK.aa 28 child] [] (bD KK [25,28,40] k)=(Q7 shut p pid child).run (λr=>k (.ret (.aY [KK.aa 25 r.1,KK.aa 28 r.2.1,KK.aa 40 r.2.2]))):=by kernel_rfl
noncomputable def aej (sh:Sh):bq SS:=bw KK 181 [25,28,28] (λ{R} xs k=>match xs with| .cons p (.cons pid (.cons child .nil))=>(HS sh p pid child).bind (λr=>k (.ret (.aY [KK.aa 25 r.1,KK.aa 28 r.2.1,KK.aa 40 r.2.2]))))
noncomputable def ug (sh:Sh):az SS:= { (pR sh) with C:=aej sh::(pR sh).C }
theorem Fp:ab (ug shut) Tryz.prog:=ab.bB Fm λxs k z _ hz=>bG aaG (λ{R} xs k z h=>by
 match xs,h with
 | .cons p (.cons pid (.cons child .nil)),h=>exact⟨100,(aoz p pid child k).trans (bH h)⟩) hz
noncomputable def Ji (U:List aj) (p1 p2:Int) (p3:List aj):AS SS:=⟨[(1,(vc 0)),(5,(vo 2)),(8,(vd 26 U)),(9,(vi (↑U.length:Int))),(10,(vi p2))],[(some (.bM 74 [] [(.one (.br 1 0))])),(bX 28 [(lu p1)]),(rX 89 p3)],2,none,false,[],[]⟩
noncomputable def Y4 (U:List aj) (p1:Int) (p3:List aj):AS SS:=Ji U p1 0 p3
noncomputable def ahO (U:List aj) (p1:Int) (a0:Bool) (a1:Int) (a2:List aj):AS SS:= { Ji U p1 p1 a2 with env:=[(11,(vb a0)),(1,(vc 0)),(5,(vo 2)),(8,(vd 26 U)),(9,(vi (↑U.length:Int))),(10,(vi a1))] }
noncomputable def QV (sh:Sh) (U:List aj) (p1 p2:Int) (z0:aj) (a:List aj):T (List aj ⊕ (Bool×Int×List aj)):=
 .bf (z0.ae !=p1) (
  .bd (app 24 a [z0]) λz1=>
   .ok (.inl z1))<|
 .ok (.inl a)
noncomputable def OT (sh:Sh) (U:List aj) (p1 p2:Int) (a:List aj):T ((Bool×Int×List aj)):=
 .ok ((decide (p2<(↑U.length:Int))),p2,a)
noncomputable def Qh (sh:Sh) (U:List aj) (p1:Int) (p3:List aj):Option ((Bool×Int×List aj)):=cg sh (QV sh U p1) (OT sh U p1) U p3
noncomputable def ac' {R:Type} (k:AX->AS SS->Option R) (U:List aj) (p1:Int) (x:(Bool×Int×List aj)):Option R:=(λv=>k (.exit 0) (ahO U p1 v.1 v.2.1 v.2.2)) x
noncomputable def Wi:bo SS:=bJ 4 (λst=>(dU st 0 74).bind λ_=>(bb 26 (aS st 8 0)).bind λU=>(bE (aZ st 1 0)).bind λp1=>(db st 2 89).bind λp3=>some (U,p1,p3)) (λp=>Y4 p.1 p.2.1 p.2.2) (λp=>Qh shut p.1 p.2.1 p.2.2) (λk p=>ac' k p.1 p.2.1)
theorem am3:aC KK Tryz.prog ⟨Tryz.f73,ax 73⟩ (bI (aU Tryz.f73) 4) Wi:=
 aC.ck (π:=List aj×Int×List aj) (σ:=List aj) (ab.all Fp rfl) (au.nil) rfl 60 (λp i a=>Ji p.1 p.2.1 i a) (λp=>p.1) (λp=>p.2.2) (St:=λp=>QV shut p.1 p.2.1) (F:=λp=>OT shut p.1 p.2.1) (λp=>rfl)
  (λm p i a k=>by kernel_rfl) (λp x=>⟨_,_,λ_=>rfl⟩) (λp N C A O w a hr=>cH hr (t:=26) (sl:=8) rfl λv h=>h)
noncomputable def N7:az SS:= { (ug shut) with T:=bl ((ug shut).T) 73 ⟨⟨Tryz.f73,ax 73⟩,[Wi]⟩ }
theorem aa4:aF N7 Tryz.prog:=(aF.bK (ab.all Fp rfl) Tryz.func73 rfl bg λc hc=>by cases hc;exact au.cons (au.nil) (by kernel_rfl) am3)
noncomputable def Ru (sh:Sh) (l:List aj) (pid:Int):T (List aj×Int):=
 .bd (ng sh l) λy0=>
  .bf (y0 !=0) (
   .ok ([],0))<|
  .gd (Y4 l pid [])<|
   .bd (Qh sh l pid []) λy1=>
    .ok (y1.2.2,(IntKind.i64.wrap ((↑l.length:Int)-(↑y1.2.2.length:Int))))
noncomputable def H5 (sh:Sh) (l:List aj) (pid:Int):Option (List aj×Int):=sh.s _ (Ru sh l pid).val
theorem aoV {R:Type} (l:List aj) (pid:Int) (k:Rs SS->Option R):bu N7 100 29 [KK.aa 26 l,KK.aa 28 pid] [] (bD KK [26,3] k)=(Ru shut l pid).run (λr=>k (.ret (.aY [KK.aa 26 r.1,KK.aa 3 r.2]))):=by kernel_rfl
noncomputable def aeI (sh:Sh):bq SS:=bw KK 29 [26,28] (λ{R} xs k=>match xs with| .cons l (.cons pid .nil)=>(H5 sh l pid).bind (λr=>k (.ret (.aY [KK.aa 26 r.1,KK.aa 3 r.2]))))
noncomputable def ux (sh:Sh):az SS:= { (ug sh) with C:=aeI sh::(ug sh).C }
theorem FH:ab (ux shut) Tryz.prog:=ab.bB Fp λxs k z _ hz=>bG aa4 (λ{R} xs k z h=>by
 match xs,h with
 | .cons l (.cons pid .nil),h=>exact⟨100,(aoV l pid k).trans (bH h)⟩) hz
noncomputable def I1 (U:List aj) (p1 p2 p3:Int):AS SS:=⟨[(0,(vs .dF)),(2,(va 5 0)),(6,(vd 26 U)),(7,(vi (↑U.length:Int))),(8,(vi p3))],[(bX 3 [(li p1)]),(bX 28 [(lu 0)]),(bX 4 [(.v (.bool false))]),(some (.bM 257 [] [(.one (.br 4 0)),(.one (.br 5 0))])),(bX 26 [(.aP 26 U)]),(bX 28 [(lu p2)])],6,(some ⟨⟨Tryz.f232,ax 232⟩,[15],(gk (aU Tryz.f232) 6),(gl (aU Tryz.f232) 6),[(5,(va 0 0)),(6,(va 1 0)),(7,(va 2 0)),(14,(vc 3))],none⟩),false,[],[]⟩
noncomputable def YF (U:List aj) (p1 p2:Int):AS SS:=I1 U p1 p2 0
noncomputable def agU (U:List aj) (p1 p2 a0:Int):AS SS:=⟨[],[(bX 3 [(li p1)]),(bX 28 [(lu a0)]),(bX 4 [(.v (.bool true))]),(some (.bM 257 [] [(.one (.br 4 0)),(.one (.br 5 0))])),(bX 26 [(.aP 26 U)]),(bX 28 [(lu p2)])],6,(some ⟨⟨Tryz.f232,ax 232⟩,[15],(gk (aU Tryz.f232) 6),(gl (aU Tryz.f232) 6),[(5,(va 0 0)),(6,(va 1 0)),(7,(va 2 0)),(14,(vc 3))],(some .ret)⟩),false,[],[1,2]⟩
noncomputable def agV (U:List aj) (p1 p2:Int) (a0:Bool) (a1:Int):AS SS:= { I1 U p1 p2 p1 with env:=[(9,(vb a0)),(0,(vs .dF)),(2,(va 5 0)),(6,(vd 26 U)),(7,(vi (↑U.length:Int))),(8,(vi a1))] }
noncomputable def QK (sh:Sh) (U:List aj) (p1 p2 p3:Int) (z0:aj) (a:Unit):T (Unit ⊕ Int ⊕ (Bool×Int)):=
 .bf (z0.ae==p2) (
  .bf (z0.cJ==p1) (
   .ok (.inr (.inl z0.c8)))<|
  .ok (.inl ()))<|
 .ok (.inl ())
noncomputable def ON (sh:Sh) (U:List aj) (p1 p2 p3:Int) (a:Unit):T (Int ⊕ (Bool×Int)):=
 .ok (.inr ((decide (p3<(↑U.length:Int))),p3))
noncomputable def P5 (sh:Sh) (U:List aj) (p1 p2:Int):Option (Int ⊕ (Bool×Int)):=cg sh (QK sh U p1 p2) (ON sh U p1 p2) U ()
noncomputable def acF {R:Type} (k:AX->AS SS->Option R) (U:List aj) (p1 p2:Int) (x:Int ⊕ (Bool×Int)):Option R:=(λx=>Sum.rec (λv=>k .ret (agU U p1 p2 v)) (λv=>k (.exit 0) (agV U p1 p2 v.1 v.2)) x) x
noncomputable def VU:bo SS:=bJ 2 (λst=>((dU st 3 257).bind λ_=>jB st 22 6).bind λ_=>(bb 26 (aS st 6 0)).bind λU=>(bE (aZ st 0 0)).bind λp1=>(bE (aZ st 5 0)).bind λp2=>some (U,p1,p2)) (λp=>YF p.1 p.2.1 p.2.2) (λp=>P5 shut p.1 p.2.1 p.2.2) (λk p=>acF k p.1 p.2.1 p.2.2)
theorem amy:aC KK Tryz.prog ⟨Tryz.f257,ax 257⟩ (bI (aU Tryz.f257) 2) VU:=
 aC.ck (π:=List aj×Int×Int) (σ:=Unit) (ab.all FH rfl) (au.nil) rfl 60 (λp i a=>I1 p.1 p.2.1 p.2.2 i) (λp=>p.1) (λp=>()) (St:=λp=>QK shut p.1 p.2.1 p.2.2) (F:=λp=>ON shut p.1 p.2.1 p.2.2) (λp=>rfl)
  (λm p i a k=>by kernel_rfl) (by rintro p (x|x)<;>exact⟨_,_,λ_=>rfl⟩) (λp N C A O w a hr=>cH hr (t:=26) (sl:=6) rfl λv h=>h)
noncomputable def N3:az SS:= { (ux shut) with T:=bl ((ux shut).T) 257 ⟨⟨Tryz.f257,ax 257⟩,[VU]⟩ }
theorem aa0:aF N3 Tryz.prog:=(aF.bK (ab.all FH rfl) Tryz.func257 rfl bg λc hc=>by cases hc;exact au.cons (au.nil) (by kernel_rfl) amy)
noncomputable def Rn (sh:Sh) (l:List aj) (pid fd:Int):T (Int×Bool):=
 .bd (ng sh l) λy0=>
  .bf (y0 !=0) (
   .ok (0,false))<|
  .gd (YF l fd pid)<|
   .bd (P5 sh l fd pid) λx4=> .cs x4 (λy1=>
    .ok (y1,true)) λy1=>
    .ok (0,false)
noncomputable def qm (sh:Sh) (l:List aj) (pid fd:Int):Option (Int×Bool):=sh.s _ (Rn sh l pid fd).val
theorem aoQ {R:Type} (l:List aj) (pid fd:Int) (k:Rs SS->Option R):bu N3 100 232 [KK.aa 26 l,KK.aa 28 pid,KK.aa 3 fd] [] (bD KK [28,4] k)=(Rn shut l pid fd).run (λr=>k (.ret (.aY [KK.aa 28 r.1,KK.aa 4 r.2]))):=by kernel_rfl
noncomputable def aeD (sh:Sh):bq SS:=bw KK 232 [26,28,3] (λ{R} xs k=>match xs with| .cons l (.cons pid (.cons fd .nil))=>(qm sh l pid fd).bind (λr=>k (.ret (.aY [KK.aa 28 r.1,KK.aa 4 r.2]))))
noncomputable def uq (sh:Sh):az SS:= { (ux sh) with C:=aeD sh::(ux sh).C }
theorem FD:ab (uq shut) Tryz.prog:=ab.bB FH λxs k z _ hz=>bG aa0 (λ{R} xs k z h=>by
 match xs,h with
 | .cons l (.cons pid (.cons fd .nil)),h=>exact⟨100,(aoQ l pid fd k).trans (bH h)⟩) hz
noncomputable def Jh (U:List aj) (p1 p2:Int) (p3:List aj):AS SS:=⟨[(1,(vc 0)),(5,(vo 2)),(8,(vd 26 U)),(9,(vi (↑U.length:Int))),(10,(vi p2))],[(some (.bM 234 [] [(.one (.br 1 0))])),(bX 28 [(lu p1)]),(rX 89 p3)],2,none,false,[],[]⟩
noncomputable def Y3 (U:List aj) (p1:Int) (p3:List aj):AS SS:=Jh U p1 0 p3
noncomputable def ahN (U:List aj) (p1:Int) (a0:Bool) (a1:Int) (a2:List aj):AS SS:= { Jh U p1 p1 a2 with env:=[(11,(vb a0)),(1,(vc 0)),(5,(vo 2)),(8,(vd 26 U)),(9,(vi (↑U.length:Int))),(10,(vi a1))] }
noncomputable def QU (sh:Sh) (U:List aj) (p1 p2:Int) (z0:aj) (a:List aj):T (List aj ⊕ (Bool×Int×List aj)):=
 .bf (z0.c8==p1) (
  .bd (app 24 a [z0]) λz1=>
   .ok (.inl z1))<|
 .ok (.inl a)
noncomputable def OS (sh:Sh) (U:List aj) (p1 p2:Int) (a:List aj):T ((Bool×Int×List aj)):=
 .ok ((decide (p2<(↑U.length:Int))),p2,a)
noncomputable def Qg (sh:Sh) (U:List aj) (p1:Int) (p3:List aj):Option ((Bool×Int×List aj)):=cg sh (QU sh U p1) (OS sh U p1) U p3
noncomputable def ac_ {R:Type} (k:AX->AS SS->Option R) (U:List aj) (p1:Int) (x:(Bool×Int×List aj)):Option R:=(λv=>k (.exit 0) (ahN U p1 v.1 v.2.1 v.2.2)) x
noncomputable def Wh:bo SS:=bJ 4 (λst=>(dU st 0 234).bind λ_=>(bb 26 (aS st 8 0)).bind λU=>(bE (aZ st 1 0)).bind λp1=>(db st 2 89).bind λp3=>some (U,p1,p3)) (λp=>Y3 p.1 p.2.1 p.2.2) (λp=>Qg shut p.1 p.2.1 p.2.2) (λk p=>ac_ k p.1 p.2.1)
theorem am2:aC KK Tryz.prog ⟨Tryz.f73,ax 73⟩ (bI (aU Tryz.f73) 4) Wh:=
 aC.ck (π:=List aj×Int×List aj) (σ:=List aj) (ab.all FD rfl) (au.nil) rfl 60 (λp i a=>Jh p.1 p.2.1 i a) (λp=>p.1) (λp=>p.2.2) (St:=λp=>QU shut p.1 p.2.1) (F:=λp=>OS shut p.1 p.2.1) (λp=>rfl)
  (λm p i a k=>by kernel_rfl) (λp x=>⟨_,_,λ_=>rfl⟩) (λp N C A O w a hr=>cH hr (t:=26) (sl:=8) rfl λv h=>h)
noncomputable def NT:az SS:= { (uq shut) with T:=bl ((uq shut).T) 73 ⟨⟨Tryz.f73,ax 73⟩,[Wh]⟩ }
theorem aaQ:aF NT Tryz.prog:=(aF.bK (ab.all FD rfl) Tryz.func73 rfl bg λc hc=>by cases hc;exact au.cons (au.nil) (by kernel_rfl) am2)
noncomputable def Re (sh:Sh) (l:List aj) (eQ:Int):T (Int):=
 .bd (ng sh l) λy0=>
  .bf (y0 !=0) (
   .ok 0)<|
  .gd (Y3 l eQ [])<|
   .bd (Qg sh l eQ []) λy1=>
    .ok ((↑y1.2.2.length:Int))
noncomputable def HX (sh:Sh) (l:List aj) (eQ:Int):Option (Int):=sh.s _ (Re sh l eQ).val
theorem aoH {R:Type} (l:List aj) (eQ:Int) (k:Rs SS->Option R):bu NT 100 192 [KK.aa 26 l,KK.aa 28 eQ] [] (bD KK [3] k)=(Re shut l eQ).run (λr=>k (.ret (.s (KK.aa 3 r)))):=by kernel_rfl
noncomputable def aer (sh:Sh):bq SS:=bw KK 192 [26,28] (λ{R} xs k=>match xs with| .cons l (.cons eQ .nil)=>(HX sh l eQ).bind (λr=>k (.ret (.s (KK.aa 3 r)))))
noncomputable def mX (sh:Sh):az SS:= { (uq sh) with C:=aer sh::(uq sh).C }
theorem Fv:ab (mX shut) Tryz.prog:=ab.bB FD λxs k z _ hz=>bG aaQ (λ{R} xs k z h=>by
 match xs,h with
 | .cons l (.cons eQ .nil),h=>exact⟨100,(aoH l eQ k).trans (bH h)⟩) hz
noncomputable def I0 (U:List aj) (p1 p2 p3:Int) (p4:List Bool):AS SS:=⟨[(0,(vs .dF)),(2,(va 3 0)),(6,(vd 26 U)),(7,(vi (↑U.length:Int))),(8,(vi p3))],[(bX 261 [(.dQ 8 p4)]),(some (.bM 257 [] [(.one (.br 2 0)),(.one (.br 3 0))])),(bX 26 [(.aP 26 U)]),(bX 28 [(lu p1)])],4,(some ⟨⟨Tryz.f184,ax 184⟩,[26],(gk (aU Tryz.f184) 9),(gl (aU Tryz.f184) 9),[(0,(vd 26 U)),(1,(vu p1)),(2,(vu p2)),(9,(va 0 0)),(25,(vc 1))],none⟩),false,[],[0]⟩
noncomputable def YE (U:List aj) (p1 p2:Int) (p4:List Bool):AS SS:=I0 U p1 p2 0 p4
noncomputable def agT (U:List aj) (p1 p2:Int) (a0:Bool) (a1:Int) (a2:List Bool):AS SS:= { I0 U p1 p2 p1 a2 with env:=[(9,(vb a0)),(0,(vs .dF)),(2,(va 3 0)),(6,(vd 26 U)),(7,(vi (↑U.length:Int))),(8,(vi a1))] }
noncomputable def QJ (sh:Sh) (U:List aj) (p1 p2 p3:Int) (z0:aj) (a:List Bool):T (List Bool ⊕ (Bool×Int×List Bool)):=
 .bf (z0.ae==p1) (
  .bd (fk z0.cJ 8) λz1=>
   .bf (a.length.beq 8) (
    .ok (.inl (a.set z1 true)))<|
   .no)<|
 .ok (.inl a)
noncomputable def OM (sh:Sh) (U:List aj) (p1 p2 p3:Int) (a:List Bool):T ((Bool×Int×List Bool)):=
 .ok ((decide (p3<(↑U.length:Int))),p3,a)
noncomputable def P4 (sh:Sh) (U:List aj) (p1 p2:Int) (p4:List Bool):Option ((Bool×Int×List Bool)):=cg sh (QJ sh U p1 p2) (OM sh U p1 p2) U p4
noncomputable def acE {R:Type} (k:AX->AS SS->Option R) (U:List aj) (p1 p2:Int) (x:(Bool×Int×List Bool)):Option R:=(λv=>k (.exit 0) (agT U p1 p2 v.1 v.2.1 v.2.2)) x
noncomputable def DA:bo SS:=nT (λst=>gc (ax 257 2) (jq [0] (oC 0 (st))))<|bJ 2 (λst=>((dU st 1 257).bind λ_=>jB st 61 9).bind λ_=>(bb 26 (aS st 6 0)).bind λU=>(bE (aZ st 3 0)).bind λp1=>(bE (lpL st 2 0)).bind λp2=>(SF (aZ st 0 0)).bind λp4=>some (U,p1,p2,p4)) (λp=>YE p.1 p.2.1 p.2.2.1 p.2.2.2) (λp=>P4 shut p.1 p.2.1 p.2.2.1 p.2.2.2) (λk p=>acE k p.1 p.2.1 p.2.2.1)
theorem amx:aC KK Tryz.prog ⟨Tryz.f257,ax 257⟩ (bI (aU Tryz.f257) 2) DA:=aC.pre (c7.comp (c7.gc (ax 257 2)) (c7.comp (c7.jq [0]) (c7.oC 0)))<|
 aC.ck (π:=List aj×Int×Int×List Bool) (σ:=List Bool) (ab.all Fv rfl) (au.nil) rfl 60 (λp i a=>I0 p.1 p.2.1 p.2.2.1 i a) (λp=>p.1) (λp=>p.2.2.2) (St:=λp=>QJ shut p.1 p.2.1 p.2.2.1) (F:=λp=>OM shut p.1 p.2.1 p.2.2.1) (λp=>rfl)
  (λm p i a k=>by kernel_rfl) (λp x=>⟨_,_,λ_=>rfl⟩) (λp N C A O w a hr=>cH hr (t:=26) (sl:=6) rfl λv h=>h)
noncomputable def wo (U:List Bool) (p1:Int):AS SS:=⟨[(0,(vs (.gV 0 0 8))),(1,(vb false)),(7,(vi 8)),(8,(vi p1))],[(bX 261 [(.dQ 8 U)])],1,none,false,[],[]⟩
noncomputable def agL (U:List Bool) (a0:Int):AS SS:= { wo U a0 with env:=[(4,(vi a0))] }
noncomputable def agM (U:List Bool) (a0:Bool) (a1:Int):AS SS:= { wo U a1 with env:=[(9,(vb a0)),(0,(vs (.gV 0 0 8))),(1,(vb false)),(7,(vi 8)),(8,(vi a1))] }
noncomputable def QE (sh:Sh) (U:List Bool) (a:Int):T (Int ⊕ Int ⊕ (Bool×Int)):=
 .bf (decide (a<8)) (
  .bd (fk a 8) λz0=>
   .bf (false==pz U z0) (
    .ok (.inr (.inl a)))<|
   .ok (.inl (IntKind.i64.wrap (a+1))))<|
 .ok (.inr (.inr ((decide (a<8)),a)))
noncomputable def PZ (sh:Sh) (U:List Bool) (p1:Int):Option (Int ⊕ (Bool×Int)):=cA sh (QE sh U) 1000000 p1
noncomputable def acz {R:Type} (k:AX->AS SS->Option R) (U:List Bool) (x:Int ⊕ (Bool×Int)):Option R:=(λx=>Sum.rec (λv=>k .ret (agL U v)) (λv=>k (.exit 0) (agM U v.1 v.2)) x) x
noncomputable def K4:bo SS:=bJ 3 (λst=>(SF (aZ st 0 0)).bind λU=>(bE (aS st 8 0)).bind λp1=>some (U,p1)) (λp=>wo p.1 p.2) (λp=>PZ shut p.1 p.2) (λk p=>acz k p.1)
noncomputable def aaJ:az SS:= { (mX shut) with T:=bl ((mX shut).T) 257 ⟨⟨Tryz.f257,ax 257⟩,[DA]⟩ }
theorem NL:aF aaJ Tryz.prog:=(aF.bK (ab.all Fv rfl) Tryz.func257 rfl bg λc hc=>by cases hc;exact au.cons (au.nil) (by kernel_rfl) amx)
theorem amt:aC KK Tryz.prog ⟨Tryz.f229,ax 229⟩ (bI (aU Tryz.f229) 3) K4:=
 aC.cA (π:=List Bool×Int) (σ:=Int) NL (au.nil) rfl 60 (λp a=>wo p.1 a) (λp=>p.2) (St:=λp=>QE shut p.1) (λp=>1000000) (λp=>rfl)
  (λm p a k=>by kernel_rfl)
noncomputable def CH (U:List aj) (p1 p2 p3 p4 p5 p6:Int):AS SS:=⟨[(0,(vo 0)),(2,(vs (.v (.func (.func 95) (.mk []) (.mk []))))),(4,(va 1 0)),(8,(vi p4)),(9,(vi p6)),(10,(vi p5))],[(rX 89 U),(bX 89 [(lu p1),(li p2),(lu p3)])],1,none,false,[],[]⟩
noncomputable def agN (U:List aj) (p1 p2 p3 p4:Int) (a0:Bool) (a1 a2:Int):AS SS:= { CH U p1 p2 p3 p4 p1 p1 with env:=[(17,(vb a0)),(16,(vi a1)),(15,(vi a2)),(0,(vo 0)),(2,(vs (.v (.func (.func 95) (.mk []) (.mk []))))),(4,(va 1 0)),(8,(vi p4)),(9,(vi a2)),(10,(vi a1))] }
noncomputable def QF (sh:Sh) (U:List aj) (p1 p2 p3 p4:Int) (a:Int×Int):T ((Int×Int) ⊕ (Bool×Int×Int)):=
 .bf (decide (a.1<a.2)) (
  .bd (idx U (IntKind.i64.wrap ((IntKind.u64.wrap (IntKind.i64.wrap (a.1+a.2))).fdiv 2))) λz0=>
   .bd (U[(IntKind.i64.wrap ((IntKind.u64.wrap (IntKind.i64.wrap (a.1+a.2))).fdiv 2)).toNat]?) λz1=>
    .bd (vH sh z1 (aj.mk p1 p2 p3)) λy2=>
     .bf (decide (y2<0)) (
      .ok (.inl ((IntKind.i64.wrap (IntKind.i64.wrap ((IntKind.u64.wrap (IntKind.i64.wrap (a.1+a.2))).fdiv 2)+1)),a.2)))<|
     .ok (.inl (a.1,(IntKind.i64.wrap ((IntKind.u64.wrap (IntKind.i64.wrap (a.1+a.2))).fdiv 2)))))<|
 .ok (.inr ((decide (a.1<a.2)),a.2,a.1))
noncomputable def P0 (sh:Sh) (U:List aj) (p1 p2 p3 p4 p5 p6:Int):Option ((Bool×Int×Int)):=cA sh (QF sh U p1 p2 p3 p4) 1000000 (p6,p5)
noncomputable def acA {R:Type} (k:AX->AS SS->Option R) (U:List aj) (p1 p2 p3 p4:Int) (x:(Bool×Int×Int)):Option R:=(λv=>k (.exit 0) (agN U p1 p2 p3 p4 v.1 v.2.1 v.2.2)) x
noncomputable def VR:bo SS:=bJ 4 (λst=>(db st 0 89).bind λU=>(bE (aZ st 1 0)).bind λp1=>(bE (aZ st 1 1)).bind λp2=>(bE (aZ st 1 2)).bind λp3=>(bE (aS st 8 0)).bind λp4=>(bE (aS st 10 0)).bind λp5=>(bE (aS st 9 0)).bind λp6=>some (U,p1,p2,p3,p4,p5,p6)) (λp=>CH p.1 p.2.1 p.2.2.1 p.2.2.2.1 p.2.2.2.2.1 p.2.2.2.2.2.1 p.2.2.2.2.2.2) (λp=>P0 shut p.1 p.2.1 p.2.2.1 p.2.2.2.1 p.2.2.2.2.1 p.2.2.2.2.2.1 p.2.2.2.2.2.2) (λk p=>acA k p.1 p.2.1 p.2.2.1 p.2.2.2.1 p.2.2.2.2.1)
noncomputable def aaK:az SS:= { (mX shut) with T:=bl (bl ((mX shut).T) 257 ⟨⟨Tryz.f257,ax 257⟩,[DA]⟩) 229 ⟨⟨Tryz.f229,ax 229⟩,[K4]⟩ }
theorem NM:aF aaK Tryz.prog:=(aF.bK NL Tryz.func229 rfl bg λc hc=>by cases hc;exact au.cons (au.nil) (by kernel_rfl) amt)
theorem amu:aC KK Tryz.prog ⟨Tryz.f230,ax 230⟩ (bI (aU Tryz.f230) 4) VR:=
 aC.cA (π:=List aj×Int×Int×Int×Int×Int×Int) (σ:=Int×Int) NM (au.nil) rfl 60 (λp a=>CH p.1 p.2.1 p.2.2.1 p.2.2.2.1 p.2.2.2.2.1 a.2 a.1) (λp=>(p.2.2.2.2.2.2,p.2.2.2.2.2.1)) (St:=λp=>QF shut p.1 p.2.1 p.2.2.1 p.2.2.2.1 p.2.2.2.2.1) (λp=>1000000) (λp=>rfl)
  (λm p a k=>by kernel_rfl)
noncomputable def NN:az SS:= { (mX shut) with T:=bl (bl (bl ((mX shut).T) 257 ⟨⟨Tryz.f257,ax 257⟩,[DA]⟩) 229 ⟨⟨Tryz.f229,ax 229⟩,[K4]⟩) 230 ⟨⟨Tryz.f230,ax 230⟩,[VR]⟩ }
theorem aaL:aF NN Tryz.prog:=(aF.bK NM Tryz.func230 rfl bg λc hc=>by cases hc;exact au.cons (au.nil) (by kernel_rfl) amu)
noncomputable def Q9 (sh:Sh) (l:List aj) (pid eQ:Int):T (List aj×Int×Int):=
 .bd (ng sh l) λy0=>
  .bf (y0 !=0) (
   .ok ([],0,330))<|
  .bf (decide (pid>=4294967296)) (
   .ok ([],0,2))<|
  .gd (YE l pid eQ [false,false,false,false,false,false,false,false])<|
   .bd (P4 sh l pid eQ [false,false,false,false,false,false,false,false]) λy1=>
    .gd (wo y1.2.2 0)<|
     .bd (PZ sh y1.2.2 0) λx6=> .cs x6 (λy2=>
      .bf (decide (y2<0)) (
       .ok ([],0,6))<|
      .bf ((↑l.length:Int)==64) (
       .ok ([],0,6))<|
      .bd (DE 24 ((↑l.length:Int)) ((↑l.length:Int)) (aj.mk 0 0 0)) λz3=>
       .gd (CH (cU z3 l) pid y2 eQ ((↑(cU z3 l).length:Int)) ((↑(cU z3 l).length:Int)) 0)<|
        .bd (P0 sh (cU z3 l) pid y2 eQ ((↑(cU z3 l).length:Int)) ((↑(cU z3 l).length:Int)) 0) λy4=>
         .bf (decide (y4.2.2<(↑(cU z3 l).length:Int))) (
          .bd (idx (cU z3 l) y4.2.2) λz5=>
           .bd ((cU z3 l)[y4.2.2.toNat]?) λz6=>
            .bd (vH sh z6 (aj.mk pid y2 eQ)) λy7=>
             .bd (xn (cU z3 l) y4.2.2 [aj.mk pid y2 eQ]) λz8=>
              .ok (z8,y2,0))<|
         .bd (xn (cU z3 l) y4.2.2 [aj.mk pid y2 eQ]) λz5=>
          .ok (z5,y2,0)) λy2=>
      .ok ([],0,6)
noncomputable def B2 (sh:Sh) (l:List aj) (pid eQ:Int):Option (List aj×Int×Int):=sh.s _ (Q9 sh l pid eQ).val
theorem aoB {R:Type} (l:List aj) (pid eQ:Int) (k:Rs SS->Option R):bu NN 100 184 [KK.aa 26 l,KK.aa 28 pid,KK.aa 28 eQ] [] (bD KK [26,3,40] k)=(Q9 shut l pid eQ).run (λr=>k (.ret (.aY [KK.aa 26 r.1,KK.aa 3 r.2.1,KK.aa 40 r.2.2]))):=by kernel_rfl
noncomputable def ael (sh:Sh):bq SS:=bw KK 184 [26,28,28] (λ{R} xs k=>match xs with| .cons l (.cons pid (.cons eQ .nil))=>(B2 sh l pid eQ).bind (λr=>k (.ret (.aY [KK.aa 26 r.1,KK.aa 3 r.2.1,KK.aa 40 r.2.2]))))
noncomputable def zh (sh:Sh):az SS:= { (mX sh) with C:=ael sh::(mX sh).C }
theorem Pe:ab (zh shut) Tryz.prog:=ab.bB Fv λxs k z _ hz=>bG aaL (λ{R} xs k z h=>by
 match xs,h with
 | .cons l (.cons pid (.cons eQ .nil)),h=>exact⟨100,(aoB l pid eQ k).trans (bH h)⟩) hz
noncomputable def Ra (sh:Sh) (l:List aj) (pid fd:Int):T (List aj×Int×Int):=
 .bd (ng sh l) λy0=>
  .bf (y0 !=0) (
   .ok ([],0,330))<|
  .bf (decide (pid>=4294967296)) (
   .ok ([],0,2))<|
  .bd (qm sh l pid fd) λy1=>
   .bf (!y1.2) (
    .ok ([],0,4))<|
   .bd (B2 sh l pid y1.1) λy2=>
    .ok (y2.1,y2.2.1,y2.2.2)
noncomputable def HU (sh:Sh) (l:List aj) (pid fd:Int):Option (List aj×Int×Int):=sh.s _ (Ra sh l pid fd).val
theorem aoD {R:Type} (l:List aj) (pid fd:Int) (k:Rs SS->Option R):bu (zh shut) 100 188 [KK.aa 26 l,KK.aa 28 pid,KK.aa 3 fd] [] (bD KK [26,3,40] k)=(Ra shut l pid fd).run (λr=>k (.ret (.aY [KK.aa 26 r.1,KK.aa 3 r.2.1,KK.aa 40 r.2.2]))):=by kernel_rfl
noncomputable def aen (sh:Sh):bq SS:=bw KK 188 [26,28,3] (λ{R} xs k=>match xs with| .cons l (.cons pid (.cons fd .nil))=>(HU sh l pid fd).bind (λr=>k (.ret (.aY [KK.aa 26 r.1,KK.aa 3 r.2.1,KK.aa 40 r.2.2]))))
noncomputable def pS (sh:Sh):az SS:= { (zh sh) with C:=aen sh::(zh sh).C }
theorem Fs:ab (pS shut) Tryz.prog:=ab.bB Pe λxs k z _ hz=>bG (ab.all Pe rfl) (λ{R} xs k z h=>by
 match xs,h with
 | .cons l (.cons pid (.cons fd .nil)),h=>exact⟨100,(aoD l pid fd k).trans (bH h)⟩) hz
noncomputable def Jg (U:List aj) (p1 p2 p3 p4:Int) (p5:List aj):AS SS:=⟨[(1,(vc 1)),(5,(vo 3)),(8,(vo 0)),(9,(vi (↑U.length:Int))),(10,(vi p4))],[(rX 89 U),(some (.bM 233 [] [(.one (.br 2 0))])),(bX 89 [(lu p1),(li p2),(lu p3)]),(rX 89 p5)],3,none,false,[],[]⟩
noncomputable def Y2 (U:List aj) (p1 p2 p3:Int) (p5:List aj):AS SS:=Jg U p1 p2 p3 0 p5
noncomputable def ahM (U:List aj) (p1 p2 p3:Int) (a0:Bool) (a1:Int) (a2:List aj):AS SS:= { Jg U p1 p2 p3 p1 a2 with env:=[(11,(vb a0)),(1,(vc 1)),(5,(vo 3)),(8,(vo 0)),(9,(vi (↑U.length:Int))),(10,(vi a1))] }
noncomputable def QT (sh:Sh) (U:List aj) (p1 p2 p3 p4:Int) (z0:aj) (a:List aj):T (List aj ⊕ (Bool×Int×List aj)):=
 .bd (U[p4.toNat]?) λz1=>
  .bf (!kQ z1 (aj.mk p1 p2 p3)) (
   .bd (app 24 a [z1]) λz2=>
    .ok (.inl z2))<|
  .ok (.inl a)
noncomputable def OR (sh:Sh) (U:List aj) (p1 p2 p3 p4:Int) (a:List aj):T ((Bool×Int×List aj)):=
 .ok ((decide (p4<(↑U.length:Int))),p4,a)
noncomputable def Qf (sh:Sh) (U:List aj) (p1 p2 p3:Int) (p5:List aj):Option ((Bool×Int×List aj)):=cg sh (QT sh U p1 p2 p3) (OR sh U p1 p2 p3) U p5
noncomputable def ac9 {R:Type} (k:AX->AS SS->Option R) (U:List aj) (p1 p2 p3:Int) (x:(Bool×Int×List aj)):Option R:=(λv=>k (.exit 0) (ahM U p1 p2 p3 v.1 v.2.1 v.2.2)) x
noncomputable def K_:bo SS:=bJ 4 (λst=>(dU st 1 233).bind λ_=>(db st 0 89).bind λU=>(bE (aZ st 2 0)).bind λp1=>(bE (aZ st 2 1)).bind λp2=>(bE (aZ st 2 2)).bind λp3=>(db st 3 89).bind λp5=>some (U,p1,p2,p3,p5)) (λp=>Y2 p.1 p.2.1 p.2.2.1 p.2.2.2.1 p.2.2.2.2) (λp=>Qf shut p.1 p.2.1 p.2.2.1 p.2.2.2.1 p.2.2.2.2) (λk p=>ac9 k p.1 p.2.1 p.2.2.1 p.2.2.2.1)
theorem am1:aC KK Tryz.prog ⟨Tryz.f73,ax 73⟩ (bI (aU Tryz.f73) 4) K_:=
 aC.ck (π:=List aj×Int×Int×Int×List aj) (σ:=List aj) (ab.all Fs rfl) (au.nil) rfl 60 (λp i a=>Jg p.1 p.2.1 p.2.2.1 p.2.2.2.1 i a) (λp=>p.1) (λp=>p.2.2.2.2) (St:=λp=>QT shut p.1 p.2.1 p.2.2.1 p.2.2.2.1) (F:=λp=>OR shut p.1 p.2.1 p.2.2.1 p.2.2.2.1) (λp=>rfl)
  (λm p i a k=>by kernel_rfl) (λp x=>⟨_,_,λ_=>rfl⟩) (λp N C A O w a hr=>qV (j:=0) hr rfl)
noncomputable def CB (U:Int) (p1:List Int) (p2:List aj) (p3:Bool) (p4:Int):AS SS:=⟨[(1,(vu U)),(9,(vo 0)),(10,(vb p3)),(23,(vd 147 p1)),(24,(vi (↑p1.length:Int))),(25,(vi p4))],[(rX 89 p2)],0,none,false,[],[]⟩
noncomputable def Yz (U:Int) (p1:List Int) (p2:List aj) (p3:Bool):AS SS:=CB U p1 p2 p3 0
noncomputable def agB (U:Int) (p1:List Int) (a0 a1:Bool) (a2 a3:Int) (a4 a5:Bool) (a6:Int) (a7:List aj):AS SS:= { CB U p1 a7 a0 U with env:=[(38,(vb a0)),(37,(vb a1)),(10,(vb a1)),(36,(vb a1)),(14,(vb a1)),(13,(vu a2)),(35,(vb a1)),(34,(vu a2)),(29,(.aY [(.one (lu a2)),(.one (.v (.bool a1)))])),(33,(.aY [(.one (lu a2)),(.one (.v (.bool a1)))])),(32,(vi a3)),(31,(vu U)),(30,(vo 0)),(12,(vi a3)),(28,(vi a3)),(27,(vs (.ptr 3 a3 0))),(26,(vb a4)),(1,(vu U)),(9,(vo 0)),(10,(vb a5)),(23,(vd 147 p1)),(24,(vi (↑p1.length:Int))),(25,(vi a6))] }
noncomputable def agC (U:Int) (p1:List Int) (a0 a1:Bool) (a2:Int) (a3:List aj):AS SS:= { CB U p1 a3 a0 U with env:=[(26,(vb a0)),(1,(vu U)),(9,(vo 0)),(10,(vb a1)),(23,(vd 147 p1)),(24,(vi (↑p1.length:Int))),(25,(vi a2))] }
noncomputable def Qy (sh:Sh) (U:Int) (p1:List Int) (p4 z0:Int) (a:Bool×List aj):T ((Bool×List aj) ⊕ (Bool×Bool×Int×Int×Bool×Bool×Int×List aj) ⊕ (Bool×Bool×Int×List aj)):=
 .bd (qm sh a.2 U z0) λy1=>
  .bf (!y1.2) (
   .ok (.inr (.inl (!y1.2,y1.2,y1.1,z0,(decide (p4<(↑p1.length:Int))),a.1,p4,a.2))))<|
  .gd (Y2 a.2 U z0 y1.1 [])<|
   .bd (Qf sh a.2 U z0 y1.1 []) λy2=>
    .ok (.inl (y1.2,y2.2.2))
noncomputable def OH (sh:Sh) (U:Int) (p1:List Int) (p4:Int) (a:Bool×List aj):T ((Bool×Bool×Int×Int×Bool×Bool×Int×List aj) ⊕ (Bool×Bool×Int×List aj)):=
 .ok (.inr ((decide (p4<(↑p1.length:Int))),a.1,p4,a.2))
noncomputable def PT (sh:Sh) (U:Int) (p1:List Int) (p2:List aj) (p3:Bool):Option ((Bool×Bool×Int×Int×Bool×Bool×Int×List aj) ⊕ (Bool×Bool×Int×List aj)):=cg sh (Qy sh U p1) (OH sh U p1) p1 (p3,p2)
noncomputable def acr {R:Type} (k:AX->AS SS->Option R) (U:Int) (p1:List Int) (x:(Bool×Bool×Int×Int×Bool×Bool×Int×List aj) ⊕ (Bool×Bool×Int×List aj)):Option R:=(λx=>Sum.rec (λv=>k (.exit 0) (agB U p1 v.1 v.2.1 v.2.2.1 v.2.2.2.1 v.2.2.2.2.1 v.2.2.2.2.2.1 v.2.2.2.2.2.2.1 v.2.2.2.2.2.2.2)) (λv=>k (.exit 0) (agC U p1 v.1 v.2.1 v.2.2.1 v.2.2.2)) x) x
noncomputable def VM:bo SS:=bJ 8 (λst=>(bE (aS st 1 0)).bind λU=>(bb 147 (aS st 23 0)).bind λp1=>(db st 0 89).bind λp2=>(oJ (aS st 10 0)).bind λp3=>some (U,p1,p2,p3)) (λp=>Yz p.1 p.2.1 p.2.2.1 p.2.2.2) (λp=>PT shut p.1 p.2.1 p.2.2.1 p.2.2.2) (λk p=>acr k p.1 p.2.1)
noncomputable def aaM:az SS:= { (pS shut) with T:=bl ((pS shut).T) 73 ⟨⟨Tryz.f73,ax 73⟩,[K_]⟩ }
theorem NO:aF aaM Tryz.prog:=(aF.bK (ab.all Fs rfl) Tryz.func73 rfl bg λc hc=>by cases hc;exact au.cons (au.nil) (by kernel_rfl) am1)
theorem amo:aC KK Tryz.prog ⟨Tryz.f186,ax 186⟩ (bI (aU Tryz.f186) 8) VM:=
 aC.ck (π:=Int×List Int×List aj×Bool) (σ:=Bool×List aj) NO (au.nil) rfl 60 (λp i a=>CB p.1 p.2.1 a.2 a.1 i) (λp=>p.2.1) (λp=>(p.2.2.2,p.2.2.1)) (St:=λp=>Qy shut p.1 p.2.1) (F:=λp=>OH shut p.1 p.2.1) (λp=>rfl)
  (λm p i a k=>by kernel_rfl) (by rintro p (x|x)<;>exact⟨_,_,λ_=>rfl⟩) (λp N C A O w a hr=>cH hr (t:=147) (sl:=23) rfl λv h=>h)
noncomputable def NQ:az SS:= { (pS shut) with T:=bl (bl ((pS shut).T) 73 ⟨⟨Tryz.f73,ax 73⟩,[K_]⟩) 186 ⟨⟨Tryz.f186,ax 186⟩,[VM]⟩ }
theorem aaN:aF NQ Tryz.prog:=(aF.bK NO Tryz.func186 rfl bg λc hc=>by cases hc;exact au.cons (au.nil) (by kernel_rfl) amo)
noncomputable def Q_ (sh:Sh) (l:List aj) (pid:Int) (fds:List Int):T (List aj×Int):=
 .bd (ng sh l) λy0=>
  .bf (y0 !=0) (
   .ok ([],y0))<|
  .bd (app 24 [] l) λz1=>
   .gd (Yz pid fds z1 true)<|
    .bd (PT sh pid fds z1 true) λx5=> .cs x5 (λy2=>
     .bf (!y2.2.1) (
      .ok ([],4))<|
     .ok (y2.2.2.2.2.2.2.2,0)) λy2=>
     .bf (!y2.2.1) (
      .ok ([],4))<|
     .ok (y2.2.2.2,0)
noncomputable def HT (sh:Sh) (l:List aj) (pid:Int) (fds:List Int):Option (List aj×Int):=sh.s _ (Q_ sh l pid fds).val
theorem aoC {R:Type} (l:List aj) (pid:Int) (fds:List Int) (k:Rs SS->Option R):bu NQ 100 186 [KK.aa 26 l,KK.aa 28 pid,KK.aa 147 fds] [] (bD KK [26,40] k)=(Q_ shut l pid fds).run (λr=>k (.ret (.aY [KK.aa 26 r.1,KK.aa 40 r.2]))):=by kernel_rfl
noncomputable def aem (sh:Sh):bq SS:=bw KK 186 [26,28,147] (λ{R} xs k=>match xs with| .cons l (.cons pid (.cons fds .nil))=>(HT sh l pid fds).bind (λr=>k (.ret (.aY [KK.aa 26 r.1,KK.aa 40 r.2]))))
noncomputable def zi (sh:Sh):az SS:= { (pS sh) with C:=aem sh::(pS sh).C }
theorem Pf:ab (zi shut) Tryz.prog:=ab.bB Fs λxs k z _ hz=>bG aaN (λ{R} xs k z h=>by
 match xs,h with
 | .cons l (.cons pid (.cons fds .nil)),h=>exact⟨100,(aoC l pid fds k).trans (bH h)⟩) hz
noncomputable def Rl (sh:Sh) (m:cz) (w:Int):T (Int):=
 .bd (vE sh m) λy0=>
  .bf (y0 !=0) (
   .ok y0)<|
  .bd (vI sh w) λy1=>
   .ok y1
noncomputable def vC (sh:Sh) (m:cz) (w:Int):Option (Int):=sh.s _ (Rl sh m w).val
theorem aoO {R:Type} (m:cz) (w:Int) (k:Rs SS->Option R):bu (zi shut) 100 225 [KK.aa 30 m,KK.aa 28 w] [] (bD KK [40] k)=(Rl shut m w).run (λr=>k (.ret (.s (KK.aa 40 r)))):=by kernel_rfl
noncomputable def aeB (sh:Sh):bq SS:=bw KK 225 [30,28] (λ{R} xs k=>match xs with| .cons m (.cons w .nil)=>(vC sh m w).bind (λr=>k (.ret (.s (KK.aa 40 r)))))
noncomputable def um (sh:Sh):az SS:= { (zi sh) with C:=aeB sh::(zi sh).C }
theorem FB:ab (um shut) Tryz.prog:=ab.bB Pf λxs k z _ hz=>bG (ab.all Pf rfl) (λ{R} xs k z h=>by
 match xs,h with
 | .cons m (.cons w .nil),h=>exact⟨100,(aoO m w k).trans (bH h)⟩) hz
noncomputable def CG (U:List ByteArray) (p1 p2:Int) (p3:List Int):AS SS:=⟨[(4,(va 0 0)),(6,(vo 1)),(7,(vi p2))],[(bX 188 [(.aP 185 U),(lu p1)]),(rX 28 p3)],0,none,false,[],[]⟩
noncomputable def agK (U:List ByteArray) (p1:Int) (a0:Bool) (a1:Int) (a2:List Int):AS SS:= { CG U p1 p1 a2 with env:=[(21,(vb a0)),(20,(vi a1)),(4,(va 0 0)),(6,(vo 1)),(7,(vi a1))] }
noncomputable def QD (sh:Sh) (U:List ByteArray) (p1:Int) (a:Int×List Int):T ((Int×List Int) ⊕ (Bool×Int×List Int)):=
 .bf (decide (a.1>=0)) (
  .bd (gq U none (some a.1) (some a.1)) λz0=>
   .bd (oK sh z0) λy1=>
    .bd (app 8 a.2 [y1.1]) λz2=>
     .ok (.inl ((IntKind.i64.wrap (a.1-1)),z2)))<|
 .ok (.inr ((decide (a.1>=0)),a.1,a.2))
noncomputable def PY (sh:Sh) (U:List ByteArray) (p1 p2:Int) (p3:List Int):Option ((Bool×Int×List Int)):=cA sh (QD sh U p1) 1000000 (p2,p3)
noncomputable def acy {R:Type} (k:AX->AS SS->Option R) (U:List ByteArray) (p1:Int) (x:(Bool×Int×List Int)):Option R:=(λv=>k (.exit 0) (agK U p1 v.1 v.2.1 v.2.2)) x
noncomputable def VQ:bo SS:=bJ 7 (λst=>(bb 185 (aZ st 0 0)).bind λU=>(bE (aZ st 0 1)).bind λp1=>(bE (aS st 7 0)).bind λp2=>(db st 1 28).bind λp3=>some (U,p1,p2,p3)) (λp=>CG p.1 p.2.1 p.2.2.1 p.2.2.2) (λp=>PY shut p.1 p.2.1 p.2.2.1 p.2.2.2) (λk p=>acy k p.1 p.2.1)
theorem ams:aC KK Tryz.prog ⟨Tryz.f226,ax 226⟩ (bI (aU Tryz.f226) 7) VQ:=
 aC.cA (π:=List ByteArray×Int×Int×List Int) (σ:=Int×List Int) (ab.all FB rfl) (au.nil) rfl 60 (λp a=>CG p.1 p.2.1 a.1 a.2) (λp=>(p.2.2.1,p.2.2.2)) (St:=λp=>QD shut p.1 p.2.1) (λp=>1000000) (λp=>rfl)
  (λm p a k=>by kernel_rfl)
noncomputable def N2:az SS:= { (um shut) with T:=bl ((um shut).T) 226 ⟨⟨Tryz.f226,ax 226⟩,[VQ]⟩ }
theorem aaZ:aF N2 Tryz.prog:=(aF.bK (ab.all FB rfl) Tryz.func226 rfl bg λc hc=>by cases hc;exact au.cons (au.nil) (by kernel_rfl) ams)
noncomputable def Rm (sh:Sh) (w:Int):T (List Int×Int):=
 .bd (sq sh w) λy0=>
  .bf (!y0.2) (
   .ok ([],310))<|
  .gd (CG y0.1.jN y0.1.vN (↑y0.1.jN.length:Int) [])<|
   .bd (PY sh y0.1.jN y0.1.vN ((↑y0.1.jN.length:Int)) []) λy1=>
    .ok (y1.2.2,0)
noncomputable def SK (sh:Sh) (w:Int):Option (List Int×Int):=sh.s _ (Rm sh w).val
theorem aoP {R:Type} (w:Int) (k:Rs SS->Option R):bu N2 100 226 [KK.aa 28 w] [] (bD KK [76,40] k)=(Rm shut w).run (λr=>k (.ret (.aY [KK.aa 76 r.1,KK.aa 40 r.2]))):=by kernel_rfl
noncomputable def aeC (sh:Sh):bq SS:=bw KK 226 [28] (λ{R} xs k=>match xs with| .cons w .nil=>(SK sh w).bind (λr=>k (.ret (.aY [KK.aa 76 r.1,KK.aa 40 r.2]))))
noncomputable def uo (sh:Sh):az SS:= { (um sh) with C:=aeC sh::(um sh).C }
theorem FC:ab (uo shut) Tryz.prog:=ab.bB FB λxs k z _ hz=>bG aaZ (λ{R} xs k z h=>by
 match xs,h with
 | .cons w .nil,h=>exact⟨100,(aoP w k).trans (bH h)⟩) hz
noncomputable def CP (U p1:List ByteArray) (p2:Int):AS SS:=⟨[(0,(vd 185 U)),(1,(vd 185 p1)),(12,(vi (↑U.length:Int))),(13,(vi p2))],[],0,none,false,[],[]⟩
noncomputable def YJ (U p1:List ByteArray):AS SS:=CP U p1 0
noncomputable def ag5 (U p1:List ByteArray):AS SS:= { CP U p1 0 with env:=[(4,(vb false))] }
noncomputable def ag6 (U p1:List ByteArray) (a0:Bool) (a1:Int):AS SS:= { CP U p1 a1 with env:=[(14,(vb a0)),(0,(vd 185 U)),(1,(vd 185 p1)),(12,(vi (↑U.length:Int))),(13,(vi a1))] }
noncomputable def QQ (sh:Sh) (U p1:List ByteArray) (p2:Int) (z0:ByteArray) (a:Unit):T (Unit ⊕ Unit ⊕ (Bool×Int)):=
 .bd (idx p1 p2) λz1=>
  .bf (!ByteArray.toList z0==ByteArray.toList z1) (
   .ok (.inr (.inl ())))<|
  .ok (.inl ())
noncomputable def OQ (sh:Sh) (U p1:List ByteArray) (p2:Int) (a:Unit):T (Unit ⊕ (Bool×Int)):=
 .ok (.inr ((decide (p2<(↑U.length:Int))),p2))
noncomputable def P' (sh:Sh) (U p1:List ByteArray):Option (Unit ⊕ (Bool×Int)):=cg sh (QQ sh U p1) (OQ sh U p1) U ()
noncomputable def acM {R:Type} (k:AX->AS SS->Option R) (U p1:List ByteArray) (x:Unit ⊕ (Bool×Int)):Option R:=(λx=>Sum.rec (λv=>k .ret (ag5 U p1)) (λv=>k (.exit 0) (ag6 U p1 v.1 v.2)) x) x
noncomputable def V0:bo SS:=bJ 5 (λst=>(bb 185 (aS st 0 0)).bind λU=>(bb 185 (aS st 1 0)).bind λp1=>some (U,p1)) (λp=>YJ p.1 p.2) (λp=>P' shut p.1 p.2) (λk p=>acM k p.1 p.2)
theorem amF:aC KK Tryz.prog ⟨Tryz.f280,ax 280⟩ (bI (aU Tryz.f280) 5) V0:=
 aC.ck (π:=List ByteArray×List ByteArray) (σ:=Unit) (ab.all FC rfl) (au.nil) rfl 60 (λp i a=>CP p.1 p.2 i) (λp=>p.1) (λp=>()) (St:=λp=>QQ shut p.1 p.2) (F:=λp=>OQ shut p.1 p.2) (λp=>rfl)
  (λm p i a k=>by kernel_rfl) (by rintro p (x|x)<;>exact⟨_,_,λ_=>rfl⟩) (λp N C A O w a hr=>cH hr (t:=185) (sl:=0) rfl λv h=>h)
noncomputable def N5:az SS:= { (uo shut) with T:=bl ((uo shut).T) 280 ⟨⟨Tryz.f280,ax 280⟩,[V0]⟩ }
theorem aa2:aF N5 Tryz.prog:=(aF.bK (ab.all FC rfl) Tryz.func280 rfl bg λc hc=>by cases hc;exact au.cons (au.nil) (by kernel_rfl) amF)
noncomputable def Rq (sh:Sh) (a b:Int):T (Bool):=
 .bd (sq sh a) λy0=>
  .bd (sq sh b) λy1=>
   .bf (y0.2) (
    .bf (y1.2) (
     .bf (decide ((↑y0.1.jN.length:Int)<=(↑y1.1.jN.length:Int))) (
      .bd (gq y1.1.jN none (some (↑y0.1.jN.length:Int)) none) λz2=>
       .bf ((↑y0.1.jN.length:Int) !=(↑z2.length:Int)) (
        .ok false)<|
       .gd (YJ y0.1.jN z2)<|
        .bd (P' sh y0.1.jN z2) λx9=> .cs x9 (λ_=>
         .ok false) λy3=>
         .ok true)<|
     .ok false)<|
    .ok false)<|
   .ok false
noncomputable def SN (sh:Sh) (a b:Int):Option (Bool):=sh.s _ (Rq sh a b).val
theorem aoT {R:Type} (a b:Int) (k:Rs SS->Option R):bu N5 100 261 [KK.aa 28 a,KK.aa 28 b] [] (bD KK [4] k)=(Rq shut a b).run (λr=>k (.ret (.s (KK.aa 4 r)))):=by kernel_rfl
noncomputable def aeG (sh:Sh):bq SS:=bw KK 261 [28,28] (λ{R} xs k=>match xs with| .cons a (.cons b .nil)=>(SN sh a b).bind (λr=>k (.ret (.s (KK.aa 4 r)))))
noncomputable def uv (sh:Sh):az SS:= { (uo sh) with C:=aeG sh::(uo sh).C }
theorem FG:ab (uv shut) Tryz.prog:=ab.bB FC λxs k z _ hz=>bG aa2 (λ{R} xs k z h=>by
 match xs,h with
 | .cons a (.cons b .nil),h=>exact⟨100,(aoT a b k).trans (bH h)⟩) hz
noncomputable def Jk (U:List ar) (p1:Int) (p2:List (Int×Int)):AS SS:=⟨[(3,(vs (.mp 0))),(8,(vd 27 U)),(9,(vi (↑U.length:Int))),(10,(vi p1))],[(some (.map .u64 .u64 p2))],0,none,false,[],[]⟩
noncomputable def Y6 (U:List ar) (p2:List (Int×Int)):AS SS:=Jk U 0 p2
noncomputable def ahT (U:List ar) (a0:Bool) (a1:Int) (a2:List (Int×Int)):AS SS:= { Jk U a1 a2 with env:=[(11,(vb a0)),(3,(vs (.mp 0))),(8,(vd 27 U)),(9,(vi (↑U.length:Int))),(10,(vi a1))] }
noncomputable def QX (sh:Sh) (U:List ar) (p1:Int) (z0:ar) (a:(List (Int×Int))):T (((List (Int×Int))) ⊕ (Bool×Int×(List (Int×Int)))):=
 .ok (.inl (eW a z0.bY z0.bc))
noncomputable def OV (sh:Sh) (U:List ar) (p1:Int) (a:(List (Int×Int))):T ((Bool×Int×(List (Int×Int)))):=
 .ok ((decide (p1<(↑U.length:Int))),p1,a)
noncomputable def Qj (sh:Sh) (U:List ar) (p2:List (Int×Int)):Option ((Bool×Int×(List (Int×Int)))):=cg sh (QX sh U) (OV sh U) U p2
noncomputable def adf {R:Type} (k:AX->AS SS->Option R) (U:List ar) (x:(Bool×Int×(List (Int×Int)))):Option R:=(λv=>k (.exit 0) (ahT U v.1 v.2.1 v.2.2)) x
noncomputable def Wl:bo SS:=bJ 4 (λst=>(bb 27 (aS st 8 0)).bind λU=>(ku st 0).bind λp2=>some (U,p2)) (λp=>Y6 p.1 p.2) (λp=>Qj shut p.1 p.2) (λk p=>adf k p.1)
theorem am7:aC KK Tryz.prog ⟨Tryz.f97,ax 97⟩ (bI (aU Tryz.f97) 4) Wl:=
 aC.ck (π:=List ar×(List (Int×Int))) (σ:=(List (Int×Int))) (ab.all FG rfl) (au.nil) rfl 60 (λp i a=>Jk p.1 i a) (λp=>p.1) (λp=>p.2) (St:=λp=>QX shut p.1) (F:=λp=>OV shut p.1) (λp=>rfl)
  (λm p i a k=>by kernel_rfl) (λp x=>⟨_,_,λ_=>rfl⟩) (λp N C A O w a hr=>cH hr (t:=27) (sl:=8) rfl λv h=>h)
noncomputable def NR:az SS:= { (uv shut) with T:=bl ((uv shut).T) 97 ⟨⟨Tryz.f97,ax 97⟩,[Wl]⟩ }
theorem aaO:aF NR Tryz.prog:=(aF.bK (ab.all FG rfl) Tryz.func97 rfl bg λc hc=>by cases hc;exact au.cons (au.nil) (by kernel_rfl) am7)
noncomputable def Rb (sh:Sh) (m:cz) (w:Int):T (cz×Int×Int):=
 .bd (vC sh m w) λy0=>
  .bf (y0 !=0) (
   .ok (⟨[],0⟩,0,y0))<|
  .gd (Y6 m.ao [])<|
   .bd (Qj sh m.ao []) λy1=>
    .bf (match cj y1.2.2 w with
|some val=>true
|none=>false) (
     .ok (⟨[],0⟩,0,5))<|
    .bf ((↑m.ao.length:Int)==16) (
     .ok (⟨[],0⟩,0,6))<|
    .bf (decide (m.bz>1073741824)) (
     .ok (⟨[],0⟩,0,6))<|
    .bd (DE 16 ((↑m.ao.length:Int)) (IntKind.i64.wrap ((↑m.ao.length:Int)+1)) (ar.mk 0 0)) λz2=>
     .bd (app 16 (cU z2 m.ao) [ar.mk w m.bz]) λz3=>
      .ok (⟨z3,(IntKind.u64.wrap (m.bz+1))⟩,m.bz,0)
noncomputable def HV (sh:Sh) (m:cz) (w:Int):Option (cz×Int×Int):=sh.s _ (Rb sh m w).val
theorem aoE {R:Type} (m:cz) (w:Int) (k:Rs SS->Option R):bu NR 100 189 [KK.aa 30 m,KK.aa 28 w] [] (bD KK [30,28,40] k)=(Rb shut m w).run (λr=>k (.ret (.aY [KK.aa 30 r.1,KK.aa 28 r.2.1,KK.aa 40 r.2.2]))):=by kernel_rfl
noncomputable def aeo (sh:Sh):bq SS:=bw KK 189 [30,28] (λ{R} xs k=>match xs with| .cons m (.cons w .nil)=>(HV sh m w).bind (λr=>k (.ret (.aY [KK.aa 30 r.1,KK.aa 28 r.2.1,KK.aa 40 r.2.2]))))
noncomputable def ui (sh:Sh):az SS:= { (uv sh) with C:=aeo sh::(uv sh).C }
theorem Ft:ab (ui shut) Tryz.prog:=ab.bB FG λxs k z _ hz=>bG aaO (λ{R} xs k z h=>by
 match xs,h with
 | .cons m (.cons w .nil),h=>exact⟨100,(aoE m w k).trans (bH h)⟩) hz
noncomputable def Jl (U:List ar) (p1:Int) (p2:List (Int×Int)):AS SS:=⟨[(3,(vs (.mp 0))),(8,(vd 27 U)),(9,(vi (↑U.length:Int))),(10,(vi p1))],[(some (.map .u64 .u64 p2))],0,none,false,[],[]⟩
noncomputable def Y7 (U:List ar) (p2:List (Int×Int)):AS SS:=Jl U 0 p2
noncomputable def ahU (U:List ar) (a0:Bool) (a1:Int) (a2:List (Int×Int)):AS SS:= { Jl U a1 a2 with env:=[(11,(vb a0)),(3,(vs (.mp 0))),(8,(vd 27 U)),(9,(vi (↑U.length:Int))),(10,(vi a1))] }
noncomputable def QY (sh:Sh) (U:List ar) (p1:Int) (z0:ar) (a:(List (Int×Int))):T (((List (Int×Int))) ⊕ (Bool×Int×(List (Int×Int)))):=
 .ok (.inl (eW a z0.bY z0.bc))
noncomputable def OW (sh:Sh) (U:List ar) (p1:Int) (a:(List (Int×Int))):T ((Bool×Int×(List (Int×Int)))):=
 .ok ((decide (p1<(↑U.length:Int))),p1,a)
noncomputable def Qk (sh:Sh) (U:List ar) (p2:List (Int×Int)):Option ((Bool×Int×(List (Int×Int)))):=cg sh (QY sh U) (OW sh U) U p2
noncomputable def adg {R:Type} (k:AX->AS SS->Option R) (U:List ar) (x:(Bool×Int×(List (Int×Int)))):Option R:=(λv=>k (.exit 0) (ahU U v.1 v.2.1 v.2.2)) x
noncomputable def Wm:bo SS:=bJ 4 (λst=>(bb 27 (aS st 8 0)).bind λU=>(ku st 0).bind λp2=>some (U,p2)) (λp=>Y7 p.1 p.2) (λp=>Qk shut p.1 p.2) (λk p=>adg k p.1)
theorem am8:aC KK Tryz.prog ⟨Tryz.f97,ax 97⟩ (bI (aU Tryz.f97) 4) Wm:=
 aC.ck (π:=List ar×(List (Int×Int))) (σ:=(List (Int×Int))) (ab.all Ft rfl) (au.nil) rfl 60 (λp i a=>Jl p.1 i a) (λp=>p.1) (λp=>p.2) (St:=λp=>QY shut p.1) (F:=λp=>OW shut p.1) (λp=>rfl)
  (λm p i a k=>by kernel_rfl) (λp x=>⟨_,_,λ_=>rfl⟩) (λp N C A O w a hr=>cH hr (t:=27) (sl:=8) rfl λv h=>h)
noncomputable def NS:az SS:= { (ui shut) with T:=bl ((ui shut).T) 97 ⟨⟨Tryz.f97,ax 97⟩,[Wm]⟩ }
theorem aaP:aF NS Tryz.prog:=(aF.bK (ab.all Ft rfl) Tryz.func97 rfl bg λc hc=>by cases hc;exact au.cons (au.nil) (by kernel_rfl) am8)
noncomputable def Rd (sh:Sh) (m:cz) (w:Int):T (Int×Int):=
 .bd (vC sh m w) λy0=>
  .bf (y0 !=0) (
   .ok (0,y0))<|
  .gd (Y7 m.ao [])<|
   .bd (Qk sh m.ao []) λy1=>
    .bf (!match cj y1.2.2 w with
 |some val=>true
 |none=>false) (
     .ok (0,4))<|
    .ok ((match cj y1.2.2 w with
|some x=>x
|none=>0),0)
noncomputable def HW (sh:Sh) (m:cz) (w:Int):Option (Int×Int):=sh.s _ (Rd sh m w).val
theorem aoG {R:Type} (m:cz) (w:Int) (k:Rs SS->Option R):bu NS 100 191 [KK.aa 30 m,KK.aa 28 w] [] (bD KK [28,40] k)=(Rd shut m w).run (λr=>k (.ret (.aY [KK.aa 28 r.1,KK.aa 40 r.2]))):=by kernel_rfl
noncomputable def aeq (sh:Sh):bq SS:=bw KK 191 [30,28] (λ{R} xs k=>match xs with| .cons m (.cons w .nil)=>(HW sh m w).bind (λr=>k (.ret (.aY [KK.aa 28 r.1,KK.aa 40 r.2]))))
noncomputable def mW (sh:Sh):az SS:= { (ui sh) with C:=aeq sh::(ui sh).C }
theorem Fu:ab (mW shut) Tryz.prog:=ab.bB Ft λxs k z _ hz=>bG aaP (λ{R} xs k z h=>by
 match xs,h with
 | .cons m (.cons w .nil),h=>exact⟨100,(aoG m w k).trans (bH h)⟩) hz
noncomputable def Jm (U:List ar) (p1:Int) (p2:List (Int×Int)):AS SS:=⟨[(3,(vs (.mp 0))),(8,(vd 27 U)),(9,(vi (↑U.length:Int))),(10,(vi p1))],[(some (.map .u64 .u64 p2))],0,none,false,[],[]⟩
noncomputable def Y8 (U:List ar) (p2:List (Int×Int)):AS SS:=Jm U 0 p2
noncomputable def ahV (U:List ar) (a0:Bool) (a1:Int) (a2:List (Int×Int)):AS SS:= { Jm U a1 a2 with env:=[(11,(vb a0)),(3,(vs (.mp 0))),(8,(vd 27 U)),(9,(vi (↑U.length:Int))),(10,(vi a1))] }
noncomputable def QZ (sh:Sh) (U:List ar) (p1:Int) (z0:ar) (a:(List (Int×Int))):T (((List (Int×Int))) ⊕ (Bool×Int×(List (Int×Int)))):=
 .ok (.inl (eW a z0.bY z0.bc))
noncomputable def OX (sh:Sh) (U:List ar) (p1:Int) (a:(List (Int×Int))):T ((Bool×Int×(List (Int×Int)))):=
 .ok ((decide (p1<(↑U.length:Int))),p1,a)
noncomputable def Ql (sh:Sh) (U:List ar) (p2:List (Int×Int)):Option ((Bool×Int×(List (Int×Int)))):=cg sh (QZ sh U) (OX sh U) U p2
noncomputable def adh {R:Type} (k:AX->AS SS->Option R) (U:List ar) (x:(Bool×Int×(List (Int×Int)))):Option R:=(λv=>k (.exit 0) (ahV U v.1 v.2.1 v.2.2)) x
noncomputable def DC:bo SS:=bJ 4 (λst=>(bb 27 (aS st 8 0)).bind λU=>(ku st 0).bind λp2=>some (U,p2)) (λp=>Y8 p.1 p.2) (λp=>Ql shut p.1 p.2) (λk p=>adh k p.1)
theorem am9:aC KK Tryz.prog ⟨Tryz.f97,ax 97⟩ (bI (aU Tryz.f97) 4) DC:=
 aC.ck (π:=List ar×(List (Int×Int))) (σ:=(List (Int×Int))) (ab.all Fu rfl) (au.nil) rfl 60 (λp i a=>Jm p.1 i a) (λp=>p.1) (λp=>p.2) (St:=λp=>QZ shut p.1) (F:=λp=>OX shut p.1) (λp=>rfl)
  (λm p i a k=>by kernel_rfl) (λp x=>⟨_,_,λ_=>rfl⟩) (λp N C A O w a hr=>cH hr (t:=27) (sl:=8) rfl λv h=>h)
noncomputable def I2 (U:List ar) (p1 p2 p3:Int):AS SS:=⟨[(0,(vs .dF)),(2,(va 6 0)),(7,(vd 27 U)),(8,(vi (↑U.length:Int))),(9,(vi p3))],[(bX 30 [(.aP 27 U),(lu p1)]),(bX 28 [(lu p2)]),(bX 30 [(.v (.slice none 0 0)),(lu 0)]),(bX 40 [(li 0)]),(some (.bM 260 [] [(.one (.br 5 0)),(.one (.br 6 0))])),(bX 30 [(.aP 27 U),(lu p1)]),(bX 28 [(lu p2)])],7,(some ⟨⟨Tryz.f193,ax 193⟩,[29],(gk (aU Tryz.f193) 9),(gl (aU Tryz.f193) 9),[(2,(va 0 0)),(3,(va 1 0)),(4,(va 2 0)),(5,(va 3 0)),(28,(vc 4))],none⟩),false,[],[]⟩
noncomputable def YG (U:List ar) (p1 p2:Int):AS SS:=I2 U p1 p2 0
noncomputable def agW (U:List ar) (p1 p2:Int):AS SS:=⟨[],[(bX 30 [(.aP 27 U),(lu p1)]),(bX 28 [(lu p2)]),(bX 30 [(.v (.slice none 0 0)),(lu 0)]),(bX 40 [(li 341)]),(some (.bM 260 [] [(.one (.br 5 0)),(.one (.br 6 0))])),(bX 30 [(.aP 27 U),(lu p1)]),(bX 28 [(lu p2)])],7,(some ⟨⟨Tryz.f193,ax 193⟩,[29],(gk (aU Tryz.f193) 9),(gl (aU Tryz.f193) 9),[(2,(va 0 0)),(3,(va 1 0)),(4,(va 2 0)),(5,(va 3 0)),(28,(vc 4))],(some .ret)⟩),false,[],[2,3]⟩
noncomputable def agX (U:List ar) (p1 p2:Int) (a0:Bool) (a1:Int):AS SS:= { I2 U p1 p2 p1 with env:=[(10,(vb a0)),(0,(vs .dF)),(2,(va 6 0)),(7,(vd 27 U)),(8,(vi (↑U.length:Int))),(9,(vi a1))] }
noncomputable def QL (sh:Sh) (U:List ar) (p1 p2 p3:Int) (z0:ar) (a:Unit):T (Unit ⊕ Unit ⊕ (Bool×Int)):=
 .bf (z0.bY !=p2) (
  .bd (SN sh p2 z0.bY) λy1=>
   .bf (y1) (
    .ok (.inr (.inl ())))<|
   .ok (.inl ()))<|
 .ok (.inl ())
noncomputable def OO (sh:Sh) (U:List ar) (p1 p2 p3:Int) (a:Unit):T (Unit ⊕ (Bool×Int)):=
 .ok (.inr ((decide (p3<(↑U.length:Int))),p3))
noncomputable def P6 (sh:Sh) (U:List ar) (p1 p2:Int):Option (Unit ⊕ (Bool×Int)):=cg sh (QL sh U p1 p2) (OO sh U p1 p2) U ()
noncomputable def acG {R:Type} (k:AX->AS SS->Option R) (U:List ar) (p1 p2:Int) (x:Unit ⊕ (Bool×Int)):Option R:=(λx=>Sum.rec (λv=>k .ret (agW U p1 p2)) (λv=>k (.exit 0) (agX U p1 p2 v.1 v.2)) x) x
noncomputable def K6:bo SS:=bJ 2 (λst=>((dU st 4 260).bind λ_=>jB st 38 9).bind λ_=>(bb 27 (aS st 7 0)).bind λU=>(bE (aZ st 0 1)).bind λp1=>(bE (aZ st 1 0)).bind λp2=>some (U,p1,p2)) (λp=>YG p.1 p.2.1 p.2.2) (λp=>P6 shut p.1 p.2.1 p.2.2) (λk p=>acG k p.1 p.2.1 p.2.2)
noncomputable def aaR:az SS:= { (mW shut) with T:=bl ((mW shut).T) 97 ⟨⟨Tryz.f97,ax 97⟩,[DC]⟩ }
theorem NU:aF aaR Tryz.prog:=(aF.bK (ab.all Fu rfl) Tryz.func97 rfl bg λc hc=>by cases hc;exact au.cons (au.nil) (by kernel_rfl) am9)
theorem amz:aC KK Tryz.prog ⟨Tryz.f260,ax 260⟩ (bI (aU Tryz.f260) 2) K6:=
 aC.ck (π:=List ar×Int×Int) (σ:=Unit) NU (au.nil) rfl 60 (λp i a=>I2 p.1 p.2.1 p.2.2 i) (λp=>p.1) (λp=>()) (St:=λp=>QL shut p.1 p.2.1 p.2.2) (F:=λp=>OO shut p.1 p.2.1 p.2.2) (λp=>rfl)
  (λm p i a k=>by kernel_rfl) (by rintro p (x|x)<;>exact⟨_,_,λ_=>rfl⟩) (λp N C A O w a hr=>cH hr (t:=27) (sl:=7) rfl λv h=>h)
noncomputable def IZ (U:List ar) (p1 p2:Int) (p3:List ar):AS SS:=⟨[(1,(vc 0)),(5,(vo 2)),(8,(vd 27 U)),(9,(vi (↑U.length:Int))),(10,(vi p2))],[(some (.bM 237 [] [(.one (.br 1 0))])),(bX 28 [(lu p1)]),(rX 71 p3)],2,none,false,[],[]⟩
noncomputable def YB (U:List ar) (p1:Int) (p3:List ar):AS SS:=IZ U p1 0 p3
noncomputable def agO (U:List ar) (p1:Int) (a0:Bool) (a1:Int) (a2:List ar):AS SS:= { IZ U p1 p1 a2 with env:=[(11,(vb a0)),(1,(vc 0)),(5,(vo 2)),(8,(vd 27 U)),(9,(vi (↑U.length:Int))),(10,(vi a1))] }
noncomputable def QG (sh:Sh) (U:List ar) (p1 p2:Int) (z0:ar) (a:List ar):T (List ar ⊕ (Bool×Int×List ar)):=
 .bf (z0.bY !=p1) (
  .bd (app 16 a [z0]) λz1=>
   .ok (.inl z1))<|
 .ok (.inl a)
noncomputable def OJ (sh:Sh) (U:List ar) (p1 p2:Int) (a:List ar):T ((Bool×Int×List ar)):=
 .ok ((decide (p2<(↑U.length:Int))),p2,a)
noncomputable def P1 (sh:Sh) (U:List ar) (p1:Int) (p3:List ar):Option ((Bool×Int×List ar)):=cg sh (QG sh U p1) (OJ sh U p1) U p3
noncomputable def acB {R:Type} (k:AX->AS SS->Option R) (U:List ar) (p1:Int) (x:(Bool×Int×List ar)):Option R:=(λv=>k (.exit 0) (agO U p1 v.1 v.2.1 v.2.2)) x
noncomputable def VS:bo SS:=bJ 4 (λst=>(dU st 0 237).bind λ_=>(bb 27 (aS st 8 0)).bind λU=>(bE (aZ st 1 0)).bind λp1=>(db st 2 71).bind λp3=>some (U,p1,p3)) (λp=>YB p.1 p.2.1 p.2.2) (λp=>P1 shut p.1 p.2.1 p.2.2) (λk p=>acB k p.1 p.2.1)
noncomputable def aaS:az SS:= { (mW shut) with T:=bl (bl ((mW shut).T) 97 ⟨⟨Tryz.f97,ax 97⟩,[DC]⟩) 260 ⟨⟨Tryz.f260,ax 260⟩,[K6]⟩ }
theorem NV:aF aaS Tryz.prog:=(aF.bK NU Tryz.func260 rfl bg λc hc=>by cases hc;exact au.cons (au.nil) (by kernel_rfl) amz)
theorem amv:aC KK Tryz.prog ⟨Tryz.f236,ax 236⟩ (bI (aU Tryz.f236) 4) VS:=
 aC.ck (π:=List ar×Int×List ar) (σ:=List ar) NV (au.nil) rfl 60 (λp i a=>IZ p.1 p.2.1 i a) (λp=>p.1) (λp=>p.2.2) (St:=λp=>QG shut p.1 p.2.1) (F:=λp=>OJ shut p.1 p.2.1) (λp=>rfl)
  (λm p i a k=>by kernel_rfl) (λp x=>⟨_,_,λ_=>rfl⟩) (λp N C A O w a hr=>cH hr (t:=27) (sl:=8) rfl λv h=>h)
noncomputable def NW:az SS:= { (mW shut) with T:=bl (bl (bl ((mW shut).T) 97 ⟨⟨Tryz.f97,ax 97⟩,[DC]⟩) 260 ⟨⟨Tryz.f260,ax 260⟩,[K6]⟩) 236 ⟨⟨Tryz.f236,ax 236⟩,[VS]⟩ }
theorem aaT:aF NW Tryz.prog:=(aF.bK NV Tryz.func236 rfl bg λc hc=>by cases hc;exact au.cons (au.nil) (by kernel_rfl) amv)
noncomputable def Rf (sh:Sh) (m:cz) (w:Int):T (cz×Int):=
 .bd (vC sh m w) λy0=>
  .bf (y0 !=0) (
   .ok (⟨[],0⟩,y0))<|
  .gd (Y8 m.ao [])<|
   .bd (Ql sh m.ao []) λy1=>
    .bf (!match cj y1.2.2 w with
 |some val=>true
 |none=>false) (
     .ok (⟨[],0⟩,4))<|
    .gd (YG m.ao m.bz w)<|
     .bd (P6 sh m.ao m.bz w) λx6=> .cs x6 (λ_=>
      .ok (⟨[],0⟩,341)) λy2=>
      .gd (YB m.ao w [])<|
       .bd (P1 sh m.ao w []) λy3=>
        .ok (⟨y3.2.2,m.bz⟩,0)
noncomputable def HY (sh:Sh) (m:cz) (w:Int):Option (cz×Int):=sh.s _ (Rf sh m w).val
theorem aoI {R:Type} (m:cz) (w:Int) (k:Rs SS->Option R):bu NW 100 193 [KK.aa 30 m,KK.aa 28 w] [] (bD KK [30,40] k)=(Rf shut m w).run (λr=>k (.ret (.aY [KK.aa 30 r.1,KK.aa 40 r.2]))):=by kernel_rfl
noncomputable def aes (sh:Sh):bq SS:=bw KK 193 [30,28] (λ{R} xs k=>match xs with| .cons m (.cons w .nil)=>(HY sh m w).bind (λr=>k (.ret (.aY [KK.aa 30 r.1,KK.aa 40 r.2]))))
noncomputable def pT (sh:Sh):az SS:= { (mW sh) with C:=aes sh::(mW sh).C }
theorem Fw:ab (pT shut) Tryz.prog:=ab.bB Fu λxs k z _ hz=>bG aaT (λ{R} xs k z h=>by
 match xs,h with
 | .cons m (.cons w .nil),h=>exact⟨100,(aoI m w k).trans (bH h)⟩) hz
noncomputable def Jj (U:List ar) (p1:Int) (p2:List (Int×Int)):AS SS:=⟨[(3,(vs (.mp 0))),(8,(vd 27 U)),(9,(vi (↑U.length:Int))),(10,(vi p1))],[(some (.map .u64 .u64 p2))],0,none,false,[],[]⟩
noncomputable def Y5 (U:List ar) (p2:List (Int×Int)):AS SS:=Jj U 0 p2
noncomputable def ahS (U:List ar) (a0:Bool) (a1:Int) (a2:List (Int×Int)):AS SS:= { Jj U a1 a2 with env:=[(11,(vb a0)),(3,(vs (.mp 0))),(8,(vd 27 U)),(9,(vi (↑U.length:Int))),(10,(vi a1))] }
noncomputable def QW (sh:Sh) (U:List ar) (p1:Int) (z0:ar) (a:(List (Int×Int))):T (((List (Int×Int))) ⊕ (Bool×Int×(List (Int×Int)))):=
 .ok (.inl (eW a z0.bY z0.bc))
noncomputable def OU (sh:Sh) (U:List ar) (p1:Int) (a:(List (Int×Int))):T ((Bool×Int×(List (Int×Int)))):=
 .ok ((decide (p1<(↑U.length:Int))),p1,a)
noncomputable def Qi (sh:Sh) (U:List ar) (p2:List (Int×Int)):Option ((Bool×Int×(List (Int×Int)))):=cg sh (QW sh U) (OU sh U) U p2
noncomputable def ade {R:Type} (k:AX->AS SS->Option R) (U:List ar) (x:(Bool×Int×(List (Int×Int)))):Option R:=(λv=>k (.exit 0) (ahS U v.1 v.2.1 v.2.2)) x
noncomputable def La:bo SS:=bJ 4 (λst=>(bb 27 (aS st 8 0)).bind λU=>(ku st 0).bind λp2=>some (U,p2)) (λp=>Y5 p.1 p.2) (λp=>Qi shut p.1 p.2) (λk p=>ade k p.1)
theorem am6:aC KK Tryz.prog ⟨Tryz.f97,ax 97⟩ (bI (aU Tryz.f97) 4) La:=
 aC.ck (π:=List ar×(List (Int×Int))) (σ:=(List (Int×Int))) (ab.all Fw rfl) (au.nil) rfl 60 (λp i a=>Jj p.1 i a) (λp=>p.1) (λp=>p.2) (St:=λp=>QW shut p.1) (F:=λp=>OU shut p.1) (λp=>rfl)
  (λm p i a k=>by kernel_rfl) (λp x=>⟨_,_,λ_=>rfl⟩) (λp N C A O w a hr=>cH hr (t:=27) (sl:=8) rfl λv h=>h)
noncomputable def CA (U:List Int) (p1:List (Int×Int)) (p2 p3:Int):AS SS:=⟨[(10,(vc 0)),(11,(vu p2)),(28,(vd 76 U)),(29,(vi (↑U.length:Int))),(30,(vi p3))],[(some (.bM 227 [] [(.one (.br 1 0))])),(bX 153 [(.mp 2)]),(some (.map .u64 .u64 p1))],0,none,false,[],[]⟩
noncomputable def Yy (U:List Int) (p1:List (Int×Int)) (p2:Int):AS SS:=CA U p1 p2 0
noncomputable def agz (U:List Int) (p1:List (Int×Int)) (a0:Bool) (a1 a2:Int) (a3:Bool) (a4 a5:Int):AS SS:= { CA U p1 a1 a1 with env:=[(38,(vb a0)),(37,(vu a1)),(11,(vu a1)),(36,(vu a1)),(35,(vu a2)),(34,(vc 0)),(13,(vu a2)),(33,(vu a2)),(32,(vs (.ptr 28 a2 0))),(31,(vb a3)),(10,(vc 0)),(11,(vu a4)),(28,(vd 76 U)),(29,(vi (↑U.length:Int))),(30,(vi a5))] }
noncomputable def agA (U:List Int) (p1:List (Int×Int)) (a0:Bool) (a1 a2:Int):AS SS:= { CA U p1 a1 a1 with env:=[(31,(vb a0)),(10,(vc 0)),(11,(vu a1)),(28,(vd 76 U)),(29,(vi (↑U.length:Int))),(30,(vi a2))] }
noncomputable def Qx (sh:Sh) (U:List Int) (p1:List (Int×Int)) (p3 z0 a:Int):T (Int ⊕ (Bool×Int×Int×Bool×Int×Int) ⊕ (Bool×Int×Int)):=
 .bf (decide ((cj p1 z0).getD 0>0)) (
  .ok (.inr (.inl ((decide ((cj p1 z0).getD 0>0)),((cj p1 z0).getD 0),z0,(decide (p3<(↑U.length:Int))),a,p3))))<|
 .ok (.inl ((cj p1 z0).getD 0))
noncomputable def OG (sh:Sh) (U:List Int) (p1:List (Int×Int)) (p3 a:Int):T ((Bool×Int×Int×Bool×Int×Int) ⊕ (Bool×Int×Int)):=
 .ok (.inr ((decide (p3<(↑U.length:Int))),a,p3))
noncomputable def PS (sh:Sh) (U:List Int) (p1:List (Int×Int)) (p2:Int):Option ((Bool×Int×Int×Bool×Int×Int) ⊕ (Bool×Int×Int)):=cg sh (Qx sh U p1) (OG sh U p1) U p2
noncomputable def acq {R:Type} (k:AX->AS SS->Option R) (U:List Int) (p1:List (Int×Int)) (x:(Bool×Int×Int×Bool×Int×Int) ⊕ (Bool×Int×Int)):Option R:=(λx=>Sum.rec (λv=>k (.exit 0) (agz U p1 v.1 v.2.1 v.2.2.1 v.2.2.2.1 v.2.2.2.2.1 v.2.2.2.2.2)) (λv=>k (.exit 0) (agA U p1 v.1 v.2.1 v.2.2)) x) x
noncomputable def VL:bo SS:=bJ 10 (λst=>(dU st 0 227).bind λ_=>(bb 76 (aS st 28 0)).bind λU=>(ku st 2).bind λp1=>(bE (aS st 11 0)).bind λp2=>some (U,p1,p2)) (λp=>Yy p.1 p.2.1 p.2.2) (λp=>PS shut p.1 p.2.1 p.2.2) (λk p=>acq k p.1 p.2.1)
noncomputable def aaH:az SS:= { (pT shut) with T:=bl ((pT shut).T) 97 ⟨⟨Tryz.f97,ax 97⟩,[La]⟩ }
theorem NJ:aF aaH Tryz.prog:=(aF.bK (ab.all Fw rfl) Tryz.func97 rfl bg λc hc=>by cases hc;exact au.cons (au.nil) (by kernel_rfl) am6)
theorem amn:aC KK Tryz.prog ⟨Tryz.f183,ax 183⟩ (bI (aU Tryz.f183) 10) VL:=
 aC.ck (π:=List Int×(List (Int×Int))×Int) (σ:=Int) NJ (au.nil) rfl 60 (λp i a=>CA p.1 p.2.1 a i) (λp=>p.1) (λp=>p.2.2) (St:=λp=>Qx shut p.1 p.2.1) (F:=λp=>OG shut p.1 p.2.1) (λp=>rfl)
  (λm p i a k=>by kernel_rfl) (by rintro p (x|x)<;>exact⟨_,_,λ_=>rfl⟩) (λp N C A O w a hr=>cH hr (t:=76) (sl:=28) rfl λv h=>h)
noncomputable def NK:az SS:= { (pT shut) with T:=bl (bl ((pT shut).T) 97 ⟨⟨Tryz.f97,ax 97⟩,[La]⟩) 183 ⟨⟨Tryz.f183,ax 183⟩,[VL]⟩ }
theorem aaI:aF NK Tryz.prog:=(aF.bK NJ Tryz.func183 rfl bg λc hc=>by cases hc;exact au.cons (au.nil) (by kernel_rfl) amn)
noncomputable def Q8 (sh:Sh) (m:cz) (w:Int):T (Int×Int):=
 .bd (vC sh m w) λy0=>
  .bf (y0 !=0) (
   .ok (0,y0))<|
  .bd (SK sh w) λy1=>
   .gd (Y5 m.ao [])<|
    .bd (Qi sh m.ao []) λy2=>
     .gd (Yy y1.1 y2.2.2 0)<|
      .bd (PS sh y1.1 y2.2.2 0) λx7=> .cs x7 (λy3=>
       .bf (y3.2.1==0) (
        .ok (0,4))<|
       .ok (y3.2.1,0)) λy3=>
       .bf (y3.2.1==0) (
        .ok (0,4))<|
       .ok (y3.2.1,0)
noncomputable def vA (sh:Sh) (m:cz) (w:Int):Option (Int×Int):=sh.s _ (Q8 sh m w).val
theorem aoA {R:Type} (m:cz) (w:Int) (k:Rs SS->Option R):bu NK 100 183 [KK.aa 30 m,KK.aa 28 w] [] (bD KK [28,40] k)=(Q8 shut m w).run (λr=>k (.ret (.aY [KK.aa 28 r.1,KK.aa 40 r.2]))):=by kernel_rfl
noncomputable def aek (sh:Sh):bq SS:=bw KK 183 [30,28] (λ{R} xs k=>match xs with| .cons m (.cons w .nil)=>(vA sh m w).bind (λr=>k (.ret (.aY [KK.aa 28 r.1,KK.aa 40 r.2]))))
noncomputable def uh (sh:Sh):az SS:= { (pT sh) with C:=aek sh::(pT sh).C }
theorem Fq:ab (uh shut) Tryz.prog:=ab.bB Fw λxs k z _ hz=>bG aaI (λ{R} xs k z h=>by
 match xs,h with
 | .cons m (.cons w .nil),h=>exact⟨100,(aoA m w k).trans (bH h)⟩) hz
noncomputable def Ct (U:List aw) (p1:List an) (p2 p3 p4:Int) (p5:List Int):AS SS:=⟨[(0,(vs .dF)),(2,(va 3 0)),(7,(vd 31 U)),(8,(vi p3)),(9,(vi p4))],[(bX 76 [(.own 4)]),(some (.bM 122 [] [(.one (.br 2 0)),(.one (.br 3 0))])),(bX 34 [(.aP 31 U),(.aP 32 p1)]),(bX 28 [(lu p2)]),(rX 28 p5)],4,(some ⟨⟨Tryz.f31,ax 31⟩,[13],(gk (aU Tryz.f31) 7),(gl (aU Tryz.f31) 7),[(5,(va 0 0)),(12,(vc 1))],none⟩),false,[],[0]⟩
noncomputable def af2 (U:List aw) (p1:List an) (p2 p3:Int) (a0:Bool) (a1:Int) (a2:List Int):AS SS:= { Ct U p1 p2 p3 p2 a2 with env:=[(10,(vb a0)),(0,(vs .dF)),(2,(va 3 0)),(7,(vd 31 U)),(8,(vi p3)),(9,(vi a1))] }
noncomputable def Qr (sh:Sh) (U:List aw) (p1:List an) (p2 p3:Int) (a:Int×List Int):T ((Int×List Int) ⊕ (Bool×Int×List Int)):=
 .bf (decide (a.1<p3)) (
  .bd (idx U a.1) λz0=>
   .bf (z0.ae==p2) (
    .bd (app 8 a.2 [z0.cB]) λz1=>
     .ok (.inl ((IntKind.i64.wrap (a.1+1)),z1)))<|
   .ok (.inl ((IntKind.i64.wrap (a.1+1)),a.2)))<|
 .ok (.inr ((decide (a.1<p3)),a.1,a.2))
noncomputable def PM (sh:Sh) (U:List aw) (p1:List an) (p2 p3 p4:Int) (p5:List Int):Option ((Bool×Int×List Int)):=cA sh (Qr sh U p1 p2 p3) 1000000 (p4,p5)
noncomputable def ab7 {R:Type} (k:AX->AS SS->Option R) (U:List aw) (p1:List an) (p2 p3:Int) (x:(Bool×Int×List Int)):Option R:=(λv=>k (.exit 0) (af2 U p1 p2 p3 v.1 v.2.1 v.2.2)) x
noncomputable def Vw:bo SS:=nT (λst=>gc (ax 122 2) (jq [0] (iE 0 0 28 (st))))<|bJ 2 (λst=>((dU st 1 122).bind λ_=>jB st 19 7).bind λ_=>(bb 31 (aS st 7 0)).bind λU=>(bb 32 (aZ st 2 1)).bind λp1=>(bE (aZ st 3 0)).bind λp2=>(bE (aS st 8 0)).bind λp3=>(bE (aS st 9 0)).bind λp4=>(db st 4 28).bind λp5=>some (U,p1,p2,p3,p4,p5)) (λp=>Ct p.1 p.2.1 p.2.2.1 p.2.2.2.1 p.2.2.2.2.1 p.2.2.2.2.2) (λp=>PM shut p.1 p.2.1 p.2.2.1 p.2.2.2.1 p.2.2.2.2.1 p.2.2.2.2.2) (λk p=>ab7 k p.1 p.2.1 p.2.2.1 p.2.2.2.1)
theorem al_:aC KK Tryz.prog ⟨Tryz.f122,ax 122⟩ (bI (aU Tryz.f122) 2) Vw:=aC.pre (c7.comp (c7.gc (ax 122 2)) (c7.comp (c7.jq [0]) (c7.iE 0 0 28)))<|
 aC.cA (π:=List aw×List an×Int×Int×Int×List Int) (σ:=Int×List Int) (ab.all Fq rfl) (au.nil) rfl 60 (λp a=>Ct p.1 p.2.1 p.2.2.1 p.2.2.2.1 a.1 a.2) (λp=>(p.2.2.2.2.1,p.2.2.2.2.2)) (St:=λp=>Qr shut p.1 p.2.1 p.2.2.1 p.2.2.2.1) (λp=>1000000) (λp=>rfl)
  (λm p a k=>by kernel_rfl)
noncomputable def N8:az SS:= { (uh shut) with T:=bl ((uh shut).T) 122 ⟨⟨Tryz.f122,ax 122⟩,[Vw]⟩ }
theorem aa5:aF N8 Tryz.prog:=(aF.bK (ab.all Fq rfl) Tryz.func122 rfl bg λc hc=>by cases hc;exact au.cons (au.nil) (by kernel_rfl) al_)
noncomputable def Rv (sh:Sh) (s:bh) (pid:Int):T (List Int):=
 .bd (oL sh s) λy0=>
  .bf (y0 !=0) (
   .ok [])<|
  .gd (Ct s.aK s.ay pid ((↑s.aK.length:Int)) 0 [])<|
   .bd (PM sh s.aK s.ay pid ((↑s.aK.length:Int)) 0 []) λy1=>
    .ok y1.2.2
noncomputable def H7 (sh:Sh) (s:bh) (pid:Int):Option (List Int):=sh.s _ (Rv sh s pid).val
theorem aoW {R:Type} (s:bh) (pid:Int) (k:Rs SS->Option R):bu N8 100 31 [KK.aa 34 s,KK.aa 28 pid] [] (bD KK [76] k)=(Rv shut s pid).run (λr=>k (.ret (.s (KK.aa 76 r)))):=by kernel_rfl
noncomputable def aeK (sh:Sh):bq SS:=bw KK 31 [34,28] (λ{R} xs k=>match xs with| .cons s (.cons pid .nil)=>(H7 sh s pid).bind (λr=>k (.ret (.s (KK.aa 76 r)))))
noncomputable def pV (sh:Sh):az SS:= { (uh sh) with C:=aeK sh::(uh sh).C }
theorem FJ:ab (pV shut) Tryz.prog:=ab.bB Fq λxs k z _ hz=>bG aa5 (λ{R} xs k z h=>by
 match xs,h with
 | .cons s (.cons pid .nil),h=>exact⟨100,(aoW s pid k).trans (bH h)⟩) hz
noncomputable def Cr (U:List an) (p1:List aw) (p2 p3:Int) (p4:List an):AS SS:=⟨[(5,(va 0 0)),(20,(vd 32 U)),(21,(vi p2)),(22,(vi p3))],[(bX 128 [(.own 1),(.own 2)]),(rX 93 p1),(rX 82 p4)],0,none,false,[],[]⟩
noncomputable def afY (U:List an) (p1:List aw) (p2:Int) (a0:Bool) (a1:Int) (a2:List an):AS SS:= { Cr U p1 p2 p2 a2 with env:=[(23,(vb a0)),(5,(va 0 0)),(20,(vd 32 U)),(21,(vi p2)),(22,(vi a1))] }
noncomputable def Qp (sh:Sh) (U:List an) (p1:List aw) (p2:Int) (a:Int×List an):T ((Int×List an) ⊕ (Bool×Int×List an)):=
 .bf (decide (a.1<p2)) (
  .bd (idx U a.1) λz0=>
   .bd (app 8 [] z0.a_) λz1=>
    .bd (app 32 a.2 [an.mk z0.ae z1]) λz2=>
     .ok (.inl ((IntKind.i64.wrap (a.1+1)),z2)))<|
 .ok (.inr ((decide (a.1<p2)),a.1,a.2))
noncomputable def PK (sh:Sh) (U:List an) (p1:List aw) (p2 p3:Int) (p4:List an):Option ((Bool×Int×List an)):=cA sh (Qp sh U p1 p2) 1000000 (p3,p4)
noncomputable def ab3 {R:Type} (k:AX->AS SS->Option R) (U:List an) (p1:List aw) (p2:Int) (x:(Bool×Int×List an)):Option R:=(λv=>k (.exit 0) (afY U p1 p2 v.1 v.2.1 v.2.2)) x
noncomputable def KX:bo SS:=nT (λst=>gc (ax 118 7) (iE 0 1 82 (st)))<|bJ 7 (λst=>(bb 32 (aS st 20 0)).bind λU=>(db st 1 93).bind λp1=>(bE (aS st 21 0)).bind λp2=>(bE (aS st 22 0)).bind λp3=>(db st 2 82).bind λp4=>some (U,p1,p2,p3,p4)) (λp=>Cr p.1 p.2.1 p.2.2.1 p.2.2.2.1 p.2.2.2.2) (λp=>PK shut p.1 p.2.1 p.2.2.1 p.2.2.2.1 p.2.2.2.2) (λk p=>ab3 k p.1 p.2.1 p.2.2.1)
theorem al6:aC KK Tryz.prog ⟨Tryz.f118,ax 118⟩ (bI (aU Tryz.f118) 7) KX:=aC.pre (c7.comp (c7.gc (ax 118 7)) (c7.iE 0 1 82))<|
 aC.cA (π:=List an×List aw×Int×Int×List an) (σ:=Int×List an) (ab.all FJ rfl) (au.nil) rfl 60 (λp a=>Cr p.1 p.2.1 p.2.2.1 a.1 a.2) (λp=>(p.2.2.2.1,p.2.2.2.2)) (St:=λp=>Qp shut p.1 p.2.1 p.2.2.1) (λp=>1000000) (λp=>rfl)
  (λm p a k=>by kernel_rfl)
noncomputable def CK (U:Int) (p1:List aw) (p2 p3:Int):AS SS:=⟨[(0,(vo 0)),(1,(vu U)),(2,(vc 1)),(8,(vi (↑p1.length:Int))),(9,(vi p2)),(10,(vi p3))],[(rX 93 p1),(some (.bM 263 [] [(.one (.br 2 0))])),(bX 276 [(.v (.func (.func 239) (.mk []) (.mk [])))])],3,none,false,[],[]⟩
noncomputable def agY (U:Int) (p1:List aw) (a0:Bool) (a1 a2:Int):AS SS:= { CK U p1 U U with env:=[(17,(vb a0)),(16,(vi a1)),(15,(vi a2)),(0,(vo 0)),(1,(vu U)),(2,(vc 1)),(8,(vi (↑p1.length:Int))),(9,(vi a2)),(10,(vi a1))] }
noncomputable def QM (sh:Sh) (U:Int) (p1:List aw) (a:Int×Int):T ((Int×Int) ⊕ (Bool×Int×Int)):=
 .bf (decide (a.1<a.2)) (
  .bd (idx p1 (IntKind.i64.wrap ((IntKind.u64.wrap (IntKind.i64.wrap (a.1+a.2))).fdiv 2))) λz0=>
   .bd (p1[(IntKind.i64.wrap ((IntKind.u64.wrap (IntKind.i64.wrap (a.1+a.2))).fdiv 2)).toNat]?) λz1=>
    .bd (lN sh z1.cB U) λy2=>
     .bf (decide (y2<0)) (
      .ok (.inl ((IntKind.i64.wrap (IntKind.i64.wrap ((IntKind.u64.wrap (IntKind.i64.wrap (a.1+a.2))).fdiv 2)+1)),a.2)))<|
     .ok (.inl (a.1,(IntKind.i64.wrap ((IntKind.u64.wrap (IntKind.i64.wrap (a.1+a.2))).fdiv 2)))))<|
 .ok (.inr ((decide (a.1<a.2)),a.2,a.1))
noncomputable def P7 (sh:Sh) (U:Int) (p1:List aw) (p2 p3:Int):Option ((Bool×Int×Int)):=cA sh (QM sh U p1) 1000000 (p2,p3)
noncomputable def acH {R:Type} (k:AX->AS SS->Option R) (U:Int) (p1:List aw) (x:(Bool×Int×Int)):Option R:=(λv=>k (.exit 0) (agY U p1 v.1 v.2.1 v.2.2)) x
noncomputable def VV:bo SS:=bJ 4 (λst=>(dU st 1 263).bind λ_=>(bE (aS st 1 0)).bind λU=>(db st 0 93).bind λp1=>(bE (aS st 9 0)).bind λp2=>(bE (aS st 10 0)).bind λp3=>some (U,p1,p2,p3)) (λp=>CK p.1 p.2.1 p.2.2.1 p.2.2.2) (λp=>P7 shut p.1 p.2.1 p.2.2.1 p.2.2.2) (λk p=>acH k p.1 p.2.1)
noncomputable def aaU:az SS:= { (pV shut) with T:=bl ((pV shut).T) 118 ⟨⟨Tryz.f118,ax 118⟩,[KX]⟩ }
theorem NX:aF aaU Tryz.prog:=(aF.bK (ab.all FJ rfl) Tryz.func118 rfl bg λc hc=>by cases hc;exact au.cons (au.nil) (by kernel_rfl) al6)
theorem amA:aC KK Tryz.prog ⟨Tryz.f262,ax 262⟩ (bI (aU Tryz.f262) 4) VV:=
 aC.cA (π:=Int×List aw×Int×Int) (σ:=Int×Int) NX (au.nil) rfl 60 (λp a=>CK p.1 p.2.1 a.1 a.2) (λp=>(p.2.2.1,p.2.2.2)) (St:=λp=>QM shut p.1 p.2.1) (λp=>1000000) (λp=>rfl)
  (λm p a k=>by kernel_rfl)
noncomputable def NY:az SS:= { (pV shut) with T:=bl (bl ((pV shut).T) 118 ⟨⟨Tryz.f118,ax 118⟩,[KX]⟩) 262 ⟨⟨Tryz.f262,ax 262⟩,[VV]⟩ }
theorem aaV:aF NY Tryz.prog:=(aF.bK NX Tryz.func262 rfl bg λc hc=>by cases hc;exact au.cons (au.nil) (by kernel_rfl) amA)
noncomputable def Rg (sh:Sh) (s:bh) (name pid:Int):T (bh×Int):=
 .bd (oL sh s) λy0=>
  .bf (y0 !=0) (
   .bf (y0 !=0) (
    .ok (⟨[],[]⟩,y0))<|
   .bd (nh sh name) λy1=>
    .bf (!y1) (
     .ok (⟨[],[]⟩,351))<|
    .bd (ss sh pid) λy2=>
     .bf (!y2) (
      .ok (⟨[],[]⟩,2))<|
     .no)<|
  .bd (app 16 [] s.aK) λz1=>
   .gd (Cr s.ay z1 ((↑s.ay.length:Int)) 0 [])<|
    .bd (PK sh s.ay z1 ((↑s.ay.length:Int)) 0 []) λy2=>
     .bd (nh sh name) λy3=>
      .bf (!y3) (
       .ok (⟨[],[]⟩,351))<|
      .bd (ss sh pid) λy4=>
       .bf (!y4) (
        .ok (⟨[],[]⟩,2))<|
       .gd (CK name z1 0 (↑z1.length:Int))<|
        .bd (P7 sh name z1 0 ((↑z1.length:Int))) λy5=>
         .bf (decide (y5.2.2<(↑z1.length:Int))) (
          .bd (idx z1 y5.2.2) λz6=>
           .bd (z1[y5.2.2.toNat]?) λz7=>
            .bd (lN sh z7.cB name) λy8=>
             .bf (y8==0) (
              .ok (⟨[],[]⟩,5))<|
             .bf ((↑z1.length:Int)==16) (
              .ok (⟨[],[]⟩,6))<|
             .bd (xo z1 y5.2.2 [aw.mk name pid]) λz9=>
              .ok (⟨z9,y2.2.2⟩,0))<|
         .bf ((↑z1.length:Int)==16) (
          .ok (⟨[],[]⟩,6))<|
         .bd (xo z1 y5.2.2 [aw.mk name pid]) λz6=>
          .ok (⟨z6,y2.2.2⟩,0)
noncomputable def HZ (sh:Sh) (s:bh) (name pid:Int):Option (bh×Int):=sh.s _ (Rg sh s name pid).val
theorem aoJ {R:Type} (s:bh) (name pid:Int) (k:Rs SS->Option R):bu NY 100 194 [KK.aa 34 s,KK.aa 28 name,KK.aa 28 pid] [] (bD KK [34,40] k)=(Rg shut s name pid).run (λr=>k (.ret (.aY [KK.aa 34 r.1,KK.aa 40 r.2]))):=by kernel_rfl
noncomputable def aet (sh:Sh):bq SS:=bw KK 194 [34,28,28] (λ{R} xs k=>match xs with| .cons s (.cons name (.cons pid .nil))=>(HZ sh s name pid).bind (λr=>k (.ret (.aY [KK.aa 34 r.1,KK.aa 40 r.2]))))
noncomputable def uj (sh:Sh):az SS:= { (pV sh) with C:=aet sh::(pV sh).C }
theorem Fx:ab (uj shut) Tryz.prog:=ab.bB FJ λxs k z _ hz=>bG aaV (λ{R} xs k z h=>by
 match xs,h with
 | .cons s (.cons name (.cons pid .nil)),h=>exact⟨100,(aoJ s name pid k).trans (bH h)⟩) hz
noncomputable def CM (U:List aw) (p1 p2 p3:Int):AS SS:=⟨[(0,(vd 31 U)),(1,(vu p1)),(2,(vc 0)),(8,(vi (↑U.length:Int))),(9,(vi p2)),(10,(vi p3))],[(some (.bM 263 [] [(.one (.br 1 0))])),(bX 276 [(.v (.func (.func 239) (.mk []) (.mk [])))])],2,none,false,[],[]⟩
noncomputable def ag0 (U:List aw) (p1:Int) (a0:Bool) (a1 a2:Int):AS SS:= { CM U p1 p1 p1 with env:=[(17,(vb a0)),(16,(vi a1)),(15,(vi a2)),(0,(vd 31 U)),(1,(vu p1)),(2,(vc 0)),(8,(vi (↑U.length:Int))),(9,(vi a2)),(10,(vi a1))] }
noncomputable def QO (sh:Sh) (U:List aw) (p1:Int) (a:Int×Int):T ((Int×Int) ⊕ (Bool×Int×Int)):=
 .bf (decide (a.1<a.2)) (
  .bd (idx U (IntKind.i64.wrap ((IntKind.u64.wrap (IntKind.i64.wrap (a.1+a.2))).fdiv 2))) λz0=>
   .bd (lN sh z0.cB p1) λy1=>
    .bf (decide (y1<0)) (
     .ok (.inl ((IntKind.i64.wrap (IntKind.i64.wrap ((IntKind.u64.wrap (IntKind.i64.wrap (a.1+a.2))).fdiv 2)+1)),a.2)))<|
    .ok (.inl (a.1,(IntKind.i64.wrap ((IntKind.u64.wrap (IntKind.i64.wrap (a.1+a.2))).fdiv 2)))))<|
 .ok (.inr ((decide (a.1<a.2)),a.2,a.1))
noncomputable def P9 (sh:Sh) (U:List aw) (p1 p2 p3:Int):Option ((Bool×Int×Int)):=cA sh (QO sh U p1) 1000000 (p2,p3)
noncomputable def acJ {R:Type} (k:AX->AS SS->Option R) (U:List aw) (p1:Int) (x:(Bool×Int×Int)):Option R:=(λv=>k (.exit 0) (ag0 U p1 v.1 v.2.1 v.2.2)) x
noncomputable def VX:bo SS:=bJ 4 (λst=>(dU st 0 263).bind λ_=>(bb 31 (aS st 0 0)).bind λU=>(bE (aS st 1 0)).bind λp1=>(bE (aS st 9 0)).bind λp2=>(bE (aS st 10 0)).bind λp3=>some (U,p1,p2,p3)) (λp=>CM p.1 p.2.1 p.2.2.1 p.2.2.2) (λp=>P9 shut p.1 p.2.1 p.2.2.1 p.2.2.2) (λk p=>acJ k p.1 p.2.1)
theorem amC:aC KK Tryz.prog ⟨Tryz.f262,ax 262⟩ (bI (aU Tryz.f262) 4) VX:=
 aC.cA (π:=List aw×Int×Int×Int) (σ:=Int×Int) (ab.all Fx rfl) (au.nil) rfl 60 (λp a=>CM p.1 p.2.1 a.1 a.2) (λp=>(p.2.2.1,p.2.2.2)) (St:=λp=>QO shut p.1 p.2.1) (λp=>1000000) (λp=>rfl)
  (λm p a k=>by kernel_rfl)
noncomputable def N1:az SS:= { (uj shut) with T:=bl ((uj shut).T) 262 ⟨⟨Tryz.f262,ax 262⟩,[VX]⟩ }
theorem aaY:aF N1 Tryz.prog:=(aF.bK (ab.all Fx rfl) Tryz.func262 rfl bg λc hc=>by cases hc;exact au.cons (au.nil) (by kernel_rfl) amC)
noncomputable def Ri (sh:Sh) (s:bh) (name:Int):T (Int×Int):=
 .bd (oL sh s) λy0=>
  .bf (y0 !=0) (
   .ok (0,350))<|
  .bd (nh sh name) λy1=>
   .bf (!y1) (
    .ok (0,351))<|
   .gd (CM s.aK name 0 (↑s.aK.length:Int))<|
    .bd (P9 sh s.aK name 0 ((↑s.aK.length:Int))) λy2=>
     .bf (decide (y2.2.2<(↑s.aK.length:Int))) (
      .bd (idx s.aK y2.2.2) λz3=>
       .bd (lN sh z3.cB name) λy4=>
        .bf (!y4==0) (
         .ok (0,4))<|
        .bd (idx s.aK y2.2.2) λz5=>
         .ok (z5.ae,0))<|
     .ok (0,4)
noncomputable def vB (sh:Sh) (s:bh) (name:Int):Option (Int×Int):=sh.s _ (Ri sh s name).val
theorem aoL {R:Type} (s:bh) (name:Int) (k:Rs SS->Option R):bu N1 100 196 [KK.aa 34 s,KK.aa 28 name] [] (bD KK [28,40] k)=(Ri shut s name).run (λr=>k (.ret (.aY [KK.aa 28 r.1,KK.aa 40 r.2]))):=by kernel_rfl
noncomputable def aew (sh:Sh):bq SS:=bw KK 196 [34,28] (λ{R} xs k=>match xs with| .cons s (.cons name .nil)=>(vB sh s name).bind (λr=>k (.ret (.aY [KK.aa 28 r.1,KK.aa 40 r.2]))))
noncomputable def zl (sh:Sh):az SS:= { (uj sh) with C:=aew sh::(uj sh).C }
theorem Ph:ab (zl shut) Tryz.prog:=ab.bB Fx λxs k z _ hz=>bG aaY (λ{R} xs k z h=>by
 match xs,h with
 | .cons s (.cons name .nil),h=>exact⟨100,(aoL s name k).trans (bH h)⟩) hz
end Go.Proofs.YtdhaaaeffhaadaaGreatDoor
end
section
namespace Go.Vx
open Go.RowKit Go.Dc
section
variable {S:bL} {K:bQ S} {P:Program}
theorem Iu {X:Type} {t:T X} {x:X} (h:shut.s _ t.val=some x):t.val=some x:=by rw[tH] at h;exact h
theorem Eg {G:az S} (hG:aF G P) {n f:Nat} {aqJ:List (aE S)} {rs:List Nat} {X:Type} {t:T X} {kf: {R:Type}->(Rs S->Option R)->X->Option R}
  (h: ∀ {R:Type} (k:Rs S->Option R),bu G n f aqJ [] (bD G.K rs k)=t.run (kf k)) (hp:aqJ.all aE.pure=true) {x:X} (hx:t.val=some x) {r:Rs S} (hr: ∀ {R:Type} (k:Rs S->Option R),kf k x=k r):fY G.K P f aqJ r:=by
 have h1:bu G n f aqJ [] (bD G.K rs (λr=>some (ULift.up.{0} r).down))=some r:=by
  rw[h,T.xX,hx]
  exact hr _
 obtain⟨r',h',dt,h2,h3⟩:=RG hG h1
 obtain⟨Xp,h4,h5⟩:=fY.WS hG.K hp h3 h2
 obtain⟨r3,h6,h7⟩:=W9 hG.K h4 h5
 have e:r3=r:=by simpa using h6
 rw[<-e]
 exact h7
theorem kJ (hK:cI K P) {A:Pl} {O:List Nat} {w:World} {t:Nat} {x:S.El t} {v:Value} (hs:(S.ty t).agg=(match K.aa t x with| .agg _=>true| .one _=>false)) (h1:(match K.aa t x with| .agg _=>true| .one l=>Nat.beq l.sz 1)=true) (h:(S.ty t).is O w v x):(K.aa t x).rel A O w v:=by
 obtain⟨cs,hr,hv⟩:=h
 have iB:=hK.aa A O w t x cs hr
 unfold Ty.mk' at hv
 revert iB hs h1
 cases K.aa t x with
 |agg ls=>
  intro hs h1 iB
  rw[hs] at hv
  exact⟨cs,hv,iB⟩
 |one l=>
  intro hs h1 iB
  rw[hs] at hv
  obtain⟨ys,zs,rfl,h2,h3⟩:=iB
  rw[show zs=[] from h3,List.append_nil] at hv
  have hl:=h2.len
  rw[Nat.eq_of_beq_eq_true h1] at hl
  match ys,hl with
  |[u],_=>
   have:v=u:=hv
   rw[this]
   exact h2
theorem KR (hK:cI K P) {A:Pl} {O:List Nat} {w:World} {t:Nat} {x:S.El t} {v:Value} (hc:K.cls t (K.aa t x).cells=some x) (hs:(S.ty t).agg=(match K.aa t x with| .agg _=>true| .one _=>false)) (h:(K.aa t x).rel A O w v):(S.ty t).is O w v x:=by
 revert hc hs h
 cases K.aa t x with
 |agg ls=>
  rintro hc hs ⟨cs,rfl,hr⟩
  exact⟨cs,hK.cls A O w t ls x cs hc hr,by unfold Ty.mk';rw[hs];rfl⟩
 |one l=>
  intro hc hs hr
  exact⟨[v],hK.cls A O w t [l] x [v] hc ⟨[v],[],rfl,hr,rfl⟩,by unfold Ty.mk';rw[hs];rfl⟩
theorem Hh (hK:cI K P) {f:Nat} {ts:List Nat} {spec: {R:Type}->lE S ts->(Rs S->Option R)->Option R}
  (h: ∀ {R:Type} (xs:lE S ts) (k:Rs S->Option R) (z:R),spec xs k=some z-> ∃r,k r=some z/\fY K P f (pB K xs) r) {R:Type} (aqJ:List (aE S)) (k:Rs S->Option R) (z:R) (_:aqJ.all aE.pure=true) (hz:(bw K f ts spec).out aqJ k=some z): ∃r,k r=some z/\fY K P f aqJ r:=by
 simp only[bw] at hz
 split at hz
 rotate_left
 ·cases hz
 rename_i xs eE
 cases hp:(pB K xs).all aE.pure<;>rw[hp] at hz
 ·cases hz
 simp only[cond_true] at hz
 obtain⟨r,h1,h2⟩:=h xs k z hz
 exact⟨r,h1,h2.1,λA O w vs hv hO hG=>h2.2 A O w vs (D5 hK eE hv) hO hG⟩
theorem KQ {α:Type} {T:Ty α} {O:List Nat} {w:World} {v:Value} {x:α} (h:T.is O w v x):T.is [] w v x:=h.tr (Tr.less λ_ hk=>by cases hk)
end
end Go.Vx
end
section
namespace Go.Proofs.YtdhaaaeffhaadaaGreatDoor
open Go.RowKit Go.Dc Go.Vx
set_option maxRecDepth 100000
set_option maxHeartbeats 4000000
noncomputable def Q3 (sh:Sh) (b:an):T (Int):=
 .ok b.ae
noncomputable def HN (sh:Sh) (b:an):Option (Int):=sh.s _ (Q3 sh b).val
theorem aor {R:Type} (b:an) (k:Rs SS->Option R):bu (zl shut) 100 168 [KK.aa 82 b] [] (bD KK [28] k)=(Q3 shut b).run (λr=>k (.ret (.s (KK.aa 28 r)))):=by kernel_rfl
noncomputable def aeb (sh:Sh):bq SS:=bw KK 168 [82] (λ{R} xs k=>match xs with| .cons b .nil=>(HN sh b).bind (λr=>k (.ret (.s (KK.aa 28 r)))))
noncomputable def t_ (sh:Sh):az SS:= { (zl sh) with C:=aeb sh::(zl sh).C }
theorem Fh:ab (t_ shut) Tryz.prog:=ab.bB Ph λxs k z _ hz=>bG (ab.all Ph rfl) (λ{R} xs k z h=>by
 match xs,h with
 | .cons b .nil,h=>exact⟨100,(aor b k).trans (bH h)⟩) hz
noncomputable def CC (U:List an) (p1 p2 p3:Int):AS SS:=⟨[(0,(vd 32 U)),(1,(vu p1)),(2,(vc 0)),(8,(vi (↑U.length:Int))),(9,(vi p2)),(10,(vi p3))],[(some (.bM 205 [] [(.one (.br 1 0))])),(bX 220 [(.v (.func (.func 168) (.mk []) (.mk [])))])],2,none,false,[],[]⟩
noncomputable def agD (U:List an) (p1:Int) (a0:Bool) (a1 a2:Int):AS SS:= { CC U p1 p1 p1 with env:=[(17,(vb a0)),(16,(vi a1)),(15,(vi a2)),(0,(vd 32 U)),(1,(vu p1)),(2,(vc 0)),(8,(vi (↑U.length:Int))),(9,(vi a2)),(10,(vi a1))] }
noncomputable def Qz (sh:Sh) (U:List an) (p1:Int) (a:Int×Int):T ((Int×Int) ⊕ (Bool×Int×Int)):=
 .bf (decide (a.1<a.2)) (
  .bd (idx U (IntKind.i64.wrap ((IntKind.u64.wrap (IntKind.i64.wrap (a.1+a.2))).fdiv 2))) λz0=>
   .bd (HN sh z0) λy1=>
    .bd (lN sh y1 p1) λy2=>
     .bf (decide (y2<0)) (
      .ok (.inl ((IntKind.i64.wrap (IntKind.i64.wrap ((IntKind.u64.wrap (IntKind.i64.wrap (a.1+a.2))).fdiv 2)+1)),a.2)))<|
     .ok (.inl (a.1,(IntKind.i64.wrap ((IntKind.u64.wrap (IntKind.i64.wrap (a.1+a.2))).fdiv 2)))))<|
 .ok (.inr ((decide (a.1<a.2)),a.2,a.1))
noncomputable def PU (sh:Sh) (U:List an) (p1 p2 p3:Int):Option ((Bool×Int×Int)):=cA sh (Qz sh U p1) 1000000 (p2,p3)
noncomputable def acs {R:Type} (k:AX->AS SS->Option R) (U:List an) (p1:Int) (x:(Bool×Int×Int)):Option R:=(λv=>k (.exit 0) (agD U p1 v.1 v.2.1 v.2.2)) x
noncomputable def VN:bo SS:=bJ 4 (λst=>(dU st 0 205).bind λ_=>(bb 32 (aS st 0 0)).bind λU=>(bE (aS st 1 0)).bind λp1=>(bE (aS st 9 0)).bind λp2=>(bE (aS st 10 0)).bind λp3=>some (U,p1,p2,p3)) (λp=>CC p.1 p.2.1 p.2.2.1 p.2.2.2) (λp=>PU shut p.1 p.2.1 p.2.2.1 p.2.2.2) (λk p=>acs k p.1 p.2.1)
theorem amp:aC KK Tryz.prog ⟨Tryz.f204,ax 204⟩ (bI (aU Tryz.f204) 4) VN:=
 aC.cA (π:=List an×Int×Int×Int) (σ:=Int×Int) (ab.all Fh rfl) (au.nil) rfl 60 (λp a=>CC p.1 p.2.1 a.1 a.2) (λp=>(p.2.2.1,p.2.2.2)) (St:=λp=>Qz shut p.1 p.2.1) (λp=>1000000) (λp=>rfl)
  (λm p a k=>by kernel_rfl)
noncomputable def EI:az SS:= { (t_ shut) with T:=bl ((t_ shut).T) 204 ⟨⟨Tryz.f204,ax 204⟩,[VN]⟩ }
theorem aap:aF EI Tryz.prog:=(aF.bK (ab.all Fh rfl) Tryz.func204 rfl bg λc hc=>by cases hc;exact au.cons (au.nil) (by kernel_rfl) amp)
noncomputable def Q2 (sh:Sh) (l:List an) (pid:Int):T (Int×Bool):=
 .gd (CC l pid 0 (↑l.length:Int))<|
  .bd (PU sh l pid 0 ((↑l.length:Int))) λy0=>
   .bf (decide (y0.2.2<(↑l.length:Int))) (
    .bd (idx l y0.2.2) λz1=>
     .bd (HN sh z1) λy2=>
      .bd (lN sh y2 pid) λy3=>
       .ok (y0.2.2,(y3==0)))<|
   .ok (y0.2.2,false)
noncomputable def SH (sh:Sh) (l:List an) (pid:Int):Option (Int×Bool):=sh.s _ (Q2 sh l pid).val
theorem aoq {R:Type} (l:List an) (pid:Int) (k:Rs SS->Option R):bu EI 100 167 [KK.aa 32 l,KK.aa 28 pid,(.one (.v (.func (.func 168) #[] #[])):aE SS)] [] (bD KK [3,4] k)=(Q2 shut l pid).run (λr=>k (.ret (.aY [KK.aa 3 r.1,KK.aa 4 r.2]))):=by kernel_rfl
theorem afB (l:List an) (pid:Int) {x:Int×Bool} (h:SH shut l pid=some x):fY KK Tryz.prog 167 [KK.aa 32 l,KK.aa 28 pid,(.one (.v (.func (.func 168) #[] #[])):aE SS)] (.ret (.aY [KK.aa 3 x.1,KK.aa 4 x.2])):=Eg (G:=EI) aap (kf:=λ{R} (k:Rs SS->Option R)=>(λr=>k (.ret (.aY [KK.aa 3 r.1,KK.aa 4 r.2])))) (λk=>aoq l pid k) rfl (Iu h) λk=>rfl
end Go.Proofs.YtdhaaaeffhaadaaGreatDoor
end
section
namespace Go.Dc
open Go.RowKit
section
variable {P:Program} {r:Option Nat} {N:Nat} {ops:Array Oper} {Q:Exit->Act->World->Prop} {ds:List Deferred}
theorem apM {id:Nat} {E:Env} {w:World} (hm:P.follows .mixedOrders=true) (ba:List cZ) (Φ:List (Bool->World->Value->Prop)) (kk:Nat) (cl:List Nat) (I:Bool->World->Prop) (hlen:Nat.ble ba.length ops.size=true) (nN:ye ops ba.length=true) (Dl:Φ.length=ba.length) (jS:tq N ops ba ba 0=true)
  (oZ:kk<ba.length) (Jy: ∀o,ops[kk]? =some o-> ∀x∈cl,x∈qd ops 12 (dC o)) (hI:I false w.drew)
  (qN: ∀i p φ,ba[i]? =some p->Φ[i]? =some φ-> ∀ph a w',(ph=true->i≠kk/\i∉cl)->I ph w'->a.tmps.size=N->a.defers=ds->(∀s,p.base.contains s=true-> ∀v,E.get s=some v->a.tmps.getD s undef=v)->
   (∀(j:Nat),p.qf.contains j=true-> ∀(q:cZ) (ψ:Bool->World->Value->Prop),ba[j]? =some q->Φ[j]? =some ψ->ψ ph w' (a.tmps.getD q.d undef))->gn P r ops Q i p.d a w' (λv cE=>φ (ph||Nat.beq i kk) cE v/\I (ph||Nat.beq i kk) cE/\ ∀(j:Nat) (ψ:Bool->World->Value->Prop) u,j≠i->Φ[j]? =some ψ->ψ ph w' u->ψ (ph||Nat.beq i kk) cE u))
  (nB: ∀a w',I true w'->a.tmps.size=N->a.defers=ds->(∀s v,E.get s=some v->(ba.any λp=>Nat.beq p.d s)=false->a.tmps.getD s undef=v)->
   (∀(i:Nat) (p:cZ) (φ:Bool->World->Value->Prop),ba[i]? =some p->Φ[i]? =some φ->φ true w' (a.tmps.getD p.d undef))->wpOpsIn (fw r) 0 P ops Q (List.range' ba.length (ops.size-ba.length)) a w'):
  WC P r N (.region id ops true) Q E ds w:=by
 have hle:=Nat.le_of_ble_eq_true hlen
 intro a ha
 refine wpIn_region_draw λt=>?_
 simp only[Region.schedule,hm,Bool.true_or,if_true]
 refine wpAnyIn_sound ops.size t _ a _ ?_
 have key: ∀(fuel:Nat) (listed:Array Bool) (ph:Bool) (a:Act) (w':World),listed.getD kk true=ph->listed.size=ops.size->fB listed ba.length+(ops.size-ba.length)=fuel->(∀k,ba.length<=k->k<ops.size->listed.getD k true=false)->I ph w'->a.tmps.size=N->a.defers=ds->
   (∀(k:Nat) (o:Oper),ops[k]? =some o->listed.getD k true=true-> ∀x∈dC o,listed.getD x true=true)->
   (∀s v,E.get s=some v->(∀(k:Nat) (p:cZ),ba[k]? =some p->p.d=s->listed.getD k true=false)->a.tmps.getD s undef=v)->
   (∀(i:Nat) (p:cZ) (φ:Bool->World->Value->Prop),ba[i]? =some p->Φ[i]? =some φ->listed.getD i true=true->φ ph w' (a.tmps.getD p.d undef))->
   wpAnyIn (fw r) 0 P .any ops Q fuel listed a w':=by
  intro fuel
  induction fuel with
  |zero=>
   intro listed ph a w' mC hs hl ht hF hN hd bS hb hr
   have h0:fB listed ba.length=0:=by omega
   have eT:=s9 _ h0
   have qI:ph=true:=by rw[<-mC];exact eT kk oZ
   subst qI
   have hc:ops.size-ba.length=0:=by omega
   refine Ew nN 0 ba.length listed a w' (Nat.le_refl _) (by omega) hs (λk hk=>eT k hk) ht bS ?_
   have lR:=nB a w' hF hN hd (λs v hv aV=>hb s v hv λk p hp e=>by
    rw[List.any_eq_false] at aV
    have:=aV p (List.mem_of_getElem? hp)
    rw[e] at this;simp at this) λi p φ hp fU=>hr i p φ hp fU (eT i (List.getElem?_eq_some_iff.1 hp).1)
   rw[hc] at lR
   exact lR
  |succ fuel ih=>
   intro listed ph a w' mC hs hl ht hF hN hd bS hb hr
   by_cases h0:fB listed ba.length=0
   ·have eT:=s9 _ h0
    have qI:ph=true:=by rw[<-mC];exact eT kk oZ
    subst qI
    refine Ew nN (fuel+1) ba.length listed a w' (Nat.le_refl _) (by omega) hs (λk hk=>eT k hk) ht bS ?_
    have lR:=nB a w' hF hN hd (λs v hv aV=>hb s v hv λk p hp e=>by
     rw[List.any_eq_false] at aV
     have:=aV p (List.mem_of_getElem? hp)
     rw[e] at this;simp at this) λi p φ hp fU=>hr i p φ hp fU (eT i (List.getElem?_eq_some_iff.1 hp).1)
    rw[show ops.size-ba.length=fuel+1 by omega] at lR
    exact lR
   refine⟨λqK=>?_,λi hi=>?_⟩
   ·exfalso
    obtain⟨i,h1,h2,h3⟩:=xv ba.length h0
    have nF:i<ba.length:=h1
    obtain⟨⟨o,ho,_,jQ,_⟩,_⟩:=pD jS i ba[i] (List.getElem?_eq_getElem nF)
    simp only[Nat.zero_add] at ho jQ
    have:i∈Region.ready .any ops listed:=by
     unfold Region.ready
     rw[List.mem_filter]
     refine⟨by simp;omega,?_⟩
     rw[h2,ho]
     simp only[Bool.not_false,Bool.true_and,Option.map_some,Option.getD_some,Array.all_eq_true_iff_forall_mem]
     intro e he
     cases gW:Region.binds .any e with
     |false=>simp
     |true=>
      have aH:=jQ e.on (mK.2 ⟨e,he,gW,rfl⟩)
      have:=h3 e.on aH
      have bt:e.on<listed.size:=by omega
      simp only[Array.getD_eq_getD_getElem?,Array.getElem?_eq_getElem bt,Option.getD_some] at this ⊢
      simp[this]
    rw[qK] at this
    cases this
   ·unfold Region.ready at hi
    rw[List.mem_filter] at hi
    obtain⟨wM,gX⟩:=hi
    have c6:i<ops.size:=by simpa using wM
    have nF:i<ba.length:=by
     rcases Nat.lt_or_ge i ba.length with h|dr
     ·exact h
     ·exfalso
      obtain⟨o,ho,eT,Jr⟩:=Eu nN i dr c6
      rw[ho] at gX
      simp only[Bool.and_eq_true,Bool.not_eq_true',Option.map_some,Option.getD_some,Array.all_eq_true_iff_forall_mem] at gX
      obtain⟨k,h1,h2,_⟩:=xv ba.length h0
      have h5:=qe bS 12 (dC o) (λx hx=>by
       obtain⟨e,he,gW,wY⟩:=mK.1 hx
       have h3:=gX.2 e he
       rw[gW] at h3
       simp only[Bool.not_true,Bool.false_or] at h3
       have UW:=Jr x hx
       have bt:e.on<listed.size:=by omega
       rw[<-wY]
       simp only[Array.getD_eq_getD_getElem?,Array.getElem?_eq_getElem bt,Option.getD_some] at h3 ⊢
       exact h3) k (eT k (by omega))
      rw[h5] at h2;cases h2
    have JY:i<Φ.length:=by omega
    have hp:=List.getElem?_eq_getElem nF
    have fU:=List.getElem?_eq_getElem JY
    obtain⟨⟨o,ho,nC,jQ,JD⟩,JB,wx,_⟩:=pD jS i ba[i] hp
    simp only[Nat.zero_add] at ho jQ wx
    rw[ho] at gX
    simp only[Bool.and_eq_true,Bool.not_eq_true',Option.map_some,Option.getD_some,Array.all_eq_true_iff_forall_mem] at gX
    obtain⟨fQ,xa⟩:=gX
    have oS: ∀x∈dC o,listed.getD x true=true:=by
     intro x hx
     obtain⟨e,he,gW,rfl⟩:=mK.1 hx
     have h1:=xa e he
     rw[gW] at h1
     simp only[Bool.not_true,Bool.false_or] at h1
     have aH:=jQ e.on hx
     have bt:e.on<listed.size:=by omega
     simp only[Array.getD_eq_getD_getElem?,Array.getElem?_eq_getElem bt,Option.getD_some] at h1 ⊢
     exact h1
    refine qN i _ _ hp fU ph a w' ?_ hF hN hd ?_ ?_ _ ?_
    ·intro qI
     rw[qI] at mC
     refine⟨λe=>by(rw[e,mC] at fQ;cases fQ),λajy=>?_⟩
     have iT:kk<ops.size:=by omega
     have hko:=Jy _ (Array.getElem?_eq_getElem iT) i ajy
     have:=qe bS 12 (dC ops[kk]) (λx hx=>bS kk _ (Array.getElem?_eq_getElem iT) mC x hx) i hko
     rw[this] at fQ;cases fQ
    ·intro s Kg v hv
     have nM:s∈ba[i].base:=by simpa using Kg
     refine hb s v hv λk p k6 aX=>?_
     rcases RX wx s nM k p k6 aX with rfl|⟨o',ei,JW⟩
     ·exact fQ
     ·cases hk:listed.getD k true with
      |false=>rfl
      |true=>rw[bS k o' ei hk i JW] at fQ;cases fQ
    ·intro j oX q ψ hq gi
     have hj:j∈ba[i].qf:=by simpa using oX
     exact hr j q ψ hq gi (oS j (JD j hj))
    ·rintro v cE ⟨hv,hI2,eO⟩
     have JC:ba[i].d<a.tmps.size:=by rw[hN];exact JB
     have kC:i<listed.size:=by omega
     have jy: ∀k,(listed.setIfInBounds i true).getD k true=true↔k=i\/listed.getD k true=true:=by
      intro k
      by_cases hk:i=k
      ·subst hk;simp[Array.getD_eq_getD_getElem?,kC]
      ·simp only[Array.getD_eq_getD_getElem?,Array.getElem?_setIfInBounds_ne hk]
       constructor
       ·exact λh=> .inr h
       ·rintro (h|h)
        ·exact absurd h.symm hk
        ·exact h
     have eM: ∀s,s≠ba[i].d->(a.put (some ba[i].d) v).tmps.getD s undef=a.tmps.getD s undef:=by
      intro s nM
      simp only[Act.put,Array.getD_eq_getD_getElem?,Array.getElem?_setIfInBounds_ne (Ne.symm nM)]
     have fR:(a.put (some ba[i].d) v).tmps.getD ba[i].d undef=v:=by
      simp[Act.put,Array.getD_eq_getD_getElem?,JC]
     have nI:=Lc kC fQ ba.length
     simp only[nF,if_true] at nI
     refine ih _ (ph||Nat.beq i kk) _ cE ?_ (by simpa using hs) (by omega) (λk hk fP=>by
      have:=ht k hk fP
      simp only[Array.getD_eq_getD_getElem?,Array.getElem?_setIfInBounds_ne (show i≠k by omega)] at this ⊢
      exact this) hI2 (by simp[Act.put,hN]) hd ?_ ?_ ?_
     ·cases cG:Nat.beq i kk with
      |true=>
       have:=Nat.eq_of_beq_eq_true cG
       subst this
       rw[Bool.or_true]
       exact(jy i).2 (.inl rfl)
      |false=>
       rw[Bool.or_false,<-mC]
       have aV:i≠kk:=λe=>by rw[e,Nat.beq_refl] at cG;cases cG
       simp only[Array.getD_eq_getD_getElem?,Array.getElem?_setIfInBounds_ne aV]
     ·intro k o' ei hk x hx
      rw[jy] at hk ⊢
      right
      rcases hk with rfl|hk
      ·rw[ho] at ei;cases ei;exact oS x hx
      ·exact bS k o' ei hk x hx
     ·intro s u hu aV
      have h1:s≠ba[i].d:=λe=>by
       have:=aV i _ hp e.symm
       have h2:=(jy i).2 (.inl rfl)
       rw[h2] at this;cases this
      rw[eM s h1]
      refine hb s u hu λk p k6 aX=>?_
      have:=aV k p k6 aX
      cases hk:listed.getD k true with
      |false=>rfl
      |true=>rw[(jy k).2 (.inr hk)] at this;cases this
     ·intro j q ψ hq gi hj
      rw[jy] at hj
      by_cases lU:j=i
      ·subst lU
       rw[hp] at hq;rw[fU] at gi
       cases hq;cases gi
       rw[fR];exact hv
      ·have J3:listed.getD j true=true:=hj.resolve_left lU
       have aV:q.d≠ba[i].d:=by
        rcases Nat.lt_or_ge i j with aH|dr
        ·exact(pD jS i _ hp).2.2.2 j q aH hq
        ·exact λe=>(pD jS j q hq).2.2.2 i _ (by omega) hp e.symm
       rw[eM _ aV]
       exact eO j ψ _ lU gi (hr j q ψ hq gi J3)
 refine key ops.size _ false a _ (by simp[Array.getD_eq_getD_getElem?,show kk<ops.size by omega]) (by simp) ?_ (λk _ hk=>by simp[Array.getD_eq_getD_getElem?,hk]) hI ha.size ha.defers ?_ ?_ ?_
 ·have: ∀n,n<=ops.size->fB (Array.replicate ops.size false) n=n:=by
   intro n
   induction n with
   |zero=>intro _;rfl
   |succ n ih=>
    intro hn
    simp only[fB,ih (by omega)]
    have:(Array.replicate ops.size false).getD n true=false:=by simp[Array.getD_eq_getD_getElem?,show n<ops.size by omega]
    simp[this]
  rw[this _ hle]
  omega
 ·intro k o ho hk
  have aH:=(Array.getElem?_eq_some_iff.1 ho).1
  simp[Array.getD_eq_getD_getElem?,aH] at hk
 ·intro s v hv _
  exact ha.get s v hv
 ·intro i p φ hp _ hi
  have aH:i<ops.size:=by have:=(List.getElem?_eq_some_iff.1 hp).1;omega
  simp[Array.getD_eq_getD_getElem?,aH] at hi
def cK (ψ:SP) (k:Option Value):Bool->World->Value->Prop:=λph w u=>bif ph then ∀v,k=some v->u=v else ψ.p w u
def rz (w:World) (Ψ:World->World->Value->Prop):Bool->World->Value->Prop:=λph w' u=>ph=true-> ∃w1 w2,Fr [] w w1/\Ψ w1 w2 u/\Fr [] w2 w'
def ME (ba:List cZ) (keep:List (Option Value)) (k:Nat) (F:Nat->cZ->Option Value->Prop):Prop:=
 match ba,keep with
 |p::ps,v::vs=>F k p v/\ME ps vs (k+1) F
 |_,_=>True
theorem Zn: ∀ {ba:List cZ} {keep:List (Option Value)} {k:Nat} {F:Nat->cZ->Option Value->Prop},ME ba keep k F-> ∀(i:Nat) (p:cZ) (v:Option Value),ba[i]? =some p->keep[i]? =some v->F (k+i) p v
 |[],_,_,_,_,i,p,v,hp,_=>by simp at hp
 |_::_,[],_,_,_,i,p,v,_,hv=>by simp at hv
 |q::qs,u::us,k,F,h,i,p,v,hp,hv=>by
  cases i with
  |zero=>
   simp only[List.getElem?_cons_zero,Option.some.injEq] at hp hv
   subst hp;subst hv
   exact h.1
  |succ i=>
   have:=Zn h.2 i p v (by simpa using hp) (by simpa using hv)
   have e:k+1+i=k+(i+1):=by omega
   rwa [e] at this
def Dy:List SP->List (Option Value)->Prop
 |ψ::EH,some v::ks=>(∀w u,ψ.p w u->u=v)/\Dy EH ks
 |_::EH,none::ks=>Dy EH ks
 |_,_=>True
theorem KV: ∀ {Φ:List SP} {keep:List (Option Value)},Dy Φ keep-> ∀(j:Nat) (ψ:SP) (v:Value),Φ[j]? =some ψ->keep[j]? =some (some v)-> ∀w u,ψ.p w u->u=v
 |[],_,_,j,ψ,v,h1,_=>by simp at h1
 |_::_,[],_,j,ψ,v,_,h2=>by simp at h2
 |φ::EG,some u::ks,h,j,ψ,v,h1,h2=>by
  cases j with
  |zero=>
   simp only[List.getElem?_cons_zero,Option.some.injEq] at h1 h2
   subst h1;subst h2
   exact h.1
  |succ j=>exact KV h.2 j ψ v (by simpa using h1) (by simpa using h2)
 |φ::EG,none::ks,h,j,ψ,v,h1,h2=>by
  cases j with
  |zero=>simp at h2
  |succ j=>exact KV (Φ:=EG) (keep:=ks) h j ψ v (by simpa using h1) (by simpa using h2)
theorem apN {id:Nat} {E:Env} {w:World} (hm:P.follows .mixedOrders=true) (ba:List cZ) (Φ:List SP) (keep:List (Option Value)) (dK:Nat) (j_ cl:List Nat) (Ψ:World->World->Value->Prop)
  (hlen:Nat.ble (ba++[cZ.mk dK j_ []]).length ops.size=true) (nN:ye ops (ba++[cZ.mk dK j_ []]).length=true) (Dl:Φ.length=ba.length) (iT:keep.length=ba.length) (jS:tq N ops (ba++[cZ.mk dK j_ []]) (ba++[cZ.mk dK j_ []]) 0=true)
  (bS:(match ops[ba.length]? with|some o=>cl.all λx=>(qd ops 12 (dC o)).contains x|none=>false)=true)
  (kY:Dy Φ keep)
  (qN:vj ba Φ 0 λi p φ=> ∀a w',Fr [] w w'->a.tmps.size=N->a.defers=ds->(∀s,p.base.contains s=true-> ∀v,E.get s=some v->a.tmps.getD s undef=v)->
   (∀(j:Nat),p.qf.contains j=true-> ∀(q:cZ) (ψ:SP),ba[j]? =some q->Φ[j]? =some ψ->ψ.p w' (a.tmps.getD q.d undef))->gn P r ops Q i p.d a w' (λv cE=>φ.p cE v/\Fr [] w' cE))
  (aj0: ∀a w',Fr [] w w'->a.tmps.size=N->a.defers=ds->(∀(j:Nat),j_.contains j=true-> ∀(q:cZ) (ψ:SP),ba[j]? =some q->Φ[j]? =some ψ->ψ.p w' (a.tmps.getD q.d undef))->gn P r ops Q ba.length dK a w' (λv cE=>Ψ w' cE v))
  (ajZ:ME ba keep 0 λi p k=>match k with
   |none=>cl.contains i=true
   |some v=> ∀w1 w2 u,Fr [] w w1->Ψ w1 w2 u-> ∀a w',Fr [] w2 w'->a.tmps.size=N->a.defers=ds->(∀s,p.base.contains s=true-> ∀v,E.get s=some v->a.tmps.getD s undef=v)->gn P r ops Q i p.d a w' (λx cE=>x=v/\Fr [] w' cE))
  (nB: ∀w1 w2 u a w',Fr [] w w1->Ψ w1 w2 u->Fr [] w2 w'->a.tmps.size=N->a.defers=ds->(∀s v,E.get s=some v->((ba++[cZ.mk dK j_ []]).any λp=>Nat.beq p.d s)=false->a.tmps.getD s undef=v)->
   (∀(i:Nat) (p:cZ) (v:Value),ba[i]? =some p->keep[i]? =some (some v)->a.tmps.getD p.d undef=v)->a.tmps.getD dK undef=u->
   wpOpsIn (fw r) 0 P ops Q (List.range' (ba++[cZ.mk dK j_ []]).length (ops.size-(ba++[cZ.mk dK j_ []]).length)) a w'):
  WC P r N (.region id ops true) Q E ds w:=by
 have k7:(ba++[cZ.mk dK j_ []]:List cZ).length=ba.length+1:=by simp
 have gJ:(List.zipWith cK Φ keep).length=ba.length:=by simp[Dl,iT]
 have CY: ∀(j:Nat) ψ,(List.zipWith cK Φ keep++[rz w Ψ])[j]? =some ψ->(j<ba.length/\ ∃φ k,Φ[j]? =some φ/\keep[j]? =some k/\ψ=cK φ k)\/(j=ba.length/\ψ=rz w Ψ):=by
  intro j ψ h
  rcases Nat.lt_or_ge j ba.length with hj|hj
  ·left
   rw[List.getElem?_append_left (by omega)] at h
   have h1:j<Φ.length:=by omega
   have h2:j<keep.length:=by omega
   refine⟨hj,Φ[j],keep[j],List.getElem?_eq_getElem h1,List.getElem?_eq_getElem h2,?_⟩
   rw[List.getElem?_zipWith,List.getElem?_eq_getElem h1,List.getElem?_eq_getElem h2] at h
   exact(Option.some.inj h).symm
  ·right
   rw[List.getElem?_append_right (by omega),gJ] at h
   rcases Nat.eq_or_lt_of_le hj with e|aH
   ·subst e
    simp only[Nat.sub_self,List.getElem?_cons_zero,Option.some.injEq] at h
    exact⟨rfl,h.symm⟩
   ·rw[List.getElem?_eq_none (by simp;omega)] at h;cases h
 have ajP: ∀(j:Nat) p,(ba++[cZ.mk dK j_ []])[j]? =some p->j<ba.length->ba[j]? =some p:=λj p h hj=>by rwa [List.getElem?_append_left hj] at h
 refine apM hm (ba++[cZ.mk dK j_ []]) (List.zipWith cK Φ keep++[rz w Ψ]) ba.length cl (λph w'=>bif ph then ∃w1 w2 u,Fr [] w w1/\Ψ w1 w2 u/\Fr [] w2 w' else Fr [] w w') hlen nN (by simp[Dl,iT]) jS (by omega) ?_ (Fr.drew [] w) ?_ ?_
 ·intro o ho x hx
  rw[ho] at bS
  simpa using List.all_eq_true.1 bS x hx
 ·intro i p φ hp fU ph a w' mC hI hN hd hb hr
  rcases CY i φ fU with⟨hi,φ0,k0,h1,h2,rfl⟩|⟨rfl,rfl⟩
  ·have lZ:=ajP i p hp hi
   have aV:Nat.beq i ba.length=false:=by
    cases cG:Nat.beq i ba.length with
    |false=>rfl
    |true=>have:=Nat.eq_of_beq_eq_true cG;omega
   rw[aV,Bool.or_false]
   cases ph with
   |false=>
    have hI:Fr [] w w':=hI
    refine gn.weaken (RL qN i p φ0 lZ h1 a w' hI hN hd hb (λj hj q ψ hq gi=>?_)) λv cE hh=>⟨hh.1,hI.trans hh.2,λj ψ u _ gi hu=>?_⟩
    ·have iy:=(List.getElem?_eq_some_iff.1 hq).1
     have hz:(List.zipWith cK Φ keep++[rz w Ψ])[j]? =some (cK ψ (keep[j]'(by omega))):=by
      rw[List.getElem?_append_left (by omega),List.getElem?_zipWith,gi,List.getElem?_eq_getElem (by omega)]
     exact hr j hj q _ (by rw[List.getElem?_append_left iy];exact hq) hz
    ·rcases CY j ψ gi with⟨_,EF,k2,_,_,rfl⟩|⟨_,rfl⟩
     ·exact EF.st hh.2 hu
     ·intro hh;cases hh
   |true=>
    obtain⟨w1,w2,u,oU,qR,sJ⟩:=hI
    have h3:=Zn ajZ i p k0 lZ h2
    rw[Nat.zero_add] at h3
    cases k0 with
    |none=>
     have:cl.contains i=true:=h3
     exact absurd (by simpa using this) (mC rfl).2
    |some v=>
     refine gn.weaken (h3 w1 w2 u oU qR a w' sJ hN hd hb) λx cE hh=>⟨?_,⟨w1,w2,u,oU,qR,sJ.trans hh.2⟩,λj ψ y _ gi hy=>?_⟩
     ·intro v' iD
      cases iD
      exact hh.1
     ·rcases CY j ψ gi with⟨_,EF,k2,_,_,rfl⟩|⟨_,rfl⟩
      ·exact hy
      ·intro _
       obtain⟨x1,x2,g1,g2,g3⟩:=hy rfl
       exact⟨x1,x2,g1,g2,g3.trans hh.2⟩
  ·cases ph with
   |true=>exact absurd rfl (mC rfl).1
   |false=>
    have lZ:p=⟨dK,j_,[]⟩:=by
     rw[List.getElem?_append_right (Nat.le_refl _),Nat.sub_self] at hp
     exact(Option.some.inj hp).symm
    subst lZ
    have hI:Fr [] w w':=hI
    rw[Nat.beq_refl,Bool.or_true]
    refine gn.weaken (aj0 a w' hI hN hd (λj hj q ψ hq gi=>?_)) λv cE qR=>⟨λ_=>⟨w',cE,hI,qR,Fr.refl [] _⟩,⟨w',cE,v,hI,qR,Fr.refl [] _⟩,λj ψ y lU gi hy=>?_⟩
    ·have iy:=(List.getElem?_eq_some_iff.1 hq).1
     have hz:(List.zipWith cK Φ keep++[rz w Ψ])[j]? =some (cK ψ (keep[j]'(by omega))):=by
      rw[List.getElem?_append_left (by omega),List.getElem?_zipWith,gi,List.getElem?_eq_getElem (by omega)]
     exact hr j hj q _ (by rw[List.getElem?_append_left iy];exact hq) hz
    ·rcases CY j ψ gi with⟨_,EF,k2,h1,h2,rfl⟩|⟨e,_⟩
     ·intro v' iD
      subst iD
      exact KV kY j EF v' h1 h2 _ _ hy
     ·exact absurd e lU
 ·intro a w' hI hN hd hb hr
  obtain⟨w1,w2,oU,qR,sJ⟩:=hr ba.length ⟨dK,j_,[]⟩ (rz w Ψ) (by simp) (by rw[List.getElem?_append_right (by omega),gJ];simp) rfl
  refine nB w1 w2 _ a w' oU qR sJ hN hd hb (λi p v hp hv=>?_) rfl
  have sM:=(List.getElem?_eq_some_iff.1 hp).1
  have hz:(List.zipWith cK Φ keep++[rz w Ψ])[i]? =some (cK (Φ[i]'(by omega)) (some v)):=by
   rw[List.getElem?_append_left (by omega),List.getElem?_zipWith,hv,List.getElem?_eq_getElem (by omega)]
  exact hr i p _ (by rw[List.getElem?_append_left sM];exact hp) hz v rfl
theorem alb {Θ:dm} {O:List Nat} {w:World} {i d:Nat} {o:Oper} {E:Env} (aO:Θ.ok P) {a:Act} (ha:Has N E ds a) (ho:ops[i]? =some o) (hw:want N ops E o.guard=some true) (hd:o.dst=some d) {t:Nat} {x y:Operand} {ti te:TI}
  (ak:o.op= .call { callee:= .builtin .append,args:= #[x,y],argTypes:= #[t,t] }) (ht:Θ.get t=some ti) (h5:ti.tag=5) (cd:Θ.get ti.e=some te) {α:Type} {T:Ty α} (hn:T.n=te.size) (k8:Nat.blt 0 te.size=true) (hz:te.zero.cells.size=te.size) (cL:Nat.ble 1 te.bytes=true) {e nb:Nat} (he:ti.e=e) (wX:te.bytes=nb)
  {w0:World} {v u:Value} {xs ys zs:List α} (hx:ev E x=some v) (hy:ev E y=some u) (hF:Fr [] w0 w) (hO:OB O w) (hv:Own T e w0.heap.size O w v xs) (hu:T.slice.is O w u ys) (hlen:app nb xs ys=some zs):
  gn P r ops Q i d a w (λv' w'=> ∃O',e9 T e w0.heap.size O w v zs O' w' v'):=by
 subst he wX
 obtain⟨hle,rfl⟩:=BF hlen
 obtain⟨v',w',O',bC,iu⟩:=Mk (P:=P) (ty:=o.type) aO ht h5 cd hn (Nat.le_of_ble_eq_true k8) hz hF.size hO hv hu hle (Nat.le_of_ble_eq_true cL)
 refine qY ho (j5 ha hw) hd (b:=true) (v:=v') (w':=w') ?_ ⟨O',iu⟩
 simp only[if_true]
 refine⟨by rw[ak];simp,?_⟩
 simp only[execOp,ak,Sem.run_bind,resolve,Sem.run_pure,Result.andThen_ok,invoke,builtin,List.map_toArray,List.map_cons,List.map_nil,ha.eval hx,ha.eval hy,bC]
end
end Go.Dc
end
section
namespace Go.Proofs.YtdhaaaeffhaadaaGreatDoor
open Go.RowKit Go.Dc Go.Vx
set_option maxRecDepth 100000
theorem aia:fI Tryz.prog 38:=dW bg Tryz.func38 rfl
theorem aib:fI Tryz.prog 39:=dW bg Tryz.func39 rfl
theorem aic:fI Tryz.prog 49:=dW bg Tryz.func49 rfl
theorem Ht:fI Tryz.prog 75:=dW bg Tryz.func75 rfl
theorem Hu:fI Tryz.prog 76:=dW bg Tryz.func76 rfl
theorem aid:fI Tryz.prog 78:=dW bg Tryz.func78 rfl
theorem aie:fI Tryz.prog 99:=dW bg Tryz.func99 rfl
theorem ah7:fI Tryz.prog 118:=dW bg Tryz.func118 rfl
theorem ah8:fI Tryz.prog 119:=dW bg Tryz.func119 rfl
theorem ah9:fI Tryz.prog 120:=dW bg Tryz.func120 rfl
theorem Sq:fI Tryz.prog 121:=dW bg Tryz.func121 rfl
theorem ah_:fI Tryz.prog 167:=dW bg Tryz.func167 rfl
theorem ah':fI Tryz.prog 169:=dW bg Tryz.func169 rfl
theorem an7 {O:List Nat} {w:World} {v:Value} {x:an}:lA.is O w v x↔ ∃s1,v= .agg #[.int .u64 x.ae,s1]/\(Ty.slice (Ty.int .u64)).is O w s1 x.a_:=by
 constructor
 ·rintro ⟨cs,⟨_,_,rfl,rfl,q1⟩,rfl⟩
  obtain⟨z1,rfl,y1⟩:=Mv rfl q1;exact⟨z1,rfl,y1⟩
 ·rintro ⟨z1,rfl,y1⟩
  exact⟨[.int .u64 x.ae,z1],⟨[.int .u64 x.ae],[z1],rfl,rfl,(ri rfl y1)⟩,rfl⟩
theorem ma {O:List Nat} {w:World} {v:Value} {x:bh}:ja.is O w v x↔ ∃s0 s1,v= .agg #[s0,s1]/\(Ty.slice eP).is O w s0 x.aK/\(Ty.slice lA).is O w s1 x.ay:=by
 constructor
 ·rintro ⟨cs,⟨_,_,rfl,q1,q2⟩,rfl⟩
  obtain⟨z1,rfl,y1⟩:=Mv rfl q1;obtain⟨z2,rfl,y2⟩:=Mv rfl q2;exact⟨z1,z2,rfl,y1,y2⟩
 ·rintro ⟨z1,z2,rfl,y1,y2⟩
  exact⟨[z1,z2],⟨[z1],[z2],rfl,(ri rfl y1),(ri rfl y2)⟩,rfl⟩
theorem an8 {O:List Nat} {w:World} {cs:List Value} {x:aw} (h:eP.rep O w cs x):cs=[.int .u64 x.cB,.int .u64 x.ae]:=by
 obtain⟨_,_,rfl,rfl,rfl⟩:=h
 exact rfl
noncomputable def DH:Pl:=⟨λ_=>none,none⟩
noncomputable def UZ (sh:Sh) (x:bh):Option Int:=oL sh x
theorem aj9 {O:List Nat} {w:World} (hO:OB O w) (hG:dq KK O w) {v0:Value} {x0:bh} (h0:ja.is O w v0 x0) {r:Int} (h:UZ shut x0=some r):Calls Tryz.prog 49 #[v0] w (jI (tF (Ty.int .i64)) O w r):=by
 have hc:fY KK Tryz.prog 49 [KK.aa 34 x0] (.ret (.s (KK.aa 40 r))):=Eg (G:=EJ) Oj (kf:=λ{R} (k:Rs SS->Option R)=>(λr=>k (.ret (.s (KK.aa 40 r))))) (λk=>Zq x0 k) rfl (Iu h) λk=>rfl
 refine(hc.2 DH O w [v0] ⟨v0,[],rfl,kJ er (t:=34) rfl rfl h0,rfl⟩ hO hG).mono ?_
 rintro e w' ⟨⟨v,rfl,h1,_⟩,hF⟩
 cases h1
 exact⟨_,rfl,ey.2 rfl,hF⟩
noncomputable def sX (p:Int):Bool:=bif decide (p>=1) then decide (p<4294967296) else false
theorem akk (p:Int):(rW shut p).val=some (sX p):=by
 unfold rW sX
 cases h:decide (p>=1)<;>simp
theorem akd {O:List Nat} {w:World} (hO:OB O w) (hG:dq KK O w) {v0:Value} {x0:Int} (h0:(Ty.int .u64).is O w v0 x0):Calls Tryz.prog 99 #[v0] w (jI (tF Ty.bool) O w (sX x0)):=by
 have hc:fY KK Tryz.prog 99 [KK.aa 28 x0] (.ret (.s (KK.aa 4 (sX x0)))):=Eg (G:=uC shut) (ab.all FL rfl) (kf:=λ{R} (k:Rs SS->Option R)=>(λr=>k (.ret (.s (KK.aa 4 r))))) (λk=>Zr x0 k) rfl (akk x0) λk=>rfl
 refine(hc.2 DH O w [v0] ⟨v0,[],rfl,kJ er (t:=28) rfl rfl h0,rfl⟩ hO hG).mono ?_
 rintro e w' ⟨⟨v,rfl,h1,_⟩,hF⟩
 cases h1
 exact⟨_,rfl,m5.2 rfl,hF⟩
noncomputable def U0 (sh:Sh) (l:List an) (pid:Int):Option (Int×Bool):=SH sh l pid
theorem akc {O:List Nat} {w:World} (hO:OB O w) (hG:dq KK O w) {v0:Value} {x0:List an} (h0:(Ty.slice lA).is O w v0 x0) {pid:Int} {r:Int×Bool} (h:U0 shut x0 pid=some r):Calls Tryz.prog 167 #[v0,.int .u64 pid,.func (.func 168) #[] #[]] w (jI (XZ (Ty.int .i64) Ty.bool) O w r):=by
 refine((afB x0 pid h).2 DH O w [v0,.int .u64 pid,.func (.func 168) #[] #[]] ⟨v0,_,rfl,kJ er (t:=32) rfl rfl h0,_,_,rfl,⟨rfl,rfl⟩,_,_,rfl,⟨rfl,rfl⟩,rfl⟩ hO hG).mono ?_
 rintro e w' ⟨⟨v,rfl,xs,rfl,a,_,rfl,⟨h1,_⟩,b,_,rfl,⟨h2,_⟩,h3⟩,hF⟩
 cases h1
 cases h2
 rw[show _=[] from h3]
 exact⟨_,rfl,⟨_,_,rfl,ey.2 rfl,m5.2 rfl⟩,hF⟩
noncomputable def Za (x:List Int):Option (List Int):=app 8 [] x
theorem anQ {O:List Nat} {w:World} (hO:OB O w) (_:w.heap.size<=w.heap.size) {v0:Value} {x0:List Int} (h0:(Ty.slice (Ty.int .u64)).is O w v0 x0) {r:List Int} (h:Za x0=some r):Calls Tryz.prog 39 #[v0] w (gE (Ty.int .u64) 28 w.heap.size O w (.slice none 0 0) r):=R' hO h0 h
noncomputable def Zb (x:List aw):Option (List aw):=app 16 [] x
theorem anP {O:List Nat} {w:World} (hO:OB O w) (_:w.heap.size<=w.heap.size) {v0:Value} {x0:List aw} (h0:(Ty.slice eP).is O w v0 x0) {r:List aw} (h:Zb x0=some r):Calls Tryz.prog 38 #[v0] w (gE eP 93 w.heap.size O w (.slice none 0 0) r):=R_ hO h0 h
end Go.Proofs.YtdhaaaeffhaadaaGreatDoor
end
section
namespace Go.Proofs.YtdhaaaeffhaadaaGreatDoor
open Go.RowKit Go.Dc Go.Vx
abbrev TR:Ty (Int×Value):=pF .u64
abbrev TW:Ty Int:=Ty.int .u64
theorem j6:TW.Flat:=λh=>h
noncomputable def bx (z:an):Int×List Int:=(z.ae,z.a_)
structure gS (B:Nat) (O:List Nat) (w:World) (b:Nat) (nv rv:Value) (S:List Nat) (aB:List (Int×Value)) (x:bh):Prop where
 mem:b∈O
 ge:B<=b
 bV:b9 w b 128 [nv,rv]
 ns:Go.Dc.Own eP 93 B O w nv x.aK
 row:Go.Dc.Own TR 82 B O w rv aB
 fo:dP TW 28 B w S aB (x.ay.map bx)
 nd:S.Nodup
 out: ∀g∈S,g∉O
 nb:nv.ownBlock≠some b
 rb:rv.ownBlock≠some b
 dj:Dj nv rv
noncomputable def ot (B:Nat) (O:List Nat) (w:World) (b:Nat) (x:bh):Prop:= ∃nv rv S aB,gS B O w b nv rv S aB x
structure bU (B:Nat) (O:List Nat) (w:World) (O':List Nat) (w':World):Prop where
 tr:Tr O w O' w'
 ob:OB O' w'
 sub:Sub O O'
 below: ∀k,k<B->w'.heap[k]? =w.heap[k]?
theorem bU.refl {B:Nat} {O:List Nat} {w:World} (h:OB O w):bU B O w O w:=⟨Tr.refl _ _,h,Sub.refl _,λ_ _=>rfl⟩
theorem bU.trans {B:Nat} {O O' uY:List Nat} {w w' cE:World} (h:bU B O w O' w') (k:bU B O' w' uY cE):bU B O w uY cE:=
 ⟨h.tr.trans k.tr,k.ob,h.sub.trans k.sub,λi hi=>(k.below i hi).trans (h.below i hi)⟩
theorem bU.fr {O O':List Nat} {w w':World} (h:bU w.heap.size O w O' w'):Fr [] w w':=⟨h.tr.os,h.tr.tape,h.tr.output,h.tr.size,λk hk _=>h.below k hk⟩
theorem bU.td {B:Nat} {O:List Nat} {w w':World} (hO:OB O w) (hB:B<=w.heap.size) (h:Fr [] w w'):bU B O w O w':=
 ⟨h.fp,h.ob hO,Sub.refl _,λk hk=>h.block k (Nat.lt_of_lt_of_le hk hB) (by simp)⟩
theorem bU.mN {B:Nat} {O:List Nat} {w w':World} {b t:Nat} {cs:List Value} (hB:B<=w.heap.size) (h:ou O w b t cs w'):bU B O w (b::O) w':=
 ⟨h.tr,h.ob,Sub.cons (Sub.refl _) _,λk hk=>h.fr.block k (Nat.lt_of_lt_of_le hk hB) (by simp)⟩
theorem bU.LC {α:Type} {T:Ty α} {e B:Nat} {O O':List Nat} {w w':World} {v v':Value} {xs zs:List α} (hB:B<=w.heap.size) (ho:Go.Dc.Own T e B O w v xs) (h:e9 T e B O w v zs O' w' v'):bU B O w O' w':=
 ⟨h.tr,h.ob,h.sub,λk hk=>h.fr k (Nat.lt_of_lt_of_le hk hB) λe=>by have:=(ho.lt k e).1;omega⟩
theorem bU.jE {B b:Nat} {O:List Nat} {w w':World} (hO:OB O w) (hb:b∈O) (hB:B<=b) (h:Fr [b] w w'):bU B O w O w':=
 ⟨h.tr (kI hb),h.ob hO,Sub.refl _,λk hk=>h.block k (by have:=hO b hb;omega) (by simp;omega)⟩
theorem bU.ak0 {α:Type} {T:Ty α} {e B:Nat} {O:List Nat} {w w':World} {v:Value} {xs:List α} (hO:OB O w) (hB:B<=w.heap.size) (hv:dL T e w.heap.size w' v xs) (h:Fr [] w w'):bU B O w (v.ownBlock.toList++O) w':=
 ⟨⟨h.os,h.tape,h.output,h.size,λk hk ho=>⟨λhm=>by
  rcases List.mem_append.1 hm with hm|hm
  ·have:=(hv.lt k (by simpa using hm)).1;omega
  ·exact ho hm,h.block k hk (by simp)⟩⟩,λk hk=>by
  rcases List.mem_append.1 hk with hk|hk
  ·exact(hv.lt k (by simpa using hk)).2
  ·exact Nat.lt_of_lt_of_le (hO k hk) h.size,λk hk=>List.mem_append_right _ hk,λk hk=>h.block k (Nat.lt_of_lt_of_le hk hB) (by simp)⟩
section
variable {B:Nat} {O O':List Nat} {w w' cE:World} {b:Nat} {nv rv:Value} {S:List Nat} {aB:List (Int×Value)} {x:bh}
theorem gS.cD (h:gS B O w b nv rv S aB x) (hf:Fr [] w w'):gS B O w' b nv rv S aB x:=
 ⟨h.mem,h.ge,h.bV.cD hf,h.ns.cD hf,h.row.cD hf,h.fo.cD j6 hf,h.nd,h.out,h.nb,h.rb,h.dj⟩
theorem gS.new (h:gS B O w b nv rv S aB x) {b' t:Nat} {cs:List Value} (hn:ou O w b' t cs w'):gS B (b'::O) w' b nv rv S aB x:=
 ⟨List.mem_cons_of_mem _ h.mem,h.ge,h.bV.cD hn.fr,h.ns.new hn,h.row.new hn,h.fo.cD j6 hn.fr,h.nd,λg hg hm=>by
  rcases List.mem_cons.1 hm with rfl|hm
  ·have:=(h.fo.lt g hg).2;have:=hn.ge;omega
  ·exact h.out g hg hm,h.nb,h.rb,h.dj⟩
theorem gS.st (h:gS B O w b nv rv S aB x) {b':Nat} (hb:b'∈O) (hf:Fr [b'] w w') (h1:b'≠b) (h2:nv.ownBlock≠some b') (h3:rv.ownBlock≠some b'):gS B O w' b nv rv S aB x:=
 ⟨h.mem,h.ge,h.bV.fr hf (by simp;exact λe=>h1 e.symm),h.ns.st hf hb h2,h.row.st hf hb h3,h.fo.keep j6 λg hg=>hf.block g (h.fo.lt g hg).2 (by simp;rintro rfl;exact h.out _ hg hb),h.nd,h.out,h.nb,h.rb,h.dj⟩
theorem e9.later {α:Type} {T:Ty α} {e B:Nat} {O O':List Nat} {w w2 w3:World} {v v':Value} {zs:List α} (ap:e9 T e B O w v zs O' w2 v') (f:Fr [] w2 w3):e9 T e B O w v zs O' w3 v':=
 ⟨ap.own.cD f,ap.tr.trans f.fp,f.ob ap.ob,ap.sub,λk hk aV=>(f.block k (Nat.lt_of_lt_of_le hk ap.tr.size) (by simp)).trans (ap.fr k hk aV),ap.ne⟩
theorem gS.boxes (h:gS B O w b nv rv S aB x) {rn:Value} {S':List Nat} {q9:List (Int×Value)} {x':bh} (ap:e9 TR 82 B O w rv q9 O' w' rn) (hb:b9 cE b 128 [nv,rn]) (hf:Fr [b] w' cE)
  (gI:dP TW 28 B w S' q9 (x'.ay.map bx)) (o_:S'.Nodup) (nL: ∀g∈S',g∉O) (hn:x'.aK=x.aK):gS B O' cE b nv rn S' q9 x':=by
 have hm:=ap.sub _ h.mem
 have xc:=ap.ne _ h.bV.lt h.rb
 have lX:=ap.other h.ns λg hg=>h.dj g hg
 refine⟨hm,h.ge,hb,by rw[hn];exact lX.st hf hm h.nb,ap.own.st hf hm xc,?_,o_,λg hg=>(ap.tr.keep g (gI.lt g hg).2 (nL g hg)).1,h.nb,xc,λg hg=>ap.ne _ (h.ns.lt g hg).2 (h.dj g hg)⟩
 refine gI.keep j6 λg hg=>?_
 have h1:=(ap.tr.keep g (gI.lt g hg).2 (nL g hg)).2
 rw[hf.block g (Nat.lt_of_lt_of_le (gI.lt g hg).2 ap.tr.size) (by simp;rintro rfl;exact nL _ hg h.mem),h1]
end
noncomputable def Dn:List an->List an->Option (List an)
 |[],acc=>some acc
 |z::r,acc=>(Za z.a_).bind λws=>(app 32 acc [an.mk z.ae ws]).bind λm3=>Dn r m3
noncomputable def KC (fuel:Sh) (x:bh):Option (bh×Int):=
 (UZ fuel x).bind λe=>bif (!(e==0)) then some (bh.mk [] [],e) else(Zb x.aK).bind λns=>(Dn x.ay []).bind λbs=>some (bh.mk ns bs,0)
noncomputable def abN (O:List Nat) (w:World) (r:bh×Int) (en:Ending) (w':World):Prop:=
 ∃pv O',en= .returned (.tuple #[pv,.int .i64 r.2])/\bU w.heap.size O w O' w'/\(r.2=0-> ∃b,pv= .pointer (some ⟨b,0,none⟩)/\ot w.heap.size O' w' b r.1)
theorem RP {aB:List (Int×Value)} {acc m3:List an} {z:an} {p:Int×Value} (hl:aB.length=acc.length) (h:app 32 acc [z]=some m3):app 32 aB [p]=some (aB++[p])/\m3=acc++[z]:=by
 obtain⟨h1,h2⟩:=BF h
 refine⟨?_,h2⟩
 unfold app
 rw[if_pos (by rw[hl];exact h1)]
noncomputable def SP.agw (p:Int) (B:Nat) (ws:List Int):SP:=⟨λw u=> ∃v,u= .agg #[.int .u64 p,v]/\dL TW 28 B w v ws,λhf ⟨v,h,k⟩=>⟨v,h,k.cD j6 hf⟩⟩
noncomputable def SP.agr (p:Int) (B:Nat) (O:List Nat) (ws:List Int):SP:=⟨λw u=> ∃v,TR.slice.is O w u [(p,v)]/\dL TW 28 B w v ws,λhf ⟨v,h,k⟩=>⟨v,h.tr hf.fp,k.cD j6 hf⟩⟩
theorem aiw {O:List Nat} {w1 w:World} {v:Value} {ws:List Int} (h:dL TW 28 w1.heap.size w v ws) (hO:OB O w1): ∀g,v.ownBlock=some g->g∉O:=λg hg hm=>by
 have:=(h.lt g hg).1;have:=hO g hm;omega
set_option maxRecDepth 100000 in
set_option maxHeartbeats 4000000 in
theorem ake {O:List Nat} {w:World} (hO:OB O w) (hG:dq KK [] w) {v0:Value} {x0:bh} (h0:ja.is [] w v0 x0) {r:bh×Int} (h:KC shut x0=some r):Calls Tryz.prog 118 #[v0] w (abN O w r):=by
 obtain⟨eG,eH,rfl,vS,sA⟩:=ma.1 h0
 have jO:bU w.heap.size O w O w:=bU.refl hO
 refine im (args:=[(.agg #[eG,eH])]) (N:=45) Tryz.func118 rfl rfl rfl ?_
 unfold KC at h
 refine aL ?_
 refine aT (l:=[0,1,2]) rfl ?_
 refine rB rfl rfl rfl rfl rfl rfl [eG,eH] rfl hO (λb1 w1 n1=>?_)
 have cL:=n1.bV
 have d_:=jO.trans (bU.mN jO.tr.size n1)
 refine aD ai [1,2] [(1,(.pointer (some ⟨b1,0,none⟩)))] rfl ⟨rfl,trivial⟩ ?_
 refine aQ ?_
 refine aM ?_
 refine aL ?_
 refine aL ?_
 refine aT (l:=[0,1,2]) rfl ?_
 refine eZ ai rfl rfl rfl rfl rfl rfl rfl cL [eG,eH] rfl rfl (.inl rfl) (.agg #[eG,eH]) rfl ?_
 obtain⟨e,he,h⟩:=bind_some h
 refine EA rfl rfl rfl rfl rfl aic rfl (aj9 (xC _) (hG.tr d_.fr.fp) (h0.tr d_.fr.fp) he) (λv2 w2 g2 f2=>?_)
 obtain rfl:=ey.1 g2
 have c_:=d_.trans (bU.td d_.ob d_.tr.size f2)
 have cL:=cL.cD f2
 refine aD ai [2] [(1,(.pointer (some ⟨b1,0,none⟩))),(4,.int .i64 e)] rfl ⟨rfl,rfl,trivial⟩ ?_
 refine aQ ?_
 refine aM ?_
 refine aL ?_
 refine aT (l:=[0,1]) rfl ?_
 refine aD ai [0,1] [(1,(.pointer (some ⟨b1,0,none⟩))),(4,.int .i64 e),(11,.bool (!(e==0)))] rfl ⟨rfl,rfl,rfl,trivial⟩ ?_
 refine aQ ?_
 refine aM ?_
 rcases mo h with⟨hc,h⟩|⟨hc,h⟩
 ·refine iK rfl hc ?_
  refine aL ?_
  refine aT (l:=[0,1,2]) rfl ?_
  refine aD ai [0,1,2] [(2,(.pointer none)),(3,.int .i64 e)] rfl ⟨rfl,rfl,trivial⟩ ?_
  refine aQ ?_
  refine aM ?_
  refine dJ ?_
  cases h
  exact gm (eI rfl ⟨_,_,rfl,c_,λh0=>by simp at hc;exact absurd h0 hc⟩)
 refine jc rfl hc ?_
 refine eY ?_
 refine aM ?_
 refine aL ?_
 refine aT (l:=[0,1,2,3,4,5,6]) rfl ?_
 refine aD ai [0] [(1,(.pointer (some ⟨b1,0,none⟩))),(13,(.pointer (some ⟨b1,0,none⟩)))] rfl ⟨rfl,rfl,trivial⟩ ?_
 refine eZ ai rfl rfl rfl rfl rfl rfl rfl cL [eG] rfl rfl (.inr rfl) eG rfl ?_
 obtain⟨ns,lX,h⟩:=bind_some h
 refine mT rfl rfl rfl rfl rfl aia rfl (anP (xC _) (Nat.le_refl _) (vS.tr c_.fr.fp) lX) (λ_ w3 hg=>?_)
 obtain⟨nv,rfl,k5,f3⟩:=Tm rfl hg
 refine⟨_,rfl,?_⟩
 have eu:=c_.trans (bU.ak0 c_.ob c_.tr.size k5 f3)
 have k5:=k5.less c_.tr.size
 obtain⟨A3,c3,rfl,wR,wT⟩:=k5.form
 refine aD ai [3,4] [(1,(.pointer (some ⟨b1,0,none⟩))),(17,.agg #[(.slice A3 ns.length c3),.slice none 0 0])] rfl ⟨rfl,rfl,trivial⟩ ?_
 have cL:=cL.cD f3
 refine rB rfl rfl rfl rfl rfl rfl [(.slice A3 ns.length c3),.slice none 0 0] rfl eu.ob (λb w4 n4=>?_)
 generalize aqp:(Value.slice A3 ns.length c3)=nv at*
 have hH:gS w.heap.size (b::(nv.ownBlock.toList++(b1::O))) w4 b nv (.slice none 0 0) [] [] (bh.mk ns []):=
  ⟨List.mem_cons_self,Nat.le_trans eu.tr.size n4.ge,n4.bV,(k5.own (λh=>h) λg hg=>List.mem_append_left _ (by rw[hg];simp)).new n4,Own.kH,rfl,List.nodup_nil,λg hg=>(by cases hg),λe=>by
   have:=(k5.lt b e).2;have:=n4.ge;omega,(akS _),(afE _)⟩
 have c9:=eu.trans (bU.mN eu.tr.size n4)
 have cL:=cL.cD n4.fr
 refine aD ai [6] [(1,(.pointer (some ⟨b1,0,none⟩))),(5,(.pointer (some ⟨b,0,none⟩)))] rfl ⟨rfl,rfl,trivial⟩ ?_
 refine aQ ?_
 refine aM ?_
 refine aL ?_
 refine aL ?_
 refine aT (l:=[0,1,2,3]) rfl ?_
 refine aD ai [0] [(5,(.pointer (some ⟨b,0,none⟩))),(19,(.pointer (some ⟨b1,1,none⟩)))] rfl ⟨rfl,rfl,trivial⟩ ?_
 refine eZ ai rfl rfl rfl rfl rfl rfl rfl cL [eH] rfl rfl (.inr rfl) eH rfl ?_
 obtain⟨A5,c5,rfl,ajD,ajF⟩:=fm sA
 refine aD ai [2,3] [(5,(.pointer (some ⟨b,0,none⟩))),(20,.slice A5 x0.ay.length c5),(21,.int .i64 (x0.ay.length:Int)),(22,.int .i64 ((0:Nat):Int))] rfl ⟨rfl,rfl,rfl,rfl,trivial⟩ ?_
 refine aQ ?_
 refine aM ?_
 obtain⟨bs,eh,h⟩:=bind_some h
 refine rA ?_
 refine MU (λm E W=> ∃(rest:List an) (i:Nat) (O':List Nat) (acc:List an) (rv:Value) (S:List Nat) (aB:List (Int×Value)),rest.length=m/\x0.ay.drop i=rest/\E=[(5,(.pointer (some ⟨b,0,none⟩))),(20,.slice A5 x0.ay.length c5),(21,.int .i64 (x0.ay.length:Int)),(22,.int .i64 (i:Int))]/\bU w.heap.size O w O' W/\gS w.heap.size O' W b nv rv S aB (bh.mk ns acc)/\Dn rest acc=some bs) _
  [(5,(.pointer (some ⟨b,0,none⟩))),(20,.slice A5 x0.ay.length c5),(21,.int .i64 (x0.ay.length:Int)),(22,.int .i64 ((0:Nat):Int))] ⟨rfl,rfl,rfl,rfl,trivial⟩ ⟨x0.ay,0,_,[],_,[],[],rfl,rfl,rfl,c9,hH,eh⟩ ?_
 rintro m E W ⟨rest,i,O5,acc,rv,S,aB,rfl,C5,rfl,jf,hH,eh⟩
 rcases rest with _|⟨z,rest⟩
 ·have hl:=drop_nil C5
  have hc:(decide ((i:Int)<(x0.ay.length:Int)))=false:=decide_eq_false (by omega)
  refine aL ?_
  refine aT (l:=[0]) rfl ?_
  refine aD ai [0] [(5,(.pointer (some ⟨b,0,none⟩))),(23,.bool (decide ((i:Int)<(x0.ay.length:Int))))] rfl ⟨rfl,rfl,trivial⟩ ?_
  refine aQ ?_
  refine aM ?_
  refine aL ?_
  refine jc rfl hc ?_
  refine MT ?_
  refine tN (tN (M3 (aM ?_)))
  refine aL ?_
  refine aT (l:=[0,1,2]) rfl ?_
  refine aD ai [0,1,2] [(2,(.pointer (some ⟨b,0,none⟩))),(3,.int .i64 0)] rfl ⟨rfl,rfl,trivial⟩ ?_
  refine aQ ?_
  refine aM ?_
  refine dJ ?_
  cases eh
  cases h
  exact eI rfl ⟨_,_,rfl,jf,λ_=>⟨b,rfl,_,_,_,_,hH⟩⟩
 obtain⟨hl,hg,C5⟩:=drop_cons C5
 have hc:(decide ((i:Int)<(x0.ay.length:Int)))=true:=decide_eq_true (by omega)
 refine aL ?_
 refine aT (l:=[0]) rfl ?_
 refine aD ai [0] [(5,(.pointer (some ⟨b,0,none⟩))),(20,.slice A5 x0.ay.length c5),(21,.int .i64 (x0.ay.length:Int)),(22,.int .i64 (i:Int)),(23,.bool (decide ((i:Int)<(x0.ay.length:Int))))] rfl ⟨rfl,rfl,rfl,rfl,rfl,trivial⟩ ?_
 refine aQ ?_
 refine aM ?_
 refine aL ?_
 refine iK rfl hc ?_
 refine eY ?_
 refine aM ?_
 refine aL ?_
 refine rA ?_
 refine aL ?_
 refine aT (l:=[0,1,2,3]) rfl ?_
 refine M0 ai rfl rfl rfl rfl rfl rfl rfl rfl rfl rfl sA rfl (Int.natCast_nonneg _) (by rw[Int.toNat_natCast];exact hg) (λp6 w_=>?_)
 refine ZY ai rfl rfl rfl rfl rfl rfl rfl w_ jf.fr rfl rfl (λv6 xf=>?_)
 obtain⟨vw,rfl,UT⟩:=an7.1 xf
 obtain⟨Aw,cw,rfl,aqf,aqm⟩:=fm UT
 refine yk ai rfl rfl rfl rfl rfl rfl [(.int .u64 0),(.slice none 0 0)] rfl jf.ob (λb7 w7 n7=>?_)
 have TG:=hH.new n7
 have fz:=jf.trans (bU.mN jf.tr.size n7)
 have Lh:b7≠b:=by have:=hH.bV.lt;have:=n7.ge;omega
 have hq7:=hH.ns.WB n7
 have hr7:=hH.row.WB n7
 refine gD ai rfl rfl rfl rfl rfl rfl rfl n7.bV [(.int .u64 z.ae),(.slice Aw z.a_.length cw)] rfl rfl (by simp[Value.oneCell']) rfl [(.int .u64 z.ae),(.slice Aw z.a_.length cw)] rfl (λw8 oT f8=>?_)
 have sF:=TG.st List.mem_cons_self f8 Lh hq7 hr7
 have js:=fz.trans (bU.jE fz.ob List.mem_cons_self (Nat.le_trans jf.tr.size n7.ge) f8)
 clear TG fz
 refine aQ ?_
 refine aM ?_
 rw[Dn] at eh
 obtain⟨ws,Ks,eh⟩:=bind_some eh
 obtain⟨m3,TZ,eh⟩:=bind_some eh
 obtain⟨Ar,cr,rfl,aqe,aql⟩:=sF.row.form
 have Cj:=js.ob
 have hlen:aB.length=acc.length:=by have:=sF.fo.len;simpa using this
 refine apN mixed [⟨26,[],[5]⟩,⟨27,[],[5]⟩,⟨28,[1],[]⟩,⟨29,[2],[]⟩,⟨30,[3],[]⟩,⟨31,[4],[]⟩,⟨32,[],[7]⟩,⟨33,[6],[]⟩,⟨34,[],[7]⟩,⟨35,[8],[]⟩,⟨36,[9],[]⟩,⟨37,[7,10],[]⟩,⟨38,[11],[]⟩]
  [SP.eq (.pointer (some ⟨b,0,none⟩)),SP.eq (.pointer (some ⟨b,0,none⟩)),SP.eq (.pointer (some ⟨b,0,none⟩)),SP.eq (.pointer (some ⟨b,0,none⟩)),SP.eq (.pointer (some ⟨b,1,none⟩)),SP.eq (.slice Ar aB.length cr),SP.eq (.pointer (some ⟨b7,0,none⟩)),SP.eq (.int .u64 z.ae),SP.eq (.pointer (some ⟨b7,1,none⟩)),SP.eq (.slice Aw z.a_.length cw),SP.mv TW j6 28 w8.heap.size ws,SP.agw z.ae w8.heap.size ws,SP.agr z.ae w8.heap.size (b7::O5) ws] [some (.pointer (some ⟨b,0,none⟩)),none,none,none,none,none,none,none,none,none,none,none,none] 39 [5,12] [1,2,3,4,5,6,7,8,9,10,11,12] (λw1 w2 u=> ∃vn O',dL TW 28 w8.heap.size w1 vn ws/\e9 TR 82 w.heap.size (b7::O5) w1 (.slice Ar aB.length cr) (aB++[(z.ae,vn)]) O' w2 u) rfl rfl rfl rfl rfl rfl ⟨λ_ _ h=>h,trivial⟩ ⟨?_,?_,?_,?_,?_,?_,?_,?_,?_,?_,?_,?_,?_,trivial⟩ ?_ ⟨?_,rfl,rfl,rfl,rfl,rfl,rfl,rfl,rfl,rfl,rfl,rfl,rfl,trivial⟩ ?_
 ·intro a w2 bP hN aX hb hd
  exact dI ai ⟨hN,aX,ct (E:=[(5,(.pointer (some ⟨b,0,none⟩)))]) ⟨hb 5 rfl _ rfl,trivial⟩⟩ rfl rfl rfl rfl rfl
 ·intro a w2 bP hN aX hb hd
  exact dI ai ⟨hN,aX,ct (E:=[(5,(.pointer (some ⟨b,0,none⟩)))]) ⟨hb 5 rfl _ rfl,trivial⟩⟩ rfl rfl rfl rfl rfl
 ·intro a w2 bP hN aX hb hd
  exact dI ai ⟨hN,aX,ct (E:=[(27,(.pointer (some ⟨b,0,none⟩)))]) ⟨(hd 1 rfl _ _ rfl rfl),trivial⟩⟩ rfl rfl rfl rfl rfl
 ·intro a w2 bP hN aX hb hd
  exact dI ai ⟨hN,aX,ct (E:=[(28,(.pointer (some ⟨b,0,none⟩)))]) ⟨(hd 2 rfl _ _ rfl rfl),trivial⟩⟩ rfl rfl rfl rfl rfl
 ·intro a w2 bP hN aX hb hd
  exact dI ai ⟨hN,aX,ct (E:=[(29,(.pointer (some ⟨b,0,none⟩)))]) ⟨(hd 3 rfl _ _ rfl rfl),trivial⟩⟩ rfl rfl rfl rfl rfl
 ·intro a w2 bP hN aX hb hd
  exact tg ai ⟨hN,aX,ct (E:=[(30,(.pointer (some ⟨b,1,none⟩)))]) ⟨(hd 4 rfl _ _ rfl rfl),trivial⟩⟩ rfl rfl rfl rfl rfl rfl (sF.bV.cD bP) [(.slice Ar aB.length cr)] rfl rfl (.inr rfl) (.slice Ar aB.length cr) rfl
 ·intro a w2 bP hN aX hb hd
  exact dI ai ⟨hN,aX,ct (E:=[(7,(.pointer (some ⟨b7,0,none⟩)))]) ⟨hb 7 rfl _ rfl,trivial⟩⟩ rfl rfl rfl rfl rfl
 ·intro a w2 bP hN aX hb hd
  exact tg ai ⟨hN,aX,ct (E:=[(32,(.pointer (some ⟨b7,0,none⟩)))]) ⟨(hd 6 rfl _ _ rfl rfl),trivial⟩⟩ rfl rfl rfl rfl rfl rfl (oT.cD bP) [(.int .u64 z.ae)] rfl rfl (.inr rfl) (.int .u64 z.ae) rfl
 ·intro a w2 bP hN aX hb hd
  exact dI ai ⟨hN,aX,ct (E:=[(7,(.pointer (some ⟨b7,0,none⟩)))]) ⟨hb 7 rfl _ rfl,trivial⟩⟩ rfl rfl rfl rfl rfl
 ·intro a w2 bP hN aX hb hd
  exact tg ai ⟨hN,aX,ct (E:=[(34,(.pointer (some ⟨b7,1,none⟩)))]) ⟨(hd 8 rfl _ _ rfl rfl),trivial⟩⟩ rfl rfl rfl rfl rfl rfl (oT.cD bP) [(.slice Aw z.a_.length cw)] rfl rfl (.inr rfl) (.slice Aw z.a_.length cw) rfl
 ·intro a w2 bP hN aX hb hd
  exact(alc (O:=[]) ⟨hN,aX,ct (E:=[(35,(.slice Aw z.a_.length cw))]) ⟨(hd 9 rfl _ _ rfl rfl),trivial⟩⟩ rfl rfl rfl rfl aib rfl ((anQ (xC _) (Nat.le_refl _) (UT.tr (js.fr.trans bP).fp) Ks).mono λ_ _ hh=>Tm rfl hh)).weaken (λu w3 ⟨hu,hf⟩=>⟨hu.less bP.size,hf⟩)
 ·intro a w2 bP hN aX hb hd
  have d88:dL TW 28 w8.heap.size w2 (a.tmps.getD 36 undef) ws:=hd 10 rfl _ _ rfl rfl
  obtain⟨u,Sl⟩: ∃v,a.tmps.getD 36 undef=v:=⟨_,rfl⟩
  rw[Sl] at d88
  obtain⟨tO,vt,rfl,_,_⟩:=d88.form
  exact(dI ai ⟨hN,aX,ct (E:=[(33,(.int .u64 z.ae)),(36,(.slice tO ws.length vt))]) ⟨(hd 7 rfl _ _ rfl rfl),Sl,trivial⟩⟩ rfl rfl rfl rfl rfl).weaken (λu w3 ⟨hu,hf⟩=>by subst hu;exact⟨⟨_,rfl,d88.cD j6 hf⟩,hf⟩)
 ·intro a w2 bP hN aX hb hd
  have d96: ∃v,(a.tmps.getD 37 undef)= .agg #[.int .u64 z.ae,v]/\dL TW 28 w8.heap.size w2 v ws:=hd 11 rfl _ _ rfl rfl
  obtain⟨v97,e95,Tz⟩:=d96
  obtain⟨tO,vt,rfl,_,_⟩:=Tz.form
  exact(alf ai ⟨hN,aX,ct (E:=[(37,(.agg #[(.int .u64 z.ae),(.slice tO ws.length vt)]))]) ⟨e95,trivial⟩⟩ rfl rfl rfl rfl rfl rfl rfl rfl rfl (T:=TR) (xs:=[(z.ae,(.slice tO ws.length vt))]) (vs:=[(.agg #[(.int .u64 z.ae),(.slice tO ws.length vt)])]) rfl ⟨⟨_,⟨rfl,_,_,_,rfl⟩,rfl⟩,trivial⟩ rfl rfl rfl (bP.ob Cj)).weaken (λu w3 ⟨hu,hf⟩=>⟨⟨_,hu,Tz.cD j6 hf⟩,hf⟩)
 ·intro a w2 bP hN aX hd
  obtain⟨vn,Uc,nO⟩: ∃v,TR.slice.is (b7::O5) w2 (a.tmps.getD 38 undef) [(z.ae,v)]/\dL TW 28 w8.heap.size w2 v ws:=hd 12 rfl _ _ rfl rfl
  obtain⟨v38,Sk⟩: ∃v,a.tmps.getD 38 undef=v:=⟨_,rfl⟩
  rw[Sk] at Uc
  obtain⟨wv,_⟩:=RP (p:=(z.ae,vn)) hlen TZ
  exact gn.weaken (alb ai ⟨hN,aX,ct (E:=[(31,(.slice Ar aB.length cr)),(38,v38)]) ⟨hd 5 rfl _ _ rfl rfl,Sk,trivial⟩⟩ rfl rfl rfl rfl rfl rfl rfl rfl rfl rfl rfl rfl rfl rfl rfl (js.fr.trans bP) (bP.ob Cj) (sF.row.cD bP) Uc wv) (λ_ _ ⟨O',h⟩=>⟨vn,O',nO,h⟩)
 ·rintro w1 w2 u oU ⟨vn,O',nO,ap⟩ a w' bP hN aX hb
  exact dI ai ⟨hN,aX,ct (E:=[(5,(.pointer (some ⟨b,0,none⟩)))]) ⟨hb 5 rfl _ rfl,trivial⟩⟩ rfl rfl rfl rfl rfl
 rintro w9 w10 u a aqH f9 ⟨vn,O10,nO,ap⟩ f10 hN aX C4 iz hu
 have ap:=e9.later ap f10
 have nr:=sF.cD f9
 have TS:=js.trans (bU.td Cj js.tr.size f9)
 obtain⟨wv,rfl⟩:=RP (p:=(z.ae,vn)) hlen TZ
 have TQ:=TS.trans (bU.LC TS.tr.size nr.row ap)
 obtain⟨yq,BH,rfl,aqc,aqj⟩:=ap.own.form
 refine ym (E:=[(5,(.pointer (some ⟨b,0,none⟩))),(20,.slice A5 x0.ay.length c5),(21,.int .i64 (x0.ay.length:Int)),(22,.int .i64 (i:Int)),(26,(.pointer (some ⟨b,0,none⟩))),(39,(.slice yq (aB++[(z.ae,vn)]).length BH))]) (l:=[14,15,16,17]) hN aX ⟨C4 5 _ rfl rfl,C4 20 _ rfl rfl,C4 21 _ rfl rfl,C4 22 _ rfl rfl,(iz 0 _ _ rfl rfl),hu,trivial⟩ rfl ?_
 refine aD ai [14,15,16] [(5,(.pointer (some ⟨b,0,none⟩))),(20,.slice A5 x0.ay.length c5),(21,.int .i64 (x0.ay.length:Int)),(22,.int .i64 (i:Int)),(39,(.slice yq (aB++[(z.ae,vn)]).length BH)),(42,(.pointer (some ⟨b,1,none⟩)))] rfl ⟨rfl,rfl,rfl,rfl,rfl,rfl,trivial⟩ ?_
 have Jq:=ap.bV nr.bV nr.rb
 refine gD ai rfl rfl rfl rfl rfl rfl rfl Jq [(.slice yq (aB++[(z.ae,vn)]).length BH)] rfl rfl (by simp[Value.oneCell']) rfl [nv,(.slice yq (aB++[(z.ae,vn)]).length BH)] rfl (λw11 ajc f11=>?_)
 have ai':=TQ.trans (bU.jE TQ.ob (ap.sub _ nr.mem) nr.ge f11)
 have nL:=aiw nO Cj
 have ai_:=nr.boxes (x':=bh.mk ns (acc++[an.mk z.ae ws])) (S':=S++(vn.ownBlock.toList++[])) ap ajc f11
  (by rw[List.map_append];exact nr.fo.app ⟨[],rfl,rfl,nO.less (Nat.le_trans js.tr.size (Nat.le_refl _)),rfl⟩)
  (by
   rw[List.append_nil]
   refine List.nodup_append.2 ⟨nr.nd,by cases vn.ownBlock<;>simp,λg hg g' ki e=>?_⟩
   subst e
   have h1:=(sF.fo.lt _ hg).2
   have h2:=(nO.lt g (by simpa using ki)).1
   omega)
  (λg hg=>by
   rcases List.mem_append.1 hg with hg|hg
   ·exact nr.out g hg
   ·exact nL g (by simpa using hg)) rfl
 refine aQ ?_
 refine yn (aM ?_)
 refine aT (l:=[0,1]) rfl ?_
 refine aD ai [0,1] [(5,(.pointer (some ⟨b,0,none⟩))),(20,.slice A5 x0.ay.length c5),(21,.int .i64 (x0.ay.length:Int)),(22,(.int .i64 (IntKind.i64.wrap ((i:Int)+(1:Int)))))] rfl ⟨rfl,rfl,rfl,rfl,trivial⟩ ?_
 refine aQ ?_
 exact EC rest.length [(5,(.pointer (some ⟨b,0,none⟩))),(20,.slice A5 x0.ay.length c5),(21,.int .i64 (x0.ay.length:Int)),(22,(.int .i64 ((i+1:Nat):Int)))] (Nat.lt_succ_self _) ⟨rfl,rfl,rfl,congrArg (λz=>some (Value.int .i64 z)) (rC hl (Nat.le_trans ajD ajF)),trivial⟩ ⟨rest,i+1,O10,_,_,_,_,rfl,C5,rfl,ai',ai_,eh⟩
noncomputable def pc (L:List (Value×Value)):List Value:=L.flatMap λp=>[p.1,p.2]
theorem iH: ∀(L:List (Value×Value)),(pc L).length=L.length*2
 |[]=>rfl
 |_::r=>by have:=iH r;unfold pc at this ⊢;simp[this];omega
theorem LM (L M:List (Value×Value)):pc (L++M)=pc L++pc M:=by simp[pc]
theorem DV: ∀(L:List (Value×Value)) (k:Nat),(pc L).take (k*2)=pc (L.take k)
 |[],k=>by simp[pc]
 |x::r,0=>by simp[pc]
 |x::r,k+1=>by
  have:=DV r k
  show([x.1,x.2]++pc r).take ((k+1)*2)=[x.1,x.2]++pc (r.take k)
  rw[show(k+1)*2=2+k*2 by omega,List.take_append,<-this,List.take_of_length_le (by simp)]
  simp
theorem DU: ∀(L:List (Value×Value)) (k:Nat),(pc L).drop (k*2)=pc (L.drop k)
 |[],k=>by simp[pc]
 |x::r,0=>by simp
 |x::r,k+1=>by
  have:=DU r k
  show([x.1,x.2]++pc r).drop ((k+1)*2)=pc (r.drop k)
  rw[show(k+1)*2=2+k*2 by omega,List.drop_append,<-this]
  simp
theorem alK {L:List (Value×Value)} {R:List Value} {k:Nat} {x:Value×Value} (h:L[k]? =some x):((pc L++R).drop (k*2)).take 2=[x.1,x.2]:=by
 have hk:=(List.getElem?_eq_some_iff.1 h).1
 rw[List.drop_append_of_le_length (by rw[iH];omega),DU,List.drop_eq_getElem_cons hk,(List.getElem?_eq_some_iff.1 h).2]
 rfl
theorem alL {L:List (Value×Value)} {R:List Value} {k:Nat} {x:Value×Value} (hk:k<L.length):putAt (pc L++R) (k*2) [x.1,x.2]=pc (L.set k x)++R:=by
 unfold putAt
 have e:L.set k x=L.take k++[x]++L.drop (k+1):=by
  rw[List.set_eq_take_append_cons_drop,if_pos hk];simp
 rw[e,LM,LM,List.take_append_of_le_length (by rw[iH];omega),DV,List.drop_append_of_le_length (by rw[iH];simp;omega)]
 rw[show k*2+[x.1,x.2].length=(k+1)*2 by simp;omega,DU]
 simp[pc]
noncomputable def rp (r:Int×Value):Value×Value:=(.int .u64 r.1,r.2)
noncomputable def rc (aB:List (Int×Value)):List Value:=pc (aB.map rp)
theorem LY {L:List (Int×Value)} {R:List Value} {k:Nat} {x:Int×Value} (h:L[k]? =some x):((rc L++R).drop (k*2)).take 2=[.int .u64 x.1,x.2]:=
 alK (x:=rp x) (by simp[h])
theorem Xy {L:List (Int×Value)} {R:List Value} {k:Nat} {x:Int×Value} (hk:k<L.length):putAt (rc L++R) (k*2) [.int .u64 x.1,x.2]=rc (L.set k x)++R:=by
 have:=alL (L:=L.map rp) (R:=R) (x:=rp x) (k:=k) (by simpa using hk)
 rw[show[(rp x).1,(rp x).2]=[.int .u64 x.1,x.2] from rfl] at this
 rw[rc,this,rc]
 simp[List.map_set]
theorem L0 {O:List Nat} {w:World}: ∀ {L:List (Int×Value)},(∀r∈L,∃A n c,r.2= .slice A n c)->cf TR O w (rc L) L
 |[],_=>rfl
 |r::L,h=>⟨[.int .u64 r.1,r.2],rc L,rfl,⟨rfl,h r List.mem_cons_self⟩,L0 λx hx=>h x (List.mem_cons_of_mem _ hx)⟩
theorem Mh {O:List Nat} {w:World}: ∀ {L:List (Int×Value)} {cs:List Value},cf TR O w cs L->cs=rc L/\ ∀r∈L,∃A n c,r.2= .slice A n c
 |[],_,h=>⟨h,by simp⟩
 |r::L,cs,⟨c1,c2,h1,h2,h3⟩=>by
  obtain⟨e,f⟩:=Mh h3
  subst h1
  rw[h2.1,e]
  refine⟨rfl,λx hx=>?_⟩
  rcases List.mem_cons.1 hx with rfl|hx
  ·exact h2.2
  ·exact f x hx
noncomputable def XV:Value->Nat
 | .slice _ n _=>n
 |_=>0
noncomputable def emp (r:Int×Value):Bool:=XV r.2==0
noncomputable def lM:List (Int×Value)->Nat->Int
 |[],_=> -1
 |r::rest,k=>bif emp r then(k:Int) else lM rest (k+1)
theorem ah4 {n:Nat} {A:Option Addr} {c:Nat} {p:Int}:emp (p,.slice A n c)=((n:Int)==0):=by
 unfold emp XV
 cases h:n==0<;>simp_all
set_option maxRecDepth 100000 in
set_option maxHeartbeats 4000000 in
theorem U3 {O:List Nat} {w:World} (hO:OB O w) {p:Int} {A:Option Addr} {n c:Nat}:Calls Tryz.prog 121 #[.agg #[.int .u64 p,.slice A n c]] w (jI (tF Ty.bool) O w (emp (p,.slice A n c))):=by
 refine im (args:=[.agg #[.int .u64 p,.slice A n c]]) (N:=7) Tryz.func121 rfl rfl rfl ?_
 refine aL ?_
 refine aT (l:=[0,1]) rfl ?_
 refine rB rfl rfl rfl rfl rfl rfl [.int .u64 p,.slice A n c] rfl hO (λb1 w1 n1=>?_)
 refine aD ai [1] [(1,(.pointer (some ⟨b1,0,none⟩)))] rfl ⟨rfl,trivial⟩ ?_
 refine aQ ?_
 refine aM ?_
 refine aL ?_
 refine aT (l:=[0,1,2,3,4]) rfl ?_
 refine aD ai [0] [(3,(.pointer (some ⟨b1,1,none⟩)))] rfl ⟨rfl,trivial⟩ ?_
 refine eZ ai rfl rfl rfl rfl rfl rfl rfl n1.bV [.slice A n c] rfl rfl (.inr rfl) (.slice A n c) rfl ?_
 refine aD ai [2,3,4] [(2,.bool ((n:Int)==0))] rfl ⟨rfl,trivial⟩ ?_
 refine aQ ?_
 refine aM ?_
 refine dJ ?_
 refine eI rfl ⟨_,rfl,?_,n1.fr⟩
 exact m5.2 (by rw[ah4];rfl)
set_option maxRecDepth 100000 in
set_option maxHeartbeats 4000000 in
theorem anT {O:List Nat} {w:World} (hO:OB O w) {v:Value} {aB:List (Int×Value)} (hv:TR.slice.is [] w v aB):Calls Tryz.prog 78 #[v,.func (.func 121) #[] #[]] w (jI (tF (Ty.int .i64)) O w (lM aB 0)):=by
 obtain⟨A,c,rfl,J2,Ux⟩:=fm hv
 refine im (args:=[.slice A aB.length c,.func (.func 121) #[] #[]]) (N:=19) Tryz.func78 rfl rfl rfl ?_
 refine aL ?_
 refine aT (l:=[0]) rfl ?_
 refine aD ai [0] [(0,.slice A aB.length c),(1,.func (.func 121) #[] #[])] rfl ⟨rfl,rfl,trivial⟩ ?_
 refine aQ ?_
 refine aM ?_
 refine aL ?_
 refine aL ?_
 refine aT (l:=[0,1,2]) rfl ?_
 refine aD ai [0,1,2] [(0,.slice A aB.length c),(1,.func (.func 121) #[] #[]),(7,.int .i64 (aB.length:Int)),(8,.int .i64 ((0:Nat):Int))] rfl ⟨rfl,rfl,rfl,rfl,trivial⟩ ?_
 refine aQ ?_
 refine aM ?_
 refine rA ?_
 refine MU (λm E W=> ∃(rest:List (Int×Value)) (i:Nat),rest.length=m/\aB.drop i=rest/\E=[(0,.slice A aB.length c),(1,.func (.func 121) #[] #[]),(7,.int .i64 (aB.length:Int)),(8,.int .i64 (i:Int))]/\Fr [] w W/\lM rest i=lM aB 0) _
  [(0,.slice A aB.length c),(1,.func (.func 121) #[] #[]),(7,.int .i64 (aB.length:Int)),(8,.int .i64 ((0:Nat):Int))] ⟨rfl,rfl,rfl,rfl,trivial⟩ ⟨aB,0,rfl,rfl,rfl,Fr.refl _ _,rfl⟩ ?_
 rintro m E W ⟨rest,i,rfl,Ub,rfl,hF,hf⟩
 rcases rest with _|⟨z,rest⟩
 ·have hl:=drop_nil Ub
  have hc:(decide ((i:Int)<(aB.length:Int)))=false:=decide_eq_false (by omega)
  refine aL ?_
  refine aT (l:=[0]) rfl ?_
  refine aD ai [0] [(9,.bool (decide ((i:Int)<(aB.length:Int))))] rfl ⟨rfl,trivial⟩ ?_
  refine aQ ?_
  refine aM ?_
  refine aL ?_
  refine jc rfl hc ?_
  refine MT ?_
  refine tN (tN (M3 (aM ?_)))
  refine aL ?_
  refine aT (l:=[0]) rfl ?_
  refine aD ai [0] [(4,.int .i64 (-1))] rfl ⟨rfl,trivial⟩ ?_
  refine aQ ?_
  refine aM ?_
  refine dJ ?_
  exact eI rfl ⟨_,rfl,ey.2 (by rw[<-hf];rfl),hF⟩
 obtain⟨hl,hg,hd⟩:=drop_cons Ub
 have hc:(decide ((i:Int)<(aB.length:Int)))=true:=decide_eq_true (by omega)
 refine aL ?_
 refine aT (l:=[0]) rfl ?_
 refine aD ai [0] [(0,.slice A aB.length c),(1,.func (.func 121) #[] #[]),(7,.int .i64 (aB.length:Int)),(8,.int .i64 (i:Int)),(9,.bool (decide ((i:Int)<(aB.length:Int))))] rfl ⟨rfl,rfl,rfl,rfl,rfl,trivial⟩ ?_
 refine aQ ?_
 refine aM ?_
 refine aL ?_
 refine iK rfl hc ?_
 refine eY ?_
 refine aM ?_
 refine aL ?_
 refine rA ?_
 refine aL ?_
 refine aT (l:=[0,1]) rfl ?_
 refine aD ai [0,1] [(0,.slice A aB.length c),(1,.func (.func 121) #[] #[]),(5,.int .i64 (i:Int)),(7,.int .i64 (aB.length:Int)),(8,.int .i64 (i:Int))] rfl ⟨rfl,rfl,rfl,rfl,rfl,trivial⟩ ?_
 refine aQ ?_
 refine aM ?_
 refine aL ?_
 refine aT (l:=[0,1,2,3,4,5]) rfl ?_
 refine aD ai [0,1,2] [(0,.slice A aB.length c),(1,.func (.func 121) #[] #[]),(5,.int .i64 (i:Int)),(7,.int .i64 (aB.length:Int)),(8,.int .i64 (i:Int)),(11,.func (.func 121) #[] #[]),(12,.slice A aB.length c),(13,.int .i64 (i:Int))] rfl ⟨rfl,rfl,rfl,rfl,rfl,rfl,rfl,rfl,trivial⟩ ?_
 refine M0 ai rfl rfl rfl rfl rfl rfl rfl rfl rfl rfl hv rfl (Int.natCast_nonneg _) (by rw[Int.toNat_natCast];exact hg) (λp6 w_=>?_)
 refine ZY ai rfl rfl rfl rfl rfl rfl rfl w_ hF rfl rfl (λv6 xf=>?_)
 obtain⟨cs,⟨rfl,A2,n2,c2,e2⟩,rfl⟩:=xf
 obtain⟨p,q⟩:=z
 simp only at e2
 subst e2
 refine ZX (O:=O) (first:=[]) (cap:=[]) rfl rfl rfl rfl rfl rfl rfl Sq (U3 (hF.ob hO)) (λv7 w7 g7 f7=>?_)
 obtain rfl:=m5.1 g7
 have hF:=hF.trans f7
 rw[lM] at hf
 refine aQ ?_
 refine aM ?_
 rcases hb:emp (p,.slice A2 n2 c2) with _|_
 ·refine lC rfl ?_
  refine eY ?_
  refine yn (aM ?_)
  refine aT (l:=[0,1]) rfl ?_
  refine aD ai [0,1] [(0,.slice A aB.length c),(1,.func (.func 121) #[] #[]),(7,.int .i64 (aB.length:Int)),(8,(.int .i64 (IntKind.i64.wrap ((i:Int)+(1:Int)))))] rfl ⟨rfl,rfl,rfl,rfl,trivial⟩ ?_
  refine aQ ?_
  rw[hb] at hf
  exact EC rest.length [(0,.slice A aB.length c),(1,.func (.func 121) #[] #[]),(7,.int .i64 (aB.length:Int)),(8,(.int .i64 ((i+1:Nat):Int)))] (Nat.lt_succ_self _) ⟨rfl,rfl,rfl,congrArg (λz=>some (Value.int .i64 z)) (rC hl (Nat.le_trans J2 Ux)),trivial⟩ ⟨rest,i+1,rfl,hd,rfl,hF,hf⟩
 ·refine mS rfl ?_
  refine aL ?_
  refine aT (l:=[0,1]) rfl ?_
  refine aD ai [0,1] [(4,.int .i64 (i:Int))] rfl ⟨rfl,trivial⟩ ?_
  refine aQ ?_
  refine aM ?_
  refine dJ ?_
  rw[hb] at hf
  exact EB (gm (gm (EB (gm (eI rfl ⟨_,rfl,ey.2 (by rw[<-hf];rfl),hF⟩)))))
theorem SG: ∀(L:List (Int×Value)) (k:Nat),(lM L k= -1/\L.filter (λr=>!emp r)=L)\/ ∃i x,lM L k=((k+i:Nat):Int)/\L[i]? =some x/\emp x=true/\(L.take i).filter (λr=>!emp r)=L.take i
 |[],k=> .inl ⟨rfl,rfl⟩
 |r::L,k=>by
  rw[lM]
  cases hr:emp r with
  |true=>exact .inr ⟨0,r,rfl,rfl,hr,rfl⟩
  |false=>
   rcases SG L (k+1) with⟨h1,h2⟩|⟨i,x,h1,h2,h3,h4⟩
   ·exact .inl ⟨h1,by rw[List.filter_cons,hr];simp only[Bool.not_false,if_true];rw[h2]⟩
   ·exact .inr ⟨i+1,x,by rw[show k+(i+1)=k+1+i by omega];exact h1,by simpa using h2,h3,by
     rw[List.take_succ_cons,List.filter_cons,hr];simp only[Bool.not_false,if_true];rw[h4]⟩
theorem SZ {p:Int×Value->Bool} {L:List (Int×Value)} {j:Nat} {x:Int×Value} (h:L[j]? =some x):(L.take (j+1)).filter p=(L.take j).filter p++bif p x then[x] else[]:=by
 rw[List.take_add_one,h,List.filter_append]
 cases hp:p x<;>simp[hp]
theorem ZW {P:Program} {r:Option Nat} {N:Nat} {Θ:dm} {ops:Array Oper} {Q:Exit->Act->World->Prop} {l:List Nat} {E:Env} {ds:List Deferred} {w:World} {i:Nat} {o:Oper} (aO:Θ.ok P) (ho:ops[i]? =some o) (hw:want N ops E o.guard=some true) (hd:o.dst=none) {t:Nat} {x:Operand} {ti te:TI}
  (ak:o.op= .call { callee:= .builtin .clear,args:= #[x],argTypes:= #[t] }) (ht:Θ.get t=some ti) (h5:ti.tag=5) (cd:Θ.get ti.e=some te) {g of m c e k:Nat} {cur:Array Value} (hx:ev E x=some (.slice (some ⟨g,of,none⟩) (m+1) c)) (hg:w.heap[g]? =some (.cells cur e (0,0))) (hz:te.zero.cells.size=k) (h1: ∀u∈(Builtin.zeroCells te.zero.cells (m+1)).toList,u.oneCell'=true) (C7:of+(m+1)*k<=cur.size)
  (h: ∀(W:World) (new:Array Value),Fr [g] w W->W.heap[g]? =some (.cells new e (0,0))->new=(cur.toList.take of++(Builtin.zeroCells te.zero.cells (m+1)).toList++cur.toList.drop (of+(m+1)*k)).toArray->WO P r N ops Q l E ds W):WO P r N ops Q (i::l) E ds w:=by
 have hu:=(aO.fits ht).slice h5
 have hl:(Builtin.zeroCells te.zero.cells (m+1)).toList.length=(m+1)*k:=by rw[Array.length_toList,size_zeroCells,hz]
 have fS:=run_storeCells_at P g of e (Builtin.zeroCells te.zero.cells (m+1)).toList 0 cur w hg (by rw[hl];omega) h1
 rw[hl] at fS
 simp only[Nat.add_zero] at fS
 have bC:(Builtin.clear_ #[t] o.type #[.slice (some ⟨g,of,none⟩) (m+1) c]).run P w= .ok (.tuple #[]) (w.setRow g (cur.toList.take of++(Builtin.zeroCells te.zero.cells (m+1)).toList++cur.toList.drop (of+(m+1)*k)).toArray):=by
  simp only[Builtin.clear_,Sem.run_bind,List.getElem?_toArray,List.getElem?_cons_zero,run_underlying hu,Result.andThen_ok]
  simp[rI (aO.fits cd),fS]
 have sL:=h (w.setRow g (cur.toList.take of++(Builtin.zeroCells te.zero.cells (m+1)).toList++cur.toList.drop (of+(m+1)*k)).toArray) _ (od hg) (by simp only[World.setRow,Array.getElem?_modify,hg,if_true,Option.map_some]) rfl
 refine apT (v:= .tuple #[]) ho hw hd (by rw[ak];simp) (λa ha=>?_) sL
 simp only[execOp,ak,Sem.run_bind,resolve,Sem.run_pure,Result.andThen_ok,invoke,builtin,List.map_toArray,List.map_cons,List.map_nil,ha.eval hx,bC]
theorem Z1 {n:Nat} {a b u:Value} (ha:a.oneCell'=true) (hb:b.oneCell'=true) (h:u∈(Builtin.zeroCells (Value.agg #[a,b]).cells n).toList):u.oneCell'=true:=by
 simp only[Builtin.zeroCells,Value.cells,Array.toList_map,List.mem_map] at h
 obtain⟨i,_,rfl⟩:=h
 rcases Nat.mod_two_eq_zero_or_one i with h|h<;>simp[h,ha,hb]
set_option maxRecDepth 100000 in
set_option maxHeartbeats 4000000 in
theorem anR {O:List Nat} {w:World} (hO:OB O w) {B:Nat} {v:Value} {aB:List (Int×Value)} (hv:Go.Dc.Own TR 82 B O w v aB):Calls Tryz.prog 120 #[v,.func (.func 121) #[] #[]] w (gE TR 82 B O w v (aB.filter λr=>!emp r)):=by
 obtain⟨A,c,rfl,eL,kU⟩:=hv.form
 refine im (args:=[.slice A aB.length c,.func (.func 121) #[] #[]]) (N:=42) Tryz.func120 rfl rfl rfl ?_
 refine aL ?_
 refine aT (l:=[0]) rfl ?_
 refine aD ai [0] [(0,.slice A aB.length c),(1,.func (.func 121) #[] #[])] rfl ⟨rfl,rfl,trivial⟩ ?_
 refine aQ ?_
 refine aM ?_
 refine aL ?_
 refine aT (l:=[0,1,2,3]) rfl ?_
 refine aD ai [0,1] [(0,.slice A aB.length c),(1,.func (.func 121) #[] #[]),(8,.slice A aB.length c),(9,.func (.func 121) #[] #[])] rfl ⟨rfl,rfl,rfl,rfl,trivial⟩ ?_
 refine EA rfl rfl rfl rfl rfl aid rfl (anT hO (hv.mv.data (LX _) (λ_ _ h=>by cases h))) (λv2 w2 g2 f2=>?_)
 obtain rfl:=ey.1 g2
 refine aD ai [3] [(0,.slice A aB.length c),(1,.func (.func 121) #[] #[]),(5,.int .i64 (lM aB 0))] rfl ⟨rfl,rfl,rfl,trivial⟩ ?_
 refine aQ ?_
 refine aM ?_
 refine aL ?_
 refine aL ?_
 refine aT (l:=[0,1]) rfl ?_
 refine aD ai [0,1] [(0,.slice A aB.length c),(1,.func (.func 121) #[] #[]),(5,.int .i64 (lM aB 0)),(12,.bool ((lM aB 0)== -1))] rfl ⟨rfl,rfl,rfl,rfl,trivial⟩ ?_
 refine aQ ?_
 refine aM ?_
 rcases SG aB 0 with⟨hr,ajt⟩|⟨i0,x0,hr,Dk,nD,hf0⟩
 ·refine iK rfl (by rw[hr];rfl) ?_
  refine aL ?_
  refine aT (l:=[0,1]) rfl ?_
  refine aD ai [0,1] [(4,.slice A aB.length c)] rfl ⟨rfl,trivial⟩ ?_
  refine aQ ?_
  refine aM ?_
  refine dJ ?_
  refine gm (eI rfl ⟨_,O,rfl,?_⟩)
  rw[ajt]
  exact⟨hv.cD f2,f2.fp,f2.ob hO,Sub.refl _,λk hk _=>f2.block k hk (by simp),λ_ _ h=>h⟩
 rw[Nat.zero_add] at hr
 refine jc rfl (by rw[hr];exact beq_eq_false_iff_ne.2 (by omega)) ?_
 rw[hr]
 refine eY ?_
 refine aM ?_
 obtain⟨cs,⟨bS,g_⟩,eN⟩:=hv.ex
 have C_:=(List.getElem?_eq_some_iff.1 Dk).1
 rcases g_ with⟨_,mA⟩|⟨g,cap,cur,g_,ir,hh,kr,qz,fb,jR⟩
 ·omega
 injection g_ with hA sQ iR
 subst hA;subst iR
 have gb:=hv.mem g rfl
 obtain⟨qB,mz⟩:=Mh eN
 have nu:TR.n=2:=rfl
 rw[nu] at fb jR
 obtain⟨R,hR⟩: ∃R,R=cur.toList.drop (aB.length*2):=⟨_,rfl⟩
 have ke:cur.toList=rc aB++R:=by
  rw[hR,<-qB,<-jR]
  exact(List.take_append_drop _ _).symm
 have hRl:aB.length*2+R.length=c*2:=by
  have:=congrArg List.length ke
  rw[Array.length_toList,fb] at this
  simp only[List.length_append,rc,iH,List.length_map] at this
  omega
 have hb:b9 w g 82 (rc aB++R):=by
  unfold b9
  rw[<-ke,Array.toArray_toList]
  exact hh
 have cG:=hb.cD f2
 have sU:IntKind.i64.wrap ((i0:Int)+1)=((i0+1:Nat):Int):=rC C_ (by omega)
 refine aL ?_
 refine aL ?_
 refine aT (l:=[0,1,2]) rfl ?_
 refine aD ai [0,1,2] [(0,.slice (some ⟨g,0,none⟩) aB.length c),(1,.func (.func 121) #[] #[]),(5,.int .i64 (i0:Int)),(6,.int .i64 (IntKind.i64.wrap ((i0:Int)+1)))] rfl ⟨rfl,rfl,rfl,rfl,trivial⟩ ?_
 rw[sU]
 refine aQ ?_
 refine aM ?_
 refine rA ?_
 refine MU (λm E W=> ∃(i j:Nat) (M:List (Int×Value)),aB.length-j=m/\i<j/\j<=aB.length/\E=[(0,.slice (some ⟨g,0,none⟩) aB.length c),(1,.func (.func 121) #[] #[]),(5,.int .i64 (i:Int)),(6,.int .i64 (j:Int))]/\Fr [g] w W/\b9 W g 82 (rc M++R)/\M.length=aB.length/\M.take i=(aB.take j).filter (λr=>!emp r)/\M.drop j=aB.drop j) _
  [(0,.slice (some ⟨g,0,none⟩) aB.length c),(1,.func (.func 121) #[] #[]),(5,.int .i64 (i0:Int)),(6,.int .i64 ((i0+1:Nat):Int))] ⟨rfl,rfl,rfl,rfl,trivial⟩ ⟨i0,i0+1,aB,rfl,Nat.lt_succ_self _,C_,rfl,f2.more (by simp),cG,rfl,by rw[SZ Dk,hf0,nD];simp,rfl⟩ ?_
 rintro m E W ⟨i,j,M,hm,dp,Ul,rfl,oQ,C1,TN,v_,TL⟩
 refine aL ?_
 refine aL ?_
 refine aT (l:=[0,1,2,3]) rfl ?_
 refine aD ai [0,1,2,3] [(0,.slice (some ⟨g,0,none⟩) aB.length c),(1,.func (.func 121) #[] #[]),(5,.int .i64 (i:Int)),(6,.int .i64 (j:Int)),(19,.bool (decide ((j:Int)<(aB.length:Int))))] rfl ⟨rfl,rfl,rfl,rfl,rfl,trivial⟩ ?_
 refine aQ ?_
 refine aM ?_
 by_cases iy:j<aB.length
 case neg=>
  refine jc rfl (decide_eq_false (by omega)) ?_
  refine MT ?_
  refine tN (tN (M3 (aM ?_)))
  refine aL ?_
  refine aT (l:=[0,1,2,3]) rfl ?_
  refine aD ai [0,1] [(0,.slice (some ⟨g,0,none⟩) aB.length c),(5,.int .i64 (i:Int)),(36,.slice (some ⟨g,0,none⟩) aB.length c),(37,.int .i64 (i:Int))] rfl ⟨rfl,rfl,rfl,rfl,trivial⟩ ?_
  refine yl ai rfl rfl rfl rfl rfl rfl rfl rfl rfl rfl kr (by omega) ?_
  rw[if_neg (by omega),Option.map_some,gT,Nat.zero_add]
  obtain⟨q,hq⟩: ∃q,aB.length-i=q+1:=⟨aB.length-i-1,by omega⟩
  rw[hq]
  have bt:(rc M++R).length=c*2:=by simp only[List.length_append,rc,iH,List.length_map];omega
  refine ZW (k:=2) ai rfl rfl rfl rfl rfl rfl rfl rfl C1 rfl (λu hu=>Z1 rfl rfl hu) (by simp only[List.size_toArray,bt];show i*2+(q+1)*2<=c*2;omega) (λW3 new hsr hsh fi=>?_)
  have IC:Fr [g] w W3:=oQ.trans hsr
  have aqu:(rc M++R).take (i*2)=rc (M.take i):=by
   unfold rc
   rw[List.take_append_of_le_length (by rw[iH,List.length_map];omega),DV,List.map_take]
  have fQ:new.toList=rc (M.take i)++((Builtin.zeroCells (Value.agg #[.int .u64 0,.slice none 0 0]).cells (q+1)).toList++(rc M++R).drop (i*2+(q+1)*2)):=by
   rw[fi]
   simp only[List.toList_toArray,List.append_assoc]
   congr 1
  have lX:new.size=c*2:=by
   rw[<-Array.length_toList,fQ]
   simp only[List.length_append,List.length_drop,Array.length_toList,size_zeroCells,rc,iH,List.length_map,List.length_take]
   show min i M.length*2+((q+1)*2+(M.length*2+R.length-(i*2+(q+1)*2)))=c*2
   omega
  refine aQ ?_
  refine aM ?_
  refine aL ?_
  refine aT (l:=[0,1,2,3]) rfl ?_
  refine aD ai [0,1] [(39,.slice (some ⟨g,0,none⟩) aB.length c),(40,.int .i64 (i:Int))] rfl ⟨rfl,rfl,trivial⟩ ?_
  refine MY ai rfl rfl rfl rfl rfl rfl rfl rfl rfl rfl kr (by omega) ?_
  refine aD ai [3] [(4,.slice (some ⟨g,0,none⟩) i c)] rfl ⟨rfl,trivial⟩ ?_
  refine aQ ?_
  refine aM ?_
  refine dJ ?_
  refine eI rfl ⟨_,O,rfl,?_⟩
  have hjx:aB.take j=aB:=List.take_of_length_le (by omega)
  rw[hjx] at v_
  have sM:(aB.filter λr=>!emp r).length=i:=by rw[<-v_,List.length_take];omega
  have:=M4 (T:=TR) (e:=82) (B:=B) (n0:=aB.length) (zs:=aB.filter λr=>!emp r) (cap:=c) hO gb ir IC hsh lX qz (by omega) (L0 λx hx=>mz x (List.mem_filter.1 hx).1) (by
   rw[fQ,v_]
   refine List.take_left' ?_
   rw[rc,iH,List.length_map];rfl)
  rw[sM] at this
  exact this
 refine iK rfl (decide_eq_true (by omega)) ?_
 refine eY ?_
 refine aM ?_
 obtain⟨z,hz⟩: ∃x,aB[j]? =some x:=⟨_,List.getElem?_eq_getElem iy⟩
 have hMz:M[j]? =some z:=by
  have:=congrArg (·[0]?) TL
  simp only[List.getElem?_drop,Nat.add_zero] at this
  rw[this,hz]
 obtain⟨A2,n2,c2,e2⟩:=mz z (List.mem_of_getElem? hz)
 obtain⟨p,q⟩:=z
 simp only at e2
 subst e2
 have TM: ∀(M':List (Int×Value)),(∀k,j<k->M'[k]? =M[k]?)->M'.drop (j+1)=aB.drop (j+1):=by
  intro M' h
  apply List.ext_getElem?
  intro k
  have:=congrArg (·[k+1]?) TL
  simp only[List.getElem?_drop] at this ⊢
  rw[h _ (by omega),show j+1+k=j+(k+1) by omega,this]
 have e1: ∀j:Nat,(j:Int).toNat*({ tag:=8,k:=0,e:=0,fs:=[(29,0),(40,1)],size:=2,bytes:=32,zero:= .agg #[.int .u64 0,.slice none 0 0] }:TI).size=j*2:=λj=>by rw[Int.toNat_natCast]
 refine aL ?_
 refine rA ?_
 refine aL ?_
 refine aT (l:=[0,1,2,3,4,5]) rfl ?_
 refine aD ai [0,1] [(0,.slice (some ⟨g,0,none⟩) aB.length c),(1,.func (.func 121) #[] #[]),(5,.int .i64 (i:Int)),(6,.int .i64 (j:Int)),(22,.slice (some ⟨g,0,none⟩) aB.length c),(23,.int .i64 (j:Int))] rfl ⟨rfl,rfl,rfl,rfl,rfl,rfl,trivial⟩ ?_
 refine tL ai rfl rfl rfl rfl rfl rfl rfl rfl rfl rfl (by omega) (by rw[Int.toNat_natCast];omega) ?_
 rw[e1,gT,Nat.zero_add]
 refine eZ ai rfl rfl rfl rfl rfl rfl rfl C1 [.int .u64 p,.slice A2 n2 c2] (LY hMz) rfl (.inl rfl) (.agg #[.int .u64 p,.slice A2 n2 c2]) rfl ?_
 refine yk ai rfl rfl rfl rfl rfl rfl [(.int .u64 0),(.slice none 0 0)] rfl (oQ.ob hO) (λb7 w7 n7=>?_)
 refine gD ai rfl rfl rfl rfl rfl rfl rfl n7.bV [.int .u64 p,.slice A2 n2 c2] rfl rfl (by simp[Value.oneCell']) rfl [.int .u64 p,.slice A2 n2 c2] rfl (λw8 oT f8=>?_)
 have Lh:g≠b7:=by have:=C1.lt;have:=n7.ge;omega
 have ajf:=(C1.cD n7.fr).fr f8 (by simp;exact Lh)
 have TD:Fr [g] w w8:=by
  refine⟨f8.os.trans (n7.fr.os.trans oQ.os),f8.tape.trans (n7.fr.tape.trans oQ.tape),f8.output.trans (n7.fr.output.trans oQ.output),Nat.le_trans oQ.size (Nat.le_trans n7.fr.size f8.size),λk hk hn=>?_⟩
  have h1:=oQ.size;have h2:=n7.ge;have h3:=n7.fr.size
  rw[f8.block k (by omega) (by simp;omega),n7.fr.block k (by omega) (by simp),oQ.block k hk hn]
 refine aQ ?_
 refine aM ?_
 refine aL ?_
 refine aT (l:=[0,1,2,3]) rfl ?_
 refine aD ai [0] [(0,.slice (some ⟨g,0,none⟩) aB.length c),(1,.func (.func 121) #[] #[]),(5,.int .i64 (i:Int)),(6,.int .i64 (j:Int)),(7,(.pointer (some ⟨b7,0,none⟩))),(26,.func (.func 121) #[] #[])] rfl ⟨rfl,rfl,rfl,rfl,rfl,rfl,trivial⟩ ?_
 refine eZ ai rfl rfl rfl rfl rfl rfl rfl oT [.int .u64 p,.slice A2 n2 c2] rfl rfl (.inl rfl) (.agg #[.int .u64 p,.slice A2 n2 c2]) rfl ?_
 refine ZX (O:=O) (first:=[]) (cap:=[]) rfl rfl rfl rfl rfl rfl rfl Sq (U3 (TD.ob hO)) (λv9 w9 g9 f9=>?_)
 obtain rfl:=m5.1 g9
 have TE:=TD.trans (f9.more (by simp))
 have T3:=ajf.cD f9
 have ajd:=oT.cD f9
 refine aD ai [3] [(0,.slice (some ⟨g,0,none⟩) aB.length c),(1,.func (.func 121) #[] #[]),(5,.int .i64 (i:Int)),(6,.int .i64 (j:Int)),(7,(.pointer (some ⟨b7,0,none⟩))),(29,.bool (!emp (p,.slice A2 n2 c2)))] rfl ⟨rfl,rfl,rfl,rfl,rfl,rfl,trivial⟩ ?_
 refine aQ ?_
 refine aM ?_
 have C9:=SZ (p:=λr=>!emp r) hz
 rcases hb:emp (p,.slice A2 n2 c2) with _|_
 ·rw[hb] at C9
  refine mS rfl ?_
  refine aL ?_
  refine aT (l:=[0,1,2,3,4]) rfl ?_
  refine aD ai [0,1] [(0,.slice (some ⟨g,0,none⟩) aB.length c),(1,.func (.func 121) #[] #[]),(5,.int .i64 (i:Int)),(6,.int .i64 (j:Int)),(7,(.pointer (some ⟨b7,0,none⟩))),(30,.slice (some ⟨g,0,none⟩) aB.length c),(31,.int .i64 (i:Int))] rfl ⟨rfl,rfl,rfl,rfl,rfl,rfl,rfl,trivial⟩ ?_
  refine eZ ai rfl rfl rfl rfl rfl rfl rfl ajd [.int .u64 p,.slice A2 n2 c2] rfl rfl (.inl rfl) (.agg #[.int .u64 p,.slice A2 n2 c2]) rfl ?_
  refine tL ai rfl rfl rfl rfl rfl rfl rfl rfl rfl rfl (by omega) (by rw[Int.toNat_natCast];omega) ?_
  rw[e1,gT,Nat.zero_add]
  refine gD ai rfl rfl rfl rfl rfl rfl rfl T3 [.int .u64 p,.slice A2 n2 c2] rfl rfl (by simp[Value.oneCell']) (Nat.ble_eq_true_of_le (by simp only[List.length_append,rc,iH,List.length_map];show i*2+2<=_;omega)) (rc (M.set i (p,.slice A2 n2 c2))++R) (Xy (x:=(p,.slice A2 n2 c2)) (by omega)) (λw10 Jq f10=>?_)
  refine aQ ?_
  refine aM ?_
  refine aT (l:=[0,1,2]) rfl ?_
  refine aD ai [0,1,2] [(0,.slice (some ⟨g,0,none⟩) aB.length c),(1,.func (.func 121) #[] #[]),(5,.int .i64 (IntKind.i64.wrap ((i:Int)+1))),(6,.int .i64 (j:Int))] rfl ⟨rfl,rfl,rfl,rfl,trivial⟩ ?_
  rw[rC (show i<aB.length by omega) (by omega)]
  refine aQ ?_
  refine yn (aM ?_)
  refine aT (l:=[0,1,2]) rfl ?_
  refine aD ai [0,1,2] [(0,.slice (some ⟨g,0,none⟩) aB.length c),(1,.func (.func 121) #[] #[]),(5,.int .i64 ((i+1:Nat):Int)),(6,.int .i64 (IntKind.i64.wrap ((j:Int)+1)))] rfl ⟨rfl,rfl,rfl,rfl,trivial⟩ ?_
  rw[rC iy (by omega)]
  refine aQ ?_
  refine EC (aB.length-(j+1)) [(0,.slice (some ⟨g,0,none⟩) aB.length c),(1,.func (.func 121) #[] #[]),(5,.int .i64 ((i+1:Nat):Int)),(6,.int .i64 ((j+1:Nat):Int))] (by omega) ⟨rfl,rfl,rfl,rfl,trivial⟩ ⟨i+1,j+1,M.set i (p,.slice A2 n2 c2),rfl,by omega,by omega,rfl,TE.trans f10,Jq,by rw[List.length_set];exact TN,?_,TM _ (λk hk=>List.getElem?_set_ne (by omega))⟩
  rw[C9,<-v_,List.take_add_one,List.take_set_of_le (by omega),List.getElem?_set_self (by omega)]
  rfl
 ·rw[hb] at C9
  refine lC rfl ?_
  refine eY ?_
  refine yn (aM ?_)
  refine aT (l:=[0,1,2]) rfl ?_
  refine aD ai [0,1,2] [(0,.slice (some ⟨g,0,none⟩) aB.length c),(1,.func (.func 121) #[] #[]),(5,.int .i64 (i:Int)),(6,.int .i64 (IntKind.i64.wrap ((j:Int)+1)))] rfl ⟨rfl,rfl,rfl,rfl,trivial⟩ ?_
  rw[rC iy (by omega)]
  refine aQ ?_
  refine EC (aB.length-(j+1)) [(0,.slice (some ⟨g,0,none⟩) aB.length c),(1,.func (.func 121) #[] #[]),(5,.int .i64 (i:Int)),(6,.int .i64 ((j+1:Nat):Int))] (by omega) ⟨rfl,rfl,rfl,rfl,trivial⟩ ⟨i,j+1,M,rfl,by omega,by omega,rfl,TE,T3,TN,?_,TM M (λ_ _=>rfl)⟩
  rw[C9,<-v_]
  simp
end Go.Proofs.YtdhaaaeffhaadaaGreatDoor
end
section


end
section
namespace Go.Proofs.YtdhaaaeffhaadaaGreatDoor
open Go.RowKit Go.Dc Go.Vx
theorem Ta: ∀ {S:List Nat} {rs:List (Int×Value)} {xs:List (Int×List Int)} {B:Nat} {w:World} {k:Nat} {r:Int×Value} {y:Int×List Int},dP TW 28 B w S rs xs->rs[k]? =some r->xs[k]? =some y->r.1=y.1/\dL TW 28 B w r.2 y.2/\ ∀g,r.2.ownBlock=some g->g∈S
 |_,x::rs,z::xs,_,_,0,r,y,⟨S2,h1,h2,h3,h4⟩,hr,hy=>by
  simp at hr hy
  subst hr;subst hy
  exact⟨h1,h3,λg hg=>by rw[h2,hg];simp⟩
 |_,x::rs,z::xs,_,_,k+1,r,y,⟨S2,h1,h2,h3,h4⟩,hr,hy=>by
  obtain⟨a,b,c⟩:=Ta h4 (by simpa using hr) (by simpa using hy)
  exact⟨a,b,λg hg=>by rw[h2];exact List.mem_append_right _ (c g hg)⟩
 |_,[],_,_,_,_,_,_,_,hr,_=>by simp at hr
 |_,_::_,[],_,_,_,_,_,h,_,_=>h.elim
theorem anc {B:Nat} {O2:List Nat} {w:World} {rv:Value} {S:List Nat} {aB:List (Int×Value)} {bs:List an} (hr:dL TR 82 B w rv aB) (hf:dP TW 28 B w S aB (bs.map bx)) (h1: ∀g,rv.ownBlock=some g->g∉O2) (h2: ∀g∈S,g∉O2):(Ty.slice lA).is O2 w rv bs:=by
 have hlen:aB.length=bs.length:=by have:=hf.len;simpa using this
 obtain⟨cs,⟨A,c,hc,hl,hx⟩,hv⟩:=hr.data (LX _) h1
 refine⟨cs,⟨A,c,by rw[<-hlen];exact hc,by rw[<-hlen];exact hl,λk z hk=>?_⟩,hv⟩
 have o5:k<aB.length:=by rw[hlen];exact(List.getElem?_eq_some_iff.1 hk).1
 obtain⟨ad,es,hA,hb,ho,eN,wA⟩:=hx k _ (List.getElem?_eq_getElem o5)
 obtain⟨e1,e2,e3⟩:=Ta hf (List.getElem?_eq_getElem o5) (show(bs.map bx)[k]? =some (bx z) by simp[hk])
 refine⟨ad,es,hA,hb,ho,?_,wA⟩
 refine⟨[.int .u64 z.ae],[aB[k].2],?_,rfl,ri rfl (e2.data j6 λg hg=>h2 g (e3 g hg))⟩
 rw[eN.1,e1]
 rfl
theorem gS.adA {B:Nat} {O O2:List Nat} {w:World} {b:Nat} {nv rv:Value} {S:List Nat} {aB:List (Int×Value)} {x:bh} (h:gS B O w b nv rv S aB x) (hO: ∀g∈O2,g<B):(Ty.slice lA).is O2 w rv x.ay:=
 anc h.row.mv h.fo (λg hg ho=>by have:=(h.row.lt g hg).1;have:=hO g ho;omega) (λg hg ho=>by have:=(h.fo.lt g hg).1;have:=hO g ho;omega)
theorem Es:eP.Flat:=λh=>h
noncomputable def yf (x:bh):bh:=bh.mk x.aK (x.ay.filter λz=>!(z.a_.length==0))
noncomputable def KB (fuel:Sh) (x:bh) (pid:Int):Option (bh×Int):=
 (U0 fuel x.ay pid).bind λf=>bif (!f.2) then(pj 32 x.ay f.1 [an.mk pid []]).bind λbs=>some (bh.mk x.aK bs,f.1) else some (x,f.1)
set_option maxRecDepth 100000 in
set_option maxHeartbeats 4000000 in
theorem akb {O:List Nat} {w:World} (hO:OB O w) {B b:Nat} {x:bh} (hG:dq KK [] w) (hB:B<=w.heap.size) (h:ot B O w b x) {pid:Int} {r:bh×Int} (hr:KB shut x pid=some r):
  Calls Tryz.prog 119 #[.pointer (some ⟨b,0,none⟩),.int .u64 pid] w (λen w'=>en= .returned (.int .i64 r.2)/\ ∃O',bU B O w O' w'/\ot B O' w' b r.1):=by
 obtain⟨nv,rv,S,aB,h⟩:=h
 unfold KB at hr
 refine im (args:=[.pointer (some ⟨b,0,none⟩),.int .u64 pid]) (N:=34) Tryz.func119 rfl rfl rfl ?_
 refine aL ?_
 refine aT (l:=[0]) rfl ?_
 refine aD ai [0] [(0,(.pointer (some ⟨b,0,none⟩))),(1,.int .u64 pid)] rfl ⟨rfl,rfl,trivial⟩ ?_
 refine aQ ?_
 refine aM ?_
 refine aL ?_
 refine aT (l:=[0,1,2,3,4,5,6,7,8,9,10,11]) rfl ?_
 refine aD ai [0,1,2,3] [(0,(.pointer (some ⟨b,0,none⟩))),(1,.int .u64 pid),(11,(.pointer (some ⟨b,1,none⟩)))] rfl ⟨rfl,rfl,rfl,trivial⟩ ?_
 obtain⟨A1,c1,rfl,_,_⟩:=h.row.form
 refine eZ ai rfl rfl rfl rfl rfl rfl rfl h.bV [.slice A1 aB.length c1] rfl rfl (.inr rfl) (.slice A1 aB.length c1) rfl ?_
 refine aD ai [5] [(0,(.pointer (some ⟨b,0,none⟩))),(1,.int .u64 pid),(12,.slice A1 aB.length c1),(13,.int .u64 pid)] rfl ⟨rfl,rfl,rfl,rfl,trivial⟩ ?_
 obtain⟨f,hf,hr⟩:=bind_some hr
 refine EA rfl rfl rfl rfl rfl ah_ rfl (akc (xC _) hG (h.adA (λ_ hg=>by cases hg)) hf) (λv2 w2 g2 f2=>?_)
 obtain⟨_,_,rfl,q1,q2⟩:=g2
 obtain rfl:=ey.1 q1
 obtain rfl:=m5.1 q2
 have h:=h.cD f2
 have c_:bU B O w O w2:=bU.td hO hB f2
 refine aD ai [7,8,9,10,11] [(0,(.pointer (some ⟨b,0,none⟩))),(1,.int .u64 pid),(5,.int .i64 f.1),(6,.bool f.2)] rfl ⟨rfl,rfl,rfl,rfl,trivial⟩ ?_
 refine aQ ?_
 refine aM ?_
 refine aL ?_
 refine aL ?_
 refine aT (l:=[0,1]) rfl ?_
 refine aD ai [0,1] [(0,(.pointer (some ⟨b,0,none⟩))),(1,.int .u64 pid),(5,.int .i64 f.1),(18,.bool (!f.2))] rfl ⟨rfl,rfl,rfl,rfl,trivial⟩ ?_
 refine aQ ?_
 refine aM ?_
 rcases mo hr with⟨hc,hr⟩|⟨hc,hr⟩
 rotate_left
 ·refine jc rfl hc ?_
  refine eY ?_
  refine aM ?_
  refine aL ?_
  refine aT (l:=[0,1]) rfl ?_
  refine aD ai [0,1] [(4,.int .i64 f.1)] rfl ⟨rfl,trivial⟩ ?_
  refine aQ ?_
  refine aM ?_
  refine dJ ?_
  cases hr
  exact eI rfl ⟨rfl,_,c_,_,_,_,_,h⟩
 refine iK rfl hc ?_
 obtain⟨bs,eh,hr⟩:=bind_some hr
 cases hr
 refine aT (l:=[0,1,2,3,4,5,6,7,8,9,10,11,12,13,14]) rfl ?_
 refine aD ai [0,1,2,3,4] [(1,.int .u64 pid),(5,.int .i64 f.1),(19,(.pointer (some ⟨b,0,none⟩))),(23,(.pointer (some ⟨b,1,none⟩)))] rfl ⟨rfl,rfl,rfl,rfl,trivial⟩ ?_
 refine eZ ai rfl rfl rfl rfl rfl rfl rfl h.bV [.slice A1 aB.length c1] rfl rfl (.inr rfl) (.slice A1 aB.length c1) rfl ?_
 refine aD ai [6,7,8] [(5,.int .i64 f.1),(19,(.pointer (some ⟨b,0,none⟩))),(24,.slice A1 aB.length c1),(25,.int .i64 f.1),(27,.agg #[.int .u64 pid,.slice none 0 0])] rfl ⟨rfl,rfl,rfl,rfl,rfl,trivial⟩ ?_
 refine tM ai rfl rfl rfl rfl rfl rfl rfl rfl rfl rfl (T:=TR) (xs:=[(pid,.slice none 0 0)]) (vs:=[.agg #[.int .u64 pid,.slice none 0 0]]) rfl ⟨⟨_,⟨rfl,_,_,_,rfl⟩,rfl⟩,trivial⟩ rfl rfl rfl c_.ob (λb3 w3 q3=>?_)
 have h:=h.cD q3.fr
 have eu:=c_.trans (bU.td c_.ob (Nat.le_trans hB c_.tr.size) q3.fr)
 have JA:=q3.data c_.ob
 have Kc:=(q3.own (B:=0) (Nat.zero_le _)).plain
 have TA:B<=w3.heap.size:=Nat.le_trans hB eu.tr.size
 obtain⟨j0,j1,jsz,rfl⟩:=U6 eh
 have hlen:aB.length=x.ay.length:=by have:=h.fo.len;simpa using this
 have ajz:Ej aB f.1 [(pid,.slice none 0 0)]=some (aB.take f.1.toNat++[(pid,.slice none 0 0)]++aB.drop f.1.toNat):=by
  unfold Ej pj
  rw[if_pos ⟨j0,by rw[hlen];exact j1,by rw[hlen];exact jsz⟩]
 refine ZZ rfl rfl rfl rfl rfl ah' rfl (anU eu.ob TA h.row (ey.2 rfl) JA Kc ajz) (λv' w' O' ap=>?_)
 have c9:=eu.trans (bU.LC TA h.row ap)
 have hb4:=ap.bV h.bV h.rb
 obtain⟨A2,c2,rfl,_,_⟩:=ap.own.form
 have gI:=h.fo.ins f.1.toNat pid (by rw[hlen];omega)
 generalize hL:(aB.take f.1.toNat++[(pid,.slice none 0 0)]++aB.drop f.1.toNat)=L at*
 refine aD ai [11,12,13] [(5,.int .i64 f.1),(29,.slice A2 L.length c2),(32,(.pointer (some ⟨b,1,none⟩)))] rfl ⟨rfl,rfl,rfl,trivial⟩ ?_
 refine gD ai rfl rfl rfl rfl rfl rfl rfl hb4 [.slice A2 L.length c2] rfl rfl (by simp[Value.oneCell']) rfl [nv,.slice A2 L.length c2] rfl (λw5 qx f5=>?_)
 have jf:=c9.trans (bU.jE c9.ob (ap.sub _ h.mem) h.ge f5)
 refine aQ ?_
 refine aM ?_
 refine aL ?_
 refine aT (l:=[0,1]) rfl ?_
 refine aD ai [0,1] [(4,.int .i64 f.1)] rfl ⟨rfl,trivial⟩ ?_
 refine aQ ?_
 refine aM ?_
 refine dJ ?_
 refine eI rfl ⟨rfl,_,jf,_,_,_,_,h.boxes (x':=bh.mk x.aK (x.ay.take f.1.toNat++[an.mk pid []]++x.ay.drop f.1.toNat)) ap qx f5 ?_ h.nd h.out rfl⟩
 simpa[List.map_take,List.map_drop,bx] using gI
theorem apX {P:Program} {r:Option Nat} {N:Nat} {ops:Array Oper} {Q:Exit->Act->World->Prop} {l:List Nat} {E:Env} {ds:List Deferred} {w:World} {i d:Nat} {o:Oper} (ho:ops[i]? =some o) (hw:want N ops E o.guard=some true) (hd:o.dst=some d) (hN:Nat.blt d N=true) {x:Operand} {args:Array Operand} {ts:Array TypeId} (ak:o.op= .call { callee:= .value x,args:=args,argTypes:=ts })
  {g:FuncId} {first cap vs:List Value} (hx:ev E x=some (.func (.func g) first.toArray cap.toArray)) (ej:j7 E args.toList=some vs) (he: ∀(vs:Array Value) (u:World),(callFunc g vs).run P u= .ok (.enter g vs) u)
  {R:Ending->World->Prop} (gu:Calls P g (first++vs++cap).toArray w R) (h: ∀e w',R e w'-> ∃v,e= .returned v/\WO P r N ops Q l ((d,v)::E) ds w'):WO P r N ops Q (i::l) E ds w:=
 MZ ho hw hd hN (by rw[ak];simp) (λa ha=>by simpa using X6 (w:=w) ha ak hx ej he) gu h
noncomputable def xl (fuel:Sh) (x:bh) (pid:Int):Option (bh×Int×Int):=
 (KC fuel x).bind λh=>bif (!(h.2==0)) then some (bh.mk [] [],0,h.2) else bif (!(sX pid)) then some (bh.mk [] [],0,2) else(KB fuel h.1 pid).bind λq=>some (q.1,q.2,0)
noncomputable def Z7 (O:List Nat) (w:World) (r:bh×Int×Int) (en:Ending) (w':World):Prop:=
 ∃pv O',en= .returned (.tuple #[pv,.int .i64 r.2.1,.int .i64 r.2.2])/\bU w.heap.size O w O' w'/\(r.2.2=0-> ∃b,pv= .pointer (some ⟨b,0,none⟩)/\ot w.heap.size O' w' b r.1)
theorem bU.to {O O1 O':List Nat} {w w1 w':World} (h:bU w.heap.size O w O1 w1) (k:bU w1.heap.size O1 w1 O' w'):bU w.heap.size O w O' w':=
 h.trans ⟨k.tr,k.ob,k.sub,λi hi=>k.below i (Nat.lt_of_lt_of_le hi h.tr.size)⟩
theorem ot.less {B B':Nat} {O:List Nat} {w:World} {b:Nat} {x:bh} (h:ot B O w b x) (hb:B'<=B):ot B' O w b x:=by
 obtain⟨nv,rv,S,aB,h⟩:=h
 have less: ∀ {α:Type} {T:Ty α} {e:Nat} {v:Value} {xs:List α},Go.Dc.Own T e B O w v xs->Go.Dc.Own T e B' O w v xs:=λh=>by
  obtain⟨⟨cs,⟨h0,h1⟩,h2⟩,h3⟩:=h
  refine⟨⟨cs,⟨h0,?_⟩,h2⟩,h3⟩
  rcases h1 with h1|⟨g,cap,cur,hv,hg,r⟩
  ·exact .inl h1
  ·exact .inr ⟨g,cap,cur,hv,Nat.le_trans hb hg,r⟩
 have aiv: ∀ {S:List Nat} {rs:List (Int×Value)} {xs:List (Int×List Int)},dP TW 28 B w S rs xs->dP TW 28 B' w S rs xs:=λ{S rs xs} h=>by
  induction rs generalizing S xs with
  |nil=>cases xs with
   |nil=>exact h
   |cons _ _=>exact h.elim
  |cons r rs ih=>cases xs with
   |nil=>exact h.elim
   |cons y ys=>obtain⟨S2,h1,h2,h3,h4⟩:=h;exact⟨S2,h1,h2,h3.less hb,ih h4⟩
 exact⟨nv,rv,S,aB,h.mem,Nat.le_trans hb h.ge,h.bV,less h.ns,less h.row,aiv h.fo,h.nd,h.out,h.nb,h.rb,h.dj⟩
set_option maxRecDepth 100000 in
set_option maxHeartbeats 4000000 in
theorem KA {O:List Nat} {w:World} (hO:OB O w) (hG:dq KK [] w) {v0:Value} {x0:bh} (h0:ja.is [] w v0 x0) {pid:Int} {r:bh×Int×Int} (h:xl shut x0 pid=some r):Calls Tryz.prog 75 #[v0,.int .u64 pid] w (Z7 O w r):=by
 obtain⟨eG,eH,rfl,vS,sA⟩:=ma.1 h0
 have jO:bU w.heap.size O w O w:=bU.refl hO
 refine im (args:=[(.agg #[eG,eH]),.int .u64 pid]) (N:=29) Tryz.func75 rfl rfl rfl ?_
 unfold xl at h
 refine aL ?_
 refine aT (l:=[0,1,2,3]) rfl ?_
 refine rB rfl rfl rfl rfl rfl rfl [eG,eH] rfl hO (λb1 w1 n1=>?_)
 have cL:=n1.bV
 have d_:=jO.trans (bU.mN jO.tr.size n1)
 refine aD ai [1,2,3] [(1,.int .u64 pid),(2,(.pointer (some ⟨b1,0,none⟩)))] rfl ⟨rfl,rfl,trivial⟩ ?_
 refine aQ ?_
 refine aM ?_
 refine aL ?_
 refine aT (l:=[0,1,2,3,4,5,6]) rfl ?_
 refine eZ ai rfl rfl rfl rfl rfl rfl rfl cL [eG,eH] rfl rfl (.inl rfl) (.agg #[eG,eH]) rfl ?_
 obtain⟨e,he,h⟩:=bind_some h
 refine mT rfl rfl rfl rfl rfl ah7 rfl (ake d_.ob (hG.tr d_.fr.fp) (h0.tr d_.fr.fp) he) (λ_ w2 hg=>?_)
 obtain⟨pv,O2,rfl,c_,qv⟩:=hg
 refine⟨_,rfl,?_⟩
 have eu:=d_.to c_
 refine aD ai [2,3,4,5,6] [(1,.int .u64 pid),(7,pv),(8,.int .i64 e.2)] rfl ⟨rfl,rfl,rfl,trivial⟩ ?_
 refine aQ ?_
 refine aM ?_
 refine aL ?_
 refine rA ?_
 refine aL ?_
 refine aT (l:=[0,1,2]) rfl ?_
 refine aD ai [0,1,2] [(1,.int .u64 pid),(7,pv),(8,.int .i64 e.2),(15,.bool (!(e.2==0)))] rfl ⟨rfl,rfl,rfl,rfl,trivial⟩ ?_
 refine aQ ?_
 refine aM ?_
 rcases mo h with⟨hc,h⟩|⟨hc,h⟩
 ·refine iK rfl hc ?_
  refine aL ?_
  refine aT (l:=[0,1,2,3]) rfl ?_
  refine aD ai [0,1,2,3] [(4,(.pointer none)),(5,.int .i64 0),(6,.int .i64 e.2)] rfl ⟨rfl,rfl,rfl,trivial⟩ ?_
  refine aQ ?_
  refine aM ?_
  refine dJ ?_
  cases h
  exact EB (gm (eI rfl ⟨_,_,rfl,eu,λh0=>by simp at hc;exact absurd h0 hc⟩))
 refine jc rfl hc ?_
 have nD:e.2=0:=by simpa using hc
 obtain⟨b,rfl,hH⟩:=qv nD
 have hH:=hH.less d_.tr.size
 refine aL ?_
 refine aT (l:=[0,1,2,3]) rfl ?_
 refine aD ai [0] [(1,.int .u64 pid),(7,(.pointer (some ⟨b,0,none⟩))),(8,.int .i64 e.2),(20,.int .u64 pid)] rfl ⟨rfl,rfl,rfl,rfl,trivial⟩ ?_
 refine EA rfl rfl rfl rfl rfl aie rfl (akd (xC _) (hG.tr eu.fr.fp) (ey.2 rfl)) (λv4 w4 g4 f4=>?_)
 obtain rfl:=m5.1 g4
 have c9:=eu.trans (bU.td eu.ob eu.tr.size f4)
 have hH:ot w.heap.size O2 w4 b e.1:=let⟨_,_,_,_,k⟩:=hH;⟨_,_,_,_,k.cD f4⟩
 refine aD ai [2,3] [(1,.int .u64 pid),(7,(.pointer (some ⟨b,0,none⟩))),(19,.bool (!(sX pid)))] rfl ⟨rfl,rfl,rfl,trivial⟩ ?_
 refine aQ ?_
 refine aM ?_
 rcases mo h with⟨hc,h⟩|⟨hc,h⟩
 ·refine iK rfl hc ?_
  refine aL ?_
  refine aT (l:=[0,1,2]) rfl ?_
  refine aD ai [0,1,2] [(4,(.pointer none)),(5,.int .i64 0),(6,.int .i64 2)] rfl ⟨rfl,rfl,rfl,trivial⟩ ?_
  refine aQ ?_
  refine aM ?_
  refine dJ ?_
  cases h
  exact EB (gm (eI rfl ⟨_,_,rfl,c9,λh0=>by cases h0⟩))
 refine jc rfl hc ?_
 refine eY ?_
 refine yn (aM ?_)
 refine aL ?_
 refine aT (l:=[0,1,2]) rfl ?_
 refine aD ai [0,1,2] [(1,.int .u64 pid),(7,(.pointer (some ⟨b,0,none⟩))),(9,.func (.func 119) #[.pointer (some ⟨b,0,none⟩)] #[])] rfl ⟨rfl,rfl,rfl,trivial⟩ ?_
 refine aQ ?_
 refine aM ?_
 refine aL ?_
 refine aT (l:=[0,1,2,3,4,5,6]) rfl ?_
 refine aD ai [0,1,2] [(25,(.pointer (some ⟨b,0,none⟩))),(26,.func (.func 119) #[.pointer (some ⟨b,0,none⟩)] #[]),(27,.int .u64 pid)] rfl ⟨rfl,rfl,rfl,trivial⟩ ?_
 obtain⟨q,hq,h⟩:=bind_some h
 cases h
 refine apX (first:=[.pointer (some ⟨b,0,none⟩)]) (cap:=[]) rfl rfl rfl rfl rfl rfl rfl ah8 (akb c9.ob (hG.tr c9.fr.fp) c9.tr.size hH hq) (λ_ w5 hg=>?_)
 obtain⟨rfl,O5,jf,hH5⟩:=hg
 refine⟨_,rfl,?_⟩
 refine aD ai [4,5,6] [(4,(.pointer (some ⟨b,0,none⟩))),(5,.int .i64 q.2),(6,.int .i64 0)] rfl ⟨rfl,rfl,rfl,trivial⟩ ?_
 refine aQ ?_
 refine aM ?_
 refine dJ ?_
 exact eI rfl ⟨_,_,rfl,c9.trans jf,λ_=>⟨b,rfl,hH5⟩⟩
noncomputable def Safe (S:List Nat) (w:World) (v:Value) (ys:List Int):Prop:= ∀O2:List Nat,(∀g∈S,g∉O2)->TW.slice.is O2 w v ys
theorem Safe.keep {S:List Nat} {w w':World} {O O':List Nat} {v:Value} {ys:List Int} (h:Safe S w v ys) (ht:Tr O w O' w') (hk: ∀g∈S,w'.heap[g]? =w.heap[g]?):Safe S w' v ys:=λO2 lQ=>by
 refine(h ((List.range w.heap.size).filter λk=>!S.contains k) (λg hg hm=>?_)).tr ⟨ht.os,ht.tape,ht.output,ht.size,λk wO fP=>?_⟩
 ·simp[hg] at hm
 ·have hS:k∈S:=by
   rw[List.mem_filter] at fP
   by_cases hc:k∈S
   ·exact hc
   ·exact absurd ⟨by simpa using wO,by simpa using hc⟩ fP
  exact⟨lQ k hS,hk k hS⟩
noncomputable def eJ (S:List Nat) (w:World):List (Int×Value)->List an->Prop
 |[],[]=>True
 |r::rs,z::bs=>r.1=z.ae/\Safe S w r.2 z.a_/\eJ S w rs bs
 |_,_=>False
theorem eJ.imp {S S':List Nat} {w w':World} (h: ∀v ys,Safe S w v ys->Safe S' w' v ys): ∀ {rs:List (Int×Value)} {bs:List an},eJ S w rs bs->eJ S' w' rs bs
 |[],[],_=>trivial
 |_::_,_::_,⟨h1,h2,h3⟩=>⟨h1,h _ _ h2,eJ.imp h h3⟩
 |[],_::_,k=>k.elim
 |_::_,[],k=>k.elim
theorem eJ.len {S:List Nat} {w:World}: ∀ {rs:List (Int×Value)} {bs:List an},eJ S w rs bs->rs.length=bs.length
 |[],[],_=>rfl
 |_::_,_::_,⟨_,_,h3⟩=>by simp[eJ.len h3]
 |[],_::_,k=>k.elim
 |_::_,[],k=>k.elim
theorem eJ.of {B:Nat} {w:World}: ∀ {S:List Nat} {rs:List (Int×Value)} {bs:List an} (S0:List Nat),dP TW 28 B w S rs (bs.map bx)->(∀g∈S,g∈S0)->eJ S0 w rs bs
 |_,[],[],_,_,_=>trivial
 |_,r::rs,z::bs,S0,⟨S2,h1,h2,h3,h4⟩,hs=>by
  refine⟨h1,λO2 lQ=>h3.data j6 λg hg=>lQ g (hs g (by rw[h2,hg];simp)),eJ.of S0 h4 λg hg=>hs g (by rw[h2];exact List.mem_append_right _ hg)⟩
 |_,[],_::_,_,h,_=>h.elim
 |_,_::_,[],_,h,_=>h.elim
theorem eJ.at_ {S:List Nat} {w:World}: ∀ {rs:List (Int×Value)} {bs:List an} {k:Nat} {z:an},eJ S w rs bs->bs[k]? =some z-> ∃v,rs[k]? =some (z.ae,v)/\Safe S w v z.a_
 |r::rs,y::bs,0,z,⟨h1,h2,_⟩,hk=>by
  simp at hk
  subst hk
  exact⟨r.2,by simp[<-h1],h2⟩
 |r::rs,y::bs,k+1,z,⟨_,_,h3⟩,hk=>by
  obtain⟨v,a,b⟩:=eJ.at_ h3 (by simpa using hk)
  exact⟨v,by simpa using a,b⟩
 |[],[],_,_,_,hk=>by simp at hk
 |[],_::_,_,_,h,_=>h.elim
 |_::_,[],_,_,h,_=>h.elim
theorem eJ.set {S:List Nat} {w:World}: ∀ {rs:List (Int×Value)} {bs:List an} (k:Nat) {v:Value} {p:Int} {ys:List Int},eJ S w rs bs->Safe S w v ys->eJ S w (rs.set k (p,v)) (bs.set k (an.mk p ys))
 |[],[],_,_,_,_,h,_=>h
 |r::rs,y::bs,0,v,p,ys,⟨_,_,h3⟩,hv=>⟨rfl,hv,h3⟩
 |r::rs,y::bs,k+1,v,p,ys,⟨h1,h2,h3⟩,hv=>⟨h1,h2,eJ.set k h3 hv⟩
 |[],_::_,_,_,_,_,h,_=>h.elim
 |_::_,[],_,_,_,_,h,_=>h.elim
theorem anV {S:List Nat} {w:World}:Safe S w (.slice none 0 0) []:=λ_ _=>j4 _ _ _
theorem eJ.filter {S:List Nat} {w:World}: ∀ {rs:List (Int×Value)} {bs:List an},eJ S w rs bs->eJ S w (rs.filter λr=>!emp r) (bs.filter λz=>!(z.a_.length==0))
 |[],[],_=>trivial
 |r::rs,z::bs,⟨h1,h2,h3⟩=>by
  obtain⟨A,c,e,_,_⟩:=fm (h2 [] (λ_ _ h=>by cases h))
  have he:emp r=(z.a_.length==0):=by unfold emp;rw[e];rfl
  rw[List.filter_cons,List.filter_cons,he]
  cases hz:z.a_.length==0 with
  |true=>exact eJ.filter h3
  |false=>exact⟨h1,h2,eJ.filter h3⟩
 |[],_::_,k=>k.elim
 |_::_,[],k=>k.elim
structure jJ (B:Nat) (O:List Nat) (w:World) (b:Nat) (nv rv:Value) (S:List Nat) (aB:List (Int×Value)) (x:bh):Prop where
 mem:b∈O
 ge:B<=b
 bV:b9 w b 128 [nv,rv]
 ns:Go.Dc.Own eP 93 B O w nv x.aK
 row:Go.Dc.Own TR 82 B O w rv aB
 fo:eJ S w aB x.ay
 lt: ∀g∈S,B<=g/\g<w.heap.size
 out: ∀g∈S,g∉O
 nb:nv.ownBlock≠some b
 rb:rv.ownBlock≠some b
 dj:Dj nv rv
noncomputable def PD (B:Nat) (O:List Nat) (w:World) (b:Nat) (x:bh):Prop:= ∃nv rv S aB,jJ B O w b nv rv S aB x
theorem gS.MV {B:Nat} {O:List Nat} {w:World} {b:Nat} {nv rv:Value} {S:List Nat} {aB:List (Int×Value)} {x:bh} (h:gS B O w b nv rv S aB x):jJ B O w b nv rv S aB x:=
 ⟨h.mem,h.ge,h.bV,h.ns,h.row,eJ.of S h.fo (λ_ h=>h),h.fo.lt,h.out,h.nb,h.rb,h.dj⟩
section
variable {B:Nat} {O O':List Nat} {w w' cE:World} {b:Nat} {nv rv:Value} {S:List Nat} {aB:List (Int×Value)} {x:bh}
theorem jJ.cD (h:jJ B O w b nv rv S aB x) (hf:Fr [] w w'):jJ B O w' b nv rv S aB x:=
 ⟨h.mem,h.ge,h.bV.cD hf,h.ns.cD hf,h.row.cD hf,h.fo.imp λ_ _ k=>k.keep (O:=[]) (O':=[]) hf.fp λg hg=>hf.block g (h.lt g hg).2 (by simp),λg hg=>⟨(h.lt g hg).1,Nat.lt_of_lt_of_le (h.lt g hg).2 hf.size⟩,h.out,h.nb,h.rb,h.dj⟩
theorem jJ.cell (h:jJ B O w b nv rv S aB x) {b':Nat} (hb:b'∈O) (aH:b'<B) (hf:Fr [b'] w w'):jJ B O w' b nv rv S aB x:=
 ⟨h.mem,h.ge,h.bV.fr hf (by simp;have:=h.ge;omega),h.ns.st hf hb (λe=>by have:=(h.ns.lt b' e).1;omega),h.row.st hf hb (λe=>by have:=(h.row.lt b' e).1;omega),
  h.fo.imp λ_ _ k=>k.keep (hf.tr (kI hb)) λg hg=>hf.block g (h.lt g hg).2 (by simp;have:=(h.lt g hg).1;omega),λg hg=>⟨(h.lt g hg).1,Nat.lt_of_lt_of_le (h.lt g hg).2 hf.size⟩,h.out,h.nb,h.rb,h.dj⟩
theorem jJ.boxes (h:jJ B O w b nv rv S aB x) {rn:Value} {q9:List (Int×Value)} {x':bh} (ap:e9 TR 82 B O w rv q9 O' w' rn) (hb:b9 cE b 128 [nv,rn]) (hf:Fr [b] w' cE)
  (gI:eJ S w q9 x'.ay) (hn:x'.aK=x.aK):jJ B O' cE b nv rn S q9 x':=by
 have hm:=ap.sub _ h.mem
 have xc:=ap.ne _ h.bV.lt h.rb
 have lX:=ap.other h.ns λg hg=>h.dj g hg
 refine⟨hm,h.ge,hb,by rw[hn];exact lX.st hf hm h.nb,ap.own.st hf hm xc,?_,λg hg=>⟨(h.lt g hg).1,Nat.lt_of_lt_of_le (h.lt g hg).2 (Nat.le_trans ap.tr.size hf.size)⟩,λg hg=>(ap.tr.keep g (h.lt g hg).2 (h.out g hg)).1,h.nb,xc,λg hg=>ap.ne _ (h.ns.lt g hg).2 (h.dj g hg)⟩
 refine gI.imp λ_ _ k=>k.keep (ap.tr.trans (hf.tr (kI hm))) λg hg=>?_
 rw[hf.block g (Nat.lt_of_lt_of_le (h.lt g hg).2 ap.tr.size) (by simp;rintro rfl;exact h.out _ hg h.mem),(ap.tr.keep g (h.lt g hg).2 (h.out g hg)).2]
theorem jJ.data {O2:List Nat} (h:jJ B O w b nv rv S aB x) (hO: ∀g∈O2,g<B):ja.is O2 w (.agg #[nv,rv]) x:=by
 refine ma.2 ⟨_,_,rfl,h.ns.mv.data Es (λg hg ho=>by have:=(h.ns.lt g hg).1;have:=hO g ho;omega),?_⟩
 have hlen:=h.fo.len
 obtain⟨cs,⟨A,c,hc,hl,hx⟩,hv⟩:=h.row.mv.data (O:=O2) (LX _) (λg hg ho=>by have:=(h.row.lt g hg).1;have:=hO g ho;omega)
 refine⟨cs,⟨A,c,by rw[<-hlen];exact hc,by rw[<-hlen];exact hl,λk z hk=>?_⟩,hv⟩
 obtain⟨v,hr,hs⟩:=h.fo.at_ hk
 obtain⟨ad,es,hA,hb,ho,eN,wA⟩:=hx k _ hr
 refine⟨ad,es,hA,hb,ho,?_,wA⟩
 refine⟨[.int .u64 z.ae],[v],?_,rfl,ri rfl (hs O2 λg hg ho=>by have:=(h.lt g hg).1;have:=hO g ho;omega)⟩
 rw[eN.1]
 rfl
end
set_option maxRecDepth 100000 in
set_option maxHeartbeats 4000000 in
theorem KD {O:List Nat} {w:World} (hO:OB O w) {B b:Nat} {x:bh} (hB:B<=w.heap.size) (h:PD B O w b x):Calls Tryz.prog 76 #[.pointer (some ⟨b,0,none⟩)] w (λen w'=>en= .returned (.tuple #[])/\ ∃O',bU B O w O' w'/\PD B O' w' b (yf x)):=by
 obtain⟨nv,rv,S,aB,h⟩:=h
 refine im (args:=[.pointer (some ⟨b,0,none⟩)]) (N:=12) Tryz.func76 rfl rfl rfl ?_
 refine aT (l:=[0,1,2,3,4,5,6,7,8,9,10]) rfl ?_
 refine aD ai [0,1,2,3,4] [(2,(.pointer (some ⟨b,0,none⟩))),(6,(.pointer (some ⟨b,1,none⟩)))] rfl ⟨rfl,rfl,trivial⟩ ?_
 obtain⟨A1,c1,rfl,_,_⟩:=h.row.form
 refine eZ ai rfl rfl rfl rfl rfl rfl rfl h.bV [.slice A1 aB.length c1] rfl rfl (.inr rfl) (.slice A1 aB.length c1) rfl ?_
 refine ZZ rfl rfl rfl rfl rfl ah9 rfl (anR hO h.row) (λv' w' O' ap=>?_)
 have d_:=bU.LC hB h.row ap
 have cL:=ap.bV h.bV h.rb
 obtain⟨A2,c2,rfl,_,_⟩:=ap.own.form
 have gI:=h.fo.filter
 generalize hL:(aB.filter λr=>!emp r)=L at*
 refine aD ai [7,8,9] [(8,.slice A2 L.length c2),(11,(.pointer (some ⟨b,1,none⟩)))] rfl ⟨rfl,rfl,trivial⟩ ?_
 refine gD ai rfl rfl rfl rfl rfl rfl rfl cL [.slice A2 L.length c2] rfl rfl (by simp[Value.oneCell']) rfl [nv,.slice A2 L.length c2] rfl (λw3 C0 f3=>?_)
 have c_:=d_.trans (bU.jE d_.ob (ap.sub _ h.mem) h.ge f3)
 refine aQ ?_
 exact ap1 rfl ⟨rfl,_,c_,_,_,_,_,h.boxes (x':=yf x) ap C0 f3 gI rfl⟩
theorem Mj {B:Nat} {O:List Nat} {w:World} {A:Option Addr} {c:Nat} {aB:List (Int×Value)} (hv:Go.Dc.Own TR 82 B O w (.slice A aB.length c) aB) (h0:0<aB.length):
  ∃g R,A=some ⟨g,0,none⟩/\g∈O/\B<=g/\b9 w g 82 (rc aB++R)/\aB.length*2+R.length=c*2/\aB.length<=c/\c<=maxLen/\ ∀r∈aB,∃A n c,r.2= .slice A n c:=by
 obtain⟨cs,⟨bS,g_⟩,eN⟩:=hv.ex
 rcases g_ with⟨_,mA⟩|⟨g,cap,cur,g_,ir,hh,kr,qz,fb,jR⟩
 ·omega
 injection g_ with hA sQ iR
 subst hA;subst iR
 obtain⟨qB,mz⟩:=Mh eN
 have nu:TR.n=2:=rfl
 rw[nu] at fb jR
 have ke:cur.toList=rc aB++cur.toList.drop (aB.length*2):=by
  rw[<-qB,<-jR,jR]
  conv=>lhs;rw[<-List.take_append_drop (aB.length*2) cur.toList]
  rw[jR]
 refine⟨g,cur.toList.drop (aB.length*2),rfl,hv.mem g rfl,ir,?_,?_,kr,qz,mz⟩
 ·unfold b9
  rw[<-ke,Array.toArray_toList]
  exact hh
 ·have:=congrArg List.length ke
  rw[Array.length_toList,fb] at this
  simp only[List.length_append,rc,iH,List.length_map] at this
  omega
theorem anq {B:Nat} {O:List Nat} {w':World} {g c:Nat} {L:List (Int×Value)} {R:List Value} (hg:g∈O) (hB:B<=g) (hb:b9 w' g 82 (rc L++R)) (hl:L.length*2+R.length=c*2) (hc:L.length<=c) (hm:c<=maxLen) (hf: ∀r∈L,∃A n c,r.2= .slice A n c):
  Go.Dc.Own TR 82 B O w' (.slice (some ⟨g,0,none⟩) L.length c) L:=by
 refine⟨⟨rc L,⟨by rw[rc,iH,List.length_map];rfl,.inr ⟨g,c,(rc L++R).toArray,rfl,hB,hb,hc,hm,?_,?_⟩⟩,L0 hf⟩,λk hk=>by cases hk;exact hg⟩
 ·rw[List.size_toArray,List.length_append,rc,iH,List.length_map];exact hl
 ·exact List.take_left' (by rw[rc,iH,List.length_map];rfl)
theorem pG {L:List (Int×Value)} {R:List Value} {k:Nat} {x:Int×Value} (h:L[k]? =some x):((rc L++R).drop (k*2+1)).take 1=[x.2]:=by
 have:=LY (R:=R) h
 have e:=congrArg (List.drop 1) this
 rw[List.drop_take,List.drop_drop] at e
 simpa using e
theorem LZ {L:List (Int×Value)} {R:List Value} {k:Nat} {x:Int×Value} {v:Value} (h:L[k]? =some x):putAt (rc L++R) (k*2+1) [v]=rc (L.set k (x.1,v))++R:=by
 have hk:=(List.getElem?_eq_some_iff.1 h).1
 rw[<-Xy (x:=(x.1,v)) hk]
 have h0:=LY (R:=R) h
 have hd:((rc L++R).drop (k*2))= .int .u64 x.1::x.2::(rc L++R).drop (k*2+2):=by
  have:=List.take_append_drop 2 ((rc L++R).drop (k*2))
  rw[h0,List.drop_drop] at this
  exact this.symm
 unfold putAt
 have ht:(rc L++R).take (k*2+1)=(rc L++R).take (k*2)++[.int .u64 x.1]:=by
  rw[List.take_add,hd]
  rfl
 rw[ht]
 simp
noncomputable def Kx (fuel:Sh) (x:bh) (pid:Int):Option (bh×Int×Int):=
 (xl fuel x pid).bind λh=>bif (!(h.2.2==0)) then some (bh.mk [] [],0,h.2.2) else(idx h.1.ay h.2.1).bind λz=>some (yf (bh.mk h.1.aK (h.1.ay.set h.2.1.toNat (an.mk z.ae []))),(z.a_.length:Int),0)
noncomputable def Ky (fuel:Sh) (x:bh) (pid:Int):Option (bh×Int×Int):=
 (xl fuel x pid).bind λh=>bif (!(h.2.2==0)) then some (bh.mk [] [],0,h.2.2) else(idx h.1.ay h.2.1).bind λz=>bif ((z.a_.length:Int)==0) then some (bh.mk [] [],0,4) else
  (idx z.a_ 0).bind λw0=>some (yf (bh.mk h.1.aK (h.1.ay.set h.2.1.toNat (an.mk z.ae (z.a_.drop 1)))),w0,0)
noncomputable def Kz (fuel:Sh) (x:bh) (pid:Int) (words:List Int):Option (bh×Int):=
 (xl fuel x pid).bind λh=>bif (!(h.2.2==0)) then some (bh.mk [] [],h.2.2) else(idx h.1.ay h.2.1).bind λz=>bif (decide (IntKind.i64.wrap ((z.a_.length:Int)+(words.length:Int))>4)) then some (bh.mk [] [],6) else
  (app 8 z.a_ words).bind λws=>some (yf (bh.mk h.1.aK (h.1.ay.set h.2.1.toNat (an.mk z.ae ws))),0)
theorem LR {B:Nat} {O:List Nat} {w w':World} {b g c:Nat} {nv:Value} {S:List Nat} {aB L:List (Int×Value)} {R:List Value} {names:List aw} {bs:List an} (mem:b∈O) (ge:B<=b) (bV:b9 w b 128 [nv,.slice (some ⟨g,0,none⟩) aB.length c]) (ns:Go.Dc.Own eP 93 B O w nv names) (nb:nv.ownBlock≠some b) (dj:Dj nv (.slice (some ⟨g,0,none⟩) aB.length c))
  (oW:g≠b) (gb:g∈O) (ir:B<=g) (hl:aB.length*2+R.length=c*2) (hc:aB.length<=c) (hm:c<=maxLen) (f:Fr [g] w w') (fa:b9 w' g 82 (rc L++R)) (hL:L.length=aB.length) (hLf: ∀r∈L,∃A n c,r.2= .slice A n c) (gI:eJ S w L bs) (lt: ∀j∈S,B<=j/\j<w.heap.size) (out: ∀j∈S,j∉O):
  jJ B O w' b nv (.slice (some ⟨g,0,none⟩) aB.length c) S L (bh.mk names bs):=by
 refine⟨mem,ge,bV.fr f (by simp;exact λe=>oW e.symm),ns.st f gb (λe=>dj g e rfl),?_,gI.imp λ_ _ k=>k.keep (f.tr (kI gb)) λj hj=>f.block j (lt j hj).2 (by simp;rintro rfl;exact out _ hj gb),λj hj=>⟨(lt j hj).1,Nat.lt_of_lt_of_le (lt j hj).2 f.size⟩,out,nb,λe=>oW (by injection e),dj⟩
 rw[<-hL]
 exact anq gb ir fa (by rw[hL];exact hl) (by rw[hL];exact hc) hm hLf
noncomputable def SP.safe (S:List Nat) (ys:List Int):SP:=⟨λw u=>(∀g∈S,g<w.heap.size)/\Safe S w u ys,λhf ⟨h1,h2⟩=>⟨λg hg=>Nat.lt_of_lt_of_le (h1 g hg) hf.size,h2.keep (O:=[]) (O':=[]) hf.fp λg hg=>hf.block g (h1 g hg) (by simp)⟩⟩
theorem ald {P:Program} {r:Option Nat} {N:Nat} {Θ:dm} {ops:Array Oper} {Q:Exit->Act->World->Prop} {E:Env} {ds:List Deferred} {w:World} {i d:Nat} {o:Oper} {S:List Nat} (aO:Θ.ok P) {a:Act} (ha:Has N E ds a) (ho:ops[i]? =some o) (hw:want N ops E o.guard=some true) (hd:o.dst=some d) {t:Nat} {x:Operand} {lo hi mx:Option Operand} {ti te:TI} (ak:o.op= .slice t x lo hi mx) (ht:Θ.get t=some ti)
  (h5:ti.tag=5) (cd:Θ.get ti.e=some te) {v:Value} (hx:ev E x=some v) {l' h' m':Option (IntKind×Int)} (nJ:na E lo=some l') (nE:na E hi=some h') (wV:na E mx=some m') {xs ys:List Int} (hn:TW.n=te.size) (hv:Safe S w v xs)
  (hc:gq xs (l'.map (·.2)) (h'.map (·.2)) (m'.map (·.2))=some ys):gn P r ops Q i d a w (λu w'=>Safe S w' u ys/\Fr [] w w'):=by
 obtain⟨v',bC,iD⟩:=Eh (w:=w) aO ht h5 cd hn (hv [] λ_ _ hm=>by cases hm) hc
 have hs:Safe S w v' ys:=λO2 lQ=>by
  obtain⟨v'',UM,aj6⟩:=Eh (w:=w) aO ht h5 cd hn (hv O2 lQ) hc
  rw[bC] at UM
  injection UM with e1 e2
  rw[e1]
  exact aj6
 refine qY ho (j5 ha hw) hd (b:=true) (v:=v') (w':=w) ?_ ⟨hs,Fr.refl _ _⟩
 simp only[if_true]
 refine⟨by rw[ak];simp,?_⟩
 simp only[execOp,ak,Sem.run_bind,ha.eval hx,so ha nJ,so ha nE,so ha wV,bC]
 rfl
set_option maxRecDepth 100000 in
set_option maxHeartbeats 4000000 in
theorem aj_ {O:List Nat} {w:World} (hO:OB O w) (hG:dq KK [] w) {v0:Value} {x0:bh} (h0:ja.is [] w v0 x0) {v1:Value} {x1:Int} (h1:(Ty.int .u64).is [] w v1 x1) {r:bh×Int×Int} (h:Kx shut x0 x1=some r):Calls Tryz.prog 30 #[v0,v1] w (jI (X1 ja (Ty.int .i64) (Ty.int .i64)) O w r):=by
 obtain rfl:=ey.1 h1
 obtain⟨eG,eH,rfl,vS,sA⟩:=ma.1 h0
 have jO:bU w.heap.size O w O w:=bU.refl hO
 refine im (args:=[(.agg #[eG,eH]),(.int .u64 x1)]) (N:=47) Tryz.func30 rfl rfl rfl ?_
 unfold Kx at h
 refine aL ?_
 refine aT (l:=[0,1,2,3]) rfl ?_
 refine rB rfl rfl rfl rfl rfl rfl [eG,eH] rfl hO (λb1 w1 n1=>?_)
 have cL:=n1.bV
 have d_:=jO.trans (bU.mN jO.tr.size n1)
 refine yk ai rfl rfl rfl rfl rfl rfl [(.slice none 0 0),(.slice none 0 0)] rfl d_.ob (λb2 w2 n2=>?_)
 have cL:=cL.cD n2.fr
 have cG:=n2.bV
 have kW:w.heap.size<=b2:=Nat.le_trans d_.tr.size n2.ge
 have c_:=d_.trans (bU.mN d_.tr.size n2)
 have i2:b2∈b2::b1::O:=List.mem_cons_self
 have gw:b2<w2.heap.size:=cG.lt
 have lQ: ∀g∈O,g<w2.heap.size:=λg hg=>Nat.lt_of_lt_of_le (hO g hg) c_.tr.size
 refine aD ai [2,3] [(1,(.int .u64 x1)),(2,(.pointer (some ⟨b1,0,none⟩))),(4,(.pointer (some ⟨b2,0,none⟩)))] rfl ⟨rfl,rfl,rfl,trivial⟩ ?_
 refine aQ ?_
 refine aM ?_
 refine aL ?_
 refine aT (l:=[0,1,2,3,4,5,6,7,8,9]) rfl ?_
 refine eZ ai rfl rfl rfl rfl rfl rfl rfl cL [eG,eH] rfl rfl (.inl rfl) (.agg #[eG,eH]) rfl ?_
 obtain⟨e,he,h⟩:=bind_some h
 refine aD ai [1] [(1,(.int .u64 x1)),(4,(.pointer (some ⟨b2,0,none⟩))),(12,(.agg #[eG,eH])),(13,(.int .u64 x1))] rfl ⟨rfl,rfl,rfl,rfl,trivial⟩ ?_
 refine mT rfl rfl rfl rfl rfl Ht rfl (KA c_.ob (hG.tr c_.fr.fp) (h0.tr c_.fr.fp) he) (λ_ w3 hg=>?_)
 obtain⟨pv,O3,rfl,eu,qv⟩:=hg
 refine⟨_,rfl,?_⟩
 have cG:b9 w3 b2 34 [(.slice none 0 0),(.slice none 0 0)]:=(eu.below _ gw).trans cG
 have c9:=c_.to eu
 have i2:=eu.sub _ i2
 refine aD ai [3,4,5,6,7,8,9] [(1,(.int .u64 x1)),(4,(.pointer (some ⟨b2,0,none⟩))),(7,pv),(8,(.int .i64 e.2.1)),(9,(.int .i64 e.2.2))] rfl ⟨rfl,rfl,rfl,rfl,rfl,trivial⟩ ?_
 refine aQ ?_
 refine aM ?_
 refine aL ?_
 refine aL ?_
 refine aT (l:=[0,1]) rfl ?_
 refine aD ai [0,1] [(1,(.int .u64 x1)),(4,(.pointer (some ⟨b2,0,none⟩))),(7,pv),(8,(.int .i64 e.2.1)),(9,(.int .i64 e.2.2)),(19,(.bool (!(e.2.2==0))))] rfl ⟨rfl,rfl,rfl,rfl,rfl,rfl,trivial⟩ ?_
 refine aQ ?_
 refine aM ?_
 rcases mo h with⟨hc,h⟩|⟨hc,h⟩
 ·refine iK rfl hc ?_
  cases h
  refine aL ?_
  refine aT (l:=[0,1,2,3,4]) rfl ?_
  refine aD ai [0,1] [(4,(.pointer (some ⟨b2,0,none⟩))),(20,(.agg #[(.slice none 0 0),(.slice none 0 0)])),(21,(.int .i64 e.2.2))] rfl ⟨rfl,rfl,rfl,trivial⟩ ?_
  refine gD ai rfl rfl rfl rfl rfl rfl rfl cG [(.slice none 0 0),(.slice none 0 0)] rfl rfl (by simp[Value.oneCell']) rfl [(.slice none 0 0),(.slice none 0 0)] rfl (λwE jv fE=>?_)
  refine aD ai [3,4] [(4,(.pointer (some ⟨b2,0,none⟩))),(5,(.int .i64 0)),(6,(.int .i64 e.2.2))] rfl ⟨rfl,rfl,rfl,trivial⟩ ?_
  refine aQ ?_
  refine aM ?_
  refine dJ ?_
  exact gm (pO ai (vs:=[.agg #[(.slice none 0 0),(.slice none 0 0)],(.int .i64 0),(.int .i64 e.2.2)]) ⟨_,_,rfl,⟨_,_,_,_,rfl,jv,rfl,rfl,.inl rfl,rfl⟩,_,_,rfl,rfl,_,_,rfl,rfl,rfl⟩ ⟨_,rfl,⟨_,_,_,rfl,(ma.2 ⟨_,_,rfl,j4 _ _ _,j4 _ _ _⟩),ey.2 rfl,ey.2 rfl⟩,(c9.trans (bU.jE c9.ob i2 kW fE)).fr⟩)
 refine jc rfl hc ?_
 have nD:e.2.2=0:=by simpa using hc
 obtain⟨b,rfl,nv,rv,S,aB,hH⟩:=qv nD
 refine eY ?_
 refine aM ?_
 obtain⟨z,hz,h⟩:=bind_some h
 obtain⟨sO,nH⟩:=sY hz
 obtain⟨k,hk⟩: ∃k:Nat,k=e.2.1.toNat:=⟨_,rfl⟩
 rw[<-hk] at nH
 have wF:e.2.1=(k:Int):=by omega
 rw[wF]
 rw[<-hk] at h
 have ju:=hH.MV
 obtain⟨vw,hr,qM⟩:=ju.fo.at_ nH
 obtain⟨Aw,cw,rfl,Uw,Uy⟩:=fm (qM [] λ_ _ hm=>by cases hm)
 obtain⟨Ar,cr,rfl,_,_⟩:=hH.row.form
 have o5:=(List.getElem?_eq_some_iff.1 hr).1
 obtain⟨g,R,rfl,gb,ir,iv,wQ,wy,wS,mz⟩:=Mj hH.row (by omega)
 have oW:g≠b:=λe=>hH.rb (by rw[<-e];rfl)
 have e1:(k:Int).toNat*({ tag:=8,k:=0,e:=0,fs:=[(29,0),(40,1)],size:=2,bytes:=32,zero:= .agg #[.int .u64 0,.slice none 0 0] }:TI).size=k*2:=by rw[Int.toNat_natCast]
 have aH:(k:Int).toNat<aB.length:=by rw[Int.toNat_natCast];exact o5
 refine aL ?_
 refine aT (l:=[0,1,2,3,4,5,6,7,8,9,10]) rfl ?_
 refine aD ai [0,1,2,3] [(4,(.pointer (some ⟨b2,0,none⟩))),(7,(.pointer (some ⟨b,0,none⟩))),(8,(.int .i64 (k:Int))),(25,(.pointer (some ⟨b,1,none⟩)))] rfl ⟨rfl,rfl,rfl,rfl,trivial⟩ ?_
 refine eZ ai rfl rfl rfl rfl rfl rfl rfl hH.bV [(.slice (some ⟨g,0,none⟩) aB.length cr)] rfl rfl (.inr rfl) (.slice (some ⟨g,0,none⟩) aB.length cr) rfl ?_
 refine aD ai [5] [(4,(.pointer (some ⟨b2,0,none⟩))),(7,(.pointer (some ⟨b,0,none⟩))),(8,(.int .i64 (k:Int))),(26,(.slice (some ⟨g,0,none⟩) aB.length cr)),(27,(.int .i64 (k:Int)))] rfl ⟨rfl,rfl,rfl,rfl,rfl,trivial⟩ ?_
 refine tL ai rfl rfl rfl rfl rfl rfl rfl rfl rfl rfl (by omega) aH ?_
 rw[e1,gT,Nat.zero_add]
 refine aD ai [7] [(4,(.pointer (some ⟨b2,0,none⟩))),(7,(.pointer (some ⟨b,0,none⟩))),(8,(.int .i64 (k:Int))),(29,(.pointer (some ⟨g,k*2+1,none⟩)))] rfl ⟨rfl,rfl,rfl,rfl,trivial⟩ ?_
 refine eZ ai rfl rfl rfl rfl rfl rfl rfl iv [(.slice Aw z.a_.length cw)] (pG hr) rfl (.inr rfl) (.slice Aw z.a_.length cw) rfl ?_
 refine aD ai [9,10] [(4,(.pointer (some ⟨b2,0,none⟩))),(7,(.pointer (some ⟨b,0,none⟩))),(8,(.int .i64 (k:Int))),(10,(.int .i64 (z.a_.length:Int)))] rfl ⟨rfl,rfl,rfl,rfl,trivial⟩ ?_
 refine aQ ?_
 refine aM ?_
 refine aL ?_
 refine aT (l:=[0,1,2,3,4,5,6,7,8]) rfl ?_
 refine aD ai [0,1,2,3] [(4,(.pointer (some ⟨b2,0,none⟩))),(7,(.pointer (some ⟨b,0,none⟩))),(8,(.int .i64 (k:Int))),(10,(.int .i64 (z.a_.length:Int))),(35,(.pointer (some ⟨b,1,none⟩)))] rfl ⟨rfl,rfl,rfl,rfl,rfl,trivial⟩ ?_
 refine eZ ai rfl rfl rfl rfl rfl rfl rfl hH.bV [(.slice (some ⟨g,0,none⟩) aB.length cr)] rfl rfl (.inr rfl) (.slice (some ⟨g,0,none⟩) aB.length cr) rfl ?_
 refine aD ai [5] [(4,(.pointer (some ⟨b2,0,none⟩))),(7,(.pointer (some ⟨b,0,none⟩))),(8,(.int .i64 (k:Int))),(10,(.int .i64 (z.a_.length:Int))),(36,(.slice (some ⟨g,0,none⟩) aB.length cr)),(37,(.int .i64 (k:Int)))] rfl ⟨rfl,rfl,rfl,rfl,rfl,rfl,trivial⟩ ?_
 refine tL ai rfl rfl rfl rfl rfl rfl rfl rfl rfl rfl (by omega) aH ?_
 rw[e1,gT,Nat.zero_add]
 refine aD ai [7] [(4,(.pointer (some ⟨b2,0,none⟩))),(7,(.pointer (some ⟨b,0,none⟩))),(8,(.int .i64 (k:Int))),(10,(.int .i64 (z.a_.length:Int))),(39,(.pointer (some ⟨g,k*2+1,none⟩)))] rfl ⟨rfl,rfl,rfl,rfl,rfl,trivial⟩ ?_
 refine gD ai rfl rfl rfl rfl rfl rfl rfl iv [(.slice none 0 0)] rfl rfl (by simp[Value.oneCell']) (Nat.ble_eq_true_of_le (by simp only[List.length_append,rc,iH,List.length_map];show k*2+1+1<=_;omega)) (rc (aB.set k (z.ae,(.slice none 0 0)))++R) (LZ (x:=(z.ae,(.slice Aw z.a_.length cw))) hr) (λw5 qx f5=>?_)
 have hW:=LR (bs:=e.1.ay.set k (an.mk z.ae [])) hH.mem hH.ge hH.bV hH.ns hH.nb hH.dj oW gb ir wQ wy wS f5 qx (by rw[List.length_set]) (λr hr=>by
  rcases List.mem_or_eq_of_mem_set hr with hr|rfl
  ·exact mz r hr
  ·exact⟨_,_,_,rfl⟩) (ju.fo.set k anV) ju.lt hH.out
 have cG:=cG.fr f5 (by simp;omega)
 have oR:=c9.trans (bU.jE c9.ob gb (Nat.le_trans c_.tr.size ir) f5)
 clear hH ju
 refine aQ ?_
 refine aM ?_
 have vV:w2.heap.size<=w5.heap.size:=Nat.le_trans eu.tr.size f5.size
 refine aL ?_
 refine aT (l:=[0,1]) rfl ?_
 refine aD ai [0] [(10,(.int .i64 (z.a_.length:Int))),(4,(.pointer (some ⟨b2,0,none⟩))),(7,(.pointer (some ⟨b,0,none⟩))),(40,(.pointer (some ⟨b,0,none⟩)))] rfl ⟨rfl,rfl,rfl,rfl,trivial⟩ ?_
 refine mT rfl rfl rfl rfl rfl Hu rfl (KD oR.ob vV ⟨_,_,_,_,hW⟩) (λ_ w7 hg=>?_)
 obtain⟨rfl,O7,fz,hQ,ia,S7,Xx,hW⟩:=hg
 refine⟨_,rfl,?_⟩
 have cG:b9 w7 b2 34 [(.slice none 0 0),(.slice none 0 0)]:=(fz.below _ gw).trans cG
 have i2:=fz.sub _ i2
 have js:bU w.heap.size O w O7 w7:=oR.trans ⟨fz.tr,fz.ob,fz.sub,λj hj=>fz.below j (Nat.lt_of_lt_of_le hj c_.tr.size)⟩
 refine aD ai [] [(10,(.int .i64 (z.a_.length:Int))),(4,(.pointer (some ⟨b2,0,none⟩))),(7,(.pointer (some ⟨b,0,none⟩)))] rfl ⟨rfl,rfl,rfl,trivial⟩ ?_
 refine aQ ?_
 refine aM ?_
 cases h
 refine aL ?_
 refine aT (l:=[0,1,2,3,4,5,6,7]) rfl ?_
 refine aD ai [0,1,2] [(7,(.pointer (some ⟨b,0,none⟩))),(10,(.int .i64 (z.a_.length:Int))),(4,(.pointer (some ⟨b2,0,none⟩))),(44,(.pointer (some ⟨b,0,none⟩)))] rfl ⟨rfl,rfl,rfl,rfl,trivial⟩ ?_
 refine eZ ai rfl rfl rfl rfl rfl rfl rfl hW.bV [hQ,ia] rfl rfl (.inl rfl) (.agg #[hQ,ia]) rfl ?_
 obtain⟨Ax,cx,vT,_,_⟩:=hW.ns.form
 obtain⟨Ay,cy,vU,_,_⟩:=hW.row.form
 refine aD ai [4] [(4,(.pointer (some ⟨b2,0,none⟩))),(45,(.agg #[hQ,ia])),(46,(.int .i64 (z.a_.length:Int)))] rfl ⟨rfl,rfl,rfl,trivial⟩ ?_
 refine gD ai rfl rfl rfl rfl rfl rfl rfl cG [hQ,ia] rfl rfl (by rw[vT,vU];simp[Value.oneCell']) rfl [hQ,ia] rfl (λwE jv fE=>?_)
 have wh:=hW.cell i2 gw fE
 have hE:=(js.trans (bU.jE js.ob i2 kW fE)).fr
 refine aD ai [6,7] [(4,(.pointer (some ⟨b2,0,none⟩))),(5,(.int .i64 (z.a_.length:Int))),(6,(.int .i64 0))] rfl ⟨rfl,rfl,rfl,trivial⟩ ?_
 refine aQ ?_
 refine aM ?_
 refine dJ ?_
 exact(pO ai (vs:=[.agg #[hQ,ia],(.int .i64 (z.a_.length:Int)),(.int .i64 0)]) ⟨_,_,rfl,⟨_,_,_,_,rfl,jv,rfl,rfl,.inl rfl,rfl⟩,_,_,rfl,rfl,_,_,rfl,rfl,rfl⟩ ⟨_,rfl,⟨_,_,_,rfl,(wh.data lQ),ey.2 rfl,ey.2 rfl⟩,hE⟩)
set_option maxRecDepth 100000 in
set_option maxHeartbeats 4000000 in
theorem aj' {O:List Nat} {w:World} (hO:OB O w) (hG:dq KK [] w) {v0:Value} {x0:bh} (h0:ja.is [] w v0 x0) {v1:Value} {x1:Int} (h1:(Ty.int .u64).is [] w v1 x1) {r:bh×Int×Int} (h:Ky shut x0 x1=some r):Calls Tryz.prog 198 #[v0,v1] w (jI (X1 ja (Ty.int .u64) (Ty.int .i64)) O w r):=by
 obtain rfl:=ey.1 h1
 obtain⟨eG,eH,rfl,vS,sA⟩:=ma.1 h0
 have jO:bU w.heap.size O w O w:=bU.refl hO
 refine im (args:=[(.agg #[eG,eH]),(.int .u64 x1)]) (N:=68) Tryz.func198 rfl rfl rfl ?_
 unfold Ky at h
 refine aL ?_
 refine aT (l:=[0,1,2,3]) rfl ?_
 refine rB rfl rfl rfl rfl rfl rfl [eG,eH] rfl hO (λb1 w1 n1=>?_)
 have cL:=n1.bV
 have d_:=jO.trans (bU.mN jO.tr.size n1)
 refine yk ai rfl rfl rfl rfl rfl rfl [(.slice none 0 0),(.slice none 0 0)] rfl d_.ob (λb2 w2 n2=>?_)
 have cL:=cL.cD n2.fr
 have cG:=n2.bV
 have kW:w.heap.size<=b2:=Nat.le_trans d_.tr.size n2.ge
 have c_:=d_.trans (bU.mN d_.tr.size n2)
 have i2:b2∈b2::b1::O:=List.mem_cons_self
 have gw:b2<w2.heap.size:=cG.lt
 have lQ: ∀g∈O,g<w2.heap.size:=λg hg=>Nat.lt_of_lt_of_le (hO g hg) c_.tr.size
 refine aD ai [2,3] [(1,(.int .u64 x1)),(2,(.pointer (some ⟨b1,0,none⟩))),(4,(.pointer (some ⟨b2,0,none⟩)))] rfl ⟨rfl,rfl,rfl,trivial⟩ ?_
 refine aQ ?_
 refine aM ?_
 refine aL ?_
 refine aT (l:=[0,1,2,3,4,5,6,7,8,9]) rfl ?_
 refine eZ ai rfl rfl rfl rfl rfl rfl rfl cL [eG,eH] rfl rfl (.inl rfl) (.agg #[eG,eH]) rfl ?_
 obtain⟨e,he,h⟩:=bind_some h
 refine aD ai [1] [(1,(.int .u64 x1)),(4,(.pointer (some ⟨b2,0,none⟩))),(13,(.agg #[eG,eH])),(14,(.int .u64 x1))] rfl ⟨rfl,rfl,rfl,rfl,trivial⟩ ?_
 refine mT rfl rfl rfl rfl rfl Ht rfl (KA c_.ob (hG.tr c_.fr.fp) (h0.tr c_.fr.fp) he) (λ_ w3 hg=>?_)
 obtain⟨pv,O3,rfl,eu,qv⟩:=hg
 refine⟨_,rfl,?_⟩
 have cG:b9 w3 b2 34 [(.slice none 0 0),(.slice none 0 0)]:=(eu.below _ gw).trans cG
 have c9:=c_.to eu
 have i2:=eu.sub _ i2
 refine aD ai [3,4,5,6,7,8,9] [(1,(.int .u64 x1)),(4,(.pointer (some ⟨b2,0,none⟩))),(7,pv),(8,(.int .i64 e.2.1)),(9,(.int .i64 e.2.2))] rfl ⟨rfl,rfl,rfl,rfl,rfl,trivial⟩ ?_
 refine aQ ?_
 refine aM ?_
 refine aL ?_
 refine aL ?_
 refine aT (l:=[0,1]) rfl ?_
 refine aD ai [0,1] [(1,(.int .u64 x1)),(4,(.pointer (some ⟨b2,0,none⟩))),(7,pv),(8,(.int .i64 e.2.1)),(9,(.int .i64 e.2.2)),(20,(.bool (!(e.2.2==0))))] rfl ⟨rfl,rfl,rfl,rfl,rfl,rfl,trivial⟩ ?_
 refine aQ ?_
 refine aM ?_
 rcases mo h with⟨hc,h⟩|⟨hc,h⟩
 ·refine iK rfl hc ?_
  cases h
  refine aL ?_
  refine aT (l:=[0,1,2,3,4]) rfl ?_
  refine aD ai [0,1] [(4,(.pointer (some ⟨b2,0,none⟩))),(21,(.agg #[(.slice none 0 0),(.slice none 0 0)])),(22,(.int .i64 e.2.2))] rfl ⟨rfl,rfl,rfl,trivial⟩ ?_
  refine gD ai rfl rfl rfl rfl rfl rfl rfl cG [(.slice none 0 0),(.slice none 0 0)] rfl rfl (by simp[Value.oneCell']) rfl [(.slice none 0 0),(.slice none 0 0)] rfl (λwE jv fE=>?_)
  refine aD ai [3,4] [(4,(.pointer (some ⟨b2,0,none⟩))),(5,(.int .u64 0)),(6,(.int .i64 e.2.2))] rfl ⟨rfl,rfl,rfl,trivial⟩ ?_
  refine aQ ?_
  refine aM ?_
  refine dJ ?_
  exact gm (pO ai (vs:=[.agg #[(.slice none 0 0),(.slice none 0 0)],(.int .u64 0),(.int .i64 e.2.2)]) ⟨_,_,rfl,⟨_,_,_,_,rfl,jv,rfl,rfl,.inl rfl,rfl⟩,_,_,rfl,rfl,_,_,rfl,rfl,rfl⟩ ⟨_,rfl,⟨_,_,_,rfl,(ma.2 ⟨_,_,rfl,j4 _ _ _,j4 _ _ _⟩),ey.2 rfl,ey.2 rfl⟩,(c9.trans (bU.jE c9.ob i2 kW fE)).fr⟩)
 refine jc rfl hc ?_
 have nD:e.2.2=0:=by simpa using hc
 obtain⟨b,rfl,nv,rv,S,aB,hH⟩:=qv nD
 refine eY ?_
 refine aM ?_
 obtain⟨z,hz,h⟩:=bind_some h
 obtain⟨sO,nH⟩:=sY hz
 obtain⟨k,hk⟩: ∃k:Nat,k=e.2.1.toNat:=⟨_,rfl⟩
 rw[<-hk] at nH
 have wF:e.2.1=(k:Int):=by omega
 rw[wF]
 rw[<-hk] at h
 have ju:=hH.MV
 obtain⟨vw,hr,qM⟩:=ju.fo.at_ nH
 obtain⟨Aw,cw,rfl,Uw,Uy⟩:=fm (qM [] λ_ _ hm=>by cases hm)
 obtain⟨Ar,cr,rfl,_,_⟩:=hH.row.form
 have o5:=(List.getElem?_eq_some_iff.1 hr).1
 obtain⟨g,R,rfl,gb,ir,iv,wQ,wy,wS,mz⟩:=Mj hH.row (by omega)
 have oW:g≠b:=λe=>hH.rb (by rw[<-e];rfl)
 have e1:(k:Int).toNat*({ tag:=8,k:=0,e:=0,fs:=[(29,0),(40,1)],size:=2,bytes:=32,zero:= .agg #[.int .u64 0,.slice none 0 0] }:TI).size=k*2:=by rw[Int.toNat_natCast]
 have aH:(k:Int).toNat<aB.length:=by rw[Int.toNat_natCast];exact o5
 refine aL ?_
 refine aT (l:=[0,1,2,3,4,5,6,7]) rfl ?_
 refine aD ai [0,1,2,3] [(4,(.pointer (some ⟨b2,0,none⟩))),(7,(.pointer (some ⟨b,0,none⟩))),(8,(.int .i64 (k:Int))),(26,(.pointer (some ⟨b,1,none⟩)))] rfl ⟨rfl,rfl,rfl,rfl,trivial⟩ ?_
 refine eZ ai rfl rfl rfl rfl rfl rfl rfl hH.bV [(.slice (some ⟨g,0,none⟩) aB.length cr)] rfl rfl (.inr rfl) (.slice (some ⟨g,0,none⟩) aB.length cr) rfl ?_
 refine aD ai [5] [(4,(.pointer (some ⟨b2,0,none⟩))),(7,(.pointer (some ⟨b,0,none⟩))),(8,(.int .i64 (k:Int))),(27,(.slice (some ⟨g,0,none⟩) aB.length cr)),(28,(.int .i64 (k:Int)))] rfl ⟨rfl,rfl,rfl,rfl,rfl,trivial⟩ ?_
 refine tL ai rfl rfl rfl rfl rfl rfl rfl rfl rfl rfl (by omega) aH ?_
 rw[e1,gT,Nat.zero_add]
 refine aD ai [7] [(4,(.pointer (some ⟨b2,0,none⟩))),(7,(.pointer (some ⟨b,0,none⟩))),(10,(.pointer (some ⟨g,k*2,none⟩)))] rfl ⟨rfl,rfl,rfl,trivial⟩ ?_
 refine aQ ?_
 refine aM ?_
 refine aL ?_
 refine aL ?_
 refine aT (l:=[0,1,2,3,4,5]) rfl ?_
 refine aD ai [0,1,2] [(4,(.pointer (some ⟨b2,0,none⟩))),(7,(.pointer (some ⟨b,0,none⟩))),(10,(.pointer (some ⟨g,k*2,none⟩))),(32,(.pointer (some ⟨g,k*2+1,none⟩)))] rfl ⟨rfl,rfl,rfl,rfl,trivial⟩ ?_
 refine eZ ai rfl rfl rfl rfl rfl rfl rfl iv [(.slice Aw z.a_.length cw)] (pG hr) rfl (.inr rfl) (.slice Aw z.a_.length cw) rfl ?_
 refine aD ai [4,5] [(4,(.pointer (some ⟨b2,0,none⟩))),(7,(.pointer (some ⟨b,0,none⟩))),(10,(.pointer (some ⟨g,k*2,none⟩))),(35,(.bool ((z.a_.length:Int)==0)))] rfl ⟨rfl,rfl,rfl,rfl,trivial⟩ ?_
 refine aQ ?_
 refine aM ?_
 rcases mo h with⟨hc,h⟩|⟨hc,h⟩
 ·refine iK rfl hc ?_
  cases h
  refine aL ?_
  refine aT (l:=[0,1,2,3]) rfl ?_
  refine aD ai [0] [(4,(.pointer (some ⟨b2,0,none⟩))),(36,(.agg #[(.slice none 0 0),(.slice none 0 0)]))] rfl ⟨rfl,rfl,trivial⟩ ?_
  refine gD ai rfl rfl rfl rfl rfl rfl rfl cG [(.slice none 0 0),(.slice none 0 0)] rfl rfl (by simp[Value.oneCell']) rfl [(.slice none 0 0),(.slice none 0 0)] rfl (λwE jv fE=>?_)
  refine aD ai [2,3] [(4,(.pointer (some ⟨b2,0,none⟩))),(5,(.int .u64 0)),(6,(.int .i64 4))] rfl ⟨rfl,rfl,rfl,trivial⟩ ?_
  refine aQ ?_
  refine aM ?_
  refine dJ ?_
  exact gm (pO ai (vs:=[.agg #[(.slice none 0 0),(.slice none 0 0)],(.int .u64 0),(.int .i64 4)]) ⟨_,_,rfl,⟨_,_,_,_,rfl,jv,rfl,rfl,.inl rfl,rfl⟩,_,_,rfl,rfl,_,_,rfl,rfl,rfl⟩ ⟨_,rfl,⟨_,_,_,rfl,(ma.2 ⟨_,_,rfl,j4 _ _ _,j4 _ _ _⟩),ey.2 rfl,ey.2 rfl⟩,(c9.trans (bU.jE c9.ob i2 kW fE)).fr⟩)
 refine jc rfl hc ?_
 refine eY ?_
 refine aM ?_
 obtain⟨w0,Di,h⟩:=bind_some h
 obtain⟨_,Di⟩:=sY Di
 refine aL ?_
 refine aT (l:=[0,1,2,3,4,5,6]) rfl ?_
 refine aD ai [0,1,2] [(4,(.pointer (some ⟨b2,0,none⟩))),(7,(.pointer (some ⟨b,0,none⟩))),(10,(.pointer (some ⟨g,k*2,none⟩))),(39,(.pointer (some ⟨g,k*2+1,none⟩)))] rfl ⟨rfl,rfl,rfl,rfl,trivial⟩ ?_
 refine eZ ai rfl rfl rfl rfl rfl rfl rfl iv [(.slice Aw z.a_.length cw)] (pG hr) rfl (.inr rfl) (.slice Aw z.a_.length cw) rfl ?_
 refine M0 ai rfl rfl rfl rfl rfl rfl rfl rfl rfl rfl (qM [] λ_ _ hm=>by cases hm) rfl (Int.le_refl 0) Di (λp6 w_=>?_)
 refine apY ai rfl rfl rfl rfl rfl rfl rfl w_ rfl rfl (λv6 xf=>?_)
 obtain rfl:=ey.1 xf
 refine aD ai [6] [(4,(.pointer (some ⟨b2,0,none⟩))),(7,(.pointer (some ⟨b,0,none⟩))),(10,(.pointer (some ⟨g,k*2,none⟩))),(11,(.int .u64 w0))] rfl ⟨rfl,rfl,rfl,rfl,trivial⟩ ?_
 refine aQ ?_
 refine aM ?_
 refine aL ?_
 have Uq: ∀g∈S,g<w3.heap.size:=λg hg=>(ju.lt g hg).2
 refine Ez mixed [⟨43,[],[10]⟩,⟨44,[],[10]⟩,⟨45,[1],[]⟩,⟨46,[2],[]⟩,⟨47,[3],[]⟩,⟨48,[],[10]⟩,⟨49,[5],[]⟩,⟨50,[6],[]⟩,⟨51,[7],[]⟩,⟨52,[8],[]⟩,⟨53,[],[10]⟩,⟨54,[10],[]⟩,⟨55,[11],[]⟩,⟨56,[12],[]⟩,⟨57,[13],[]⟩,⟨58,[4,9,14],[]⟩] [SP.eq (.pointer (some ⟨g,k*2,none⟩)),SP.eq (.pointer (some ⟨g,k*2,none⟩)),SP.eq (.pointer (some ⟨g,k*2,none⟩)),SP.eq (.pointer (some ⟨g,k*2+1,none⟩)),SP.eq (.slice Aw z.a_.length cw),SP.eq (.pointer (some ⟨g,k*2,none⟩)),SP.eq (.pointer (some ⟨g,k*2,none⟩)),SP.eq (.pointer (some ⟨g,k*2+1,none⟩)),SP.eq (.slice Aw z.a_.length cw),SP.eq (.int .i64 (z.a_.length:Int)),SP.eq (.pointer (some ⟨g,k*2,none⟩)),SP.eq (.pointer (some ⟨g,k*2,none⟩)),SP.eq (.pointer (some ⟨g,k*2+1,none⟩)),SP.eq (.slice Aw z.a_.length cw),SP.eq (.int .i64 (z.a_.length:Int)),SP.safe S (z.a_.drop 1)] rfl rfl rfl rfl ⟨?_,?_,?_,?_,?_,?_,?_,?_,?_,?_,?_,?_,?_,?_,?_,?_,trivial⟩ ?_
 ·intro a w2 bP hN aX hb hd
  exact dI ai ⟨hN,aX,ct (E:=[(10,(.pointer (some ⟨g,k*2,none⟩)))]) ⟨hb 10 rfl _ rfl,trivial⟩⟩ rfl rfl rfl rfl rfl
 ·intro a w2 bP hN aX hb hd
  exact dI ai ⟨hN,aX,ct (E:=[(10,(.pointer (some ⟨g,k*2,none⟩)))]) ⟨hb 10 rfl _ rfl,trivial⟩⟩ rfl rfl rfl rfl rfl
 ·intro a w2 bP hN aX hb hd
  exact dI ai ⟨hN,aX,ct (E:=[(44,(.pointer (some ⟨g,k*2,none⟩)))]) ⟨(hd 1 rfl _ _ rfl rfl),trivial⟩⟩ rfl rfl rfl rfl rfl
 ·intro a w2 bP hN aX hb hd
  exact dI ai ⟨hN,aX,ct (E:=[(45,(.pointer (some ⟨g,k*2,none⟩)))]) ⟨(hd 2 rfl _ _ rfl rfl),trivial⟩⟩ rfl rfl rfl rfl rfl
 ·intro a w2 bP hN aX hb hd
  exact tg ai ⟨hN,aX,ct (E:=[(46,(.pointer (some ⟨g,k*2+1,none⟩)))]) ⟨(hd 3 rfl _ _ rfl rfl),trivial⟩⟩ rfl rfl rfl rfl rfl rfl (iv.cD bP) [(.slice Aw z.a_.length cw)] (pG hr) rfl (.inr rfl) (.slice Aw z.a_.length cw) rfl
 ·intro a w2 bP hN aX hb hd
  exact dI ai ⟨hN,aX,ct (E:=[(10,(.pointer (some ⟨g,k*2,none⟩)))]) ⟨hb 10 rfl _ rfl,trivial⟩⟩ rfl rfl rfl rfl rfl
 ·intro a w2 bP hN aX hb hd
  exact dI ai ⟨hN,aX,ct (E:=[(48,(.pointer (some ⟨g,k*2,none⟩)))]) ⟨(hd 5 rfl _ _ rfl rfl),trivial⟩⟩ rfl rfl rfl rfl rfl
 ·intro a w2 bP hN aX hb hd
  exact dI ai ⟨hN,aX,ct (E:=[(49,(.pointer (some ⟨g,k*2,none⟩)))]) ⟨(hd 6 rfl _ _ rfl rfl),trivial⟩⟩ rfl rfl rfl rfl rfl
 ·intro a w2 bP hN aX hb hd
  exact tg ai ⟨hN,aX,ct (E:=[(50,(.pointer (some ⟨g,k*2+1,none⟩)))]) ⟨(hd 7 rfl _ _ rfl rfl),trivial⟩⟩ rfl rfl rfl rfl rfl rfl (iv.cD bP) [(.slice Aw z.a_.length cw)] (pG hr) rfl (.inr rfl) (.slice Aw z.a_.length cw) rfl
 ·intro a w2 bP hN aX hb hd
  exact dI ai ⟨hN,aX,ct (E:=[(51,(.slice Aw z.a_.length cw))]) ⟨(hd 8 rfl _ _ rfl rfl),trivial⟩⟩ rfl rfl rfl rfl rfl
 ·intro a w2 bP hN aX hb hd
  exact dI ai ⟨hN,aX,ct (E:=[(10,(.pointer (some ⟨g,k*2,none⟩)))]) ⟨hb 10 rfl _ rfl,trivial⟩⟩ rfl rfl rfl rfl rfl
 ·intro a w2 bP hN aX hb hd
  exact dI ai ⟨hN,aX,ct (E:=[(53,(.pointer (some ⟨g,k*2,none⟩)))]) ⟨(hd 10 rfl _ _ rfl rfl),trivial⟩⟩ rfl rfl rfl rfl rfl
 ·intro a w2 bP hN aX hb hd
  exact dI ai ⟨hN,aX,ct (E:=[(54,(.pointer (some ⟨g,k*2,none⟩)))]) ⟨(hd 11 rfl _ _ rfl rfl),trivial⟩⟩ rfl rfl rfl rfl rfl
 ·intro a w2 bP hN aX hb hd
  exact tg ai ⟨hN,aX,ct (E:=[(55,(.pointer (some ⟨g,k*2+1,none⟩)))]) ⟨(hd 12 rfl _ _ rfl rfl),trivial⟩⟩ rfl rfl rfl rfl rfl rfl (iv.cD bP) [(.slice Aw z.a_.length cw)] (pG hr) rfl (.inr rfl) (.slice Aw z.a_.length cw) rfl
 ·intro a w2 bP hN aX hb hd
  exact dI ai ⟨hN,aX,ct (E:=[(56,(.slice Aw z.a_.length cw))]) ⟨(hd 13 rfl _ _ rfl rfl),trivial⟩⟩ rfl rfl rfl rfl rfl
 ·intro a w2 bP hN aX hb hd
  exact(ald (S:=S) (l':=some (.i64,1)) (h':=some (.i64,(z.a_.length:Int))) (m':=some (.i64,(z.a_.length:Int))) (ys:=z.a_.drop 1) ai ⟨hN,aX,ct (E:=[(47,(.slice Aw z.a_.length cw)),(52,(.int .i64 (z.a_.length:Int))),(57,(.int .i64 (z.a_.length:Int)))]) ⟨(hd 4 rfl _ _ rfl rfl),(hd 9 rfl _ _ rfl rfl),(hd 14 rfl _ _ rfl rfl),trivial⟩⟩ rfl rfl rfl rfl rfl rfl rfl rfl rfl rfl rfl rfl (qM.keep (O:=[]) (O':=[]) bP.fp λg hg=>bP.block g (Uq g hg) (by simp)) (by
   simp only[Option.map_some]
   unfold gq
   have:=(List.getElem?_eq_some_iff.1 Di).1
   rw[if_pos (by simp at this ⊢;omega)]
   simp)).weaken (λu w3 ⟨hu,hf⟩=>⟨⟨λg hg=>Nat.lt_of_lt_of_le (Uq g hg) (Nat.le_trans bP.size hf.size),hu⟩,hf⟩)
 intro a w4 f4 hN aX eh eb
 have hH:=hH.cD f4
 have ju:=ju.cD f4
 have iv:=iv.cD f4
 have cG:=cG.cD f4
 have jf:=c9.trans (bU.td c9.ob c9.tr.size f4)
 obtain⟨_,Ki⟩:(∀g∈S,g<w4.heap.size)/\Safe S w4 (a.tmps.getD 58 undef) (z.a_.drop 1):=eb 15 _ _ rfl rfl
 obtain⟨vn,nO⟩: ∃v,a.tmps.getD 58 undef=v:=⟨_,rfl⟩
 rw[nO] at Ki
 obtain⟨An,cn,rfl,_,_⟩:=fm (Ki [] λ_ _ hm=>by cases hm)
 refine ym (E:=[(4,(.pointer (some ⟨b2,0,none⟩))),(7,(.pointer (some ⟨b,0,none⟩))),(11,(.int .u64 w0)),(43,(.pointer (some ⟨g,k*2,none⟩))),(58,(.slice An (z.a_.drop 1).length cn))]) (l:=[16,17,18]) hN aX ⟨eh 4 _ rfl rfl,eh 7 _ rfl rfl,eh 11 _ rfl rfl,(eb 0 _ _ rfl rfl),nO,trivial⟩ rfl ?_
 generalize hND:z.a_.drop 1=ND at*
 refine aD ai [16,17] [(4,(.pointer (some ⟨b2,0,none⟩))),(7,(.pointer (some ⟨b,0,none⟩))),(11,(.int .u64 w0)),(58,(.slice An ND.length cn)),(60,(.pointer (some ⟨g,k*2+1,none⟩)))] rfl ⟨rfl,rfl,rfl,rfl,rfl,trivial⟩ ?_
 refine gD ai rfl rfl rfl rfl rfl rfl rfl iv [(.slice An ND.length cn)] rfl rfl (by simp[Value.oneCell']) (Nat.ble_eq_true_of_le (by simp only[List.length_append,rc,iH,List.length_map];show k*2+1+1<=_;omega)) (rc (aB.set k (z.ae,(.slice An ND.length cn)))++R) (LZ (x:=(z.ae,(.slice Aw z.a_.length cw))) hr) (λw5 qx f5=>?_)
 have hW:=LR (bs:=e.1.ay.set k (an.mk z.ae ND)) hH.mem hH.ge hH.bV hH.ns hH.nb hH.dj oW gb ir wQ wy wS f5 qx (by rw[List.length_set]) (λr hr=>by
  rcases List.mem_or_eq_of_mem_set hr with hr|rfl
  ·exact mz r hr
  ·exact⟨_,_,_,rfl⟩) (ju.fo.set k Ki) ju.lt hH.out
 have cG:=cG.fr f5 (by simp;omega)
 have oR:=jf.trans (bU.jE jf.ob gb (Nat.le_trans c_.tr.size ir) f5)
 clear hH ju
 refine aQ ?_
 refine aM ?_
 have vV:w2.heap.size<=w5.heap.size:=Nat.le_trans eu.tr.size (Nat.le_trans f4.size f5.size)
 refine aL ?_
 refine aT (l:=[0,1]) rfl ?_
 refine aD ai [0] [(11,(.int .u64 w0)),(4,(.pointer (some ⟨b2,0,none⟩))),(7,(.pointer (some ⟨b,0,none⟩))),(61,(.pointer (some ⟨b,0,none⟩)))] rfl ⟨rfl,rfl,rfl,rfl,trivial⟩ ?_
 refine mT rfl rfl rfl rfl rfl Hu rfl (KD oR.ob vV ⟨_,_,_,_,hW⟩) (λ_ w7 hg=>?_)
 obtain⟨rfl,O7,fz,hQ,ia,S7,Xx,hW⟩:=hg
 refine⟨_,rfl,?_⟩
 have cG:b9 w7 b2 34 [(.slice none 0 0),(.slice none 0 0)]:=(fz.below _ gw).trans cG
 have i2:=fz.sub _ i2
 have js:bU w.heap.size O w O7 w7:=oR.trans ⟨fz.tr,fz.ob,fz.sub,λj hj=>fz.below j (Nat.lt_of_lt_of_le hj c_.tr.size)⟩
 refine aD ai [] [(11,(.int .u64 w0)),(4,(.pointer (some ⟨b2,0,none⟩))),(7,(.pointer (some ⟨b,0,none⟩)))] rfl ⟨rfl,rfl,rfl,trivial⟩ ?_
 refine aQ ?_
 refine aM ?_
 cases h
 refine aL ?_
 refine aT (l:=[0,1,2,3,4,5,6,7]) rfl ?_
 refine aD ai [0,1,2] [(7,(.pointer (some ⟨b,0,none⟩))),(11,(.int .u64 w0)),(4,(.pointer (some ⟨b2,0,none⟩))),(65,(.pointer (some ⟨b,0,none⟩)))] rfl ⟨rfl,rfl,rfl,rfl,trivial⟩ ?_
 refine eZ ai rfl rfl rfl rfl rfl rfl rfl hW.bV [hQ,ia] rfl rfl (.inl rfl) (.agg #[hQ,ia]) rfl ?_
 obtain⟨Ax,cx,vT,_,_⟩:=hW.ns.form
 obtain⟨Ay,cy,vU,_,_⟩:=hW.row.form
 refine aD ai [4] [(4,(.pointer (some ⟨b2,0,none⟩))),(66,(.agg #[hQ,ia])),(67,(.int .u64 w0))] rfl ⟨rfl,rfl,rfl,trivial⟩ ?_
 refine gD ai rfl rfl rfl rfl rfl rfl rfl cG [hQ,ia] rfl rfl (by rw[vT,vU];simp[Value.oneCell']) rfl [hQ,ia] rfl (λwE jv fE=>?_)
 have wh:=hW.cell i2 gw fE
 have hE:=(js.trans (bU.jE js.ob i2 kW fE)).fr
 refine aD ai [6,7] [(4,(.pointer (some ⟨b2,0,none⟩))),(5,(.int .u64 w0)),(6,(.int .i64 0))] rfl ⟨rfl,rfl,rfl,trivial⟩ ?_
 refine aQ ?_
 refine aM ?_
 refine dJ ?_
 exact(pO ai (vs:=[.agg #[hQ,ia],(.int .u64 w0),(.int .i64 0)]) ⟨_,_,rfl,⟨_,_,_,_,rfl,jv,rfl,rfl,.inl rfl,rfl⟩,_,_,rfl,rfl,_,_,rfl,rfl,rfl⟩ ⟨_,rfl,⟨_,_,_,rfl,(wh.data lQ),ey.2 rfl,ey.2 rfl⟩,hE⟩)
set_option maxRecDepth 100000 in
set_option maxHeartbeats 4000000 in
theorem aka {O:List Nat} {w:World} (hO:OB O w) (hG:dq KK [] w) {v0:Value} {x0:bh} (h0:ja.is [] w v0 x0) {v1:Value} {x1:Int} (h1:(Ty.int .u64).is [] w v1 x1) {v2:Value} {x2:List Int} (h2:(Ty.slice (Ty.int .u64)).is [] w v2 x2) {r:bh×Int} (h:Kz shut x0 x1 x2=some r):Calls Tryz.prog 197 #[v0,v1,v2] w (jI (XZ ja (Ty.int .i64)) O w r):=by
 obtain rfl:=ey.1 h1
 obtain⟨A2,c2,rfl,aqd,aqk⟩:=fm h2
 obtain⟨eG,eH,rfl,vS,sA⟩:=ma.1 h0
 have jO:bU w.heap.size O w O w:=bU.refl hO
 refine im (args:=[(.agg #[eG,eH]),(.int .u64 x1),(.slice A2 x2.length c2)]) (N:=55) Tryz.func197 rfl rfl rfl ?_
 unfold Kz at h
 refine aL ?_
 refine aT (l:=[0,1,2]) rfl ?_
 refine rB rfl rfl rfl rfl rfl rfl [eG,eH] rfl hO (λb1 w1 n1=>?_)
 have cL:=n1.bV
 have d_:=jO.trans (bU.mN jO.tr.size n1)
 refine yk ai rfl rfl rfl rfl rfl rfl [(.slice none 0 0),(.slice none 0 0)] rfl d_.ob (λb2 w2 n2=>?_)
 have cL:=cL.cD n2.fr
 have cG:=n2.bV
 have kW:w.heap.size<=b2:=Nat.le_trans d_.tr.size n2.ge
 have c_:=d_.trans (bU.mN d_.tr.size n2)
 have i2:b2∈b2::b1::O:=List.mem_cons_self
 have gw:b2<w2.heap.size:=cG.lt
 have lQ: ∀g∈O,g<w2.heap.size:=λg hg=>Nat.lt_of_lt_of_le (hO g hg) c_.tr.size
 refine aD ai [2] [(1,(.int .u64 x1)),(2,(.slice A2 x2.length c2)),(3,(.pointer (some ⟨b1,0,none⟩))),(6,(.pointer (some ⟨b2,0,none⟩)))] rfl ⟨rfl,rfl,rfl,rfl,trivial⟩ ?_
 refine aQ ?_
 refine aM ?_
 refine aL ?_
 refine aT (l:=[0,1,2,3,4,5,6,7,8,9]) rfl ?_
 refine eZ ai rfl rfl rfl rfl rfl rfl rfl cL [eG,eH] rfl rfl (.inl rfl) (.agg #[eG,eH]) rfl ?_
 obtain⟨e,he,h⟩:=bind_some h
 refine aD ai [1] [(1,(.int .u64 x1)),(2,(.slice A2 x2.length c2)),(6,(.pointer (some ⟨b2,0,none⟩))),(13,(.agg #[eG,eH])),(14,(.int .u64 x1))] rfl ⟨rfl,rfl,rfl,rfl,rfl,trivial⟩ ?_
 refine mT rfl rfl rfl rfl rfl Ht rfl (KA c_.ob (hG.tr c_.fr.fp) (h0.tr c_.fr.fp) he) (λ_ w3 hg=>?_)
 obtain⟨pv,O3,rfl,eu,qv⟩:=hg
 refine⟨_,rfl,?_⟩
 have cG:b9 w3 b2 34 [(.slice none 0 0),(.slice none 0 0)]:=(eu.below _ gw).trans cG
 have c9:=c_.to eu
 have i2:=eu.sub _ i2
 refine aD ai [3,4,5,6,7,8,9] [(1,(.int .u64 x1)),(2,(.slice A2 x2.length c2)),(6,(.pointer (some ⟨b2,0,none⟩))),(8,pv),(9,(.int .i64 e.2.1)),(10,(.int .i64 e.2.2))] rfl ⟨rfl,rfl,rfl,rfl,rfl,rfl,trivial⟩ ?_
 refine aQ ?_
 refine aM ?_
 refine aL ?_
 refine aL ?_
 refine aT (l:=[0,1]) rfl ?_
 refine aD ai [0,1] [(1,(.int .u64 x1)),(2,(.slice A2 x2.length c2)),(6,(.pointer (some ⟨b2,0,none⟩))),(8,pv),(9,(.int .i64 e.2.1)),(10,(.int .i64 e.2.2)),(20,(.bool (!(e.2.2==0))))] rfl ⟨rfl,rfl,rfl,rfl,rfl,rfl,rfl,trivial⟩ ?_
 refine aQ ?_
 refine aM ?_
 rcases mo h with⟨hc,h⟩|⟨hc,h⟩
 ·refine iK rfl hc ?_
  cases h
  refine aL ?_
  refine aT (l:=[0,1,2,3]) rfl ?_
  refine aD ai [0,1] [(6,(.pointer (some ⟨b2,0,none⟩))),(21,(.agg #[(.slice none 0 0),(.slice none 0 0)])),(22,(.int .i64 e.2.2))] rfl ⟨rfl,rfl,rfl,trivial⟩ ?_
  refine gD ai rfl rfl rfl rfl rfl rfl rfl cG [(.slice none 0 0),(.slice none 0 0)] rfl rfl (by simp[Value.oneCell']) rfl [(.slice none 0 0),(.slice none 0 0)] rfl (λwE jv fE=>?_)
  refine aD ai [3] [(6,(.pointer (some ⟨b2,0,none⟩))),(7,(.int .i64 e.2.2))] rfl ⟨rfl,rfl,trivial⟩ ?_
  refine aQ ?_
  refine aM ?_
  refine dJ ?_
  exact gm (pO ai (vs:=[.agg #[(.slice none 0 0),(.slice none 0 0)],(.int .i64 e.2.2)]) ⟨_,_,rfl,⟨_,_,_,_,rfl,jv,rfl,rfl,.inl rfl,rfl⟩,_,_,rfl,rfl,rfl⟩ ⟨_,rfl,⟨_,_,rfl,(ma.2 ⟨_,_,rfl,j4 _ _ _,j4 _ _ _⟩),ey.2 rfl⟩,(c9.trans (bU.jE c9.ob i2 kW fE)).fr⟩)
 refine jc rfl hc ?_
 have nD:e.2.2=0:=by simpa using hc
 obtain⟨b,rfl,nv,rv,S,aB,hH⟩:=qv nD
 refine eY ?_
 refine aM ?_
 obtain⟨z,hz,h⟩:=bind_some h
 obtain⟨sO,nH⟩:=sY hz
 obtain⟨k,hk⟩: ∃k:Nat,k=e.2.1.toNat:=⟨_,rfl⟩
 rw[<-hk] at nH
 have wF:e.2.1=(k:Int):=by omega
 rw[wF]
 rw[<-hk] at h
 have ju:=hH.MV
 obtain⟨vw,hr,qM⟩:=ju.fo.at_ nH
 obtain⟨Aw,cw,rfl,Uw,Uy⟩:=fm (qM [] λ_ _ hm=>by cases hm)
 obtain⟨Ar,cr,rfl,_,_⟩:=hH.row.form
 have o5:=(List.getElem?_eq_some_iff.1 hr).1
 obtain⟨g,R,rfl,gb,ir,iv,wQ,wy,wS,mz⟩:=Mj hH.row (by omega)
 have oW:g≠b:=λe=>hH.rb (by rw[<-e];rfl)
 have e1:(k:Int).toNat*({ tag:=8,k:=0,e:=0,fs:=[(29,0),(40,1)],size:=2,bytes:=32,zero:= .agg #[.int .u64 0,.slice none 0 0] }:TI).size=k*2:=by rw[Int.toNat_natCast]
 have aH:(k:Int).toNat<aB.length:=by rw[Int.toNat_natCast];exact o5
 refine aL ?_
 refine aT (l:=[0,1,2,3,4,5,6,7]) rfl ?_
 refine aD ai [0,1,2,3] [(6,(.pointer (some ⟨b2,0,none⟩))),(2,(.slice A2 x2.length c2)),(8,(.pointer (some ⟨b,0,none⟩))),(9,(.int .i64 (k:Int))),(26,(.pointer (some ⟨b,1,none⟩)))] rfl ⟨rfl,rfl,rfl,rfl,rfl,trivial⟩ ?_
 refine eZ ai rfl rfl rfl rfl rfl rfl rfl hH.bV [(.slice (some ⟨g,0,none⟩) aB.length cr)] rfl rfl (.inr rfl) (.slice (some ⟨g,0,none⟩) aB.length cr) rfl ?_
 refine aD ai [5] [(6,(.pointer (some ⟨b2,0,none⟩))),(2,(.slice A2 x2.length c2)),(8,(.pointer (some ⟨b,0,none⟩))),(9,(.int .i64 (k:Int))),(27,(.slice (some ⟨g,0,none⟩) aB.length cr)),(28,(.int .i64 (k:Int)))] rfl ⟨rfl,rfl,rfl,rfl,rfl,rfl,trivial⟩ ?_
 refine tL ai rfl rfl rfl rfl rfl rfl rfl rfl rfl rfl (by omega) aH ?_
 rw[e1,gT,Nat.zero_add]
 refine aD ai [7] [(6,(.pointer (some ⟨b2,0,none⟩))),(2,(.slice A2 x2.length c2)),(8,(.pointer (some ⟨b,0,none⟩))),(11,(.pointer (some ⟨g,k*2,none⟩)))] rfl ⟨rfl,rfl,rfl,rfl,trivial⟩ ?_
 refine aQ ?_
 refine aM ?_
 refine aL ?_
 refine aL ?_
 refine aT (l:=[0,1,2,3,4,5,6,7,8]) rfl ?_
 refine aD ai [0,1,2] [(6,(.pointer (some ⟨b2,0,none⟩))),(2,(.slice A2 x2.length c2)),(8,(.pointer (some ⟨b,0,none⟩))),(11,(.pointer (some ⟨g,k*2,none⟩))),(32,(.pointer (some ⟨g,k*2+1,none⟩)))] rfl ⟨rfl,rfl,rfl,rfl,rfl,trivial⟩ ?_
 refine eZ ai rfl rfl rfl rfl rfl rfl rfl iv [(.slice Aw z.a_.length cw)] (pG hr) rfl (.inr rfl) (.slice Aw z.a_.length cw) rfl ?_
 refine aD ai [4,5,6,7,8] [(6,(.pointer (some ⟨b2,0,none⟩))),(2,(.slice A2 x2.length c2)),(8,(.pointer (some ⟨b,0,none⟩))),(11,(.pointer (some ⟨g,k*2,none⟩))),(38,(.bool (decide (IntKind.i64.wrap ((z.a_.length:Int)+(x2.length:Int))>4))))] rfl ⟨rfl,rfl,rfl,rfl,rfl,trivial⟩ ?_
 refine aQ ?_
 refine aM ?_
 rcases mo h with⟨hc,h⟩|⟨hc,h⟩
 ·refine iK rfl hc ?_
  cases h
  refine aL ?_
  refine aT (l:=[0,1,2]) rfl ?_
  refine aD ai [0] [(6,(.pointer (some ⟨b2,0,none⟩))),(39,(.agg #[(.slice none 0 0),(.slice none 0 0)]))] rfl ⟨rfl,rfl,trivial⟩ ?_
  refine gD ai rfl rfl rfl rfl rfl rfl rfl cG [(.slice none 0 0),(.slice none 0 0)] rfl rfl (by simp[Value.oneCell']) rfl [(.slice none 0 0),(.slice none 0 0)] rfl (λwE jv fE=>?_)
  refine aD ai [2] [(6,(.pointer (some ⟨b2,0,none⟩))),(7,(.int .i64 6))] rfl ⟨rfl,rfl,trivial⟩ ?_
  refine aQ ?_
  refine aM ?_
  refine dJ ?_
  exact gm (pO ai (vs:=[.agg #[(.slice none 0 0),(.slice none 0 0)],(.int .i64 6)]) ⟨_,_,rfl,⟨_,_,_,_,rfl,jv,rfl,rfl,.inl rfl,rfl⟩,_,_,rfl,rfl,rfl⟩ ⟨_,rfl,⟨_,_,rfl,(ma.2 ⟨_,_,rfl,j4 _ _ _,j4 _ _ _⟩),ey.2 rfl⟩,(c9.trans (bU.jE c9.ob i2 kW fE)).fr⟩)
 refine jc rfl hc ?_
 refine eY ?_
 refine aM ?_
 obtain⟨ws,Ks,h⟩:=bind_some h
 cases h
 refine aL ?_
 refine aT (l:=[0,1,2,3,4,5,6,7,8,9]) rfl ?_
 refine aD ai [0,1,2,3] [(6,(.pointer (some ⟨b2,0,none⟩))),(2,(.slice A2 x2.length c2)),(8,(.pointer (some ⟨b,0,none⟩))),(11,(.pointer (some ⟨g,k*2,none⟩))),(40,(.pointer (some ⟨g,k*2,none⟩))),(43,(.pointer (some ⟨g,k*2+1,none⟩)))] rfl ⟨rfl,rfl,rfl,rfl,rfl,rfl,trivial⟩ ?_
 refine eZ ai rfl rfl rfl rfl rfl rfl rfl iv [(.slice Aw z.a_.length cw)] (pG hr) rfl (.inr rfl) (.slice Aw z.a_.length cw) rfl ?_
 refine aD ai [5] [(6,(.pointer (some ⟨b2,0,none⟩))),(8,(.pointer (some ⟨b,0,none⟩))),(40,(.pointer (some ⟨g,k*2,none⟩))),(44,(.slice Aw z.a_.length cw)),(45,(.slice A2 x2.length c2))] rfl ⟨rfl,rfl,rfl,rfl,rfl,trivial⟩ ?_
 obtain⟨vw2,S1,S2,eb,wc,JQ,hre⟩:=hH.fo.at_ (show(e.1.ay.map bx)[k]? =some (bx z) by simp[nH])
 rw[hr] at eb
 obtain rfl:(.slice Aw z.a_.length cw)=vw2:=by injection eb with e;injection e with e1 e2
 have c6: ∀j,((.slice Aw z.a_.length cw):Value).ownBlock=some j->j∈S:=λj hj=>by rw[wc,hj];simp
 have C': ∀j,j∈O3->((.slice Aw z.a_.length cw):Value).ownBlock≠some j:=λj hj e=>hH.out j (c6 j e) hj
 have dr: ∀j,j<w2.heap.size->((.slice Aw z.a_.length cw):Value).ownBlock≠some j:=λj hj e=>by have:=(JQ.lt j e).1;omega
 refine tK (O:=((.slice Aw z.a_.length cw):Value).ownBlock.toList) ai rfl rfl rfl rfl rfl rfl rfl rfl rfl rfl rfl rfl rfl rfl eu.fr (λj hj=>(JQ.lt j (by simpa using hj)).2) (JQ.own j6 λj hj=>by simpa using hj) (h2.tr ⟨c9.fr.os,c9.fr.tape,c9.fr.output,c9.fr.size,λj hj _=>⟨λhm=>dr j (Nat.lt_of_lt_of_le hj c_.tr.size) (by simpa using hm),c9.fr.block j hj (by simp)⟩⟩) Ks (λvn w4 O4 ap=>?_)
 obtain⟨An,cn,rfl,_,_⟩:=ap.own.form
 have cG:b9 w4 b2 34 [(.slice none 0 0),(.slice none 0 0)]:=(ap.fr _ cG.lt (dr _ gw)).trans cG
 have iv:b9 w4 g 82 (rc aB++R):=(ap.fr _ iv.lt (C' _ gb)).trans iv
 have Jt:b9 w4 b 128 [nv,(.slice (some ⟨g,0,none⟩) aB.length cr)]:=(ap.fr _ hH.bV.lt (C' _ hH.mem)).trans hH.bV
 have lX:=(hH.ns.mv.keep Es (w':=w4) λj hj=>ap.fr j (hH.ns.lt j hj).2 (C' _ (hH.ns.mem j hj))).own Es hH.ns.mem
 have jf:bU w.heap.size O w O3 w4:=⟨⟨ap.tr.os.trans c9.tr.os,ap.tr.tape.trans c9.tr.tape,ap.tr.output.trans c9.tr.output,Nat.le_trans c9.tr.size ap.tr.size,λj hj ho=>⟨(c9.tr.keep j hj ho).1,(ap.fr j (Nat.lt_of_lt_of_le hj c9.tr.size) (dr j (Nat.lt_of_lt_of_le hj c_.tr.size))).trans (c9.tr.keep j hj ho).2⟩⟩,λj hj=>Nat.lt_of_lt_of_le (c9.ob j hj) ap.tr.size,c9.sub,λj hj=>(ap.fr j (Nat.lt_of_lt_of_le hj c9.tr.size) (dr j (Nat.lt_of_lt_of_le hj c_.tr.size))).trans (c9.below j hj)⟩
 have o_:=hH.nd
 rw[wc,List.nodup_append,List.nodup_append] at o_
 have gI:=hre (w':=w4) (λj hj=>ap.fr j (hH.fo.lt j (by rw[wc];simp at hj ⊢;rcases hj with hj|hj;exact .inl hj;exact .inr (.inr hj))).2 (λe=>by
  rcases List.mem_append.1 hj with hj|hj
  ·exact o_.1.2.2 j hj j (by rw[e];simp) rfl
  ·exact o_.2.2 j (List.mem_append_right _ (by rw[e];simp)) j hj rfl)) j6 ap.own.mv
 obtain⟨S',TP⟩: ∃S',S'=S1++(Value.slice An ws.length cn).ownBlock.toList++S2:=⟨_,rfl⟩
 rw[<-TP] at gI
 have gI:dP TW 28 w2.heap.size w4 S' (aB.set k (z.ae,.slice An ws.length cn)) ((e.1.ay.set k (an.mk z.ae ws)).map bx):=by rw[List.map_set];exact gI
 have nL: ∀j∈S',j∉O3:=λj hj hm=>by
  rw[TP] at hj
  simp only[List.mem_append,Option.mem_toList] at hj
  rcases hj with(hj|hj)|hj
  ·exact hH.out j (by rw[wc];simp[hj]) hm
  ·exact ap.ne j (c9.ob j hm) (C' j hm) hj
  ·exact hH.out j (by rw[wc];simp[hj]) hm
 refine aD ai [7,8] [(6,(.pointer (some ⟨b2,0,none⟩))),(8,(.pointer (some ⟨b,0,none⟩))),(46,(.slice An ws.length cn)),(48,(.pointer (some ⟨g,k*2+1,none⟩)))] rfl ⟨rfl,rfl,rfl,rfl,trivial⟩ ?_
 refine gD ai rfl rfl rfl rfl rfl rfl rfl iv [(.slice An ws.length cn)] rfl rfl (by simp[Value.oneCell']) (Nat.ble_eq_true_of_le (by simp only[List.length_append,rc,iH,List.length_map];show k*2+1+1<=_;omega)) (rc (aB.set k (z.ae,(.slice An ws.length cn)))++R) (LZ (x:=(z.ae,(.slice Aw z.a_.length cw))) hr) (λw5 qx f5=>?_)
 have hW:=LR (bs:=e.1.ay.set k (an.mk z.ae ws)) hH.mem hH.ge Jt lX hH.nb hH.dj oW gb ir wQ wy wS f5 qx (by rw[List.length_set]) (λr hr=>by
  rcases List.mem_or_eq_of_mem_set hr with hr|rfl
  ·exact mz r hr
  ·exact⟨_,_,_,rfl⟩) (eJ.of S' gI (λ_ h=>h)) gI.lt nL
 have cG:=cG.fr f5 (by simp;omega)
 have oR:=jf.trans (bU.jE jf.ob gb (Nat.le_trans c_.tr.size ir) f5)
 clear hH ju
 refine aQ ?_
 refine aM ?_
 have vV:w2.heap.size<=w5.heap.size:=Nat.le_trans eu.tr.size (Nat.le_trans ap.tr.size f5.size)
 refine aL ?_
 refine aT (l:=[0,1]) rfl ?_
 refine aD ai [0] [(6,(.pointer (some ⟨b2,0,none⟩))),(8,(.pointer (some ⟨b,0,none⟩))),(49,(.pointer (some ⟨b,0,none⟩)))] rfl ⟨rfl,rfl,rfl,trivial⟩ ?_
 refine mT rfl rfl rfl rfl rfl Hu rfl (KD oR.ob vV ⟨_,_,_,_,hW⟩) (λ_ w7 hg=>?_)
 obtain⟨rfl,O7,fz,hQ,ia,S7,Xx,hW⟩:=hg
 refine⟨_,rfl,?_⟩
 have cG:b9 w7 b2 34 [(.slice none 0 0),(.slice none 0 0)]:=(fz.below _ gw).trans cG
 have i2:=fz.sub _ i2
 have js:bU w.heap.size O w O7 w7:=oR.trans ⟨fz.tr,fz.ob,fz.sub,λj hj=>fz.below j (Nat.lt_of_lt_of_le hj c_.tr.size)⟩
 refine aD ai [] [(6,(.pointer (some ⟨b2,0,none⟩))),(8,(.pointer (some ⟨b,0,none⟩)))] rfl ⟨rfl,rfl,trivial⟩ ?_
 refine aQ ?_
 refine aM ?_
 refine aL ?_
 refine aT (l:=[0,1,2,3,4,5]) rfl ?_
 refine aD ai [0,1,2] [(8,(.pointer (some ⟨b,0,none⟩))),(6,(.pointer (some ⟨b2,0,none⟩))),(53,(.pointer (some ⟨b,0,none⟩)))] rfl ⟨rfl,rfl,rfl,trivial⟩ ?_
 refine eZ ai rfl rfl rfl rfl rfl rfl rfl hW.bV [hQ,ia] rfl rfl (.inl rfl) (.agg #[hQ,ia]) rfl ?_
 obtain⟨Ax,cx,vT,_,_⟩:=hW.ns.form
 obtain⟨Ay,cy,vU,_,_⟩:=hW.row.form
 refine gD ai rfl rfl rfl rfl rfl rfl rfl cG [hQ,ia] rfl rfl (by rw[vT,vU];simp[Value.oneCell']) rfl [hQ,ia] rfl (λwE jv fE=>?_)
 have wh:=hW.cell i2 gw fE
 have hE:=(js.trans (bU.jE js.ob i2 kW fE)).fr
 refine aD ai [5] [(6,(.pointer (some ⟨b2,0,none⟩))),(7,(.int .i64 0))] rfl ⟨rfl,rfl,trivial⟩ ?_
 refine aQ ?_
 refine aM ?_
 refine dJ ?_
 exact(pO ai (vs:=[.agg #[hQ,ia],(.int .i64 0)]) ⟨_,_,rfl,⟨_,_,_,_,rfl,jv,rfl,rfl,.inl rfl,rfl⟩,_,_,rfl,rfl,rfl⟩ ⟨_,rfl,⟨_,_,rfl,(wh.data lQ),ey.2 rfl⟩,hE⟩)
section
variable {P:Program} {r:Option Nat} {N:Nat} {Θ:dm} {ops:Array Oper} {Q:Exit->Act->World->Prop} {l:List Nat} {E:Env} {ds:List Deferred} {w:World} {i d:Nat} {o:Oper} {O:List Nat}
theorem ale (aO:Θ.ok P) {a:Act} (ha:Has N E ds a) (ho:ops[i]? =some o) (hw:want N ops E o.guard=some true) (hd:o.dst=some d) {t:Nat} {x y:Operand} {ti te:TI} (ak:o.op= .slice t x none (some y) none) (ht:Θ.get t=some ti)
  (h5:ti.tag=5) (cd:Θ.get ti.e=some te) {ad:Addr} {n c hi:Nat} {k:IntKind} (hx:ev E x=some (.slice (some ad) n c)) (hy:ev E y=some (.int k hi)) (eL:n<=c) (nE:hi<=c):
  gn P r ops Q i d a w (λu w'=>u= .slice (some ad) hi c/\Fr [] w w'):=by
 refine qY ho (j5 ha hw) hd (b:=true) (v:= .slice (some ad) hi c) (w':=w) ?_ ⟨rfl,Fr.refl _ _⟩
 simp only[if_true]
 refine⟨by rw[ak];simp,?_⟩
 simp only[execOp,ak,Sem.run_bind,ha.eval hx,Option.map_some,Option.map_none,ha.eval hy,X4 aO ht h5 cd eL nE]
 rfl
theorem apW (aO:Θ.ok P) (ho:ops[i]? =some o) (hw:want N ops E o.guard=some true) (hd:o.dst=some d) (hN:Nat.blt d N=true) {t:Nat} {x y z:Operand} {ti te:TI} (ak:o.op= .slice t x (some y) (some z) none) (ht:Θ.get t=some ti)
  (h5:ti.tag=5) (cd:Θ.get ti.e=some te) {ad:Addr} {n c lo hi:Nat} {k k':IntKind} (hx:ev E x=some (.slice (some ad) n c)) (hy:ev E y=some (.int k lo)) (hz:ev E z=some (.int k' hi)) (eL:n<=c) (nJ:lo<=hi) (nE:hi<=c) (J2:lo<c)
  (h:WO P r N ops Q l ((d,.slice (some (ad.add (lo*te.size))) (hi-lo) (c-lo))::E) ds w):WO P r N ops Q (i::l) E ds w:=by
 have hu:=(aO.fits ht).slice h5
 have hb:=tG (P:=P) (w:=w) (b:=true) (n:=n) (c:=c) (lo:=some (k,(lo:Int))) (hi:=some (k',(hi:Int))) (mx:=none) eL (by simp) (by simp;omega) (by simp;omega) (by simp) (by simp)
 simp only[Option.map_some,Option.map_none,Option.getD_some,Option.getD_none,jU,Int.toNat_natCast] at hb
 refine fv ho hw hd hN (by rw[ak];simp) (λa ha=>?_) h
 simp only[execOp,ak,Sem.run_bind,ha.eval hx,Option.map_some,Option.map_none,ha.eval hy,ha.eval hz,Instr.sliceAt,run_underlying hu,Result.andThen_ok,Instr.slice,hb,fe (aO.fits cd),Sem.run_pure]
 rw[if_neg (by omega)]
theorem apR (aO:Θ.ok P) (ho:ops[i]? =some o) (hw:want N ops E o.guard=some true) (hd:o.dst=some d) (hN:Nat.blt d N=true) {t:Nat} {x y:Operand} {ti te:TI}
  (ak:o.op= .call { callee:= .builtin .append,args:= #[x,y],argTypes:= #[t,t] }) (ht:Θ.get t=some ti) (h5:ti.tag=5) (cd:Θ.get ti.e=some te) {g k c m c' e:Nat} {ad:Addr} {cur:Array Value} {us:List Value}
  (hx:ev E x=some (.slice (some ⟨g,0,none⟩) k c)) (hy:ev E y=some (.slice (some ad) m c')) (hg:w.heap[g]? =some (.cells cur e (0,0))) (eD:e_ w ad us) (iV:us.length=m*te.size) (h1: ∀u∈us,u.oneCell'=true) (C7:k+m<=c) (fb:(k+m)*te.size<=cur.size)
  (h: ∀(W:World) (new:Array Value),Fr [g] w W->W.heap[g]? =some (.cells new e (0,0))->new=(cur.toList.take (k*te.size)++us++cur.toList.drop (k*te.size+us.length)).toArray->WO P r N ops Q l ((d,.slice (some ⟨g,0,none⟩) (k+m) c)::E) ds W):WO P r N ops Q (i::l) E ds w:=by
 have iC:=(aO.fits ht).slice h5
 obtain⟨x',jT,hs,qy,sW⟩:=(aO.fits cd).info
 have fS:=run_storeCells_at P g (k*te.size) e us 0 cur w hg (by rw[iV];rw[Nat.add_mul] at fb;omega) h1
 simp only[Nat.add_zero] at fS
 have sL:=h (w.setRow g (cur.toList.take (k*te.size)++us++cur.toList.drop (k*te.size+us.length)).toArray) _ (od hg) (by simp only[World.setRow,Array.getElem?_modify,hg,if_true,Option.map_some]) rfl
 refine fv ho hw hd hN (by rw[ak];simp) (λa ha=>?_) sL
 have hfc:=run_firstCells_some (P:=P) (w:=w) te.size m ad m c' us iV eD
 have bC:(Builtin.append_ #[t,t] o.type #[.slice (some ⟨g,0,none⟩) k c,.slice (some ad) m c']).run P w= .ok (.slice (some ⟨g,0,none⟩) (k+m) c) (w.setRow g (cur.toList.take (k*te.size)++us++cur.toList.drop (k*te.size+us.length)).toArray):=by
  simp[Builtin.append_,run_underlying iC,sizeOf,typeInfo,jT,Builtin.lenOf,hs,hfc,C7,gT,fS]
 simp only[execOp,ak,Sem.run_bind,resolve,Sem.run_pure,Result.andThen_ok,invoke,builtin,List.map_toArray,List.map_cons,List.map_nil,ha.eval hx,ha.eval hy,bC]
end
noncomputable def np (z:aw):Value×Value:=(.int .u64 z.cB,.int .u64 z.ae)
noncomputable def nc (L:List aw):List Value:=pc (L.map np)
theorem Li {O:List Nat} {w:World}: ∀ {L:List aw},cf eP O w (nc L) L
 |[]=>rfl
 |z::L=>⟨[.int .u64 z.cB,.int .u64 z.ae],nc L,rfl,⟨[.int .u64 z.cB],[.int .u64 z.ae],rfl,rfl,rfl⟩,Li⟩
theorem XS {O:List Nat} {w:World}: ∀ {L:List aw} {cs:List Value},cf eP O w cs L->cs=nc L
 |[],_,h=>h
 |z::L,cs,⟨c1,c2,h1,h2,h3⟩=>by
  rw[h1,XS h3,an8 h2]
  rfl
theorem pr (L:List aw):(nc L).length=L.length*2:=by rw[nc,iH,List.length_map]
theorem akL (L:List aw) (k:Nat):(nc L).take (k*2)=nc (L.take k):=by rw[nc,DV,nc,List.map_take]
theorem akJ (L:List aw) (k:Nat):(nc L).drop (k*2)=nc (L.drop k):=by rw[nc,DU,nc,List.map_drop]
theorem akI (L M:List aw):nc (L++M)=nc L++nc M:=by rw[nc,List.map_append,LM];rfl
theorem akK: ∀ {L:List aw} {u:Value},u∈nc L->u.oneCell'=true:=λ{L u} h=>cf.one (Li (O:=[]) (w:=default) (L:=L)) u h
noncomputable def Ms (xs:List aw) (i j:Int):Option (List aw):=if 0<=i/\i<=j/\j<=xs.length then some (xs.take i.toNat++xs.drop j.toNat) else none
set_option maxRecDepth 100000 in
set_option maxHeartbeats 4000000 in
theorem anS {O:List Nat} {w:World} (hO:OB O w) {B:Nat} {v:Value} {xs:List aw} (hv:Go.Dc.Own eP 93 B O w v xs) {i j:Int} {zs:List aw} (hz:Ms xs i j=some zs):
  Calls Tryz.prog 241 #[v,.int .i64 i,.int .i64 j] w (gE eP 93 B O w v zs):=by
 unfold Ms at hz
 split at hz
 case isFalse=>cases hz
 rename_i dp
 cases hz
 obtain⟨i,rfl⟩: ∃k:Nat,i=k:=⟨i.toNat,by omega⟩
 obtain⟨j,rfl⟩: ∃k:Nat,j=k:=⟨j.toNat,by omega⟩
 simp only[Int.toNat_natCast] at*
 obtain⟨A,c,rfl,eL,kU⟩:=hv.form
 have ajn:(Ty.slice eP).is [] w (.slice A xs.length c) xs:=hv.mv.data Es (λ_ _ h=>by cases h)
 refine im (args:=[.slice A xs.length c,.int .i64 i,.int .i64 j]) (N:=33) Tryz.func241 rfl rfl rfl ?_
 refine aL ?_
 refine aT (l:=[0]) rfl ?_
 refine aD ai [0] [(0,.slice A xs.length c),(1,.int .i64 i),(2,.int .i64 j)] rfl ⟨rfl,rfl,rfl,trivial⟩ ?_
 refine aQ ?_
 refine aM ?_
 refine aL ?_
 refine aT (l:=[0,1,2,3,4,5]) rfl ?_
 refine aD ai [0,1,2,3,4] [(0,.slice A xs.length c),(1,.int .i64 i),(2,.int .i64 j),(8,.slice A xs.length c),(9,.int .i64 i),(10,.int .i64 j),(12,.int .i64 (xs.length:Int))] rfl ⟨rfl,rfl,rfl,rfl,rfl,rfl,rfl,trivial⟩ ?_
 refine apV (l':=some (.i64,(i:Int))) (h':=some (.i64,(j:Int))) (m':=some (.i64,(xs.length:Int))) (ys:=(xs.take j).drop i) ai rfl rfl rfl rfl rfl rfl rfl rfl rfl rfl rfl rfl rfl ajn (by
  simp only[Option.map_some]
  unfold gq
  rw[if_pos (by simp;omega)]
  simp) (λv1 h1=>?_)
 refine aQ ?_
 refine aM ?_
 refine aL ?_
 refine aL ?_
 refine aT (l:=[0,1,2]) rfl ?_
 refine aD ai [0,1,2] [(0,.slice A xs.length c),(1,.int .i64 i),(2,.int .i64 j),(16,.bool ((i:Int)==j))] rfl ⟨rfl,rfl,rfl,rfl,trivial⟩ ?_
 refine aQ ?_
 refine aM ?_
 by_cases ajx:i=j
 ·subst ajx
  refine iK rfl (by simp) ?_
  refine aL ?_
  refine aT (l:=[0,1]) rfl ?_
  refine aD ai [0,1] [(6,.slice A xs.length c)] rfl ⟨rfl,trivial⟩ ?_
  refine aQ ?_
  refine aM ?_
  refine dJ ?_
  refine gm (eI rfl ⟨_,O,rfl,?_⟩)
  rw[List.take_append_drop]
  exact⟨hv,Tr.refl _ _,hO,Sub.refl _,λ_ _ _=>rfl,λ_ _ h=>h⟩
 refine jc rfl (beq_eq_false_iff_ne.2 (by omega)) ?_
 refine eY ?_
 refine aM ?_
 obtain⟨cs,⟨bS,g_⟩,eN⟩:=hv.ex
 rcases g_ with⟨_,mA⟩|⟨g,cap,cur,g_,ir,hh,kr,qz,fb,jR⟩
 ·omega
 injection g_ with hA sQ iR
 subst hA;subst iR
 have gb:=hv.mem g rfl
 have qB:=XS eN
 have nu:eP.n=2:=rfl
 rw[nu] at fb jR
 obtain⟨R,hR⟩: ∃R,R=cur.toList.drop (xs.length*2):=⟨_,rfl⟩
 have ke:cur.toList=nc xs++R:=by
  rw[hR,<-qB,<-jR]
  exact(List.take_append_drop _ _).symm
 have hRl:xs.length*2+R.length=c*2:=by
  have:=congrArg List.length ke
  rw[Array.length_toList,fb] at this
  simp only[List.length_append,pr] at this
  omega
 have hb:b9 w g 93 (nc xs++R):=by
  unfold b9
  rw[<-ke,Array.toArray_toList]
  exact hh
 refine aL ?_
 refine aT (l:=[0,1,2]) rfl ?_
 refine aD ai [0,1,2] [(0,.slice (some ⟨g,0,none⟩) xs.length c),(1,.int .i64 i),(2,.int .i64 j),(7,.int .i64 (xs.length:Int))] rfl ⟨rfl,rfl,rfl,rfl,trivial⟩ ?_
 refine aQ ?_
 refine aM ?_
 refine aL ?_
 refine Ez mixed [⟨20,[],[0]⟩,⟨21,[],[1]⟩,⟨22,[0,1],[]⟩,⟨23,[],[0]⟩,⟨24,[],[2]⟩,⟨25,[3,4],[]⟩] [SP.eq (.slice (some ⟨g,0,none⟩) xs.length c),SP.eq (.int .i64 i),SP.eq (.slice (some ⟨g,0,none⟩) i c),SP.eq (.slice (some ⟨g,0,none⟩) xs.length c),SP.eq (.int .i64 j),SP.eq (.slice (if c=j then some ⟨g,0,none⟩ else(some ⟨g,0,none⟩:Option Addr).map (·.add (j*2))) (xs.length-j) (c-j))] rfl rfl rfl rfl ⟨?_,?_,?_,?_,?_,?_,trivial⟩ ?_
 ·intro a w2 bP hN aX hb hd
  exact dI ai ⟨hN,aX,ct (E:=[(0,.slice (some ⟨g,0,none⟩) xs.length c)]) ⟨hb 0 rfl _ rfl,trivial⟩⟩ rfl rfl rfl rfl rfl
 ·intro a w2 bP hN aX hb hd
  exact dI ai ⟨hN,aX,ct (E:=[(1,.int .i64 i)]) ⟨hb 1 rfl _ rfl,trivial⟩⟩ rfl rfl rfl rfl rfl
 ·intro a w2 bP hN aX hb hd
  exact ale (n:=xs.length) (c:=c) (hi:=i) ai ⟨hN,aX,ct (E:=[(20,.slice (some ⟨g,0,none⟩) xs.length c),(21,.int .i64 i)]) ⟨(hd 0 rfl _ _ rfl rfl),(hd 1 rfl _ _ rfl rfl),trivial⟩⟩ rfl rfl rfl rfl rfl rfl rfl rfl rfl kr (by omega)
 ·intro a w2 bP hN aX hb hd
  exact dI ai ⟨hN,aX,ct (E:=[(0,.slice (some ⟨g,0,none⟩) xs.length c)]) ⟨hb 0 rfl _ rfl,trivial⟩⟩ rfl rfl rfl rfl rfl
 ·intro a w2 bP hN aX hb hd
  exact dI ai ⟨hN,aX,ct (E:=[(2,.int .i64 j)]) ⟨hb 2 rfl _ rfl,trivial⟩⟩ rfl rfl rfl rfl rfl
 ·intro a w2 bP hN aX hb hd
  refine(xG (A:=some ⟨g,0,none⟩) (n:=xs.length) (c:=c) (lo:=j) ai ⟨hN,aX,ct (E:=[(23,.slice (some ⟨g,0,none⟩) xs.length c),(24,.int .i64 j)]) ⟨(hd 3 rfl _ _ rfl rfl),(hd 4 rfl _ _ rfl rfl),trivial⟩⟩ rfl rfl rfl rfl rfl rfl rfl rfl rfl kr (by omega)).weaken (λu w3 hh=>?_)
  exact hh
 intro a w3 f3 hN aX eh hr
 have C0:=hb.cD f3
 obtain⟨ad,wu,nz⟩: ∃ad,(if c=j then some ⟨g,0,none⟩ else(some ⟨g,0,none⟩:Option Addr).map (·.add (j*2)))=some ad/\e_ w3 ad (nc (xs.drop j)):=by
  by_cases T_:c=j
  ·refine⟨⟨g,0,none⟩,by rw[if_pos T_],?_⟩
   rw[List.drop_eq_nil_of_le (by omega)]
   intro k u hk
   simp[nc,pc] at hk
  ·refine⟨⟨g,j*2,none⟩,by rw[if_neg T_,Option.map_some,gT,Nat.zero_add],?_⟩
   intro k u hk
   rw[gT,C0.cell]
   rw[<-akJ,List.getElem?_drop] at hk
   have aH:=(List.getElem?_eq_some_iff.1 hk).1
   rw[List.getElem?_append_left aH]
   exact hk
 rw[wu] at hr
 refine ym (E:=[(1,.int .i64 i),(2,.int .i64 j),(7,.int .i64 (xs.length:Int)),(22,.slice (some ⟨g,0,none⟩) i c),(25,.slice (some ad) (xs.length-j) (c-j))]) (l:=[6,7]) hN aX ⟨eh 1 _ rfl rfl,eh 2 _ rfl rfl,eh 7 _ rfl rfl,(hr 2 _ _ rfl rfl),(hr 5 _ _ rfl rfl),trivial⟩ rfl ?_
 have eU:(nc (xs.drop j)).length=(xs.length-j)*2:=by rw[pr,List.length_drop]
 refine apR ai rfl rfl rfl rfl rfl rfl rfl rfl rfl rfl C0 nz eU (λu hu=>akK hu) (by omega) (by simp only[List.size_toArray,List.length_append,pr];show(i+(xs.length-j))*2<=_;omega) (λw4 new wG hh4 fi=>?_)
 have Uz:new.toList=nc (xs.take i++xs.drop j)++(nc xs++R).drop (i*2+(xs.length-j)*2):=by
  rw[fi]
  simp only[List.toList_toArray]
  rw[eU,akI,List.append_assoc,List.append_assoc]
  congr 1
  show List.take (i*2) (nc xs++R)=_
  rw[List.take_append_of_le_length (by rw[pr];omega),akL]
 have gJ:(xs.take i++xs.drop j).length=i+(xs.length-j):=by simp;omega
 refine aD ai [7] [(0,.slice (some ⟨g,0,none⟩) (i+(xs.length-j)) c),(1,.int .i64 i),(2,.int .i64 j),(7,.int .i64 (xs.length:Int))] rfl ⟨rfl,rfl,rfl,rfl,trivial⟩ ?_
 refine aQ ?_
 refine aM ?_
 refine aL ?_
 refine aT (l:=[0,1,2,3,4,5]) rfl ?_
 refine aD ai [0,1,2,3] [(0,.slice (some ⟨g,0,none⟩) (i+(xs.length-j)) c),(27,.slice (some ⟨g,0,none⟩) (i+(xs.length-j)) c),(29,.int .i64 ((i+(xs.length-j):Nat):Int)),(30,.int .i64 (xs.length:Int))] rfl ⟨rfl,rfl,rfl,rfl,trivial⟩ ?_
 refine apW (n:=i+(xs.length-j)) (c:=c) (lo:=i+(xs.length-j)) (hi:=xs.length) ai rfl rfl rfl rfl rfl rfl rfl rfl rfl rfl rfl (by omega) (by omega) kr (by omega) ?_
 obtain⟨q,hq⟩: ∃q,xs.length-(i+(xs.length-j))=q+1:=⟨xs.length-(i+(xs.length-j))-1,by omega⟩
 rw[hq,gT,Nat.zero_add]
 have UD:new.size=c*2:=by
  rw[<-Array.length_toList,Uz]
  simp only[List.length_append,List.length_drop,pr,List.length_take]
  omega
 refine ZW (k:=2) ai rfl rfl rfl rfl rfl rfl rfl rfl hh4 rfl (λu hu=>Z1 rfl rfl hu) (by rw[UD];show(i+(xs.length-j))*2+(q+1)*2<=c*2;omega) (λw5 WG hf5 hh5 ajH=>?_)
 have UA:WG.toList=nc (xs.take i++xs.drop j)++((Builtin.zeroCells (Value.agg #[.int .u64 0,.int .u64 0]).cells (q+1)).toList++new.toList.drop ((i+(xs.length-j))*2+(q+1)*2)):=by
  rw[ajH]
  simp only[List.toList_toArray,List.append_assoc]
  congr 1
  show List.take ((i+(xs.length-j))*2) new.toList=_
  rw[Uz]
  exact List.take_left' (by rw[pr,gJ])
 have ajJ:WG.size=c*2:=by
  rw[<-Array.length_toList,UA]
  simp only[List.length_append,List.length_drop,pr,Array.length_toList,size_zeroCells,UD,List.length_take]
  show _+((q+1)*2+_)=_
  omega
 refine aQ ?_
 refine aM ?_
 refine aL ?_
 refine aT (l:=[0,1]) rfl ?_
 refine aD ai [0,1] [(6,.slice (some ⟨g,0,none⟩) (i+(xs.length-j)) c)] rfl ⟨rfl,trivial⟩ ?_
 refine aQ ?_
 refine aM ?_
 refine dJ ?_
 refine eI rfl ⟨_,O,rfl,?_⟩
 have IC:Fr [g] w w5:=(f3.more (by simp)).trans (wG.trans hf5)
 have:=M4 (T:=eP) (e:=93) (B:=B) (n0:=xs.length) (zs:=xs.take i++xs.drop j) (cap:=c) hO gb ir IC hh5 ajJ qz (by rw[gJ];omega) Li (by
  rw[UA]
  exact List.take_left' (by rw[pr,gJ];rfl))
 rw[gJ] at this
 exact this
end Go.Proofs.YtdhaaaeffhaadaaGreatDoor
end
section
namespace Go.Vx
open Go.RowKit Go.Dc
section
variable {S:bL} {K:bQ S} {P:Program}
def iJ:List (aE S)->Option (List Value)
 |[]=>some []
 | .one (.v u)::r=>(match iJ r with|some us=>some (u::us)|none=>none)
 |_=>none
theorem ZO {A:Pl} {O:List Nat} {w:World}: ∀ {aqJ:List (aE S)} {us vs:List Value},iJ aqJ=some us->di A O w aqJ vs->vs=us
 |[],us,vs,h,hr=>by
  cases h
  exact hr
 | .one (.v u)::r,us,vs,h,⟨y,ys,e,h1,h2⟩=>by
  simp only[iJ] at h
  split at h
  ·rename_i us' hu
   cases h
   have h1:[y]=[u]/\_:=h1
   rw[e,ZO hu h2,List.cons.inj h1.1|>.1]
  ·cases h
 | .agg _::_,us,vs,h,_=>by simp[iJ] at h
 | .one (.aP _ _)::_,us,vs,h,_=>by simp[iJ] at h
 | .one (.ptr _ _ _)::_,us,vs,h,_=>by simp[iJ] at h
 | .one (.br _ _)::_,us,vs,h,_=>by simp[iJ] at h
 | .one (.gU _ _ _ _)::_,us,vs,h,_=>by simp[iJ] at h
 | .one (.own _)::_,us,vs,h,_=>by simp[iJ] at h
 | .one (.f_ _ _ _ _)::_,us,vs,h,_=>by simp[iJ] at h
 | .one (.gV _ _ _)::_,us,vs,h,_=>by simp[iJ] at h
 | .one (.mp _)::_,us,vs,h,_=>by simp[iJ] at h
 | .one (.bM _)::_,us,vs,h,_=>by simp[iJ] at h
 | .one .dF::_,us,vs,h,_=>by simp[iJ] at h
 | .one (.dy _)::_,us,vs,h,_=>by simp[iJ] at h
 | .one (.bR _ _ _)::_,us,vs,h,_=>by simp[iJ] at h
 | .one (.dQ _ _)::_,us,vs,h,_=>by simp[iJ] at h
def MI (K:bQ S) (f e:Nat) (tr:List (S.El e)->List Value->Option (List (S.El e))):jd S:=⟨f,λaqJ h k=>match aqJ with
 | .one (.own r)::rest=>(match iJ rest,fh K (aJ h) e (.own r) with
  |some us,some xs=>(tr xs us).bind λzs=>k (.ret (.s (.one (.own h.length)))) (h.set r none++[some (.row e zs)]) [r]
  |_,_=>none)
 |_=>none⟩
theorem apB (hK:cI K P) {f e:Nat} {tr:List (S.El e)->List Value->Option (List (S.El e))} (gv:fI P f)
  (hC: ∀(O:List Nat) (w:World) (v:Value) (us:List Value) (xs zs:List (S.El e)),OB O w->Dc.Own (S.ty e) e 0 O w v xs->tr xs us=some zs->Calls P f (v::us).toArray w (gE (S.ty e) e 0 O w v zs))
  {R:Type} (aqJ:List (aE S)) (h:AH S) (k:Rs S->AH S->List Nat->Option R) (z:R) (hz:(MI K f e tr).out aqJ h k=some z): ∃r h' dt,k r h' dt=some z/\gR K P f aqJ h r h' dt:=by
 simp only[MI] at hz
 split at hz
 rotate_left
 ·cases hz
 rename_i r rest
 split at hz
 rotate_left
 ·cases hz
 rename_i us xs eD eE
 obtain⟨zs,fT,hk⟩:=bind_some hz
 have mB:=Hr eE
 refine⟨_,_,_,hk,gv,λA O w vs hv hg hO hG cp=>?_⟩
 obtain⟨v,MR,rfl,xg,xb⟩:=hv
 obtain rfl:=ZO eD xb
 obtain⟨_,mD,g_,_⟩:=xg
 cases g_
 obtain⟨v0,xe,jw,T8⟩:=hg.al r _ mB
 rw[mD] at xe;cases xe
 refine(hC O w v MR xs zs hO jw fT).mono ?_
 rintro en w' ⟨v',O2,rfl,ha⟩
 obtain⟨A',da⟩: ∃A':Pl,A'=⟨λi=>bif Nat.beq i h.length then some v' else A.pl i,A.ls⟩:=⟨_,rfl⟩
 have eB: ∀i,i≠h.length->A'.pl i=A.pl i:=λi hi=>by
  rw[da]
  have:Nat.beq i h.length=false:=by
   cases hb:Nat.beq i h.length with
   |false=>rfl
   |true=>exact absurd (Nat.eq_of_beq_eq_true hb) hi
  simp only[this,cond_false]
 have gy:A'.pl h.length=some v':=by rw[da];simp
 have hle:A.le A':=⟨λi p hp=>by
  rw[eB i (λe=>by subst e;rw[cp _ (Nat.le_refl _)] at hp;cases hp)];exact hp,by rw[da]⟩
 have gf: ∀b,cq v≠some b->v.ownBlock≠some b:=λb hb hv=>hb (lI hv)
 have fR: ∀b,b<w.heap.size->cq v≠some b->w'.heap[b]? =w.heap[b]? :=λb hb hn=>ha.fr b hb (gf b hn)
 have dr: ∀b,cq v'=some b->v'.ownBlock=some b/\b∈O2:=by
  intro b hb
  have gf:v'.ownBlock=some b:=by
   rcases l7 ha.own with⟨e1,_⟩|⟨b',c,e1⟩
   ·rw[e1] at hb;cases hb
   ·rw[e1] at hb ⊢;cases hb;rfl
  exact⟨gf,ha.own.mem b gf⟩
 have nK: ∀b,b<w.heap.size->cq v≠some b->cq v'≠some b:=λb hb hn h'=>ha.ne b hb (gf b hn) (dr b h').1
 have pa:v'.oneCell'=true:=by
  rcases l7 ha.own with⟨e1,_⟩|⟨b',c,e1⟩<;>rw[e1]<;>rfl
 have hlen:(h.set r none).length=h.length:=by simp
 have lY: ∀ {i:Nat} {X:Ob S},aJ (h.set r none++[some (.row e zs)]) i=some X->(i≠r/\aJ h i=some X)\/(i=h.length/\X= .row e zs):=by
  intro i X hi
  rcases pA hi with h1|⟨h1,h2⟩
  ·exact .inl (LB h1)
  ·exact .inr ⟨h1.trans hlen,h2⟩
 refine⟨A',O2,⟨v',rfl,⟨v',gy,rfl,pa⟩⟩,⟨⟨?_,?_⟩,ha.ob,ha.tr,λi hi=>eB i (by omega),(λj hj=>?_),by rw[da],by simp,?_,?_⟩⟩
 ·intro i X hi
  rcases lY hi with⟨nG,h1⟩|⟨rfl,rfl⟩
  ·obtain⟨p,hp,hR,hb⟩:=hg.al i X h1
   have aH:=hU h1
   exact⟨p,by rw[eB i (by omega)];exact hp,hR.keep ha.tr hle λb b6=>⟨fR b (hO b (hb b b6)) (λgf=>hg.dj i r _ _ p v b nG h1 mB hp mD b6 gf),ha.sub b (hb b b6)⟩,λb b6=>ha.sub b (hb b b6)⟩
  ·exact⟨v',gy,ha.own,λb hb=>(dr b hb).2⟩
 ·intro i j X Y p q b dp hi hj hp hq b6 ew
  have gj: ∀ {i:Nat} {X:Ob S} {p:Value},i≠r->aJ h i=some X->A'.pl i=some p->cq p=some b->b<w.heap.size/\A.pl i=some p/\cq v≠some b:=by
   intro i X p h0 h1 h2 h3
   have aH:=hU h1
   rw[eB i (by omega)] at h2
   obtain⟨p',dx,_,hb⟩:=hg.al i X h1
   rw[h2] at dx;cases dx
   exact⟨hO b (hb b h3),h2,λgf=>hg.dj i r _ _ p v b h0 h1 mB h2 mD h3 gf⟩
  rcases lY hi with⟨nG,h1⟩|⟨rfl,rfl⟩
  ·rcases lY hj with⟨qF,h2⟩|⟨rfl,rfl⟩
   ·exact hg.dj i j X Y p q b dp h1 h2 (gj nG h1 hp b6).2.1 (gj qF h2 hq ew).2.1 b6 ew
   ·rw[gy] at hq;cases hq
    have h3:=gj nG h1 hp b6
    exact nK b h3.1 h3.2.2 ew
  ·rcases lY hj with⟨qF,h2⟩|⟨rfl,rfl⟩
   ·rw[gy] at hp;cases hp
    have h3:=gj qF h2 hq ew
    exact nK b h3.1 h3.2.2 b6
   ·exact absurd rfl dp
 ·have:j=r:=by simpa using hj
  subst this
  exact hU mB
 ·intro i hi
  simp at hi
  rw[eB i (by omega)]
  exact cp i (by omega)
 ·intro b hb hn
  have k5:=hn r (by simp) v mD
  refine⟨fR b (hO b hb) k5,ha.sub b hb,λi X p hi hX hp b6=>?_⟩
  rcases lY hX with⟨_,h1⟩|⟨rfl,rfl⟩
  ·have:=hU h1;omega
  ·rw[gy] at hp;cases hp
   exact nK b (hO b hb) k5 b6
end
end Go.Vx
end
section
namespace Go.Proofs.YtdhaaaeffhaadaaGreatDoor
open Go.RowKit Go.Dc Go.Vx
set_option maxRecDepth 100000
noncomputable def BS (xs:List aw) (us:List Value):Option (List aw):=match us with
 |[.int .i64 i,.int .i64 j]=>Ms xs i j
 |_=>none
noncomputable def Hp:jd SS:=MI KK 241 93 BS
theorem afD {R:Type} (xs:List (aE SS)) (h:AH SS) (k:Rs SS->AH SS->List Nat->Option R) (z:R) (hz:Hp.out xs h k=some z): ∃r h' dt,k r h' dt=some z/\gR KK Tryz.prog 241 xs h r h' dt:=
 apB (e:=93) (tr:=BS) er (dW bg Tryz.func241 rfl) (λO w v us xs zs hO hv hz=>by
  unfold BS at hz
  split at hz
  ·exact anS hO hv hz
  ·cases hz) xs h k z hz
noncomputable def FE (sh:Sh):az SS:= { t_ sh with H:=Hp::(t_ sh).H }
theorem abJ:ab (FE shut) Tryz.prog:=ab.nA (c:=Hp) Fh afD
noncomputable def H2 (sh:Sh) (s:bh) (pid:Int) (words:List Int):Option (bh×Int):=sh.s _ (Kz sh s pid words)
noncomputable def H3 (sh:Sh) (s:bh) (pid:Int):Option (bh×Int×Int):=sh.s _ (Ky sh s pid)
noncomputable def H6 (sh:Sh) (s:bh) (pid:Int):Option (bh×Int×Int):=sh.s _ (Kx sh s pid)
theorem Mu {α:Type} {x:α}:shut.s α x=x:=by rw[tH]
noncomputable def Hi (sh:Sh):bq SS:=bw KK 197 [34,28,76] (λ{R} xs (k:Rs SS->Option R)=>match xs with| .cons s (.cons pid (.cons words .nil))=>(H2 sh s pid words).bind (λr=>k (.ret (.aY [KK.aa 34 r.1,KK.aa 40 r.2]))))
noncomputable def Hj (sh:Sh):bq SS:=bw KK 198 [34,28] (λ{R} xs (k:Rs SS->Option R)=>match xs with| .cons s (.cons pid .nil)=>(H3 sh s pid).bind (λr=>k (.ret (.aY [KK.aa 34 r.1,KK.aa 28 r.2.1,KK.aa 40 r.2.2]))))
noncomputable def Hk (sh:Sh):bq SS:=bw KK 30 [34,28] (λ{R} xs (k:Rs SS->Option R)=>match xs with| .cons s (.cons pid .nil)=>(H6 sh s pid).bind (λr=>k (.ret (.aY [KK.aa 34 r.1,KK.aa 3 r.2.1,KK.aa 40 r.2.2]))))
theorem g0 {O:List Nat} {w:World} (h:dq KK O w):dq KK [] w:=h.tr (Tr.less λ_ hk=>by cases hk)
theorem KO {A:Pl} {O:List Nat} {w:World} {s:bh} {v:Value} (h:(KK.aa 34 s).rel A O w v):ja.is [] w v s:=KQ (KR er (t:=34) rfl rfl h)
theorem MJ {A:Pl} {O:List Nat} {w:World} {s:Int} {v:Value} (h:(KK.aa 28 s).rel A O w v):(Ty.int .u64).is [] w v s:=KQ (KR er (t:=28) rfl rfl h)
theorem ap0 {A:Pl} {O:List Nat} {w:World} {s:List Int} {v:Value} (h:(KK.aa 76 s).rel A O w v):(Ty.slice (Ty.int .u64)).is [] w v s:=KQ (KR er (t:=76) rfl rfl h)
theorem aex {R:Type} (ys:List (aE SS)) (k:Rs SS->Option R) (z:R) (hp:ys.all aE.pure=true) (hz:(Hi shut).out ys k=some z): ∃r,k r=some z/\fY KK Tryz.prog 197 ys r:=
 Hh er (λ{R} xs k z h=>by
  match xs,h with
  | .cons s (.cons pid (.cons words .nil)),h=>
   obtain⟨r,hr,hk⟩:=bind_some h
   refine⟨_,hk,dW bg Tryz.func197 rfl,λA O w vs hv hO hG=>?_⟩
   obtain⟨v0,_,rfl,h0,v1,_,rfl,h1,v2,_,rfl,h2,h3⟩:=hv
   rw[show _=[] from h3]
   refine(aka hO (g0 hG) (KO h0) (MJ h1) (ap0 h2) (Mu.symm.trans hr)).mono ?_
   rintro e w' ⟨v,rfl,⟨a,b,rfl,q1,q2⟩,hF⟩
   exact⟨⟨_,rfl,[a,b],rfl,a,[b],rfl,kJ er (t:=34) rfl rfl q1,b,[],rfl,kJ er (t:=40) rfl rfl q2,rfl⟩,hF⟩) ys k z hp hz
theorem aey {R:Type} (ys:List (aE SS)) (k:Rs SS->Option R) (z:R) (hp:ys.all aE.pure=true) (hz:(Hj shut).out ys k=some z): ∃r,k r=some z/\fY KK Tryz.prog 198 ys r:=
 Hh er (λ{R} xs k z h=>by
  match xs,h with
  | .cons s (.cons pid .nil),h=>
   obtain⟨r,hr,hk⟩:=bind_some h
   refine⟨_,hk,dW bg Tryz.func198 rfl,λA O w vs hv hO hG=>?_⟩
   obtain⟨v0,_,rfl,h0,v1,_,rfl,h1,h3⟩:=hv
   rw[show _=[] from h3]
   refine(aj' hO (g0 hG) (KO h0) (MJ h1) (Mu.symm.trans hr)).mono ?_
   rintro e w' ⟨v,rfl,⟨a,b,c,rfl,q1,q2,q3⟩,hF⟩
   exact⟨⟨_,rfl,[a,b,c],rfl,a,[b,c],rfl,kJ er (t:=34) rfl rfl q1,b,[c],rfl,kJ er (t:=28) rfl rfl q2,c,[],rfl,kJ er (t:=40) rfl rfl q3,rfl⟩,hF⟩) ys k z hp hz
theorem aeJ {R:Type} (ys:List (aE SS)) (k:Rs SS->Option R) (z:R) (hp:ys.all aE.pure=true) (hz:(Hk shut).out ys k=some z): ∃r,k r=some z/\fY KK Tryz.prog 30 ys r:=
 Hh er (λ{R} xs k z h=>by
  match xs,h with
  | .cons s (.cons pid .nil),h=>
   obtain⟨r,hr,hk⟩:=bind_some h
   refine⟨_,hk,dW bg Tryz.func30 rfl,λA O w vs hv hO hG=>?_⟩
   obtain⟨v0,_,rfl,h0,v1,_,rfl,h1,h3⟩:=hv
   rw[show _=[] from h3]
   refine(aj_ hO (g0 hG) (KO h0) (MJ h1) (Mu.symm.trans hr)).mono ?_
   rintro e w' ⟨v,rfl,⟨a,b,c,rfl,q1,q2,q3⟩,hF⟩
   exact⟨⟨_,rfl,[a,b,c],rfl,a,[b,c],rfl,kJ er (t:=34) rfl rfl q1,b,[c],rfl,kJ er (t:=3) rfl rfl q2,c,[],rfl,kJ er (t:=40) rfl rfl q3,rfl⟩,hF⟩) ys k z hp hz
noncomputable def Fy (sh:Sh):az SS:= { FE sh with C:=Hi sh::(FE sh).C }
theorem abH:ab (Fy shut) Tryz.prog:=ab.bB (c:=Hi shut) abJ aex
noncomputable def Fz (sh:Sh):az SS:= { Fy sh with C:=Hj sh::(Fy sh).C }
theorem abI:ab (Fz shut) Tryz.prog:=ab.bB (c:=Hj shut) abH aey
noncomputable def pU (sh:Sh):az SS:= { Fz sh with C:=Hk sh::(Fz sh).C }
theorem FI:ab (pU shut) Tryz.prog:=ab.bB (c:=Hk shut) abI aeJ
end Go.Proofs.YtdhaaaeffhaadaaGreatDoor
end
section
namespace Go.Proofs.YtdhaaaeffhaadaaGreatDoor
open Go.RowKit Go.Dc Go.Vx
set_option maxRecDepth 100000
set_option maxHeartbeats 4000000
noncomputable def Cs (U:List an) (p1:List aw) (p2 p3:Int) (p4:List an):AS SS:=⟨[(5,(va 0 0)),(20,(vd 32 U)),(21,(vi p2)),(22,(vi p3))],[(bX 128 [(.own 1),(.own 2)]),(rX 93 p1),(rX 82 p4)],0,none,false,[],[]⟩
noncomputable def afZ (U:List an) (p1:List aw) (p2:Int) (a0:Bool) (a1:Int) (a2:List an):AS SS:= { Cs U p1 p2 p2 a2 with env:=[(23,(vb a0)),(5,(va 0 0)),(20,(vd 32 U)),(21,(vi p2)),(22,(vi a1))] }
noncomputable def Qq (sh:Sh) (U:List an) (p1:List aw) (p2:Int) (a:Int×List an):T ((Int×List an) ⊕ (Bool×Int×List an)):=
 .bf (decide (a.1<p2)) (
  .bd (idx U a.1) λz0=>
   .bd (app 8 [] z0.a_) λz1=>
    .bd (app 32 a.2 [an.mk z0.ae z1]) λz2=>
     .ok (.inl ((IntKind.i64.wrap (a.1+1)),z2)))<|
 .ok (.inr ((decide (a.1<p2)),a.1,a.2))
noncomputable def PL (sh:Sh) (U:List an) (p1:List aw) (p2 p3:Int) (p4:List an):Option ((Bool×Int×List an)):=cA sh (Qq sh U p1 p2) 1000000 (p3,p4)
noncomputable def ab4 {R:Type} (k:AX->AS SS->Option R) (U:List an) (p1:List aw) (p2:Int) (x:(Bool×Int×List an)):Option R:=(λv=>k (.exit 0) (afZ U p1 p2 v.1 v.2.1 v.2.2)) x
noncomputable def KY:bo SS:=nT (λst=>gc (ax 118 7) (iE 0 1 82 (st)))<|bJ 7 (λst=>(bb 32 (aS st 20 0)).bind λU=>(db st 1 93).bind λp1=>(bE (aS st 21 0)).bind λp2=>(bE (aS st 22 0)).bind λp3=>(db st 2 82).bind λp4=>some (U,p1,p2,p3,p4)) (λp=>Cs p.1 p.2.1 p.2.2.1 p.2.2.2.1 p.2.2.2.2) (λp=>PL shut p.1 p.2.1 p.2.2.1 p.2.2.2.1 p.2.2.2.2) (λk p=>ab4 k p.1 p.2.1 p.2.2.1)
theorem al7:aC KK Tryz.prog ⟨Tryz.f118,ax 118⟩ (bI (aU Tryz.f118) 7) KY:=aC.pre (c7.comp (c7.gc (ax 118 7)) (c7.iE 0 1 82))<|
 aC.cA (π:=List an×List aw×Int×Int×List an) (σ:=Int×List an) (ab.all FI rfl) (au.nil) rfl 60 (λp a=>Cs p.1 p.2.1 p.2.2.1 a.1 a.2) (λp=>(p.2.2.2.1,p.2.2.2.2)) (St:=λp=>Qq shut p.1 p.2.1 p.2.2.1) (λp=>1000000) (λp=>rfl)
  (λm p a k=>by kernel_rfl)
noncomputable def CL (U:Int) (p1:List aw) (p2 p3:Int):AS SS:=⟨[(0,(vo 0)),(1,(vu U)),(2,(vc 1)),(8,(vi (↑p1.length:Int))),(9,(vi p2)),(10,(vi p3))],[(rX 93 p1),(some (.bM 263 [] [(.one (.br 2 0))])),(bX 276 [(.v (.func (.func 239) (.mk []) (.mk [])))])],3,none,false,[],[]⟩
noncomputable def agZ (U:Int) (p1:List aw) (a0:Bool) (a1 a2:Int):AS SS:= { CL U p1 U U with env:=[(17,(vb a0)),(16,(vi a1)),(15,(vi a2)),(0,(vo 0)),(1,(vu U)),(2,(vc 1)),(8,(vi (↑p1.length:Int))),(9,(vi a2)),(10,(vi a1))] }
noncomputable def QN (sh:Sh) (U:Int) (p1:List aw) (a:Int×Int):T ((Int×Int) ⊕ (Bool×Int×Int)):=
 .bf (decide (a.1<a.2)) (
  .bd (idx p1 (IntKind.i64.wrap ((IntKind.u64.wrap (IntKind.i64.wrap (a.1+a.2))).fdiv 2))) λz0=>
   .bd (p1[(IntKind.i64.wrap ((IntKind.u64.wrap (IntKind.i64.wrap (a.1+a.2))).fdiv 2)).toNat]?) λz1=>
    .bd (lN sh z1.cB U) λz2=>
     .bf (decide (z2<0)) (
      .ok (.inl ((IntKind.i64.wrap (IntKind.i64.wrap ((IntKind.u64.wrap (IntKind.i64.wrap (a.1+a.2))).fdiv 2)+1)),a.2)))<|
     .ok (.inl (a.1,(IntKind.i64.wrap ((IntKind.u64.wrap (IntKind.i64.wrap (a.1+a.2))).fdiv 2)))))<|
 .ok (.inr ((decide (a.1<a.2)),a.2,a.1))
noncomputable def P8 (sh:Sh) (U:Int) (p1:List aw) (p2 p3:Int):Option ((Bool×Int×Int)):=cA sh (QN sh U p1) 1000000 (p2,p3)
noncomputable def acI {R:Type} (k:AX->AS SS->Option R) (U:Int) (p1:List aw) (x:(Bool×Int×Int)):Option R:=(λv=>k (.exit 0) (agZ U p1 v.1 v.2.1 v.2.2)) x
noncomputable def VW:bo SS:=bJ 4 (λst=>(dU st 1 263).bind λ_=>(bE (aS st 1 0)).bind λU=>(db st 0 93).bind λp1=>(bE (aS st 9 0)).bind λp2=>(bE (aS st 10 0)).bind λp3=>some (U,p1,p2,p3)) (λp=>CL p.1 p.2.1 p.2.2.1 p.2.2.2) (λp=>P8 shut p.1 p.2.1 p.2.2.1 p.2.2.2) (λk p=>acI k p.1 p.2.1)
noncomputable def aaW:az SS:= { (pU shut) with T:=bl ((pU shut).T) 118 ⟨⟨Tryz.f118,ax 118⟩,[KY]⟩ }
theorem NZ:aF aaW Tryz.prog:=(aF.bK (ab.all FI rfl) Tryz.func118 rfl bg λc hc=>by cases hc;exact au.cons (au.nil) (by kernel_rfl) al7)
theorem amB:aC KK Tryz.prog ⟨Tryz.f262,ax 262⟩ (bI (aU Tryz.f262) 4) VW:=
 aC.cA (π:=Int×List aw×Int×Int) (σ:=Int×Int) NZ (au.nil) rfl 60 (λp a=>CL p.1 p.2.1 a.1 a.2) (λp=>(p.2.2.1,p.2.2.2)) (St:=λp=>QN shut p.1 p.2.1) (λp=>1000000) (λp=>rfl)
  (λm p a k=>by kernel_rfl)
noncomputable def N0:az SS:= { (pU shut) with T:=bl (bl ((pU shut).T) 118 ⟨⟨Tryz.f118,ax 118⟩,[KY]⟩) 262 ⟨⟨Tryz.f262,ax 262⟩,[VW]⟩ }
theorem aaX:aF N0 Tryz.prog:=(aF.bK NZ Tryz.func262 rfl bg λc hc=>by cases hc;exact au.cons (au.nil) (by kernel_rfl) amB)
noncomputable def Rh (sh:Sh) (s:bh) (name:Int):T (bh×Int):=
 .bd (oL sh s) λz0=>
  .bf (z0 !=0) (
   .bf (z0 !=0) (
    .ok (⟨[],[]⟩,z0))<|
   .bd (nh sh name) λz1=>
    .bf (!z1) (
     .ok (⟨[],[]⟩,351))<|
    .no)<|
  .bd (app 16 [] s.aK) λz1=>
   .gd (Cs s.ay z1 ((↑s.ay.length:Int)) 0 [])<|
    .bd (PL sh s.ay z1 ((↑s.ay.length:Int)) 0 []) λy2=>
     .bd (nh sh name) λz3=>
      .bf (!z3) (
       .ok (⟨[],[]⟩,351))<|
      .gd (CL name z1 0 (↑z1.length:Int))<|
       .bd (P8 sh name z1 0 ((↑z1.length:Int))) λy4=>
        .bf (decide (y4.2.2<(↑z1.length:Int))) (
         .bd (idx z1 y4.2.2) λz5=>
          .bd (z1[y4.2.2.toNat]?) λz6=>
           .bd (lN sh z6.cB name) λz7=>
            .bf (!z7==0) (
             .ok (⟨[],[]⟩,4))<|
            .bd (BS z1 [Value.int IntKind.i64 y4.2.2,Value.int IntKind.i64 (IntKind.i64.wrap (y4.2.2+1))]) λz8=>
             .ok (⟨z8,y2.2.2⟩,0))<|
        .ok (⟨[],[]⟩,4)
noncomputable def H0 (sh:Sh) (s:bh) (name:Int):Option (bh×Int):=sh.s _ (Rh sh s name).val
theorem aoK {R:Type} (s:bh) (name:Int) (k:Rs SS->Option R):bu N0 100 195 [KK.aa 34 s,KK.aa 28 name] [] (bD KK [34,40] k)=(Rh shut s name).run (λr=>k (.ret (.aY [KK.aa 34 r.1,KK.aa 40 r.2]))):=by kernel_rfl
noncomputable def aeu (sh:Sh):bq SS:=bw KK 195 [34,28] (λ{R} xs k=>match xs with| .cons s (.cons name .nil)=>(H0 sh s name).bind (λr=>k (.ret (.aY [KK.aa 34 r.1,KK.aa 40 r.2]))))
noncomputable def zk (sh:Sh):az SS:= { (pU sh) with C:=aeu sh::(pU sh).C }
theorem Pg:ab (zk shut) Tryz.prog:=ab.bB FI λxs k z _ hz=>bG aaX (λ{R} xs k z h=>by
 match xs,h with
 | .cons s (.cons name .nil),h=>exact⟨100,(aoK s name k).trans (bH h)⟩) hz
noncomputable def RA (sh:Sh) (s:bF) (x:dh):T (bF×cF):=
 .bf (decide (x.dG>=1)) (
  .bf (!decide (x.dG<=14)) (
   .ok (s,⟨361,0⟩))<|
  .bd (SJ sh x) λz0=>
   .bf (z0) (
    .bf (x.dG==0) (
     .no)<|
    .bf (x.dG==1) (
     .bd (HQ sh s.aG (aN x.fArgs 0)) λz1=>
      .bf (!z1.snd.snd==0) (
       .ok (s,⟨z1.snd.snd,0⟩))<|
      .ok (⟨z1.fst,s.bj,s.aI,s.aA⟩,⟨0,z1.snd.fst⟩))<|
    .bf (x.dG==2) (
     .bd (HR sh s.aG (aN x.fArgs 0) (aN x.fArgs 1)) λz1=>
      .bf (!z1.snd==0) (
       .ok (s,⟨z1.snd,0⟩))<|
      .bd (H7 sh s.aA (aN x.fArgs 0)) λz2=>
       .bf (!(↑z2.length:Int)==0) (
        .ok (s,⟨341,0⟩))<|
       .bd (H5 sh s.bj (aN x.fArgs 0)) λz3=>
        .bd (H6 sh s.aA (aN x.fArgs 0)) λz4=>
         .bf (!z4.snd.snd==0) (
          .ok (s,⟨z4.snd.snd,0⟩))<|
         .ok (⟨z1.fst,z3.fst,s.aI,z4.fst⟩,⟨0,0⟩))<|
    .bf (x.dG==3) (
     .bd (HS sh s.aG (aN x.fArgs 0) (aN x.fArgs 1)) λz1=>
      .bf (!z1.snd.snd==0) (
       .ok (s,⟨z1.snd.snd,0⟩))<|
      .ok (⟨z1.fst,s.bj,s.aI,s.aA⟩,⟨0,z1.snd.fst⟩))<|
    .bf (x.dG==4) (
     .bd (vA sh s.aI (aN x.fArgs 1)) λz1=>
      .bf (!z1.snd==0) (
       .ok (s,⟨z1.snd,0⟩))<|
      .bd (B2 sh s.bj (aN x.fArgs 0) z1.fst) λz2=>
       .bf (!z2.snd.snd==0) (
        .ok (s,⟨z2.snd.snd,0⟩))<|
       .ok (⟨s.aG,z2.fst,s.aI,s.aA⟩,⟨0,(IntKind.u64.wrap z2.snd.fst)⟩))<|
    .bf (x.dG==5) (
     .bf (!decide (aN x.fArgs 1<8)) (
      .ok (s,⟨4,0⟩))<|
     .bd (qm sh s.bj (aN x.fArgs 0) (IntKind.i64.wrap (aN x.fArgs 1))) λz1=>
      .bf (!z1.snd) (
       .ok (s,⟨4,0⟩))<|
      .bd (HT sh s.bj (aN x.fArgs 0) [IntKind.i64.wrap (aN x.fArgs 1)]) λz2=>
       .bf (!z2.snd==0) (
        .ok (s,⟨z2.snd,0⟩))<|
       .ok (⟨s.aG,z2.fst,s.aI,s.aA⟩,⟨0,0⟩))<|
    .bf (x.dG==6) (
     .bf (!decide (aN x.fArgs 1<8)) (
      .ok (s,⟨4,0⟩))<|
     .bd (qm sh s.bj (aN x.fArgs 0) (IntKind.i64.wrap (aN x.fArgs 1))) λz1=>
      .bf (!z1.snd) (
       .ok (s,⟨4,0⟩))<|
      .bd (HU sh s.bj (aN x.fArgs 0) (IntKind.i64.wrap (aN x.fArgs 1))) λz2=>
       .bf (!z2.snd.snd==0) (
        .ok (s,⟨z2.snd.snd,0⟩))<|
       .ok (⟨s.aG,z2.fst,s.aI,s.aA⟩,⟨0,(IntKind.u64.wrap z2.snd.fst)⟩))<|
    .bf (x.dG==7) (
     .bd (HV sh s.aI (aN x.fArgs 1)) λz1=>
      .bf (!z1.snd.snd==0) (
       .ok (s,⟨z1.snd.snd,0⟩))<|
      .ok (⟨s.aG,s.bj,z1.fst,s.aA⟩,⟨0,z1.snd.fst⟩))<|
    .bf (x.dG==8) (
     .bd (HW sh s.aI (aN x.fArgs 1)) λz1=>
      .bf (!z1.snd==0) (
       .ok (s,⟨z1.snd,0⟩))<|
      .bd (HX sh s.bj z1.fst) λz2=>
       .bf (!z2==0) (
        .ok (s,⟨341,0⟩))<|
       .bd (HY sh s.aI (aN x.fArgs 1)) λz3=>
        .bf (!z3.snd==0) (
         .ok (s,⟨z3.snd,0⟩))<|
        .ok (⟨s.aG,s.bj,z3.fst,s.aA⟩,⟨0,0⟩))<|
    .bf (x.dG==9) (
     .bd (vA sh s.aI (aN x.fArgs 1)) λz1=>
      .bf (!z1.snd==0) (
       .ok (s,⟨z1.snd,0⟩))<|
      .ok (s,⟨0,z1.fst⟩))<|
    .bf (x.dG==10) (
     .bd (HZ sh s.aA (aN x.fArgs 1) (aN x.fArgs 0)) λz1=>
      .bf (!z1.snd==0) (
       .ok (s,⟨z1.snd,0⟩))<|
      .ok (⟨s.aG,s.bj,s.aI,z1.fst⟩,⟨0,0⟩))<|
    .bf (x.dG==11) (
     .bd (vB sh s.aA (aN x.fArgs 1)) λz1=>
      .bf (!z1.snd==0) (
       .ok (s,⟨z1.snd,0⟩))<|
      .bf (!z1.fst==aN x.fArgs 0) (
       .ok (s,⟨362,0⟩))<|
      .bd (H0 sh s.aA (aN x.fArgs 1)) λy2=>
       .bf (!y2.2==0) (
        .ok (s,⟨y2.2,0⟩))<|
       .ok (⟨s.aG,s.bj,s.aI,y2.1⟩,⟨0,0⟩))<|
    .bf (x.dG==12) (
     .bd (vB sh s.aA (aN x.fArgs 1)) λz1=>
      .bf (!z1.snd==0) (
       .ok (s,⟨z1.snd,0⟩))<|
      .ok (s,⟨0,z1.fst⟩))<|
    .bf (x.dG==13) (
     .bd (B3 sh s.aG (aN x.fArgs 1)) λz1=>
      .bf (!z1) (
       .ok (s,⟨4,0⟩))<|
      .bd (H2 sh s.aA (aN x.fArgs 1) [aN x.fArgs 2]) λz2=>
       .bf (!z2.snd !=6) (
        .ok (s,⟨322,0⟩))<|
       .bf (!z2.snd==0) (
        .ok (s,⟨z2.snd,0⟩))<|
       .ok (⟨s.aG,s.bj,s.aI,z2.fst⟩,⟨0,0⟩))<|
    .bf (x.dG==14) (
     .bd (H3 sh s.aA (aN x.fArgs 0)) λz1=>
      .bf (!z1.snd.snd !=4) (
       .ok (s,⟨322,0⟩))<|
      .bf (!z1.snd.snd==0) (
       .ok (s,⟨z1.snd.snd,0⟩))<|
      .ok (⟨s.aG,s.bj,s.aI,z1.fst⟩,⟨0,z1.snd.fst⟩))<|
    .no)<|
   .bd (B3 sh s.aG (aN x.fArgs 0)) λz1=>
    .bf (!z1) (
     .ok (s,⟨321,0⟩))<|
    .bf (x.dG==0) (
     .no)<|
    .bf (x.dG==1) (
     .bd (HQ sh s.aG (aN x.fArgs 0)) λz2=>
      .bf (!z2.snd.snd==0) (
       .ok (s,⟨z2.snd.snd,0⟩))<|
      .ok (⟨z2.fst,s.bj,s.aI,s.aA⟩,⟨0,z2.snd.fst⟩))<|
    .bf (x.dG==2) (
     .bd (HR sh s.aG (aN x.fArgs 0) (aN x.fArgs 1)) λz2=>
      .bf (!z2.snd==0) (
       .ok (s,⟨z2.snd,0⟩))<|
      .bd (H7 sh s.aA (aN x.fArgs 0)) λz3=>
       .bf (!(↑z3.length:Int)==0) (
        .ok (s,⟨341,0⟩))<|
       .bd (H5 sh s.bj (aN x.fArgs 0)) λz4=>
        .bd (H6 sh s.aA (aN x.fArgs 0)) λz5=>
         .bf (!z5.snd.snd==0) (
          .ok (s,⟨z5.snd.snd,0⟩))<|
         .ok (⟨z2.fst,z4.fst,s.aI,z5.fst⟩,⟨0,0⟩))<|
    .bf (x.dG==3) (
     .bd (HS sh s.aG (aN x.fArgs 0) (aN x.fArgs 1)) λz2=>
      .bf (!z2.snd.snd==0) (
       .ok (s,⟨z2.snd.snd,0⟩))<|
      .ok (⟨z2.fst,s.bj,s.aI,s.aA⟩,⟨0,z2.snd.fst⟩))<|
    .bf (x.dG==4) (
     .bd (vA sh s.aI (aN x.fArgs 1)) λz2=>
      .bf (!z2.snd==0) (
       .ok (s,⟨z2.snd,0⟩))<|
      .bd (B2 sh s.bj (aN x.fArgs 0) z2.fst) λz3=>
       .bf (!z3.snd.snd==0) (
        .ok (s,⟨z3.snd.snd,0⟩))<|
       .ok (⟨s.aG,z3.fst,s.aI,s.aA⟩,⟨0,(IntKind.u64.wrap z3.snd.fst)⟩))<|
    .bf (x.dG==5) (
     .bf (!decide (aN x.fArgs 1<8)) (
      .ok (s,⟨4,0⟩))<|
     .bd (qm sh s.bj (aN x.fArgs 0) (IntKind.i64.wrap (aN x.fArgs 1))) λz2=>
      .bf (!z2.snd) (
       .ok (s,⟨4,0⟩))<|
      .bd (HT sh s.bj (aN x.fArgs 0) [IntKind.i64.wrap (aN x.fArgs 1)]) λz3=>
       .bf (!z3.snd==0) (
        .ok (s,⟨z3.snd,0⟩))<|
       .ok (⟨s.aG,z3.fst,s.aI,s.aA⟩,⟨0,0⟩))<|
    .bf (x.dG==6) (
     .bf (!decide (aN x.fArgs 1<8)) (
      .ok (s,⟨4,0⟩))<|
     .bd (qm sh s.bj (aN x.fArgs 0) (IntKind.i64.wrap (aN x.fArgs 1))) λz2=>
      .bf (!z2.snd) (
       .ok (s,⟨4,0⟩))<|
      .bd (HU sh s.bj (aN x.fArgs 0) (IntKind.i64.wrap (aN x.fArgs 1))) λz3=>
       .bf (!z3.snd.snd==0) (
        .ok (s,⟨z3.snd.snd,0⟩))<|
       .ok (⟨s.aG,z3.fst,s.aI,s.aA⟩,⟨0,(IntKind.u64.wrap z3.snd.fst)⟩))<|
    .bf (x.dG==7) (
     .bd (HV sh s.aI (aN x.fArgs 1)) λz2=>
      .bf (!z2.snd.snd==0) (
       .ok (s,⟨z2.snd.snd,0⟩))<|
      .ok (⟨s.aG,s.bj,z2.fst,s.aA⟩,⟨0,z2.snd.fst⟩))<|
    .bf (x.dG==8) (
     .bd (HW sh s.aI (aN x.fArgs 1)) λz2=>
      .bf (!z2.snd==0) (
       .ok (s,⟨z2.snd,0⟩))<|
      .bd (HX sh s.bj z2.fst) λz3=>
       .bf (!z3==0) (
        .ok (s,⟨341,0⟩))<|
       .bd (HY sh s.aI (aN x.fArgs 1)) λz4=>
        .bf (!z4.snd==0) (
         .ok (s,⟨z4.snd,0⟩))<|
        .ok (⟨s.aG,s.bj,z4.fst,s.aA⟩,⟨0,0⟩))<|
    .bf (x.dG==9) (
     .bd (vA sh s.aI (aN x.fArgs 1)) λz2=>
      .bf (!z2.snd==0) (
       .ok (s,⟨z2.snd,0⟩))<|
      .ok (s,⟨0,z2.fst⟩))<|
    .bf (x.dG==10) (
     .bd (HZ sh s.aA (aN x.fArgs 1) (aN x.fArgs 0)) λz2=>
      .bf (!z2.snd==0) (
       .ok (s,⟨z2.snd,0⟩))<|
      .ok (⟨s.aG,s.bj,s.aI,z2.fst⟩,⟨0,0⟩))<|
    .bf (x.dG==11) (
     .bd (vB sh s.aA (aN x.fArgs 1)) λz2=>
      .bf (!z2.snd==0) (
       .ok (s,⟨z2.snd,0⟩))<|
      .bf (!z2.fst==aN x.fArgs 0) (
       .ok (s,⟨362,0⟩))<|
      .bd (H0 sh s.aA (aN x.fArgs 1)) λy3=>
       .bf (!y3.2==0) (
        .ok (s,⟨y3.2,0⟩))<|
       .ok (⟨s.aG,s.bj,s.aI,y3.1⟩,⟨0,0⟩))<|
    .bf (x.dG==12) (
     .bd (vB sh s.aA (aN x.fArgs 1)) λz2=>
      .bf (!z2.snd==0) (
       .ok (s,⟨z2.snd,0⟩))<|
      .ok (s,⟨0,z2.fst⟩))<|
    .bf (x.dG==13) (
     .bd (B3 sh s.aG (aN x.fArgs 1)) λz2=>
      .bf (!z2) (
       .ok (s,⟨4,0⟩))<|
      .bd (H2 sh s.aA (aN x.fArgs 1) [aN x.fArgs 2]) λz3=>
       .bf (!z3.snd !=6) (
        .ok (s,⟨322,0⟩))<|
       .bf (!z3.snd==0) (
        .ok (s,⟨z3.snd,0⟩))<|
       .ok (⟨s.aG,s.bj,s.aI,z3.fst⟩,⟨0,0⟩))<|
    .bf (x.dG==14) (
     .bd (H3 sh s.aA (aN x.fArgs 0)) λz2=>
      .bf (!z2.snd.snd !=4) (
       .ok (s,⟨322,0⟩))<|
      .bf (!z2.snd.snd==0) (
       .ok (s,⟨z2.snd.snd,0⟩))<|
      .ok (⟨s.aG,s.bj,s.aI,z2.fst⟩,⟨0,z2.snd.fst⟩))<|
    .no)<|
 .ok (s,⟨361,0⟩)
noncomputable def Ik (sh:Sh) (s:bF) (x:dh):Option (bF×cF):=sh.s _ (RA sh s x).val
theorem apg {R:Type} (s:bF) (x:dh) (k:Rs SS->Option R):bu (zk shut) 100 67 [KK.aa 36 s,KK.aa 50 x] [] (bD KK [36,53] k)=(RA shut s x).run (λr=>k (.ret (.aY [KK.aa 36 r.1,KK.aa 53 r.2]))):=by kernel_rfl
noncomputable def ae7 (sh:Sh):bq SS:=bw KK 67 [36,50] (λ{R} xs k=>match xs with| .cons s (.cons x .nil)=>(Ik sh s x).bind (λr=>k (.ret (.aY [KK.aa 36 r.1,KK.aa 53 r.2]))))
noncomputable def zB (sh:Sh):az SS:= { (zk sh) with C:=ae7 sh::(zk sh).C }
theorem Py:ab (zB shut) Tryz.prog:=ab.bB Pg λxs k z _ hz=>bG (ab.all Pg rfl) (λ{R} xs k z h=>by
 match xs,h with
 | .cons s (.cons x .nil),h=>exact⟨100,(apg s x k).trans (bH h)⟩) hz
end Go.Proofs.YtdhaaaeffhaadaaGreatDoor
end
