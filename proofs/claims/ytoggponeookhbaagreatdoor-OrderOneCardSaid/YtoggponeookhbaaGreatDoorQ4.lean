/- A part of the proof that OrderOne returns true for every input: the machine of values, its soundness, the program as plain functions, the law. Conditions: those of the given rows. -/
import Derived.Test.YtoggponeookhbaaGreatDoorQ3
set_option linter.unusedVariables false
set_option linter.unusedSimpArgs false
noncomputable section
set_option maxRecDepth 1000000
set_option maxHeartbeats 12000000
open Array renaming getD_eq_getD_getElem?→ζ,length_toList→υ,getElem?_setIfInBounds_ne→ξ2,getElem?_eq_getElem→ξ3,all_eq_true_iff_forall_mem→ξ8,toArray_toList→ξz,getElem?_modify→ξY,replicate→ζl
open Bool renaming true_and→ξM,not_true→ξN,false_or→ξO,not_false→ζ1,not_eq_true'→ζ7,and_eq_true→ζg,eq_iff_iff→ζr,or_false→ζv,and_true→ζy,true_or→ζN,or_true→ζO
open Go.Builtin renaming zeroCells→χ,append_→ζq,clear_→ζs
open Go.IntKind renaming i64→β,u64→θ,signed→ζu,wrap→η4,bits→η5
open Go.Proofs.Tryz renaming prog→γ,f97→ω,f142→ξ1,f105→ξ6,func142→ξj,f200→ξl,f269→ξp,f264→ξA,f219→ξB,f197→ξH,f257→ξS,f213→ξT,func105→ξU,f166→ξV,func219→ξW,func197→ζ9,func200→ζa,func269→ζb,f193→ζh,f210→ζi,f267→ζj,func257→ζz,func193→ζA,f195→ζB,func264→ζC,f157→ζD,f211→ζE,f159→ζF,f207→ζG,f312→ζH,f217→ζI,f156→ζJ,f150→ζK,f260→ζL,f307→ζM,func202→ζR,func203→ζS,func294→ζT,func261→ζU,func262→ζV,func263→ζW,func152→η0,func171→η1,func170→η2,func223→η3
open Go.Region renaming ready→ζc
open Go.Result renaming andThen_ok→ξf
open Go.Sem renaming run_bind→ξk,run_pure→ξX
open Go.Value renaming oneCell'→ξ,int→ζo,agg→ζZ,slice→η7
open Go.World renaming setRow→ζY
open Int renaming toNat_natCast→μ,natCast_nonneg→ζ3
open List renaming getElem?_eq_some_iff→ε,getElem?_eq_getElem→η,getElem?_append_left→κ,length_append→ν,length_map→ρ,mem_cons_self→ξ4,take_append_drop→ξ7,getElem?_cons_zero→ξ9,take_append_of_le_length→ξa,getElem?_zipWith→ξc,mem_append_right→ξd,getElem?_append_right→ξg,mem_of_getElem?→ξh,mem_or_eq_of_mem_set→ξi,mem_append→ξm,append_assoc→ξo,zipWith→ξr,all_eq_true→ξu,drop_append_of_le_length→ξv,filter_cons→ξw,length_drop→ξx,length_take→ξy,mem_filter→ξC,toList_toArray→ξD,take_left'→ξE,length_set→ξF,getElem?_drop→ξG,nodup_append→ξJ,size_toArray→ξK,range'→ξL,map_toArray→ξP,take_of_length_le→ξR,mem_cons_of_mem→ζ0,map_cons→ζ2,map_take→ζ4,any_eq_false→ζ6,take_add_one→ζ8,map_nil→ζe,append_nil→ζk,map_append→ζn,length→ζp,drop_drop→ζt,mem_cons→ζw,map_drop→ζx,map_set→ζX
open Nat renaming lt_of_lt_of_le→δ,le_trans→ι,zero_add→ξ0,eq_of_beq_eq_true→ξb,ble_eq_true_of_le→ξe,le_refl→ξn,le_of_ble_eq_true→ξq,beq→ξt,lt_succ_self→ξQ,add_sub_cancel→ζ5,lt_or_ge→ζd,add_zero→ζf,beq_refl→ζP,sub_self→ζQ,blt→η6
open Option renaming bind_some→ο,map_some→τ,getD_some→ξ5,map_none→ξZ
open Option.some renaming injEq→ξI,inj→ζm
open Sum renaming rec→ξs
section
namespace Go.Proofs.YtoggponeookhbaaGreatDoor
open Go.RowKit Go.Dc Go.Vx
noncomputable def NB (p0:List Int) (p1:List ai) (p2 p3:Int):AS SS:=⟨[(0,(vs .eL)),(1,(va 4 0)),(9,(vl p1)),(10,(vi p3))],[(bX 160 [(.cd .i64 16 p0),(.aU 48 p1)]),(bX 35 [(lu p2)]),(bX 161 [(.v (.pointer none))]),(some (.bI 142 [] [(.one (.bp 4 0))])),(bX 158 [(.bp 0 0)])],5,(some ⟨⟨ω,ar 97⟩,[9,10],(iG (a_ ω) 4),(iH (a_ ω) 4),[(3,(va 1 0)),(4,(va 2 0)),(8,(vc 3))],none⟩),false,[],[]⟩
noncomputable def ab' (p0:List Int) (p1:List ai) (p2:Int):AS SS:=NB p0 p1 p2 0
noncomputable def ajw (p0:List Int) (p1:List ai) (p2:Int) (a0:ai):AS SS:=⟨[],[(bX 160 [(.cd .i64 16 p0),(.aU 48 p1)]),(bX 35 [(lu p2)]),(bX 161 [(.ptr 115 a0 0)]),(some (.bI 142 [] [(.one (.bp 4 0))])),(bX 158 [(.bp 0 0)])],5,(some ⟨⟨ω,ar 97⟩,[9,10],(iG (a_ ω) 4),(iH (a_ ω) 4),[(3,(va 1 0)),(4,(va 2 0)),(8,(vc 3))],(some .ret)⟩),false,[],[2]⟩
noncomputable def ajx (p0:List Int) (p1:List ai) (p2:Int) (a0:Bool) (a1:Int):AS SS:= { NB p0 p1 p2 p2 with env:=[(11,(vb a0)),(0,(vs .eL)),(1,(va 4 0)),(9,(vl p1)),(10,(vi a1))] }
noncomputable def Dr (sh:Sh) (p0:List Int) (p1:List ai) (p2 p3:Int) (z0:ai) (a:Unit):T (Unit ⊕ ai ⊕ (Bool×Int)):=
 .bf (z0.aa==p2) (
  .ok (.inr (.inl z0)))<|
 .ok (.inl ())
noncomputable def B2 (sh:Sh) (p0:List Int) (p1:List ai) (p2 p3:Int) (a:Unit):T (ai ⊕ (Bool×Int)):=
 .ok (.inr ((decide (p3<(↑p1.length:Int))),p3))
noncomputable def KO (sh:Sh) (p0:List Int) (p1:List ai) (p2:Int):Option (ai ⊕ (Bool×Int)):=cS sh (Dr sh p0 p1 p2) (B2 sh p0 p1 p2) p1 ()
noncomputable def afV {R:Type} (k:AX->AS SS->Option R) (p0:List Int) (p1:List ai) (p2:Int) (x:ai ⊕ (Bool×Int)):Option R:=(λx=>ξs (λv=>k .ret (ajw p0 p1 p2 v)) (λv=>k (.exit 0) (ajx p0 p1 p2 v.1 v.2)) x) x
noncomputable def Y7:bH SS:=bT 2 (λst=>((dB st 3 142).bind λ_=>lQ st 18 4).bind λ_=>(jy (bg st 0 0)).bind λp0=>(bB 48 (bg st 0 1)).bind λp1=>(bq (bg st 1 0)).bind λp2=>some (p0,p1,p2)) (λp=>ab' p.1 p.2.1 p.2.2) (λp=>KO shut p.1 p.2.1 p.2.2) (λk p=>afV k p.1 p.2.1 p.2.2)
theorem aqc:aG KK γ ⟨ξ1,ar 142⟩ (bQ (a_ ξ1) 2) Y7:=
 aG.c6 (π:=List Int×List ai×Int) (σ:=Unit) (an.all Kl rfl) (ao.nil) rfl 60 (λp i a=>NB p.1 p.2.1 p.2.2 i) (λp=>p.2.1) (λp=>()) (St:=λp=>Dr shut p.1 p.2.1 p.2.2) (F:=λp=>B2 shut p.1 p.2.1 p.2.2) (λp=>rfl)
  (λm p i a k=>by kernel_rfl) (by rintro p (x|x)<;>exact⟨_,_,λ_=>rfl⟩) (λp N C A O w a hr=>Qj hr (j:=0) (n:=1) (t:=48) rfl rfl λv h=>h)
noncomputable def S4:ay SS:= { (CT shut) with T:=bm ((CT shut).T) 142 ⟨⟨ξ1,ar 142⟩,[Y7]⟩ }
theorem adU:aJ S4 γ:=(aJ.b8 (an.all Kl rfl) ξj rfl bn λc hc=>by cases hc;exact ao.cons (ao.nil) (by kernel_rfl) aqc)
noncomputable def DY (sh:Sh) (p:bS) (pid:Int):T (ai×Bool):=
 .bd (rG sh p) λy0=>
  .bf (y0 !=0) (
   .ok (⟨0,0,false,0⟩,false))<|
  .gd (ab' p.aQ p.ae pid)<|
   .bd (KO sh p.aQ p.ae pid) λx4=> .cs x4 (λy1=>
    .ok (y1,true)) λy1=>
    .ok (⟨0,0,false,0⟩,false)
noncomputable def MN (sh:Sh) (p:bS) (pid:Int):Option (ai×Bool):=sh.s _ (DY sh p pid).val
theorem asw:R2 KK S4 108 50 35 [115,4] (DY shut) (dE KK 115 4):=by intro R p pid k;kernel_rfl
noncomputable def ahS (sh:Sh):bO SS:=eH KK 108 50 35 (MN sh) (dE KK 115 4)
noncomputable def JI (sh:Sh):ay SS:=cq (ahS sh) (CT sh)
theorem Uh:an (JI shut) γ:=eS Kl adU rfl rfl asw
noncomputable def EP (sh:Sh) (p:bS) (pid:Int):T (Bool):=
 .bd (MN sh p pid) λy0=>
  .bf (y0.2) (
   .ok (!y0.1.bK))<|
  .ok false
noncomputable def ze (sh:Sh) (p:bS) (pid:Int):Option (Bool):=sh.s _ (EP sh p pid).val
theorem atq:R2 KK (JI shut) 73 50 35 [4] (EP shut) (b5 KK 4):=by intro R p pid k;kernel_rfl
noncomputable def aiP (sh:Sh):bO SS:=eH KK 73 50 35 (ze sh) (b5 KK 4)
noncomputable def n_ (sh:Sh):ay SS:=cq (aiP sh) (JI sh)
theorem ye:an (n_ shut) γ:=eS Uh (an.all Uh rfl) rfl rfl atq
noncomputable def NC (p0:List Int) (p1:List ai) (p2 p3:Int):AS SS:=⟨[(0,(vs .eL)),(1,(va 5 0)),(9,(vl p1)),(10,(vi p3))],[(bX 160 [(.cd .i64 16 p0),(.own 1)]),(rX 115 p1),(bX 35 [(lu p2)]),(bX 161 [(.v (.pointer none))]),(some (.bI 142 [] [(.one (.bp 5 0))])),(bX 158 [(.bp 0 0)])],6,(some ⟨⟨ω,ar 97⟩,[9,10],(iG (a_ ω) 4),(iH (a_ ω) 4),[(3,(va 2 0)),(4,(va 3 0)),(8,(vc 4))],none⟩),false,[],[]⟩
noncomputable def aca (p0:List Int) (p1:List ai) (p2:Int):AS SS:=NC p0 p1 p2 0
noncomputable def ajy (p0:List Int) (p1:List ai) (p2:Int) (a0:Nat):AS SS:=⟨[],[(bX 160 [(.cd .i64 16 p0),(.own 1)]),(rX 115 p1),(bX 35 [(lu p2)]),(bX 161 [(.fl 115 1 a0 0)]),(some (.bI 142 [] [(.one (.bp 5 0))])),(bX 158 [(.bp 0 0)])],6,(some ⟨⟨ω,ar 97⟩,[9,10],(iG (a_ ω) 4),(iH (a_ ω) 4),[(3,(va 2 0)),(4,(va 3 0)),(8,(vc 4))],(some .ret)⟩),false,[],[3]⟩
noncomputable def ajz (p0:List Int) (p1:List ai) (p2:Int) (a0:Bool) (a1:Int):AS SS:= { NC p0 p1 p2 p2 with env:=[(11,(vb a0)),(0,(vs .eL)),(1,(va 5 0)),(9,(vl p1)),(10,(vi a1))] }
noncomputable def UW (sh:Sh) (p0:List Int) (p1:List ai) (p2 p3:Int) (z0:ai) (a:Unit):T (Unit ⊕ Nat ⊕ (Bool×Int)):=
 .bd (p1[p3.toNat]?) λz1=>
  .bf (z1.aa==p2) (
   .ok (.inr (.inl p3.toNat)))<|
  .ok (.inl ())
noncomputable def Jh (sh:Sh) (p0:List Int) (p1:List ai) (p2 p3:Int) (a:Unit):T (Nat ⊕ (Bool×Int)):=
 .ok (.inr ((decide (p3<(↑p1.length:Int))),p3))
noncomputable def KP (sh:Sh) (p0:List Int) (p1:List ai) (p2:Int):Option (Nat ⊕ (Bool×Int)):=cS sh (UW sh p0 p1 p2) (Jh sh p0 p1 p2) p1 ()
noncomputable def afW {R:Type} (k:AX->AS SS->Option R) (p0:List Int) (p1:List ai) (p2:Int) (x:Nat ⊕ (Bool×Int)):Option R:=(λx=>ξs (λv=>k .ret (ajy p0 p1 p2 v)) (λv=>k (.exit 0) (ajz p0 p1 p2 v.1 v.2)) x) x
noncomputable def AU:bH SS:=bT 2 (λst=>((dB st 4 142).bind λ_=>lQ st 18 4).bind λ_=>(jy (bg st 0 0)).bind λp0=>(c9 st 1 115).bind λp1=>(bq (bg st 2 0)).bind λp2=>some (p0,p1,p2)) (λp=>aca p.1 p.2.1 p.2.2) (λp=>KP shut p.1 p.2.1 p.2.2) (λk p=>afW k p.1 p.2.1 p.2.2)
theorem Ra:aG KK γ ⟨ξ1,ar 142⟩ (bQ (a_ ξ1) 2) AU:=
 aG.c6 (π:=List Int×List ai×Int) (σ:=Unit) (an.all ye rfl) (ao.nil) rfl 60 (λp i a=>NC p.1 p.2.1 p.2.2 i) (λp=>p.2.1) (λp=>()) (St:=λp=>UW shut p.1 p.2.1 p.2.2) (F:=λp=>Jh shut p.1 p.2.1 p.2.2) (λp=>rfl)
  (λm p i a k=>by kernel_rfl) (by rintro p (x|x)<;>exact⟨_,_,λ_=>rfl⟩) (λp N C A O w a hr=>uz (j:=1) hr rfl)
noncomputable def Gs (p0:List ai) (p1 p2:Int):AS SS:=⟨[(0,(vo 0)),(1,(vc 1)),(7,(vl p0)),(8,(vi p2))],[(rX 115 p0),(some (.bI 256 [] [(.one (.bp 2 0))])),(bX 3 [(li p1)])],3,none,false,[],[]⟩
noncomputable def aco (p0:List ai) (p1:Int):AS SS:=Gs p0 p1 0
noncomputable def aki (p0:List ai) (p1 a0:Int):AS SS:= { Gs p0 p1 p1 with env:=[(4,(vi a0))] }
noncomputable def akj (p0:List ai) (p1:Int) (a0:Bool) (a1:Int):AS SS:= { Gs p0 p1 p1 with env:=[(9,(vb a0)),(0,(vo 0)),(1,(vc 1)),(7,(vl p0)),(8,(vi a1))] }
noncomputable def DE (sh:Sh) (p0:List ai) (p1 p2:Int) (z0:ai) (a:Unit):T (Unit ⊕ Int ⊕ (Bool×Int)):=
 .bd (p0[p2.toNat]?) λz1=>
  .bd (tB sh z1.aa) λy2=>
   .bf (y2==β.wrap (p1+1)) (
    .ok (.inr (.inl p2)))<|
   .ok (.inl ())
noncomputable def Cd (sh:Sh) (p0:List ai) (p1 p2:Int) (a:Unit):T (Int ⊕ (Bool×Int)):=
 .ok (.inr ((decide (p2<(↑p0.length:Int))),p2))
noncomputable def Lb (sh:Sh) (p0:List ai) (p1:Int):Option (Int ⊕ (Bool×Int)):=cS sh (DE sh p0 p1) (Cd sh p0 p1) p0 ()
noncomputable def agp {R:Type} (k:AX->AS SS->Option R) (p0:List ai) (p1:Int) (x:Int ⊕ (Bool×Int)):Option R:=(λx=>ξs (λv=>k .ret (aki p0 p1 v)) (λv=>k (.exit 0) (akj p0 p1 v.1 v.2)) x) x
noncomputable def P_:bH SS:=bT 3 (λst=>(dB st 1 256).bind λ_=>(c9 st 0 115).bind λp0=>(bq (bg st 2 0)).bind λp1=>some (p0,p1)) (λp=>aco p.1 p.2) (λp=>Lb shut p.1 p.2) (λk p=>agp k p.1 p.2)
noncomputable def ad6:ay SS:= { (n_ shut) with T:=bm ((n_ shut).T) 142 ⟨⟨ξ1,ar 142⟩,[AU]⟩ }
theorem Tc:aJ ad6 γ:=(aJ.b8 (an.all ye rfl) ξj rfl bn λc hc=>by cases hc;exact ao.cons (ao.nil) (by kernel_rfl) Ra)
theorem aba:aG KK γ ⟨ξS,ar 257⟩ (bQ (a_ ξS) 3) P_:=
 aG.c6 (π:=List ai×Int) (σ:=Unit) Tc (ao.nil) rfl 60 (λp i a=>Gs p.1 p.2 i) (λp=>p.1) (λp=>()) (St:=λp=>DE shut p.1 p.2) (F:=λp=>Cd shut p.1 p.2) (λp=>rfl)
  (λm p i a k=>by kernel_rfl) (by rintro p (x|x)<;>exact⟨_,_,λ_=>rfl⟩) (λp N C A O w a hr=>uz (j:=0) hr rfl)
noncomputable def Gk (p0:List Int) (p1:List ai) (p2:Int):AS SS:=⟨[(0,(va 0 0)),(3,(va 2 0))],[(bX 160 [(.cd .i64 16 p0),(.own 1)]),(rX 115 p1),(bX 3 [(li p2)])],2,none,false,[],[]⟩
noncomputable def aj2 (p0:List Int) (p1:List ai) (a0:Bool) (a1:Int):AS SS:=xe [(6,(vb a0)),(5,(vi a1))] (Gk p0 p1 a1)
noncomputable def aj3 (p0:List Int) (p1:List ai) (a0:Bool) (a1:Int) (a2:Nat) (a3:Int) (a4 a5 a6:Bool):AS SS:=⟨[(26,(vb a0)),(25,(vb a0)),(17,(vb true)),(24,(vi a1)),(17,(vb true)),(23,(vs (.jg 0 0 16 a2))),(17,(vb true)),(22,(va 0 0)),(17,(vb true)),(21,(va 0 0)),(17,(vb true)),(20,(va 0 0)),(17,(vb true)),(19,(vi a3)),(17,(vb true)),(18,(va 0 0)),(17,(vb true)),(17,(vb a4)),(16,(vb a4)),(15,(vb a5)),(4,(vb a5)),(14,(vb a5)),(13,(vc 3)),(12,(vo 1)),(11,(va 0 16)),(10,(va 0 0)),(9,(va 0 0)),(8,(va 0 0)),(7,(.bD [])),(6,(vb a6)),(5,(vi a3)),(0,(va 0 0)),(3,(va 2 0))],[(bX 160 [(.cd .i64 16 p0),(.own 1)]),(rX 115 p1),(bX 3 [(li a3)]),(some (.bI 256 [] [(.one (.bp 2 0))]))],2,none,false,[],[]⟩
noncomputable def vF (sh:Sh) (p0:List Int) (p1:List ai) (a:Int):T (Int ⊕ (Bool×Int) ⊕ (Bool×Int×Nat×Int×Bool×Bool×Bool)):=
 .bf (!decide (a<16)) (
  .ok (.inr (.inl ((decide (a<16)),a))))<|
 .gd (aco p1 a)<|
  .bd (Lb sh p1 a) λx3=> .cs x3 (λy0=>
   .bf (!decide (y0>=0)) (
    .bd (fq a 16) λz1=>
     .bf (decide (aI p0 z1<=65535)) (
      .ok (.inr (.inr ((decide (aI p0 z1<=65535)),(aI p0 z1),z1,a,(!decide (y0>=0)),(decide (y0>=0)),(decide (a<16))))))<|
     .ok (.inl (β.wrap (a+1))))<|
   .ok (.inl (β.wrap (a+1)))) λy0=>
   .bd (fq a 16) λz1=>
    .bf (decide (aI p0 z1<=65535)) (
     .ok (.inr (.inr ((decide (aI p0 z1<=65535)),(aI p0 z1),z1,a,true,false,(decide (a<16))))))<|
    .ok (.inl (β.wrap (a+1)))
noncomputable def K0 (sh:Sh) (p0:List Int) (p1:List ai) (p2:Int):Option ((Bool×Int) ⊕ (Bool×Int×Nat×Int×Bool×Bool×Bool)):=cA sh (vF sh p0 p1) 1000000 p2
noncomputable def aga {R:Type} (k:AX->AS SS->Option R) (p0:List Int) (p1:List ai) (x:(Bool×Int) ⊕ (Bool×Int×Nat×Int×Bool×Bool×Bool)):Option R:=(λx=>ξs (λv=>k (.bU (.iface 27 (.int .i64 322))) (aj2 p0 p1 v.1 v.2)) (λv=>k (.exit 0) (aj3 p0 p1 v.1 v.2.1 v.2.2.1 v.2.2.2.1 v.2.2.2.2.1 v.2.2.2.2.2.1 v.2.2.2.2.2.2)) x) x
noncomputable def P4:bH SS:=bT 3 (λst=>(jy (bg st 0 0)).bind λp0=>(c9 st 1 115).bind λp1=>(bq (bg st 2 0)).bind λp2=>some (p0,p1,p2)) (λp=>Gk p.1 p.2.1 p.2.2) (λp=>K0 shut p.1 p.2.1 p.2.2) (λk p=>aga k p.1 p.2.1)
noncomputable def ad7:ay SS:= { (n_ shut) with T:=bm (bm ((n_ shut).T) 142 ⟨⟨ξ1,ar 142⟩,[AU]⟩) 257 ⟨⟨ξS,ar 257⟩,[P_]⟩ }
theorem ad8:aJ ad7 γ:=(aJ.b8 Tc ζz rfl bn λc hc=>by cases hc;exact ao.cons (ao.nil) (by kernel_rfl) aba)
theorem aa_:aG KK γ ⟨ζh,ar 193⟩ (bQ (a_ ζh) 3) P4:=
 aG.cA (π:=List Int×List ai×Int) (σ:=Int) ad8 (ao.nil) rfl 60 (λp a=>Gk p.1 p.2.1 a) (λp=>p.2.2) (St:=λp=>vF shut p.1 p.2.1) (λp=>1000000) (λp=>rfl)
  (λm p a k=>by kernel_rfl)
noncomputable def Gt (p0:List ai) (p1 p2 p3:Int):AS SS:=⟨[(0,(vo 0)),(1,(vc 1)),(7,(vl p0)),(8,(vi p3))],[(rX 115 p0),(some (.bI 258 [] [(.one (.bp 2 0))])),(bX 115 [(lu p1),(lu p2),(.v (.bool false)),(lu 0)])],3,none,false,[],[]⟩
noncomputable def acp (p0:List ai) (p1 p2:Int):AS SS:=Gt p0 p1 p2 0
noncomputable def akk (p0:List ai) (p1 p2 a0:Int):AS SS:= { Gt p0 p1 p2 p1 with env:=[(4,(vi a0))] }
noncomputable def akl (p0:List ai) (p1 p2:Int) (a0:Bool) (a1:Int):AS SS:= { Gt p0 p1 p2 p1 with env:=[(9,(vb a0)),(0,(vo 0)),(1,(vc 1)),(7,(vl p0)),(8,(vi a1))] }
noncomputable def DF (sh:Sh) (p0:List ai) (p1 p2 p3:Int) (z0:ai) (a:Unit):T (Unit ⊕ Int ⊕ (Bool×Int)):=
 .bd (p0[p3.toNat]?) λz1=>
  .bd (tB sh z1.aa) λy2=>
   .bd (tB sh p1) λy3=>
    .bf (decide (y2>y3)) (
     .ok (.inr (.inl p3)))<|
    .ok (.inl ())
noncomputable def Ce (sh:Sh) (p0:List ai) (p1 p2 p3:Int) (a:Unit):T (Int ⊕ (Bool×Int)):=
 .ok (.inr ((decide (p3<(↑p0.length:Int))),p3))
noncomputable def Lc (sh:Sh) (p0:List ai) (p1 p2:Int):Option (Int ⊕ (Bool×Int)):=cS sh (DF sh p0 p1 p2) (Ce sh p0 p1 p2) p0 ()
noncomputable def agq {R:Type} (k:AX->AS SS->Option R) (p0:List ai) (p1 p2:Int) (x:Int ⊕ (Bool×Int)):Option R:=(λx=>ξs (λv=>k .ret (akk p0 p1 p2 v)) (λv=>k (.exit 0) (akl p0 p1 p2 v.1 v.2)) x) x
noncomputable def Zq:bH SS:=bT 3 (λst=>(dB st 1 258).bind λ_=>(c9 st 0 115).bind λp0=>(bq (bg st 2 0)).bind λp1=>(bq (bg st 2 1)).bind λp2=>some (p0,p1,p2)) (λp=>acp p.1 p.2.1 p.2.2) (λp=>Lc shut p.1 p.2.1 p.2.2) (λk p=>agq k p.1 p.2.1 p.2.2)
noncomputable def ad9:ay SS:= { (n_ shut) with T:=bm (bm ((n_ shut).T) 142 ⟨⟨ξ1,ar 142⟩,[AU]⟩) 193 ⟨⟨ζh,ar 193⟩,[P4]⟩ }
theorem ad_:aJ ad9 γ:=(aJ.b8 (aJ.b8 (an.all ye rfl) ξj rfl bn λc hc=>by cases hc;exact ao.cons (ao.nil) (by kernel_rfl) Ra) ζA rfl bn λc hc=>by cases hc;exact ao.cons (ao.nil) (by kernel_rfl) aa_)
theorem aqB:aG KK γ ⟨ξS,ar 257⟩ (bQ (a_ ξS) 3) Zq:=
 aG.c6 (π:=List ai×Int×Int) (σ:=Unit) ad_ (ao.nil) rfl 60 (λp i a=>Gt p.1 p.2.1 p.2.2 i) (λp=>p.1) (λp=>()) (St:=λp=>DF shut p.1 p.2.1 p.2.2) (F:=λp=>Ce shut p.1 p.2.1 p.2.2) (λp=>rfl)
  (λm p i a k=>by kernel_rfl) (by rintro p (x|x)<;>exact⟨_,_,λ_=>rfl⟩) (λp N C A O w a hr=>uz (j:=0) hr rfl)
noncomputable def Td:ay SS:= { (n_ shut) with T:=bm (bm (bm ((n_ shut).T) 142 ⟨⟨ξ1,ar 142⟩,[AU]⟩) 257 ⟨⟨ξS,ar 257⟩,[td (λst=>dB st 1 256) P_ (Zq)]⟩) 193 ⟨⟨ζh,ar 193⟩,[P4]⟩ }
theorem aea:aJ Td γ:=(aJ.b8 (aJ.b8 (aJ.b8 (an.all ye rfl) ξj rfl bn λc hc=>by cases hc;exact ao.cons (ao.nil) (by kernel_rfl) Ra) ζz rfl bn λc hc=>by cases hc;exact ao.cons (ao.nil) (by kernel_rfl) (aG.alt aba aqB)) ζA rfl bn λc hc=>by cases hc;exact ao.cons (ao.nil) (by kernel_rfl) aa_)
noncomputable def D4 (sh:Sh) (p:bS) (parent:Int):T (bS×Int×Int):=
 .bd (rG sh p) λy0=>
  .bf (!y0==0) (
   .ok (⟨[0,0,0,0,0,0,0,0,0,0,0,0,0,0,0,0],[]⟩,0,320))<|
  .bd (app 32 [] p.ae) λz1=>
   .gd (aca p.aQ z1 parent)<|
    .bd (KP sh p.aQ z1 parent) λx5=> .cs x5 (λy2=>
     .bd (z1[y2]?) λz3=>
      .bf (!!z3.bK) (
       .ok (⟨[0,0,0,0,0,0,0,0,0,0,0,0,0,0,0,0],[]⟩,0,321))<|
      .gd (Gk p.aQ z1 0)<|
       .bd (K0 sh p.aQ z1 0) λx8=> .cs x8 (λy4=>
        .ok (⟨[0,0,0,0,0,0,0,0,0,0,0,0,0,0,0,0],[]⟩,0,322)) λy4=>
        .bd (fq y4.2.2.2.1 16) λz5=>
         .bd (fq y4.2.2.2.1 16) λz6=>
          .bd (fq y4.2.2.2.1 16) λz7=>
           .bf (true&&p.aQ.length.beq 16) (
            .gd (acp z1 (θ.wrap (β.wrap (β.wrap (β.wrap (aI p.aQ z5*64)+y4.2.2.2.1)+1))) parent)<|
             .bd (Lc sh z1 (θ.wrap (β.wrap (β.wrap (β.wrap (aI p.aQ z5*64)+y4.2.2.2.1)+1))) parent) λx14=> .cs x14 (λy8=>
              .bf (decide (y8<0)) (
               .bd (uv z1 (↑z1.length:Int) [ai.mk (θ.wrap (β.wrap (β.wrap (β.wrap (aI p.aQ z5*64)+y4.2.2.2.1)+1))) parent false 0]) λz9=>
                .ok (⟨(p.aQ.set z7 (β.wrap (aI p.aQ z6+1))),z9⟩,(θ.wrap (β.wrap (β.wrap (β.wrap (aI p.aQ z5*64)+y4.2.2.2.1)+1))),0))<|
              .bd (uv z1 y8 [ai.mk (θ.wrap (β.wrap (β.wrap (β.wrap (aI p.aQ z5*64)+y4.2.2.2.1)+1))) parent false 0]) λz9=>
               .ok (⟨(p.aQ.set z7 (β.wrap (aI p.aQ z6+1))),z9⟩,(θ.wrap (β.wrap (β.wrap (β.wrap (aI p.aQ z5*64)+y4.2.2.2.1)+1))),0)) λy8=>
              .bd (uv z1 (↑z1.length:Int) [ai.mk (θ.wrap (β.wrap (β.wrap (β.wrap (aI p.aQ z5*64)+y4.2.2.2.1)+1))) parent false 0]) λz9=>
               .ok (⟨(p.aQ.set z7 (β.wrap (aI p.aQ z6+1))),z9⟩,(θ.wrap (β.wrap (β.wrap (β.wrap (aI p.aQ z5*64)+y4.2.2.2.1)+1))),0))<|
           .no) λy2=>
     .ok (⟨[0,0,0,0,0,0,0,0,0,0,0,0,0,0,0,0],[]⟩,0,321)
noncomputable def Fx (sh:Sh) (p:bS) (parent:Int):Option (bS×Int×Int):=sh.s _ (D4 sh p parent).val
theorem asB:R2 KK Td 147 50 35 [50,35,27] (D4 shut) (m_ KK 50 35 27):=by intro R p parent k;kernel_rfl
noncomputable def ahY (sh:Sh):bO SS:=eH KK 147 50 35 (Fx sh) (m_ KK 50 35 27)
noncomputable def re (sh:Sh):ay SS:=cq (ahY sh) (n_ sh)
theorem x_:an (re shut) γ:=eS ye aea rfl rfl asB
noncomputable def NF (p0:List Int) (p1:List ai) (p2 p3:Int):AS SS:=⟨[(0,(vs .eL)),(1,(va 5 0)),(9,(vl p1)),(10,(vi p3))],[(bX 160 [(.cd .i64 16 p0),(.own 1)]),(rX 115 p1),(bX 35 [(lu p2)]),(bX 161 [(.v (.pointer none))]),(some (.bI 142 [] [(.one (.bp 5 0))])),(bX 158 [(.bp 0 0)])],6,(some ⟨⟨ω,ar 97⟩,[9,10],(iG (a_ ω) 4),(iH (a_ ω) 4),[(3,(va 2 0)),(4,(va 3 0)),(8,(vc 4))],none⟩),false,[],[]⟩
noncomputable def acb (p0:List Int) (p1:List ai) (p2:Int):AS SS:=NF p0 p1 p2 0
noncomputable def ajA (p0:List Int) (p1:List ai) (p2:Int) (a0:Nat):AS SS:=⟨[],[(bX 160 [(.cd .i64 16 p0),(.own 1)]),(rX 115 p1),(bX 35 [(lu p2)]),(bX 161 [(.fl 115 1 a0 0)]),(some (.bI 142 [] [(.one (.bp 5 0))])),(bX 158 [(.bp 0 0)])],6,(some ⟨⟨ω,ar 97⟩,[9,10],(iG (a_ ω) 4),(iH (a_ ω) 4),[(3,(va 2 0)),(4,(va 3 0)),(8,(vc 4))],(some .ret)⟩),false,[],[3]⟩
noncomputable def ajB (p0:List Int) (p1:List ai) (p2:Int) (a0:Bool) (a1:Int):AS SS:= { NF p0 p1 p2 p2 with env:=[(11,(vb a0)),(0,(vs .eL)),(1,(va 5 0)),(9,(vl p1)),(10,(vi a1))] }
noncomputable def UX (sh:Sh) (p0:List Int) (p1:List ai) (p2 p3:Int) (z0:ai) (a:Unit):T (Unit ⊕ Nat ⊕ (Bool×Int)):=
 .bd (p1[p3.toNat]?) λz1=>
  .bf (z1.aa==p2) (
   .ok (.inr (.inl p3.toNat)))<|
  .ok (.inl ())
noncomputable def Ji (sh:Sh) (p0:List Int) (p1:List ai) (p2 p3:Int) (a:Unit):T (Nat ⊕ (Bool×Int)):=
 .ok (.inr ((decide (p3<(↑p1.length:Int))),p3))
noncomputable def KQ (sh:Sh) (p0:List Int) (p1:List ai) (p2:Int):Option (Nat ⊕ (Bool×Int)):=cS sh (UX sh p0 p1 p2) (Ji sh p0 p1 p2) p1 ()
noncomputable def afX {R:Type} (k:AX->AS SS->Option R) (p0:List Int) (p1:List ai) (p2:Int) (x:Nat ⊕ (Bool×Int)):Option R:=(λx=>ξs (λv=>k .ret (ajA p0 p1 p2 v)) (λv=>k (.exit 0) (ajB p0 p1 p2 v.1 v.2)) x) x
noncomputable def P0:bH SS:=bT 2 (λst=>((dB st 4 142).bind λ_=>lQ st 18 4).bind λ_=>(jy (bg st 0 0)).bind λp0=>(c9 st 1 115).bind λp1=>(bq (bg st 2 0)).bind λp2=>some (p0,p1,p2)) (λp=>acb p.1 p.2.1 p.2.2) (λp=>KQ shut p.1 p.2.1 p.2.2) (λk p=>afX k p.1 p.2.1 p.2.2)
theorem aa7:aG KK γ ⟨ξ1,ar 142⟩ (bQ (a_ ξ1) 2) P0:=
 aG.c6 (π:=List Int×List ai×Int) (σ:=Unit) (an.all x_ rfl) (ao.nil) rfl 60 (λp i a=>NF p.1 p.2.1 p.2.2 i) (λp=>p.2.1) (λp=>()) (St:=λp=>UX shut p.1 p.2.1 p.2.2) (F:=λp=>Ji shut p.1 p.2.1 p.2.2) (λp=>rfl)
  (λm p i a k=>by kernel_rfl) (by rintro p (x|x)<;>exact⟨_,_,λ_=>rfl⟩) (λp N C A O w a hr=>uz (j:=1) hr rfl)
noncomputable def Gl (p0:List ai) (p1:Int) (p2:Bool) (p3 p4:Int) (p5:List ai):AS SS:=⟨[(1,(vc 1)),(5,(vo 4)),(8,(vo 0)),(9,(vi p3)),(10,(vi p4))],[(rX 115 p0),(some (.bI 198 [] [(.one (.bp 2 0)),(.one (.bp 3 0))])),(bX 35 [(lu p1)]),(bX 4 [(.v (.bool p2))]),(rX 115 p5)],4,none,false,[],[]⟩
noncomputable def aj4 (p0:List ai) (p1:Int) (p2:Bool) (p3:Int) (a0:Bool) (a1:Int) (a2:List ai):AS SS:= { Gl p0 p1 p2 p3 p1 a2 with env:=[(11,(vb a0)),(1,(vc 1)),(5,(vo 4)),(8,(vo 0)),(9,(vi p3)),(10,(vi a1))] }
noncomputable def yo (sh:Sh) (p0:List ai) (p1:Int) (p2:Bool) (p3:Int) (a:Int×List ai):T ((Int×List ai) ⊕ (Bool×Int×List ai)):=
 .bf (decide (a.1<p3)) (
  .bd (idx p0 a.1) λz0=>
   .bd (p0[a.1.toNat]?) λz1=>
    .bf (z1.aa !=p1) (
     .bf (z1.ba !=p1) (
      .bd (app 32 a.2 [z1]) λz2=>
       .ok (.inl ((β.wrap (a.1+1)),z2)))<|
     .bf (!z1.bK) (
      .bd (app 32 a.2 [z1]) λz2=>
       .ok (.inl ((β.wrap (a.1+1)),z2)))<|
     .ok (.inl ((β.wrap (a.1+1)),a.2)))<|
    .bf (!p2) (
     .bf (z1.ba !=p1) (
      .bd (app 32 a.2 [z1]) λz2=>
       .ok (.inl ((β.wrap (a.1+1)),z2)))<|
     .bf (!z1.bK) (
      .bd (app 32 a.2 [z1]) λz2=>
       .ok (.inl ((β.wrap (a.1+1)),z2)))<|
     .ok (.inl ((β.wrap (a.1+1)),a.2)))<|
    .ok (.inl ((β.wrap (a.1+1)),a.2)))<|
 .ok (.inr ((decide (a.1<p3)),a.1,a.2))
noncomputable def K1 (sh:Sh) (p0:List ai) (p1:Int) (p2:Bool) (p3 p4:Int) (p5:List ai):Option ((Bool×Int×List ai)):=cA sh (yo sh p0 p1 p2 p3) 1000000 (p4,p5)
noncomputable def agb {R:Type} (k:AX->AS SS->Option R) (p0:List ai) (p1:Int) (p2:Bool) (p3:Int) (x:(Bool×Int×List ai)):Option R:=(λv=>k (.exit 0) (aj4 p0 p1 p2 p3 v.1 v.2.1 v.2.2)) x
noncomputable def P5:bH SS:=bT 4 (λst=>(dB st 1 198).bind λ_=>(c9 st 0 115).bind λp0=>(bq (bg st 2 0)).bind λp1=>(tA (bg st 3 0)).bind λp2=>(bq (aZ st 9 0)).bind λp3=>(bq (aZ st 10 0)).bind λp4=>(c9 st 4 115).bind λp5=>some (p0,p1,p2,p3,p4,p5)) (λp=>Gl p.1 p.2.1 p.2.2.1 p.2.2.2.1 p.2.2.2.2.1 p.2.2.2.2.2) (λp=>K1 shut p.1 p.2.1 p.2.2.1 p.2.2.2.1 p.2.2.2.2.1 p.2.2.2.2.2) (λk p=>agb k p.1 p.2.1 p.2.2.1 p.2.2.2.1)
noncomputable def aeb:ay SS:= { (re shut) with T:=bm ((re shut).T) 142 ⟨⟨ξ1,ar 142⟩,[P0]⟩ }
theorem aec:aJ aeb γ:=(aJ.b8 (an.all x_ rfl) ξj rfl bn λc hc=>by cases hc;exact ao.cons (ao.nil) (by kernel_rfl) aa7)
theorem aa':aG KK γ ⟨ξH,ar 197⟩ (bQ (a_ ξH) 4) P5:=
 aG.cA (π:=List ai×Int×Bool×Int×Int×List ai) (σ:=Int×List ai) aec (ao.nil) rfl 60 (λp a=>Gl p.1 p.2.1 p.2.2.1 p.2.2.2.1 a.1 a.2) (λp=>(p.2.2.2.2.1,p.2.2.2.2.2)) (St:=λp=>yo shut p.1 p.2.1 p.2.2.1 p.2.2.2.1) (λp=>1000000) (λp=>rfl)
  (λm p a k=>by kernel_rfl)
noncomputable def Gd (p0:List Int) (p1:List ai) (p2 p3:Int) (p4:List ai) (p5:Int) (p6:List ai):AS SS:=⟨[(0,(vs .eL)),(1,(va 6 0)),(9,(vl p4)),(10,(vi p5))],[(bX 160 [(.cd .i64 16 p0),(.own 4)]),(rX 115 p1),(bX 35 [(lu p2)]),(bX 35 [(lu p3)]),(rX 115 p6),(some (.bI 142 [] [(.one (.bp 6 0))])),(bX 158 [(.bp 0 0)])],7,(some ⟨⟨ζB,ar 195⟩,[41,42],(iG (a_ ζB) 8),(iH (a_ ζB) 8),[(1,(va 2 0)),(40,(vc 5))],none⟩),false,[],[4]⟩
noncomputable def ajC (p0:List Int) (p1:List ai) (p2 p3:Int) (p4:List ai) (a0:Bool) (a1:Int) (a2:List ai):AS SS:= { Gd p0 p1 p2 p3 p4 p2 a2 with env:=[(11,(vb a0)),(0,(vs .eL)),(1,(va 6 0)),(9,(vl p4)),(10,(vi a1))] }
noncomputable def yk (sh:Sh) (p0:List Int) (p1:List ai) (p2 p3:Int) (p4:List ai) (a:Int×List ai):T ((Int×List ai) ⊕ (Bool×Int×List ai)):=
 .bf (decide (a.1<(↑p4.length:Int))) (
  .bd (idx a.2 a.1) λz0=>
   .bd (a.2[a.1.toNat]?) λz1=>
    .bf (z1.ba==p2) (
     .bd (a.2[a.1.toNat]?) λz2=>
      .ok (.inl ((β.wrap (a.1+1)),(a.2.set a.1.toNat (ai.mk z2.aa 0 z2.bK z2.da)))))<|
    .ok (.inl ((β.wrap (a.1+1)),a.2)))<|
 .ok (.inr ((decide (a.1<(↑p4.length:Int))),a.1,a.2))
noncomputable def KR (sh:Sh) (p0:List Int) (p1:List ai) (p2 p3:Int) (p4:List ai) (p5:Int) (p6:List ai):Option ((Bool×Int×List ai)):=cA sh (yk sh p0 p1 p2 p3 p4) 1000000 (p5,p6)
noncomputable def afY {R:Type} (k:AX->AS SS->Option R) (p0:List Int) (p1:List ai) (p2 p3:Int) (p4:List ai) (x:(Bool×Int×List ai)):Option R:=(λv=>k (.exit 0) (ajC p0 p1 p2 p3 p4 v.1 v.2.1 v.2.2)) x
noncomputable def Y8:bH SS:=oQ (λst=>gc (ar 142 2) (me [4] (st)))<|bT 2 (λst=>((dB st 5 142).bind λ_=>lQ st 52 8).bind λ_=>(jy (bg st 0 0)).bind λp0=>(c9 st 1 115).bind λp1=>(bq (bg st 2 0)).bind λp2=>(bq (bg st 3 0)).bind λp3=>(c9 st 4 115).bind λp4=>(bq (aZ st 10 0)).bind λp5=>(c9 st 4 115).bind λp6=>some (p0,p1,p2,p3,p4,p5,p6)) (λp=>Gd p.1 p.2.1 p.2.2.1 p.2.2.2.1 p.2.2.2.2.1 p.2.2.2.2.2.1 p.2.2.2.2.2.2) (λp=>KR shut p.1 p.2.1 p.2.2.1 p.2.2.2.1 p.2.2.2.2.1 p.2.2.2.2.2.1 p.2.2.2.2.2.2) (λk p=>afY k p.1 p.2.1 p.2.2.1 p.2.2.2.1 p.2.2.2.2.1)
noncomputable def aed:ay SS:= { (re shut) with T:=bm ((re shut).T) 197 ⟨⟨ξH,ar 197⟩,[P5]⟩ }
theorem aee:aJ aed γ:=(aJ.b8 (an.all x_ rfl) ζ9 rfl bn λc hc=>by cases hc;exact ao.cons (ao.nil) (by kernel_rfl) aa')
theorem aqd:aG KK γ ⟨ξ1,ar 142⟩ (bQ (a_ ξ1) 2) Y8:=aG.pre (dA.comp (dA.gc (ar 142 2)) (dA.me [4]))<|
 aG.cA (π:=List Int×List ai×Int×Int×List ai×Int×List ai) (σ:=Int×List ai) aee (ao.nil) rfl 60 (λp a=>Gd p.1 p.2.1 p.2.2.1 p.2.2.2.1 p.2.2.2.2.1 a.1 a.2) (λp=>(p.2.2.2.2.2.1,p.2.2.2.2.2.2)) (St:=λp=>yk shut p.1 p.2.1 p.2.2.1 p.2.2.2.1 p.2.2.2.2.1) (λp=>1000000) (λp=>rfl)
  (λm p a k=>by kernel_rfl)
noncomputable def Te:ay SS:= { (re shut) with T:=bm (bm ((re shut).T) 142 ⟨⟨ξ1,ar 142⟩,[td (λst=>(dB st 4 142).bind λ_=>lQ st 18 4) P0 (Y8)]⟩) 197 ⟨⟨ξH,ar 197⟩,[P5]⟩ }
theorem aef:aJ Te γ:=(aJ.b8 (aJ.b8 (an.all x_ rfl) ξj rfl bn λc hc=>by cases hc;exact ao.cons (ao.nil) (by kernel_rfl) (aG.alt aa7 aqd)) ζ9 rfl bn λc hc=>by cases hc;exact ao.cons (ao.nil) (by kernel_rfl) aa')
noncomputable def D5 (sh:Sh) (p:bS) (pid code:Int):T (bS×Int):=
 .bd (rG sh p) λy0=>
  .bf (!y0==0) (
   .ok (⟨[0,0,0,0,0,0,0,0,0,0,0,0,0,0,0,0],[]⟩,320))<|
  .bd (app 32 [] p.ae) λz1=>
   .gd (acb p.aQ z1 pid)<|
    .bd (KQ sh p.aQ z1 pid) λx5=> .cs x5 (λy2=>
     .bd (z1[y2]?) λz3=>
      .bf (!!z3.bK) (
       .ok (⟨[0,0,0,0,0,0,0,0,0,0,0,0,0,0,0,0],[]⟩,321))<|
      .bf (!pid !=1) (
       .ok (⟨[0,0,0,0,0,0,0,0,0,0,0,0,0,0,0,0],[]⟩,323))<|
      .bd (z1[y2]?) λz4=>
       .bd ((z1.set y2 (ai.mk z4.aa z4.ba true z4.da))[y2]?) λz5=>
        .bd (((z1.set y2 (ai.mk z4.aa z4.ba true z4.da)).set y2 (ai.mk z5.aa z5.ba z5.bK code))[y2]?) λz6=>
         .gd (Gl ((z1.set y2 (ai.mk z4.aa z4.ba true z4.da)).set y2 (ai.mk z5.aa z5.ba z5.bK code)) pid (z6.ba==0) ((↑((z1.set y2 (ai.mk z4.aa z4.ba true z4.da)).set y2 (ai.mk z5.aa z5.ba z5.bK code)).length:Int)) 0 [])<|
          .bd (K1 sh ((z1.set y2 (ai.mk z4.aa z4.ba true z4.da)).set y2 (ai.mk z5.aa z5.ba z5.bK code)) pid (z6.ba==0) ((↑((z1.set y2 (ai.mk z4.aa z4.ba true z4.da)).set y2 (ai.mk z5.aa z5.ba z5.bK code)).length:Int)) 0 []) λy7=>
           .gd (Gd p.aQ ((z1.set y2 (ai.mk z4.aa z4.ba true z4.da)).set y2 (ai.mk z5.aa z5.ba z5.bK code)) pid code y7.2.2 0 y7.2.2)<|
            .bd (KR sh p.aQ ((z1.set y2 (ai.mk z4.aa z4.ba true z4.da)).set y2 (ai.mk z5.aa z5.ba z5.bK code)) pid code y7.2.2 0 y7.2.2) λy8=>
             .ok (⟨p.aQ,y8.2.2⟩,0)) λy2=>
     .ok (⟨[0,0,0,0,0,0,0,0,0,0,0,0,0,0,0,0],[]⟩,321)
noncomputable def Fy (sh:Sh) (p:bS) (pid code:Int):Option (bS×Int):=sh.s _ (D5 sh p pid code).val
theorem asC:R3 KK Te 149 50 35 35 [50,27] (D5 shut) (dE KK 50 27):=by intro R p pid code k;kernel_rfl
noncomputable def ahZ (sh:Sh):bO SS:=pD KK 149 50 35 35 (Fy sh) (dE KK 50 27)
noncomputable def vp (sh:Sh):ay SS:=cq (ahZ sh) (re sh)
theorem JN:an (vp shut) γ:=tp x_ aef rfl rfl asC
noncomputable def NG (p0:List Int) (p1:List ai) (p2 p3:Int):AS SS:=⟨[(0,(vs .eL)),(1,(va 5 0)),(9,(vl p1)),(10,(vi p3))],[(bX 160 [(.cd .i64 16 p0),(.own 1)]),(rX 115 p1),(bX 35 [(lu p2)]),(bX 161 [(.v (.pointer none))]),(some (.bI 142 [] [(.one (.bp 5 0))])),(bX 158 [(.bp 0 0)])],6,(some ⟨⟨ω,ar 97⟩,[9,10],(iG (a_ ω) 4),(iH (a_ ω) 4),[(3,(va 2 0)),(4,(va 3 0)),(8,(vc 4))],none⟩),false,[],[]⟩
noncomputable def RM (p0:List Int) (p1:List ai) (p2:Int):AS SS:=NG p0 p1 p2 0
noncomputable def ajD (p0:List Int) (p1:List ai) (p2:Int) (a0:Nat):AS SS:=⟨[],[(bX 160 [(.cd .i64 16 p0),(.own 1)]),(rX 115 p1),(bX 35 [(lu p2)]),(bX 161 [(.fl 115 1 a0 0)]),(some (.bI 142 [] [(.one (.bp 5 0))])),(bX 158 [(.bp 0 0)])],6,(some ⟨⟨ω,ar 97⟩,[9,10],(iG (a_ ω) 4),(iH (a_ ω) 4),[(3,(va 2 0)),(4,(va 3 0)),(8,(vc 4))],(some .ret)⟩),false,[],[3]⟩
noncomputable def ajE (p0:List Int) (p1:List ai) (p2:Int) (a0:Bool) (a1:Int):AS SS:= { NG p0 p1 p2 p2 with env:=[(11,(vb a0)),(0,(vs .eL)),(1,(va 5 0)),(9,(vl p1)),(10,(vi a1))] }
noncomputable def UY (sh:Sh) (p0:List Int) (p1:List ai) (p2 p3:Int) (z0:ai) (a:Unit):T (Unit ⊕ Nat ⊕ (Bool×Int)):=
 .bd (p1[p3.toNat]?) λz1=>
  .bf (z1.aa==p2) (
   .ok (.inr (.inl p3.toNat)))<|
  .ok (.inl ())
noncomputable def Jj (sh:Sh) (p0:List Int) (p1:List ai) (p2 p3:Int) (a:Unit):T (Nat ⊕ (Bool×Int)):=
 .ok (.inr ((decide (p3<(↑p1.length:Int))),p3))
noncomputable def C7 (sh:Sh) (p0:List Int) (p1:List ai) (p2:Int):Option (Nat ⊕ (Bool×Int)):=cS sh (UY sh p0 p1 p2) (Jj sh p0 p1 p2) p1 ()
noncomputable def afZ {R:Type} (k:AX->AS SS->Option R) (p0:List Int) (p1:List ai) (p2:Int) (x:Nat ⊕ (Bool×Int)):Option R:=(λx=>ξs (λv=>k .ret (ajD p0 p1 p2 v)) (λv=>k (.exit 0) (ajE p0 p1 p2 v.1 v.2)) x) x
noncomputable def P1:bH SS:=bT 2 (λst=>((dB st 4 142).bind λ_=>lQ st 18 4).bind λ_=>(jy (bg st 0 0)).bind λp0=>(c9 st 1 115).bind λp1=>(bq (bg st 2 0)).bind λp2=>some (p0,p1,p2)) (λp=>RM p.1 p.2.1 p.2.2) (λp=>C7 shut p.1 p.2.1 p.2.2) (λk p=>afZ k p.1 p.2.1 p.2.2)
theorem aqe:aG KK γ ⟨ξ1,ar 142⟩ (bQ (a_ ξ1) 2) P1:=
 aG.c6 (π:=List Int×List ai×Int) (σ:=Unit) (an.all JN rfl) (ao.nil) rfl 60 (λp i a=>NG p.1 p.2.1 p.2.2 i) (λp=>p.2.1) (λp=>()) (St:=λp=>UY shut p.1 p.2.1 p.2.2) (F:=λp=>Jj shut p.1 p.2.1 p.2.2) (λp=>rfl)
  (λm p i a k=>by kernel_rfl) (by rintro p (x|x)<;>exact⟨_,_,λ_=>rfl⟩) (λp N C A O w a hr=>uz (j:=1) hr rfl)
noncomputable def NM (p0:List ai) (p1 p2:Int) (p3:List ai):AS SS:=⟨[(1,(vc 1)),(5,(vo 3)),(8,(vo 0)),(9,(vl p0)),(10,(vi p2))],[(rX 115 p0),(some (.bI 205 [] [(.one (.bp 2 0))])),(bX 35 [(lu p1)]),(rX 115 p3)],3,none,false,[],[]⟩
noncomputable def aci (p0:List ai) (p1:Int) (p3:List ai):AS SS:=NM p0 p1 0 p3
noncomputable def aj5 (p0:List ai) (p1:Int) (a0:Bool) (a1:Int) (a2:List ai):AS SS:= { NM p0 p1 p1 a2 with env:=[(11,(vb a0)),(1,(vc 1)),(5,(vo 3)),(8,(vo 0)),(9,(vl p0)),(10,(vi a1))] }
noncomputable def Dy (sh:Sh) (p0:List ai) (p1 p2:Int) (z0:ai) (a:List ai):T (List ai ⊕ (Bool×Int×List ai)):=
 .bd (p0[p2.toNat]?) λz1=>
  .bf (z1.aa !=p1) (
   .bd (app 32 a [z1]) λz2=>
    .ok (.inl z2))<|
  .ok (.inl a)
noncomputable def B8 (sh:Sh) (p0:List ai) (p1 p2:Int) (a:List ai):T ((Bool×Int×List ai)):=
 .ok ((decide (p2<(↑p0.length:Int))),p2,a)
noncomputable def K2 (sh:Sh) (p0:List ai) (p1:Int) (p3:List ai):Option ((Bool×Int×List ai)):=cS sh (Dy sh p0 p1) (B8 sh p0 p1) p0 p3
noncomputable def agc {R:Type} (k:AX->AS SS->Option R) (p0:List ai) (p1:Int) (x:(Bool×Int×List ai)):Option R:=(λv=>k (.exit 0) (aj5 p0 p1 v.1 v.2.1 v.2.2)) x
noncomputable def Zi:bH SS:=bT 4 (λst=>(dB st 1 205).bind λ_=>(c9 st 0 115).bind λp0=>(bq (bg st 2 0)).bind λp1=>(c9 st 3 115).bind λp3=>some (p0,p1,p3)) (λp=>aci p.1 p.2.1 p.2.2) (λp=>K2 shut p.1 p.2.1 p.2.2) (λk p=>agc k p.1 p.2.1)
noncomputable def aei:ay SS:= { (vp shut) with T:=bm ((vp shut).T) 142 ⟨⟨ξ1,ar 142⟩,[P1]⟩ }
theorem Th:aJ aei γ:=(aJ.b8 (an.all JN rfl) ξj rfl bn λc hc=>by cases hc;exact ao.cons (ao.nil) (by kernel_rfl) aqe)
theorem aqp:aG KK γ ⟨ξH,ar 197⟩ (bQ (a_ ξH) 4) Zi:=
 aG.c6 (π:=List ai×Int×List ai) (σ:=List ai) Th (ao.nil) rfl 60 (λp i a=>NM p.1 p.2.1 i a) (λp=>p.1) (λp=>p.2.2) (St:=λp=>Dy shut p.1 p.2.1) (F:=λp=>B8 shut p.1 p.2.1) (λp=>rfl)
  (λm p i a k=>by kernel_rfl) (λp x=>⟨_,_,λ_=>rfl⟩) (λp N C A O w a hr=>uz (j:=0) hr rfl)
noncomputable def Ti:ay SS:= { (vp shut) with T:=bm (bm ((vp shut).T) 142 ⟨⟨ξ1,ar 142⟩,[P1]⟩) 197 ⟨⟨ξH,ar 197⟩,[Zi]⟩ }
theorem aej:aJ Ti γ:=(aJ.b8 Th ζ9 rfl bn λc hc=>by cases hc;exact ao.cons (ao.nil) (by kernel_rfl) aqp)
noncomputable def D8 (sh:Sh) (p:bS) (pid child:Int):T (bS×Int×Int):=
 .bd (rG sh p) λy0=>
  .bf (!y0==0) (
   .ok (⟨[0,0,0,0,0,0,0,0,0,0,0,0,0,0,0,0],[]⟩,0,320))<|
  .bd (app 32 [] p.ae) λz1=>
   .gd (RM p.aQ z1 pid)<|
    .bd (C7 sh p.aQ z1 pid) λx5=> .cs x5 (λy2=>
     .bd (z1[y2]?) λz3=>
      .bf (!!z3.bK) (
       .ok (⟨[0,0,0,0,0,0,0,0,0,0,0,0,0,0,0,0],[]⟩,0,321))<|
      .gd (RM p.aQ z1 child)<|
       .bd (C7 sh p.aQ z1 child) λx8=> .cs x8 (λy4=>
        .bd (z1[y4]?) λz5=>
         .bf (!z5.ba==pid) (
          .ok (⟨[0,0,0,0,0,0,0,0,0,0,0,0,0,0,0,0],[]⟩,0,324))<|
         .bd (z1[y4]?) λz6=>
          .bf (!z6.bK) (
           .ok (⟨[0,0,0,0,0,0,0,0,0,0,0,0,0,0,0,0],[]⟩,0,322))<|
          .bd (z1[y4]?) λz7=>
           .gd (aci z1 child [])<|
            .bd (K2 sh z1 child []) λy8=>
             .ok (⟨p.aQ,y8.2.2⟩,z7.da,0)) λy4=>
        .ok (⟨[0,0,0,0,0,0,0,0,0,0,0,0,0,0,0,0],[]⟩,0,324)) λy2=>
     .ok (⟨[0,0,0,0,0,0,0,0,0,0,0,0,0,0,0,0],[]⟩,0,321)
noncomputable def FC (sh:Sh) (p:bS) (pid child:Int):Option (bS×Int×Int):=sh.s _ (D8 sh p pid child).val
theorem asF:R3 KK Ti 154 50 35 35 [50,35,27] (D8 shut) (m_ KK 50 35 27):=by intro R p pid child k;kernel_rfl
noncomputable def ah3 (sh:Sh):bO SS:=pD KK 154 50 35 35 (FC sh) (m_ KK 50 35 27)
noncomputable def CD (sh:Sh):ay SS:=cq (ah3 sh) (vp sh)
theorem JR:an (CD shut) γ:=tp JN aej rfl rfl asF
noncomputable def NN (p0:List aj) (p1 p2:Int) (p3:List aj):AS SS:=⟨[(1,(vc 0)),(5,(vo 2)),(8,(vd 51 p0)),(9,(vl p0)),(10,(vi p2))],[(some (.bI 201 [] [(.one (.bp 1 0))])),(bX 35 [(lu p1)]),(rX 105 p3)],2,none,false,[],[]⟩
noncomputable def acj (p0:List aj) (p1:Int) (p3:List aj):AS SS:=NN p0 p1 0 p3
noncomputable def aj6 (p0:List aj) (p1:Int) (a0:Bool) (a1:Int) (a2:List aj):AS SS:= { NN p0 p1 p1 a2 with env:=[(11,(vb a0)),(1,(vc 0)),(5,(vo 2)),(8,(vd 51 p0)),(9,(vl p0)),(10,(vi a1))] }
noncomputable def Dz (sh:Sh) (p0:List aj) (p1 p2:Int) (z0:aj) (a:List aj):T (List aj ⊕ (Bool×Int×List aj)):=
 .bf (z0.aa !=p1) (
  .bd (app 24 a [z0]) λz1=>
   .ok (.inl z1))<|
 .ok (.inl a)
noncomputable def B9 (sh:Sh) (p0:List aj) (p1 p2:Int) (a:List aj):T ((Bool×Int×List aj)):=
 .ok ((decide (p2<(↑p0.length:Int))),p2,a)
noncomputable def K3 (sh:Sh) (p0:List aj) (p1:Int) (p3:List aj):Option ((Bool×Int×List aj)):=cS sh (Dz sh p0 p1) (B9 sh p0 p1) p0 p3
noncomputable def agd {R:Type} (k:AX->AS SS->Option R) (p0:List aj) (p1:Int) (x:(Bool×Int×List aj)):Option R:=(λv=>k (.exit 0) (aj6 p0 p1 v.1 v.2.1 v.2.2)) x
noncomputable def Zj:bH SS:=bT 4 (λst=>(dB st 0 201).bind λ_=>(bB 51 (aZ st 8 0)).bind λp0=>(bq (bg st 1 0)).bind λp1=>(c9 st 2 105).bind λp3=>some (p0,p1,p3)) (λp=>acj p.1 p.2.1 p.2.2) (λp=>K3 shut p.1 p.2.1 p.2.2) (λk p=>agd k p.1 p.2.1)
theorem aqq:aG KK γ ⟨ξl,ar 200⟩ (bQ (a_ ξl) 4) Zj:=
 aG.c6 (π:=List aj×Int×List aj) (σ:=List aj) (an.all JR rfl) (ao.nil) rfl 60 (λp i a=>NN p.1 p.2.1 i a) (λp=>p.1) (λp=>p.2.2) (St:=λp=>Dz shut p.1 p.2.1) (F:=λp=>B9 shut p.1 p.2.1) (λp=>rfl)
  (λm p i a k=>by kernel_rfl) (λp x=>⟨_,_,λ_=>rfl⟩) (λp N C A O w a hr=>dQ hr (t:=51) (sl:=8) rfl λv h=>h)
noncomputable def Tg:ay SS:= { (CD shut) with T:=bm ((CD shut).T) 200 ⟨⟨ξl,ar 200⟩,[Zj]⟩ }
theorem aeh:aJ Tg γ:=(aJ.b8 (an.all JR rfl) ζa rfl bn λc hc=>by cases hc;exact ao.cons (ao.nil) (by kernel_rfl) aqq)
noncomputable def D7 (sh:Sh) (l:List aj) (pid:Int):T (List aj×Int):=
 .bd (ow sh l) λy0=>
  .bf (y0 !=0) (
   .ok ([],0))<|
  .gd (acj l pid [])<|
   .bd (K3 sh l pid []) λy1=>
    .ok (y1.2.2,(β.wrap ((↑l.length:Int)-(↑y1.2.2.length:Int))))
noncomputable def FA (sh:Sh) (l:List aj) (pid:Int):Option (List aj×Int):=sh.s _ (D7 sh l pid).val
theorem asE:R2 KK Tg 151 51 35 [51,3] (D7 shut) (dE KK 51 3):=by intro R l pid k;kernel_rfl
noncomputable def ah1 (sh:Sh):bO SS:=eH KK 151 51 35 (FA sh) (dE KK 51 3)
noncomputable def CC (sh:Sh):ay SS:=cq (ah1 sh) (CD sh)
theorem JP:an (CC shut) γ:=eS JR aeh rfl rfl asE
noncomputable def NU (p0:List aj) (p1 p2 p3:Int):AS SS:=⟨[(0,(vs .eL)),(2,(va 5 0)),(6,(vd 51 p0)),(7,(vl p0)),(8,(vi p3))],[(bX 3 [(li p1)]),(bX 35 [(lu 0)]),(bX 4 [(.v (.bool false))]),(some (.bI 264 [] [(.one (.bp 4 0)),(.one (.bp 5 0))])),(bX 51 [(.aU 51 p0)]),(bX 35 [(lu p2)])],6,(some ⟨⟨ξT,ar 213⟩,[15],(iG (a_ ξT) 6),(iH (a_ ξT) 6),[(5,(va 0 0)),(6,(va 1 0)),(7,(va 2 0)),(14,(vc 3))],none⟩),false,[],[]⟩
noncomputable def acr (p0:List aj) (p1 p2:Int):AS SS:=NU p0 p1 p2 0
noncomputable def ako (p0:List aj) (p1 p2 a0:Int):AS SS:=⟨[],[(bX 3 [(li p1)]),(bX 35 [(lu a0)]),(bX 4 [(.v (.bool true))]),(some (.bI 264 [] [(.one (.bp 4 0)),(.one (.bp 5 0))])),(bX 51 [(.aU 51 p0)]),(bX 35 [(lu p2)])],6,(some ⟨⟨ξT,ar 213⟩,[15],(iG (a_ ξT) 6),(iH (a_ ξT) 6),[(5,(va 0 0)),(6,(va 1 0)),(7,(va 2 0)),(14,(vc 3))],(some .ret)⟩),false,[],[1,2]⟩
noncomputable def akp (p0:List aj) (p1 p2:Int) (a0:Bool) (a1:Int):AS SS:= { NU p0 p1 p2 p1 with env:=[(9,(vb a0)),(0,(vs .eL)),(2,(va 5 0)),(6,(vd 51 p0)),(7,(vl p0)),(8,(vi a1))] }
noncomputable def DH (sh:Sh) (p0:List aj) (p1 p2 p3:Int) (z0:aj) (a:Unit):T (Unit ⊕ Int ⊕ (Bool×Int)):=
 .bf (z0.aa==p2) (
  .bf (z0.b_==p1) (
   .ok (.inr (.inl z0.dq)))<|
  .ok (.inl ()))<|
 .ok (.inl ())
noncomputable def Cf (sh:Sh) (p0:List aj) (p1 p2 p3:Int) (a:Unit):T (Int ⊕ (Bool×Int)):=
 .ok (.inr ((decide (p3<(↑p0.length:Int))),p3))
noncomputable def Lf (sh:Sh) (p0:List aj) (p1 p2:Int):Option (Int ⊕ (Bool×Int)):=cS sh (DH sh p0 p1 p2) (Cf sh p0 p1 p2) p0 ()
noncomputable def agu {R:Type} (k:AX->AS SS->Option R) (p0:List aj) (p1 p2:Int) (x:Int ⊕ (Bool×Int)):Option R:=(λx=>ξs (λv=>k .ret (ako p0 p1 p2 v)) (λv=>k (.exit 0) (akp p0 p1 p2 v.1 v.2)) x) x
noncomputable def Zs:bH SS:=bT 2 (λst=>((dB st 3 264).bind λ_=>lQ st 22 6).bind λ_=>(bB 51 (aZ st 6 0)).bind λp0=>(bq (bg st 0 0)).bind λp1=>(bq (bg st 5 0)).bind λp2=>some (p0,p1,p2)) (λp=>acr p.1 p.2.1 p.2.2) (λp=>Lf shut p.1 p.2.1 p.2.2) (λk p=>agu k p.1 p.2.1 p.2.2)
theorem aqE:aG KK γ ⟨ξA,ar 264⟩ (bQ (a_ ξA) 2) Zs:=
 aG.c6 (π:=List aj×Int×Int) (σ:=Unit) (an.all JP rfl) (ao.nil) rfl 60 (λp i a=>NU p.1 p.2.1 p.2.2 i) (λp=>p.1) (λp=>()) (St:=λp=>DH shut p.1 p.2.1 p.2.2) (F:=λp=>Cf shut p.1 p.2.1 p.2.2) (λp=>rfl)
  (λm p i a k=>by kernel_rfl) (by rintro p (x|x)<;>exact⟨_,_,λ_=>rfl⟩) (λp N C A O w a hr=>dQ hr (t:=51) (sl:=6) rfl λv h=>h)
noncomputable def TJ:ay SS:= { (CC shut) with T:=bm ((CC shut).T) 264 ⟨⟨ξA,ar 264⟩,[Zs]⟩ }
theorem aeI:aJ TJ γ:=(aJ.b8 (an.all JP rfl) ζC rfl bn λc hc=>by cases hc;exact ao.cons (ao.nil) (by kernel_rfl) aqE)
noncomputable def Et (sh:Sh) (l:List aj) (pid fd:Int):T (Int×Bool):=
 .bd (ow sh l) λy0=>
  .bf (y0 !=0) (
   .ok (0,false))<|
  .gd (acr l fd pid)<|
   .bd (Lf sh l fd pid) λx4=> .cs x4 (λy1=>
    .ok (y1,true)) λy1=>
    .ok (0,false)
noncomputable def rF (sh:Sh) (l:List aj) (pid fd:Int):Option (Int×Bool):=sh.s _ (Et sh l pid fd).val
theorem as2:R3 KK TJ 213 51 35 3 [35,4] (Et shut) (dE KK 35 4):=by intro R l pid fd k;kernel_rfl
noncomputable def aiq (sh:Sh):bO SS:=pD KK 213 51 35 3 (rF sh) (dE KK 35 4)
noncomputable def CM (sh:Sh):ay SS:=cq (aiq sh) (CC sh)
theorem Kb:an (CM shut) γ:=tp JP aeI rfl rfl as2
noncomputable def NQ (p0:List aj) (p1 p2:Int) (p3:List aj):AS SS:=⟨[(1,(vc 0)),(5,(vo 2)),(8,(vd 51 p0)),(9,(vl p0)),(10,(vi p2))],[(some (.bI 215 [] [(.one (.bp 1 0))])),(bX 35 [(lu p1)]),(rX 105 p3)],2,none,false,[],[]⟩
noncomputable def acm (p0:List aj) (p1:Int) (p3:List aj):AS SS:=NQ p0 p1 0 p3
noncomputable def aj8 (p0:List aj) (p1:Int) (a0:Bool) (a1:Int) (a2:List aj):AS SS:= { NQ p0 p1 p1 a2 with env:=[(11,(vb a0)),(1,(vc 0)),(5,(vo 2)),(8,(vd 51 p0)),(9,(vl p0)),(10,(vi a1))] }
noncomputable def DB (sh:Sh) (p0:List aj) (p1 p2:Int) (z0:aj) (a:List aj):T (List aj ⊕ (Bool×Int×List aj)):=
 .bf (z0.dq==p1) (
  .bd (app 24 a [z0]) λz1=>
   .ok (.inl z1))<|
 .ok (.inl a)
noncomputable def Ca (sh:Sh) (p0:List aj) (p1 p2:Int) (a:List aj):T ((Bool×Int×List aj)):=
 .ok ((decide (p2<(↑p0.length:Int))),p2,a)
noncomputable def K5 (sh:Sh) (p0:List aj) (p1:Int) (p3:List aj):Option ((Bool×Int×List aj)):=cS sh (DB sh p0 p1) (Ca sh p0 p1) p0 p3
noncomputable def agf {R:Type} (k:AX->AS SS->Option R) (p0:List aj) (p1:Int) (x:(Bool×Int×List aj)):Option R:=(λv=>k (.exit 0) (aj8 p0 p1 v.1 v.2.1 v.2.2)) x
noncomputable def Zk:bH SS:=bT 4 (λst=>(dB st 0 215).bind λ_=>(bB 51 (aZ st 8 0)).bind λp0=>(bq (bg st 1 0)).bind λp1=>(c9 st 2 105).bind λp3=>some (p0,p1,p3)) (λp=>acm p.1 p.2.1 p.2.2) (λp=>K5 shut p.1 p.2.1 p.2.2) (λk p=>agf k p.1 p.2.1)
theorem aqs:aG KK γ ⟨ξl,ar 200⟩ (bQ (a_ ξl) 4) Zk:=
 aG.c6 (π:=List aj×Int×List aj) (σ:=List aj) (an.all Kb rfl) (ao.nil) rfl 60 (λp i a=>NQ p.1 p.2.1 i a) (λp=>p.1) (λp=>p.2.2) (St:=λp=>DB shut p.1 p.2.1) (F:=λp=>Ca shut p.1 p.2.1) (λp=>rfl)
  (λm p i a k=>by kernel_rfl) (λp x=>⟨_,_,λ_=>rfl⟩) (λp N C A O w a hr=>dQ hr (t:=51) (sl:=8) rfl λv h=>h)
noncomputable def Tt:ay SS:= { (CM shut) with T:=bm ((CM shut).T) 200 ⟨⟨ξl,ar 200⟩,[Zk]⟩ }
theorem aet:aJ Tt γ:=(aJ.b8 (an.all Kb rfl) ζa rfl bn λc hc=>by cases hc;exact ao.cons (ao.nil) (by kernel_rfl) aqs)
noncomputable def Ef (sh:Sh) (l:List aj) (bW:Int):T (Int):=
 .bd (ow sh l) λy0=>
  .bf (y0 !=0) (
   .ok 0)<|
  .gd (acm l bW [])<|
   .bd (K5 sh l bW []) λy1=>
    .ok ((↑y1.2.2.length:Int))
noncomputable def FI (sh:Sh) (l:List aj) (bW:Int):Option (Int):=sh.s _ (Ef sh l bW).val
theorem asN:R2 KK Tt 165 51 35 [3] (Ef shut) (b5 KK 3):=by intro R l bW k;kernel_rfl
noncomputable def ah' (sh:Sh):bO SS:=eH KK 165 51 35 (FI sh) (b5 KK 3)
noncomputable def rh (sh:Sh):ay SS:=cq (ah' sh) (CM sh)
theorem JY:an (rh shut) γ:=eS Kb aet rfl rfl asN
noncomputable def NT (p0:List aj) (p1 p2 p3:Int) (p4:List Bool):AS SS:=⟨[(0,(vs .eL)),(2,(va 3 0)),(6,(vd 51 p0)),(7,(vl p0)),(8,(vi p3))],[(bX 267 [(.dW 8 p4)]),(some (.bI 264 [] [(.one (.bp 2 0)),(.one (.bp 3 0))])),(bX 51 [(.aU 51 p0)]),(bX 35 [(lu p1)])],4,(some ⟨⟨ζD,ar 157⟩,[26],(iG (a_ ζD) 9),(iH (a_ ζD) 9),[(0,(vd 51 p0)),(1,(vu p1)),(2,(vu p2)),(9,(va 0 0)),(25,(vc 1))],none⟩),false,[],[0]⟩
noncomputable def acq (p0:List aj) (p1 p2:Int) (p4:List Bool):AS SS:=NT p0 p1 p2 0 p4
noncomputable def akn (p0:List aj) (p1 p2:Int) (a0:Bool) (a1:Int) (a2:List Bool):AS SS:= { NT p0 p1 p2 p1 a2 with env:=[(9,(vb a0)),(0,(vs .eL)),(2,(va 3 0)),(6,(vd 51 p0)),(7,(vl p0)),(8,(vi a1))] }
noncomputable def DG (sh:Sh) (p0:List aj) (p1 p2 p3:Int) (z0:aj) (a:List Bool):T (List Bool ⊕ (Bool×Int×List Bool)):=
 .bf (z0.aa==p1) (
  .bd (fq z0.b_ 8) λz1=>
   .bf (a.length.beq 8) (
    .ok (.inl (a.set z1 true)))<|
   .no)<|
 .ok (.inl a)
noncomputable def xX (sh:Sh) (p0:List aj) (p1 p2 p3:Int) (a:List Bool):T ((Bool×Int×List Bool)):=
 .ok ((decide (p3<(↑p0.length:Int))),p3,a)
noncomputable def Le (sh:Sh) (p0:List aj) (p1 p2:Int) (p4:List Bool):Option ((Bool×Int×List Bool)):=cS sh (DG sh p0 p1 p2) (xX sh p0 p1 p2) p0 p4
noncomputable def agt {R:Type} (k:AX->AS SS->Option R) (p0:List aj) (p1 p2:Int) (x:(Bool×Int×List Bool)):Option R:=(λv=>k (.exit 0) (akn p0 p1 p2 v.1 v.2.1 v.2.2)) x
noncomputable def HE:bH SS:=oQ (λst=>gc (ar 264 2) (me [0] (om 0 (st))))<|bT 2 (λst=>((dB st 1 264).bind λ_=>lQ st 61 9).bind λ_=>(bB 51 (aZ st 6 0)).bind λp0=>(bq (bg st 3 0)).bind λp1=>(bq (lpL st 2 0)).bind λp2=>(yY (bg st 0 0)).bind λp4=>some (p0,p1,p2,p4)) (λp=>acq p.1 p.2.1 p.2.2.1 p.2.2.2) (λp=>Le shut p.1 p.2.1 p.2.2.1 p.2.2.2) (λk p=>agt k p.1 p.2.1 p.2.2.1)
theorem aqD:aG KK γ ⟨ξA,ar 264⟩ (bQ (a_ ξA) 2) HE:=aG.pre (dA.comp (dA.gc (ar 264 2)) (dA.comp (dA.me [0]) (dA.om 0)))<|
 aG.c6 (π:=List aj×Int×Int×List Bool) (σ:=List Bool) (an.all JY rfl) (ao.nil) rfl 60 (λp i a=>NT p.1 p.2.1 p.2.2.1 i a) (λp=>p.1) (λp=>p.2.2.2) (St:=λp=>DG shut p.1 p.2.1 p.2.2.1) (F:=λp=>xX shut p.1 p.2.1 p.2.2.1) (λp=>rfl)
  (λm p i a k=>by kernel_rfl) (λp x=>⟨_,_,λ_=>rfl⟩) (λp N C A O w a hr=>dQ hr (t:=51) (sl:=6) rfl λv h=>h)
noncomputable def zO (p0:List Bool) (p1:Int):AS SS:=⟨[(0,(vs (.jZ 0 0 8))),(1,(vb false)),(7,(vi 8)),(8,(vi p1))],[(bX 267 [(.dW 8 p0)])],1,none,false,[],[]⟩
noncomputable def aj_ (p0:List Bool) (a0:Int):AS SS:= { zO p0 a0 with env:=[(4,(vi a0))] }
noncomputable def aj' (p0:List Bool) (a0:Bool) (a1:Int):AS SS:=xe [(9,(vb a0))] (zO p0 a1)
noncomputable def yp (sh:Sh) (p0:List Bool) (a:Int):T (Int ⊕ Int ⊕ (Bool×Int)):=
 .bf (decide (a<8)) (
  .bd (fq a 8) λz0=>
   .bf (false==iY p0 z0) (
    .ok (.inr (.inl a)))<|
   .ok (.inl (β.wrap (a+1))))<|
 .ok (.inr (.inr ((decide (a<8)),a)))
noncomputable def K7 (sh:Sh) (p0:List Bool) (p1:Int):Option (Int ⊕ (Bool×Int)):=cA sh (yp sh p0) 1000000 p1
noncomputable def agi {R:Type} (k:AX->AS SS->Option R) (p0:List Bool) (x:Int ⊕ (Bool×Int)):Option R:=(λx=>ξs (λv=>k .ret (aj_ p0 v)) (λv=>k (.exit 0) (aj' p0 v.1 v.2)) x) x
noncomputable def P7:bH SS:=bT 3 (λst=>(yY (bg st 0 0)).bind λp0=>(bq (aZ st 8 0)).bind λp1=>some (p0,p1)) (λp=>zO p.1 p.2) (λp=>K7 shut p.1 p.2) (λk p=>agi k p.1)
noncomputable def aem:ay SS:= { (rh shut) with T:=bm ((rh shut).T) 264 ⟨⟨ξA,ar 264⟩,[HE]⟩ }
theorem Tl:aJ aem γ:=(aJ.b8 (an.all JY rfl) ζC rfl bn λc hc=>by cases hc;exact ao.cons (ao.nil) (by kernel_rfl) aqD)
theorem aqu:aG KK γ ⟨ζi,ar 210⟩ (bQ (a_ ζi) 3) P7:=
 aG.cA (π:=List Bool×Int) (σ:=Int) Tl (ao.nil) rfl 60 (λp a=>zO p.1 a) (λp=>p.2) (St:=λp=>yp shut p.1) (λp=>1000000) (λp=>rfl)
  (λm p a k=>by kernel_rfl)
noncomputable def Gn (p0:List aj) (p1 p2 p3 p4 p5 p6:Int):AS SS:=⟨[(0,(vo 0)),(2,(vs (.v (.func (.func 103) (.mk []) (.mk []))))),(4,(va 1 0)),(8,(vi p4)),(9,(vi p6)),(10,(vi p5))],[(rX 105 p0),(bX 105 [(lu p1),(li p2),(lu p3)])],1,none,false,[],[]⟩
noncomputable def aka (p0:List aj) (p1 p2 p3 p4:Int) (a0:Bool) (a1 a2:Int):AS SS:= { Gn p0 p1 p2 p3 p4 p1 p1 with env:=[(17,(vb a0)),(16,(vi a1)),(15,(vi a2)),(0,(vo 0)),(2,(vs (.v (.func (.func 103) (.mk []) (.mk []))))),(4,(va 1 0)),(8,(vi p4)),(9,(vi a2)),(10,(vi a1))] }
noncomputable def yq (sh:Sh) (p0:List aj) (p1 p2 p3 p4:Int) (a:Int×Int):T ((Int×Int) ⊕ (Bool×Int×Int)):=
 .bf (decide (a.1<a.2)) (
  .bd (idx p0 (β.wrap ((θ.wrap (β.wrap (a.1+a.2))).fdiv 2))) λz0=>
   .bd (p0[(β.wrap ((θ.wrap (β.wrap (a.1+a.2))).fdiv 2)).toNat]?) λz1=>
    .bd (yZ sh z1 (aj.mk p1 p2 p3)) λy2=>
     .bf (decide (y2<0)) (
      .ok (.inl ((β.wrap (β.wrap ((θ.wrap (β.wrap (a.1+a.2))).fdiv 2)+1)),a.2)))<|
     .ok (.inl (a.1,(β.wrap ((θ.wrap (β.wrap (a.1+a.2))).fdiv 2)))))<|
 .ok (.inr ((decide (a.1<a.2)),a.2,a.1))
noncomputable def K8 (sh:Sh) (p0:List aj) (p1 p2 p3 p4 p5 p6:Int):Option ((Bool×Int×Int)):=cA sh (yq sh p0 p1 p2 p3 p4) 1000000 (p6,p5)
noncomputable def agj {R:Type} (k:AX->AS SS->Option R) (p0:List aj) (p1 p2 p3 p4:Int) (x:(Bool×Int×Int)):Option R:=(λv=>k (.exit 0) (aka p0 p1 p2 p3 p4 v.1 v.2.1 v.2.2)) x
noncomputable def Zm:bH SS:=bT 4 (λst=>(c9 st 0 105).bind λp0=>(bq (bg st 1 0)).bind λp1=>(bq (bg st 1 1)).bind λp2=>(bq (bg st 1 2)).bind λp3=>(bq (aZ st 8 0)).bind λp4=>(bq (aZ st 10 0)).bind λp5=>(bq (aZ st 9 0)).bind λp6=>some (p0,p1,p2,p3,p4,p5,p6)) (λp=>Gn p.1 p.2.1 p.2.2.1 p.2.2.2.1 p.2.2.2.2.1 p.2.2.2.2.2.1 p.2.2.2.2.2.2) (λp=>K8 shut p.1 p.2.1 p.2.2.1 p.2.2.2.1 p.2.2.2.2.1 p.2.2.2.2.2.1 p.2.2.2.2.2.2) (λk p=>agj k p.1 p.2.1 p.2.2.1 p.2.2.2.1 p.2.2.2.2.1)
noncomputable def aen:ay SS:= { (rh shut) with T:=bm (bm ((rh shut).T) 264 ⟨⟨ξA,ar 264⟩,[HE]⟩) 210 ⟨⟨ζi,ar 210⟩,[P7]⟩ }
theorem Tm:aJ aen γ:=(aJ.b8 Tl Tryz.func210 rfl bn λc hc=>by cases hc;exact ao.cons (ao.nil) (by kernel_rfl) aqu)
theorem aqv:aG KK γ ⟨ζE,ar 211⟩ (bQ (a_ ζE) 4) Zm:=
 aG.cA (π:=List aj×Int×Int×Int×Int×Int×Int) (σ:=Int×Int) Tm (ao.nil) rfl 60 (λp a=>Gn p.1 p.2.1 p.2.2.1 p.2.2.2.1 p.2.2.2.2.1 a.2 a.1) (λp=>(p.2.2.2.2.2.2,p.2.2.2.2.2.1)) (St:=λp=>yq shut p.1 p.2.1 p.2.2.1 p.2.2.2.1 p.2.2.2.2.1) (λp=>1000000) (λp=>rfl)
  (λm p a k=>by kernel_rfl)
noncomputable def Tn:ay SS:= { (rh shut) with T:=bm (bm (bm ((rh shut).T) 264 ⟨⟨ξA,ar 264⟩,[HE]⟩) 210 ⟨⟨ζi,ar 210⟩,[P7]⟩) 211 ⟨⟨ζE,ar 211⟩,[Zm]⟩ }
theorem aeo:aJ Tn γ:=(aJ.b8 Tm Tryz.func211 rfl bn λc hc=>by cases hc;exact ao.cons (ao.nil) (by kernel_rfl) aqv)
noncomputable def D_ (sh:Sh) (l:List aj) (pid bW:Int):T (List aj×Int×Int):=
 .bd (ow sh l) λy0=>
  .bf (y0 !=0) (
   .ok ([],0,330))<|
  .bf (decide (pid>=4294967296)) (
   .ok ([],0,2))<|
  .gd (acq l pid bW [false,false,false,false,false,false,false,false])<|
   .bd (Le sh l pid bW [false,false,false,false,false,false,false,false]) λy1=>
    .gd (zO y1.2.2 0)<|
     .bd (K7 sh y1.2.2 0) λx6=> .cs x6 (λy2=>
      .bf (decide (y2<0)) (
       .ok ([],0,6))<|
      .bf ((↑l.length:Int)==64) (
       .ok ([],0,6))<|
      .bd (nR 24 ((↑l.length:Int)) ((↑l.length:Int)) (aj.mk 0 0 0)) λz3=>
       .gd (Gn (ez z3 l) pid y2 bW ((↑(ez z3 l).length:Int)) ((↑(ez z3 l).length:Int)) 0)<|
        .bd (K8 sh (ez z3 l) pid y2 bW ((↑(ez z3 l).length:Int)) ((↑(ez z3 l).length:Int)) 0) λy4=>
         .bf (decide (y4.2.2<(↑(ez z3 l).length:Int))) (
          .bd (idx (ez z3 l) y4.2.2) λz5=>
           .bd ((ez z3 l)[y4.2.2.toNat]?) λz6=>
            .bd (yZ sh z6 (aj.mk pid y2 bW)) λy7=>
             .bd (wU (ez z3 l) y4.2.2 [aj.mk pid y2 bW]) λz8=>
              .ok (z8,y2,0))<|
         .bd (wU (ez z3 l) y4.2.2 [aj.mk pid y2 bW]) λz5=>
          .ok (z5,y2,0)) λy2=>
      .ok ([],0,6)
noncomputable def y_ (sh:Sh) (l:List aj) (pid bW:Int):Option (List aj×Int×Int):=sh.s _ (D_ sh l pid bW).val
theorem asH:R3 KK Tn 157 51 35 35 [51,3,27] (D_ shut) (m_ KK 51 3 27):=by intro R l pid bW k;kernel_rfl
noncomputable def ah5 (sh:Sh):bO SS:=pD KK 157 51 35 35 (y_ sh) (m_ KK 51 3 27)
noncomputable def JT (sh:Sh):ay SS:=cq (ah5 sh) (rh sh)
theorem Ul:an (JT shut) γ:=tp JY aeo rfl rfl asH
noncomputable def Ec (sh:Sh) (l:List aj) (pid fd:Int):T (List aj×Int×Int):=
 .bd (ow sh l) λy0=>
  .bf (y0 !=0) (
   .ok ([],0,330))<|
  .bf (decide (pid>=4294967296)) (
   .ok ([],0,2))<|
  .bd (rF sh l pid fd) λy1=>
   .bf (!y1.2) (
    .ok ([],0,4))<|
   .bd (y_ sh l pid y1.1) λy2=>
    .ok (y2.1,y2.2.1,y2.2.2)
noncomputable def FF (sh:Sh) (l:List aj) (pid fd:Int):Option (List aj×Int×Int):=sh.s _ (Ec sh l pid fd).val
theorem asK:R3 KK (JT shut) 161 51 35 3 [51,3,27] (Ec shut) (m_ KK 51 3 27):=by intro R l pid fd k;kernel_rfl
noncomputable def ah8 (sh:Sh):bO SS:=pD KK 161 51 35 3 (FF sh) (m_ KK 51 3 27)
noncomputable def vt (sh:Sh):ay SS:=cq (ah8 sh) (JT sh)
theorem JV:an (vt shut) γ:=tp Ul (an.all Ul rfl) rfl rfl asK
noncomputable def NO (p0:List aj) (p1 p2 p3 p4:Int) (p5:List aj):AS SS:=⟨[(1,(vc 1)),(5,(vo 3)),(8,(vo 0)),(9,(vl p0)),(10,(vi p4))],[(rX 105 p0),(some (.bI 214 [] [(.one (.bp 2 0))])),(bX 105 [(lu p1),(li p2),(lu p3)]),(rX 105 p5)],3,none,false,[],[]⟩
noncomputable def ack (p0:List aj) (p1 p2 p3:Int) (p5:List aj):AS SS:=NO p0 p1 p2 p3 0 p5
noncomputable def aj7 (p0:List aj) (p1 p2 p3:Int) (a0:Bool) (a1:Int) (a2:List aj):AS SS:= { NO p0 p1 p2 p3 p1 a2 with env:=[(11,(vb a0)),(1,(vc 1)),(5,(vo 3)),(8,(vo 0)),(9,(vl p0)),(10,(vi a1))] }
noncomputable def DA (sh:Sh) (p0:List aj) (p1 p2 p3 p4:Int) (z0:aj) (a:List aj):T (List aj ⊕ (Bool×Int×List aj)):=
 .bd (p0[p4.toNat]?) λz1=>
  .bf (!mO z1 (aj.mk p1 p2 p3)) (
   .bd (app 24 a [z1]) λz2=>
    .ok (.inl z2))<|
  .ok (.inl a)
noncomputable def B_ (sh:Sh) (p0:List aj) (p1 p2 p3 p4:Int) (a:List aj):T ((Bool×Int×List aj)):=
 .ok ((decide (p4<(↑p0.length:Int))),p4,a)
noncomputable def K4 (sh:Sh) (p0:List aj) (p1 p2 p3:Int) (p5:List aj):Option ((Bool×Int×List aj)):=cS sh (DA sh p0 p1 p2 p3) (B_ sh p0 p1 p2 p3) p0 p5
noncomputable def age {R:Type} (k:AX->AS SS->Option R) (p0:List aj) (p1 p2 p3:Int) (x:(Bool×Int×List aj)):Option R:=(λv=>k (.exit 0) (aj7 p0 p1 p2 p3 v.1 v.2.1 v.2.2)) x
noncomputable def P6:bH SS:=bT 4 (λst=>(dB st 1 214).bind λ_=>(c9 st 0 105).bind λp0=>(bq (bg st 2 0)).bind λp1=>(bq (bg st 2 1)).bind λp2=>(bq (bg st 2 2)).bind λp3=>(c9 st 3 105).bind λp5=>some (p0,p1,p2,p3,p5)) (λp=>ack p.1 p.2.1 p.2.2.1 p.2.2.2.1 p.2.2.2.2) (λp=>K4 shut p.1 p.2.1 p.2.2.1 p.2.2.2.1 p.2.2.2.2) (λk p=>age k p.1 p.2.1 p.2.2.1 p.2.2.2.1)
theorem aqr:aG KK γ ⟨ξl,ar 200⟩ (bQ (a_ ξl) 4) P6:=
 aG.c6 (π:=List aj×Int×Int×Int×List aj) (σ:=List aj) (an.all JV rfl) (ao.nil) rfl 60 (λp i a=>NO p.1 p.2.1 p.2.2.1 p.2.2.2.1 i a) (λp=>p.1) (λp=>p.2.2.2.2) (St:=λp=>DA shut p.1 p.2.1 p.2.2.1 p.2.2.2.1) (F:=λp=>B_ shut p.1 p.2.1 p.2.2.1 p.2.2.2.1) (λp=>rfl)
  (λm p i a k=>by kernel_rfl) (λp x=>⟨_,_,λ_=>rfl⟩) (λp N C A O w a hr=>uz (j:=0) hr rfl)
noncomputable def Gg (p0:Int) (p1:List Int) (p2:List aj) (p3:Bool) (p4:Int):AS SS:=⟨[(1,(vu p0)),(9,(vo 0)),(10,(vb p3)),(23,(vd 31 p1)),(24,(vl p1)),(25,(vi p4))],[(rX 105 p2)],0,none,false,[],[]⟩
noncomputable def ace (p0:Int) (p1:List Int) (p2:List aj) (p3:Bool):AS SS:=Gg p0 p1 p2 p3 0
noncomputable def ajO (p0:Int) (p1:List Int) (a0 a1:Bool) (a2 a3:Int) (a4 a5:Bool) (a6:Int) (a7:List aj):AS SS:= { Gg p0 p1 a7 a0 p0 with env:=[(38,(vb a0)),(37,(vb a1)),(10,(vb a1)),(36,(vb a1)),(14,(vb a1)),(13,(vu a2)),(35,(vb a1)),(34,(vu a2)),(29,(.bD [(.one (lu a2)),(.one (.v (.bool a1)))])),(33,(.bD [(.one (lu a2)),(.one (.v (.bool a1)))])),(32,(vi a3)),(31,(vu p0)),(30,(vo 0)),(12,(vi a3)),(28,(vi a3)),(27,(vs (.ptr 3 a3 0))),(26,(vb a4)),(1,(vu p0)),(9,(vo 0)),(10,(vb a5)),(23,(vd 31 p1)),(24,(vl p1)),(25,(vi a6))] }
noncomputable def ajP (p0:Int) (p1:List Int) (a0 a1:Bool) (a2:Int) (a3:List aj):AS SS:= { Gg p0 p1 a3 a0 p0 with env:=[(26,(vb a0)),(1,(vu p0)),(9,(vo 0)),(10,(vb a1)),(23,(vd 31 p1)),(24,(vl p1)),(25,(vi a2))] }
noncomputable def Du (sh:Sh) (p0:Int) (p1:List Int) (p4 z0:Int) (a:Bool×List aj):T ((Bool×List aj) ⊕ (Bool×Bool×Int×Int×Bool×Bool×Int×List aj) ⊕ (Bool×Bool×Int×List aj)):=
 .bd (rF sh a.2 p0 z0) λy1=>
  .bf (!y1.2) (
   .ok (.inr (.inl (!y1.2,y1.2,y1.1,z0,(decide (p4<(↑p1.length:Int))),a.1,p4,a.2))))<|
  .gd (ack a.2 p0 z0 y1.1 [])<|
   .bd (K4 sh a.2 p0 z0 y1.1 []) λy2=>
    .ok (.inl (y1.2,y2.2.2))
noncomputable def Jl (sh:Sh) (p0:Int) (p1:List Int) (p4:Int) (a:Bool×List aj):T ((Bool×Bool×Int×Int×Bool×Bool×Int×List aj) ⊕ (Bool×Bool×Int×List aj)):=
 .ok (.inr ((decide (p4<(↑p1.length:Int))),a.1,p4,a.2))
noncomputable def KV (sh:Sh) (p0:Int) (p1:List Int) (p2:List aj) (p3:Bool):Option ((Bool×Bool×Int×Int×Bool×Bool×Int×List aj) ⊕ (Bool×Bool×Int×List aj)):=cS sh (Du sh p0 p1) (Jl sh p0 p1) p1 (p3,p2)
noncomputable def af5 {R:Type} (k:AX->AS SS->Option R) (p0:Int) (p1:List Int) (x:(Bool×Bool×Int×Int×Bool×Bool×Int×List aj) ⊕ (Bool×Bool×Int×List aj)):Option R:=(λx=>ξs (λv=>k (.exit 0) (ajO p0 p1 v.1 v.2.1 v.2.2.1 v.2.2.2.1 v.2.2.2.2.1 v.2.2.2.2.2.1 v.2.2.2.2.2.2.1 v.2.2.2.2.2.2.2)) (λv=>k (.exit 0) (ajP p0 p1 v.1 v.2.1 v.2.2.1 v.2.2.2)) x) x
noncomputable def Zc:bH SS:=bT 8 (λst=>(bq (aZ st 1 0)).bind λp0=>(bB 31 (aZ st 23 0)).bind λp1=>(c9 st 0 105).bind λp2=>(tA (aZ st 10 0)).bind λp3=>some (p0,p1,p2,p3)) (λp=>ace p.1 p.2.1 p.2.2.1 p.2.2.2) (λp=>KV shut p.1 p.2.1 p.2.2.1 p.2.2.2) (λk p=>af5 k p.1 p.2.1)
noncomputable def aep:ay SS:= { (vt shut) with T:=bm ((vt shut).T) 200 ⟨⟨ξl,ar 200⟩,[P6]⟩ }
theorem To:aJ aep γ:=(aJ.b8 (an.all JV rfl) ζa rfl bn λc hc=>by cases hc;exact ao.cons (ao.nil) (by kernel_rfl) aqr)
theorem aqj:aG KK γ ⟨ζF,ar 159⟩ (bQ (a_ ζF) 8) Zc:=
 aG.c6 (π:=Int×List Int×List aj×Bool) (σ:=Bool×List aj) To (ao.nil) rfl 60 (λp i a=>Gg p.1 p.2.1 a.2 a.1 i) (λp=>p.2.1) (λp=>(p.2.2.2,p.2.2.1)) (St:=λp=>Du shut p.1 p.2.1) (F:=λp=>Jl shut p.1 p.2.1) (λp=>rfl)
  (λm p i a k=>by kernel_rfl) (by rintro p (x|x)<;>exact⟨_,_,λ_=>rfl⟩) (λp N C A O w a hr=>dQ hr (t:=31) (sl:=23) rfl λv h=>h)
noncomputable def Tp:ay SS:= { (vt shut) with T:=bm (bm ((vt shut).T) 200 ⟨⟨ξl,ar 200⟩,[P6]⟩) 159 ⟨⟨ζF,ar 159⟩,[Zc]⟩ }
theorem aeq:aJ Tp γ:=(aJ.b8 To Tryz.func159 rfl bn λc hc=>by cases hc;exact ao.cons (ao.nil) (by kernel_rfl) aqj)
noncomputable def Ea (sh:Sh) (l:List aj) (pid:Int) (fds:List Int):T (List aj×Int):=
 .bd (ow sh l) λy0=>
  .bf (y0 !=0) (
   .ok ([],y0))<|
  .bd (app 24 [] l) λz1=>
   .gd (ace pid fds z1 true)<|
    .bd (KV sh pid fds z1 true) λx5=> .cs x5 (λy2=>
     .bf (!y2.2.1) (
      .ok ([],4))<|
     .ok (y2.2.2.2.2.2.2.2,0)) λy2=>
     .bf (!y2.2.1) (
      .ok ([],4))<|
     .ok (y2.2.2.2,0)
noncomputable def FD (sh:Sh) (l:List aj) (pid:Int) (fds:List Int):Option (List aj×Int):=sh.s _ (Ea sh l pid fds).val
theorem asI:R3 KK Tp 159 51 35 31 [51,27] (Ea shut) (dE KK 51 27):=by intro R l pid fds k;kernel_rfl
noncomputable def ah6 (sh:Sh):bO SS:=pD KK 159 51 35 31 (FD sh) (dE KK 51 27)
noncomputable def JU (sh:Sh):ay SS:=cq (ah6 sh) (vt sh)
theorem Um:an (JU shut) γ:=tp JV aeq rfl rfl asI
noncomputable def Er (sh:Sh) (m:cp) (w:Int):T (Int):=
 .bd (zd sh m) λy0=>
  .bf (y0 !=0) (
   .ok y0)<|
  .bd (y9 sh w) λy1=>
   .ok y1
noncomputable def wj (sh:Sh) (m:cp) (w:Int):Option (Int):=sh.s _ (Er sh m w).val
theorem asZ:R2 KK (JU shut) 206 54 35 [27] (Er shut) (b5 KK 27):=by intro R m w k;kernel_rfl
noncomputable def aio (sh:Sh):bO SS:=eH KK 206 54 35 (wj sh) (b5 KK 27)
noncomputable def CK (sh:Sh):ay SS:=cq (aio sh) (JU sh)
theorem J':an (CK shut) γ:=eS Um (an.all Um rfl) rfl rfl asZ
noncomputable def Gm (p0:List ByteArray) (p1 p2:Int) (p3:List Int):AS SS:=⟨[(4,(va 0 0)),(6,(vo 1)),(7,(vi p2))],[(bX 195 [(.aU 192 p0),(lu p1)]),(rX 35 p3)],0,none,false,[],[]⟩
noncomputable def aj9 (p0:List ByteArray) (p1:Int) (a0:Bool) (a1:Int) (a2:List Int):AS SS:= { Gm p0 p1 p1 a2 with env:=[(21,(vb a0)),(20,(vi a1)),(4,(va 0 0)),(6,(vo 1)),(7,(vi a1))] }
noncomputable def vG (sh:Sh) (p0:List ByteArray) (p1:Int) (a:Int×List Int):T ((Int×List Int) ⊕ (Bool×Int×List Int)):=
 .bf (decide (a.1>=0)) (
  .bd (gq p0 none (some a.1) (some a.1)) λz0=>
   .bd (pN sh z0) λy1=>
    .bd (app 8 a.2 [y1.1]) λz2=>
     .ok (.inl ((β.wrap (a.1-1)),z2)))<|
 .ok (.inr ((decide (a.1>=0)),a.1,a.2))
noncomputable def K6 (sh:Sh) (p0:List ByteArray) (p1 p2:Int) (p3:List Int):Option ((Bool×Int×List Int)):=cA sh (vG sh p0 p1) 1000000 (p2,p3)
noncomputable def agh {R:Type} (k:AX->AS SS->Option R) (p0:List ByteArray) (p1:Int) (x:(Bool×Int×List Int)):Option R:=(λv=>k (.exit 0) (aj9 p0 p1 v.1 v.2.1 v.2.2)) x
noncomputable def Zl:bH SS:=bT 7 (λst=>(bB 192 (bg st 0 0)).bind λp0=>(bq (bg st 0 1)).bind λp1=>(bq (aZ st 7 0)).bind λp2=>(c9 st 1 35).bind λp3=>some (p0,p1,p2,p3)) (λp=>Gm p.1 p.2.1 p.2.2.1 p.2.2.2) (λp=>K6 shut p.1 p.2.1 p.2.2.1 p.2.2.2) (λk p=>agh k p.1 p.2.1)
theorem aqt:aG KK γ ⟨ζG,ar 207⟩ (bQ (a_ ζG) 7) Zl:=
 aG.cA (π:=List ByteArray×Int×Int×List Int) (σ:=Int×List Int) (an.all J' rfl) (ao.nil) rfl 60 (λp a=>Gm p.1 p.2.1 a.1 a.2) (λp=>(p.2.2.1,p.2.2.2)) (St:=λp=>vG shut p.1 p.2.1) (λp=>1000000) (λp=>rfl)
  (λm p a k=>by kernel_rfl)
noncomputable def TH:ay SS:= { (CK shut) with T:=bm ((CK shut).T) 207 ⟨⟨ζG,ar 207⟩,[Zl]⟩ }
theorem aeH:aJ TH γ:=(aJ.b8 (an.all J' rfl) Tryz.func207 rfl bn λc hc=>by cases hc;exact ao.cons (ao.nil) (by kernel_rfl) aqt)
noncomputable def Es (sh:Sh) (w:Int):T (List Int×Int):=
 .bd (tC sh w) λy0=>
  .bf (!y0.2) (
   .ok ([],310))<|
  .gd (Gm y0.1.lG y0.1.zm (↑y0.1.lG.length:Int) [])<|
   .bd (K6 sh y0.1.lG y0.1.zm ((↑y0.1.lG.length:Int)) []) λy1=>
    .ok (y1.2.2,0)
noncomputable def MO (sh:Sh) (w:Int):Option (List Int×Int):=sh.s _ (Es sh w).val
theorem as0:R1 KK TH 207 35 [130,27] (Es shut) (dE KK 130 27):=by intro R w k;kernel_rfl
noncomputable def aip (sh:Sh):bO SS:=fS KK 207 35 (MO sh) (dE KK 130 27)
noncomputable def CL (sh:Sh):ay SS:=cq (aip sh) (CK sh)
theorem Ka:an (CL shut) γ:=gm J' aeH rfl rfl as0
noncomputable def GA (p0 p1:List ByteArray) (p2:Int):AS SS:=⟨[(0,(vd 192 p0)),(1,(vd 192 p1)),(12,(vl p0)),(13,(vi p2))],[],0,none,false,[],[]⟩
noncomputable def acv (p0 p1:List ByteArray):AS SS:=GA p0 p1 0
noncomputable def aky (p0 p1:List ByteArray):AS SS:= { GA p0 p1 0 with env:=[(4,(vb false))] }
noncomputable def akz (p0 p1:List ByteArray) (a0:Bool) (a1:Int):AS SS:=xe [(14,(vb a0))] (GA p0 p1 a1)
noncomputable def DK (sh:Sh) (p0 p1:List ByteArray) (p2:Int) (z0:ByteArray) (a:Unit):T (Unit ⊕ Unit ⊕ (Bool×Int)):=
 .bd (idx p1 p2) λz1=>
  .bf (!ByteArray.toList z0==ByteArray.toList z1) (
   .ok (.inr (.inl ())))<|
  .ok (.inl ())
noncomputable def Ci (sh:Sh) (p0 p1:List ByteArray) (p2:Int) (a:Unit):T (Unit ⊕ (Bool×Int)):=
 .ok (.inr ((decide (p2<(↑p0.length:Int))),p2))
noncomputable def Lm (sh:Sh) (p0 p1:List ByteArray):Option (Unit ⊕ (Bool×Int)):=cS sh (DK sh p0 p1) (Ci sh p0 p1) p0 ()
noncomputable def agC {R:Type} (k:AX->AS SS->Option R) (p0 p1:List ByteArray) (x:Unit ⊕ (Bool×Int)):Option R:=(λx=>ξs (λv=>k .ret (aky p0 p1)) (λv=>k (.exit 0) (akz p0 p1 v.1 v.2)) x) x
noncomputable def Zy:bH SS:=bT 5 (λst=>(bB 192 (aZ st 0 0)).bind λp0=>(bB 192 (aZ st 1 0)).bind λp1=>some (p0,p1)) (λp=>acv p.1 p.2) (λp=>Lm shut p.1 p.2) (λk p=>agC k p.1 p.2)
theorem aqL:aG KK γ ⟨ζH,ar 312⟩ (bQ (a_ ζH) 5) Zy:=
 aG.c6 (π:=List ByteArray×List ByteArray) (σ:=Unit) (an.all Ka rfl) (ao.nil) rfl 60 (λp i a=>GA p.1 p.2 i) (λp=>p.1) (λp=>()) (St:=λp=>DK shut p.1 p.2) (F:=λp=>Ci shut p.1 p.2) (λp=>rfl)
  (λm p i a k=>by kernel_rfl) (by rintro p (x|x)<;>exact⟨_,_,λ_=>rfl⟩) (λp N C A O w a hr=>dQ hr (t:=192) (sl:=0) rfl λv h=>h)
noncomputable def TM:ay SS:= { (CL shut) with T:=bm ((CL shut).T) 312 ⟨⟨ζH,ar 312⟩,[Zy]⟩ }
theorem aeL:aJ TM γ:=(aJ.b8 (an.all Ka rfl) Tryz.func312 rfl bn λc hc=>by cases hc;exact ao.cons (ao.nil) (by kernel_rfl) aqL)
noncomputable def Ev (sh:Sh) (a b:Int):T (Bool):=
 .bd (tC sh a) λy0=>
  .bd (tC sh b) λy1=>
   .bf (y0.2) (
    .bf (y1.2) (
     .bf (decide ((↑y0.1.lG.length:Int)<=(↑y1.1.lG.length:Int))) (
      .bd (gq y1.1.lG none (some (↑y0.1.lG.length:Int)) none) λz2=>
       .bf ((↑y0.1.lG.length:Int) !=(↑z2.length:Int)) (
        .ok false)<|
       .gd (acv y0.1.lG z2)<|
        .bd (Lm sh y0.1.lG z2) λx9=> .cs x9 (λ_=>
         .ok false) λy3=>
         .ok true)<|
     .ok false)<|
    .ok false)<|
   .ok false
noncomputable def MP (sh:Sh) (a b:Int):Option (Bool):=sh.s _ (Ev sh a b).val
theorem as4:R2 KK TM 268 35 35 [4] (Ev shut) (b5 KK 4):=by intro R a b k;kernel_rfl
noncomputable def ais (sh:Sh):bO SS:=eH KK 268 35 35 (MP sh) (b5 KK 4)
noncomputable def CO (sh:Sh):ay SS:=cq (ais sh) (CL sh)
theorem Ke:an (CO shut) γ:=eS Ka aeL rfl rfl as4
noncomputable def Nw (p0:List aw) (p1:Int) (p2:List (Int×Int)):AS SS:=⟨[(3,(vs (.mp 0))),(8,(vd 52 p0)),(9,(vl p0)),(10,(vi p1))],[(some (.map .u64 .u64 p2))],0,none,false,[],[]⟩
noncomputable def ab4 (p0:List aw) (p2:List (Int×Int)):AS SS:=Nw p0 0 p2
noncomputable def ajd (p0:List aw) (a0:Bool) (a1:Int) (a2:List (Int×Int)):AS SS:=xe [(11,(vb a0))] (Nw p0 a1 a2)
noncomputable def US (sh:Sh) (p0:List aw) (p1:Int) (z0:aw) (a:(List (Int×Int))):T (((List (Int×Int))) ⊕ (Bool×Int×(List (Int×Int)))):=
 .ok (.inl (dk a z0.bC z0.bj))
noncomputable def Je (sh:Sh) (p0:List aw) (p1:Int) (a:(List (Int×Int))):T ((Bool×Int×(List (Int×Int)))):=
 .ok ((decide (p1<(↑p0.length:Int))),p1,a)
noncomputable def KH (sh:Sh) (p0:List aw) (p2:List (Int×Int)):Option ((Bool×Int×(List (Int×Int)))):=cS sh (US sh p0) (Je sh p0) p0 p2
noncomputable def afL {R:Type} (k:AX->AS SS->Option R) (p0:List aw) (x:(Bool×Int×(List (Int×Int)))):Option R:=(λv=>k (.exit 0) (ajd p0 v.1 v.2.1 v.2.2)) x
noncomputable def Y2:bH SS:=bT 4 (λst=>(bB 52 (aZ st 8 0)).bind λp0=>(lM st 0).bind λp2=>some (p0,p2)) (λp=>ab4 p.1 p.2) (λp=>KH shut p.1 p.2) (λk p=>afL k p.1)
theorem ap6:aG KK γ ⟨ξ6,ar 105⟩ (bQ (a_ ξ6) 4) Y2:=
 aG.c6 (π:=List aw×(List (Int×Int))) (σ:=(List (Int×Int))) (an.all Ke rfl) (ao.nil) rfl 60 (λp i a=>Nw p.1 i a) (λp=>p.1) (λp=>p.2) (St:=λp=>US shut p.1) (F:=λp=>Je shut p.1) (λp=>rfl)
  (λm p i a k=>by kernel_rfl) (λp x=>⟨_,_,λ_=>rfl⟩) (λp N C A O w a hr=>dQ hr (t:=52) (sl:=8) rfl λv h=>h)
noncomputable def Tq:ay SS:= { (CO shut) with T:=bm ((CO shut).T) 105 ⟨⟨ξ6,ar 105⟩,[Y2]⟩ }
theorem aer:aJ Tq γ:=(aJ.b8 (an.all Ke rfl) ξU rfl bn λc hc=>by cases hc;exact ao.cons (ao.nil) (by kernel_rfl) ap6)
noncomputable def Ed (sh:Sh) (m:cp) (w:Int):T (cp×Int×Int):=
 .bd (wj sh m w) λy0=>
  .bf (y0 !=0) (
   .ok (⟨[],0⟩,0,y0))<|
  .gd (ab4 m.ae [])<|
   .bd (KH sh m.ae []) λy1=>
    .bf (match b6 y1.2.2 w with
|some val=>true
|none=>false) (
     .ok (⟨[],0⟩,0,5))<|
    .bf ((↑m.ae.length:Int)==16) (
     .ok (⟨[],0⟩,0,6))<|
    .bf (decide (m.bE>1073741824)) (
     .ok (⟨[],0⟩,0,6))<|
    .bd (nR 16 ((↑m.ae.length:Int)) (β.wrap ((↑m.ae.length:Int)+1)) (aw.mk 0 0)) λz2=>
     .bd (app 16 (ez z2 m.ae) [aw.mk w m.bE]) λz3=>
      .ok (⟨z3,(θ.wrap (m.bE+1))⟩,m.bE,0)
noncomputable def FG (sh:Sh) (m:cp) (w:Int):Option (cp×Int×Int):=sh.s _ (Ed sh m w).val
theorem asL:R2 KK Tq 162 54 35 [54,35,27] (Ed shut) (m_ KK 54 35 27):=by intro R m w k;kernel_rfl
noncomputable def ah9 (sh:Sh):bO SS:=eH KK 162 54 35 (FG sh) (m_ KK 54 35 27)
noncomputable def CF (sh:Sh):ay SS:=cq (ah9 sh) (CO sh)
theorem JW:an (CF shut) γ:=eS Ke aer rfl rfl asL
noncomputable def Nx (p0:List aw) (p1:Int) (p2:List (Int×Int)):AS SS:=⟨[(3,(vs (.mp 0))),(8,(vd 52 p0)),(9,(vl p0)),(10,(vi p1))],[(some (.map .u64 .u64 p2))],0,none,false,[],[]⟩
noncomputable def ab5 (p0:List aw) (p2:List (Int×Int)):AS SS:=Nx p0 0 p2
noncomputable def aje (p0:List aw) (a0:Bool) (a1:Int) (a2:List (Int×Int)):AS SS:=xe [(11,(vb a0))] (Nx p0 a1 a2)
noncomputable def UT (sh:Sh) (p0:List aw) (p1:Int) (z0:aw) (a:(List (Int×Int))):T (((List (Int×Int))) ⊕ (Bool×Int×(List (Int×Int)))):=
 .ok (.inl (dk a z0.bC z0.bj))
noncomputable def Jf (sh:Sh) (p0:List aw) (p1:Int) (a:(List (Int×Int))):T ((Bool×Int×(List (Int×Int)))):=
 .ok ((decide (p1<(↑p0.length:Int))),p1,a)
noncomputable def KI (sh:Sh) (p0:List aw) (p2:List (Int×Int)):Option ((Bool×Int×(List (Int×Int)))):=cS sh (UT sh p0) (Jf sh p0) p0 p2
noncomputable def afM {R:Type} (k:AX->AS SS->Option R) (p0:List aw) (x:(Bool×Int×(List (Int×Int)))):Option R:=(λv=>k (.exit 0) (aje p0 v.1 v.2.1 v.2.2)) x
noncomputable def Y3:bH SS:=bT 4 (λst=>(bB 52 (aZ st 8 0)).bind λp0=>(lM st 0).bind λp2=>some (p0,p2)) (λp=>ab5 p.1 p.2) (λp=>KI shut p.1 p.2) (λk p=>afM k p.1)
theorem ap7:aG KK γ ⟨ξ6,ar 105⟩ (bQ (a_ ξ6) 4) Y3:=
 aG.c6 (π:=List aw×(List (Int×Int))) (σ:=(List (Int×Int))) (an.all JW rfl) (ao.nil) rfl 60 (λp i a=>Nx p.1 i a) (λp=>p.1) (λp=>p.2) (St:=λp=>UT shut p.1) (F:=λp=>Jf shut p.1) (λp=>rfl)
  (λm p i a k=>by kernel_rfl) (λp x=>⟨_,_,λ_=>rfl⟩) (λp N C A O w a hr=>dQ hr (t:=52) (sl:=8) rfl λv h=>h)
noncomputable def Ts:ay SS:= { (CF shut) with T:=bm ((CF shut).T) 105 ⟨⟨ξ6,ar 105⟩,[Y3]⟩ }
theorem aes:aJ Ts γ:=(aJ.b8 (an.all JW rfl) ξU rfl bn λc hc=>by cases hc;exact ao.cons (ao.nil) (by kernel_rfl) ap7)
noncomputable def Ee (sh:Sh) (m:cp) (w:Int):T (Int×Int):=
 .bd (wj sh m w) λy0=>
  .bf (y0 !=0) (
   .ok (0,y0))<|
  .gd (ab5 m.ae [])<|
   .bd (KI sh m.ae []) λy1=>
    .bf (!match b6 y1.2.2 w with
 |some val=>true
 |none=>false) (
     .ok (0,4))<|
    .ok ((match b6 y1.2.2 w with
|some x=>x
|none=>0),0)
noncomputable def FH (sh:Sh) (m:cp) (w:Int):Option (Int×Int):=sh.s _ (Ee sh m w).val
theorem asM:R2 KK Ts 164 54 35 [35,27] (Ee shut) (dE KK 35 27):=by intro R m w k;kernel_rfl
noncomputable def ah_ (sh:Sh):bO SS:=eH KK 164 54 35 (FH sh) (dE KK 35 27)
noncomputable def rf (sh:Sh):ay SS:=cq (ah_ sh) (CF sh)
theorem JX:an (rf shut) γ:=eS JW aes rfl rfl asM
noncomputable def Ny (p0:List aw) (p1:Int) (p2:List (Int×Int)):AS SS:=⟨[(3,(vs (.mp 0))),(8,(vd 52 p0)),(9,(vl p0)),(10,(vi p1))],[(some (.map .u64 .u64 p2))],0,none,false,[],[]⟩
noncomputable def ab6 (p0:List aw) (p2:List (Int×Int)):AS SS:=Ny p0 0 p2
noncomputable def ajf (p0:List aw) (a0:Bool) (a1:Int) (a2:List (Int×Int)):AS SS:=xe [(11,(vb a0))] (Ny p0 a1 a2)
noncomputable def UU (sh:Sh) (p0:List aw) (p1:Int) (z0:aw) (a:(List (Int×Int))):T (((List (Int×Int))) ⊕ (Bool×Int×(List (Int×Int)))):=
 .ok (.inl (dk a z0.bC z0.bj))
noncomputable def Jg (sh:Sh) (p0:List aw) (p1:Int) (a:(List (Int×Int))):T ((Bool×Int×(List (Int×Int)))):=
 .ok ((decide (p1<(↑p0.length:Int))),p1,a)
noncomputable def KJ (sh:Sh) (p0:List aw) (p2:List (Int×Int)):Option ((Bool×Int×(List (Int×Int)))):=cS sh (UU sh p0) (Jg sh p0) p0 p2
noncomputable def afN {R:Type} (k:AX->AS SS->Option R) (p0:List aw) (x:(Bool×Int×(List (Int×Int)))):Option R:=(λv=>k (.exit 0) (ajf p0 v.1 v.2.1 v.2.2)) x
noncomputable def HC:bH SS:=bT 4 (λst=>(bB 52 (aZ st 8 0)).bind λp0=>(lM st 0).bind λp2=>some (p0,p2)) (λp=>ab6 p.1 p.2) (λp=>KJ shut p.1 p.2) (λk p=>afN k p.1)
theorem ap8:aG KK γ ⟨ξ6,ar 105⟩ (bQ (a_ ξ6) 4) HC:=
 aG.c6 (π:=List aw×(List (Int×Int))) (σ:=(List (Int×Int))) (an.all JX rfl) (ao.nil) rfl 60 (λp i a=>Ny p.1 i a) (λp=>p.1) (λp=>p.2) (St:=λp=>UU shut p.1) (F:=λp=>Jg shut p.1) (λp=>rfl)
  (λm p i a k=>by kernel_rfl) (λp x=>⟨_,_,λ_=>rfl⟩) (λp N C A O w a hr=>dQ hr (t:=52) (sl:=8) rfl λv h=>h)
noncomputable def NV (p0:List aw) (p1 p2 p3:Int):AS SS:=⟨[(0,(vs .eL)),(2,(va 6 0)),(7,(vd 52 p0)),(8,(vl p0)),(9,(vi p3))],[(bX 54 [(.aU 52 p0),(lu p1)]),(bX 35 [(lu p2)]),(bX 54 [(.v (.slice none 0 0)),(lu 0)]),(bX 27 [(li 0)]),(some (.bI 267 [] [(.one (.bp 5 0)),(.one (.bp 6 0))])),(bX 54 [(.aU 52 p0),(lu p1)]),(bX 35 [(lu p2)])],7,(some ⟨⟨ξV,ar 166⟩,[29],(iG (a_ ξV) 9),(iH (a_ ξV) 9),[(2,(va 0 0)),(3,(va 1 0)),(4,(va 2 0)),(5,(va 3 0)),(28,(vc 4))],none⟩),false,[],[]⟩
noncomputable def acs (p0:List aw) (p1 p2:Int):AS SS:=NV p0 p1 p2 0
noncomputable def akq (p0:List aw) (p1 p2:Int):AS SS:=⟨[],[(bX 54 [(.aU 52 p0),(lu p1)]),(bX 35 [(lu p2)]),(bX 54 [(.v (.slice none 0 0)),(lu 0)]),(bX 27 [(li 341)]),(some (.bI 267 [] [(.one (.bp 5 0)),(.one (.bp 6 0))])),(bX 54 [(.aU 52 p0),(lu p1)]),(bX 35 [(lu p2)])],7,(some ⟨⟨ξV,ar 166⟩,[29],(iG (a_ ξV) 9),(iH (a_ ξV) 9),[(2,(va 0 0)),(3,(va 1 0)),(4,(va 2 0)),(5,(va 3 0)),(28,(vc 4))],(some .ret)⟩),false,[],[2,3]⟩
noncomputable def akr (p0:List aw) (p1 p2:Int) (a0:Bool) (a1:Int):AS SS:= { NV p0 p1 p2 p1 with env:=[(10,(vb a0)),(0,(vs .eL)),(2,(va 6 0)),(7,(vd 52 p0)),(8,(vl p0)),(9,(vi a1))] }
noncomputable def DI (sh:Sh) (p0:List aw) (p1 p2 p3:Int) (z0:aw) (a:Unit):T (Unit ⊕ Unit ⊕ (Bool×Int)):=
 .bf (z0.bC !=p2) (
  .bd (MP sh p2 z0.bC) λy1=>
   .bf (y1) (
    .ok (.inr (.inl ())))<|
   .ok (.inl ()))<|
 .ok (.inl ())
noncomputable def Cg (sh:Sh) (p0:List aw) (p1 p2 p3:Int) (a:Unit):T (Unit ⊕ (Bool×Int)):=
 .ok (.inr ((decide (p3<(↑p0.length:Int))),p3))
noncomputable def Lg (sh:Sh) (p0:List aw) (p1 p2:Int):Option (Unit ⊕ (Bool×Int)):=cS sh (DI sh p0 p1 p2) (Cg sh p0 p1 p2) p0 ()
noncomputable def agv {R:Type} (k:AX->AS SS->Option R) (p0:List aw) (p1 p2:Int) (x:Unit ⊕ (Bool×Int)):Option R:=(λx=>ξs (λv=>k .ret (akq p0 p1 p2)) (λv=>k (.exit 0) (akr p0 p1 p2 v.1 v.2)) x) x
noncomputable def P':bH SS:=bT 2 (λst=>((dB st 4 267).bind λ_=>lQ st 38 9).bind λ_=>(bB 52 (aZ st 7 0)).bind λp0=>(bq (bg st 0 1)).bind λp1=>(bq (bg st 1 0)).bind λp2=>some (p0,p1,p2)) (λp=>acs p.1 p.2.1 p.2.2) (λp=>Lg shut p.1 p.2.1 p.2.2) (λk p=>agv k p.1 p.2.1 p.2.2)
noncomputable def aeu:ay SS:= { (rf shut) with T:=bm ((rf shut).T) 105 ⟨⟨ξ6,ar 105⟩,[HC]⟩ }
theorem Tu:aJ aeu γ:=(aJ.b8 (an.all JX rfl) ξU rfl bn λc hc=>by cases hc;exact ao.cons (ao.nil) (by kernel_rfl) ap8)
theorem aqF:aG KK γ ⟨ζj,ar 267⟩ (bQ (a_ ζj) 2) P':=
 aG.c6 (π:=List aw×Int×Int) (σ:=Unit) Tu (ao.nil) rfl 60 (λp i a=>NV p.1 p.2.1 p.2.2 i) (λp=>p.1) (λp=>()) (St:=λp=>DI shut p.1 p.2.1 p.2.2) (F:=λp=>Cg shut p.1 p.2.1 p.2.2) (λp=>rfl)
  (λm p i a k=>by kernel_rfl) (by rintro p (x|x)<;>exact⟨_,_,λ_=>rfl⟩) (λp N C A O w a hr=>dQ hr (t:=52) (sl:=7) rfl λv h=>h)
noncomputable def NR (p0:List aw) (p1 p2:Int) (p3:List aw):AS SS:=⟨[(1,(vc 0)),(5,(vo 2)),(8,(vd 52 p0)),(9,(vl p0)),(10,(vi p2))],[(some (.bI 218 [] [(.one (.bp 1 0))])),(bX 35 [(lu p1)]),(rX 122 p3)],2,none,false,[],[]⟩
noncomputable def acn (p0:List aw) (p1:Int) (p3:List aw):AS SS:=NR p0 p1 0 p3
noncomputable def akb (p0:List aw) (p1:Int) (a0:Bool) (a1:Int) (a2:List aw):AS SS:= { NR p0 p1 p1 a2 with env:=[(11,(vb a0)),(1,(vc 0)),(5,(vo 2)),(8,(vd 52 p0)),(9,(vl p0)),(10,(vi a1))] }
noncomputable def DC (sh:Sh) (p0:List aw) (p1 p2:Int) (z0:aw) (a:List aw):T (List aw ⊕ (Bool×Int×List aw)):=
 .bf (z0.bC !=p1) (
  .bd (app 16 a [z0]) λz1=>
   .ok (.inl z1))<|
 .ok (.inl a)
noncomputable def Cb (sh:Sh) (p0:List aw) (p1 p2:Int) (a:List aw):T ((Bool×Int×List aw)):=
 .ok ((decide (p2<(↑p0.length:Int))),p2,a)
noncomputable def K9 (sh:Sh) (p0:List aw) (p1:Int) (p3:List aw):Option ((Bool×Int×List aw)):=cS sh (DC sh p0 p1) (Cb sh p0 p1) p0 p3
noncomputable def agk {R:Type} (k:AX->AS SS->Option R) (p0:List aw) (p1:Int) (x:(Bool×Int×List aw)):Option R:=(λv=>k (.exit 0) (akb p0 p1 v.1 v.2.1 v.2.2)) x
noncomputable def Zn:bH SS:=bT 4 (λst=>(dB st 0 218).bind λ_=>(bB 52 (aZ st 8 0)).bind λp0=>(bq (bg st 1 0)).bind λp1=>(c9 st 2 122).bind λp3=>some (p0,p1,p3)) (λp=>acn p.1 p.2.1 p.2.2) (λp=>K9 shut p.1 p.2.1 p.2.2) (λk p=>agk k p.1 p.2.1)
noncomputable def aew:ay SS:= { (rf shut) with T:=bm (bm ((rf shut).T) 105 ⟨⟨ξ6,ar 105⟩,[HC]⟩) 267 ⟨⟨ζj,ar 267⟩,[P']⟩ }
theorem Tv:aJ aew γ:=(aJ.b8 Tu Tryz.func267 rfl bn λc hc=>by cases hc;exact ao.cons (ao.nil) (by kernel_rfl) aqF)
theorem aqw:aG KK γ ⟨ζI,ar 217⟩ (bQ (a_ ζI) 4) Zn:=
 aG.c6 (π:=List aw×Int×List aw) (σ:=List aw) Tv (ao.nil) rfl 60 (λp i a=>NR p.1 p.2.1 i a) (λp=>p.1) (λp=>p.2.2) (St:=λp=>DC shut p.1 p.2.1) (F:=λp=>Cb shut p.1 p.2.1) (λp=>rfl)
  (λm p i a k=>by kernel_rfl) (λp x=>⟨_,_,λ_=>rfl⟩) (λp N C A O w a hr=>dQ hr (t:=52) (sl:=8) rfl λv h=>h)
noncomputable def Tw:ay SS:= { (rf shut) with T:=bm (bm (bm ((rf shut).T) 105 ⟨⟨ξ6,ar 105⟩,[HC]⟩) 267 ⟨⟨ζj,ar 267⟩,[P']⟩) 217 ⟨⟨ζI,ar 217⟩,[Zn]⟩ }
theorem aex:aJ Tw γ:=(aJ.b8 Tv Tryz.func217 rfl bn λc hc=>by cases hc;exact ao.cons (ao.nil) (by kernel_rfl) aqw)
noncomputable def Eg (sh:Sh) (m:cp) (w:Int):T (cp×Int):=
 .bd (wj sh m w) λy0=>
  .bf (y0 !=0) (
   .ok (⟨[],0⟩,y0))<|
  .gd (ab6 m.ae [])<|
   .bd (KJ sh m.ae []) λy1=>
    .bf (!match b6 y1.2.2 w with
 |some val=>true
 |none=>false) (
     .ok (⟨[],0⟩,4))<|
    .gd (acs m.ae m.bE w)<|
     .bd (Lg sh m.ae m.bE w) λx6=> .cs x6 (λ_=>
      .ok (⟨[],0⟩,341)) λy2=>
      .gd (acn m.ae w [])<|
       .bd (K9 sh m.ae w []) λy3=>
        .ok (⟨y3.2.2,m.bE⟩,0)
noncomputable def FJ (sh:Sh) (m:cp) (w:Int):Option (cp×Int):=sh.s _ (Eg sh m w).val
theorem asO:R2 KK Tw 166 54 35 [54,27] (Eg shut) (dE KK 54 27):=by intro R m w k;kernel_rfl
noncomputable def aia (sh:Sh):bO SS:=eH KK 166 54 35 (FJ sh) (dE KK 54 27)
noncomputable def vv (sh:Sh):ay SS:=cq (aia sh) (rf sh)
theorem JZ:an (vv shut) γ:=eS JX aex rfl rfl asO
noncomputable def Nv (p0:List aw) (p1:Int) (p2:List (Int×Int)):AS SS:=⟨[(3,(vs (.mp 0))),(8,(vd 52 p0)),(9,(vl p0)),(10,(vi p1))],[(some (.map .u64 .u64 p2))],0,none,false,[],[]⟩
noncomputable def ab3 (p0:List aw) (p2:List (Int×Int)):AS SS:=Nv p0 0 p2
noncomputable def ajc (p0:List aw) (a0:Bool) (a1:Int) (a2:List (Int×Int)):AS SS:=xe [(11,(vb a0))] (Nv p0 a1 a2)
noncomputable def UR (sh:Sh) (p0:List aw) (p1:Int) (z0:aw) (a:(List (Int×Int))):T (((List (Int×Int))) ⊕ (Bool×Int×(List (Int×Int)))):=
 .ok (.inl (dk a z0.bC z0.bj))
noncomputable def Jd (sh:Sh) (p0:List aw) (p1:Int) (a:(List (Int×Int))):T ((Bool×Int×(List (Int×Int)))):=
 .ok ((decide (p1<(↑p0.length:Int))),p1,a)
noncomputable def KG (sh:Sh) (p0:List aw) (p2:List (Int×Int)):Option ((Bool×Int×(List (Int×Int)))):=cS sh (UR sh p0) (Jd sh p0) p0 p2
noncomputable def afK {R:Type} (k:AX->AS SS->Option R) (p0:List aw) (x:(Bool×Int×(List (Int×Int)))):Option R:=(λv=>k (.exit 0) (ajc p0 v.1 v.2.1 v.2.2)) x
noncomputable def PX:bH SS:=bT 4 (λst=>(bB 52 (aZ st 8 0)).bind λp0=>(lM st 0).bind λp2=>some (p0,p2)) (λp=>ab3 p.1 p.2) (λp=>KG shut p.1 p.2) (λk p=>afK k p.1)
theorem ap5:aG KK γ ⟨ξ6,ar 105⟩ (bQ (a_ ξ6) 4) PX:=
 aG.c6 (π:=List aw×(List (Int×Int))) (σ:=(List (Int×Int))) (an.all JZ rfl) (ao.nil) rfl 60 (λp i a=>Nv p.1 i a) (λp=>p.1) (λp=>p.2) (St:=λp=>UR shut p.1) (F:=λp=>Jd shut p.1) (λp=>rfl)
  (λm p i a k=>by kernel_rfl) (λp x=>⟨_,_,λ_=>rfl⟩) (λp N C A O w a hr=>dQ hr (t:=52) (sl:=8) rfl λv h=>h)
noncomputable def Gf (p0:List Int) (p1:List (Int×Int)) (p2 p3:Int):AS SS:=⟨[(10,(vc 0)),(11,(vu p2)),(28,(vd 130 p0)),(29,(vl p0)),(30,(vi p3))],[(some (.bI 208 [] [(.one (.bp 1 0))])),(bX 171 [(.mp 2)]),(some (.map .u64 .u64 p1))],0,none,false,[],[]⟩
noncomputable def acd (p0:List Int) (p1:List (Int×Int)) (p2:Int):AS SS:=Gf p0 p1 p2 0
noncomputable def ajM (p0:List Int) (p1:List (Int×Int)) (a0:Bool) (a1 a2:Int) (a3:Bool) (a4 a5:Int):AS SS:= { Gf p0 p1 a1 a1 with env:=[(38,(vb a0)),(37,(vu a1)),(11,(vu a1)),(36,(vu a1)),(35,(vu a2)),(34,(vc 0)),(13,(vu a2)),(33,(vu a2)),(32,(vs (.ptr 35 a2 0))),(31,(vb a3)),(10,(vc 0)),(11,(vu a4)),(28,(vd 130 p0)),(29,(vl p0)),(30,(vi a5))] }
noncomputable def ajN (p0:List Int) (p1:List (Int×Int)) (a0:Bool) (a1 a2:Int):AS SS:= { Gf p0 p1 a1 a1 with env:=[(31,(vb a0)),(10,(vc 0)),(11,(vu a1)),(28,(vd 130 p0)),(29,(vl p0)),(30,(vi a2))] }
noncomputable def ym (sh:Sh) (p0:List Int) (p1:List (Int×Int)) (p3 z0 a:Int):T (Int ⊕ (Bool×Int×Int×Bool×Int×Int) ⊕ (Bool×Int×Int)):=
 .bf (decide ((b6 p1 z0).getD 0>0)) (
  .ok (.inr (.inl ((decide ((b6 p1 z0).getD 0>0)),((b6 p1 z0).getD 0),z0,(decide (p3<(↑p0.length:Int))),a,p3))))<|
 .ok (.inl ((b6 p1 z0).getD 0))
noncomputable def Jk (sh:Sh) (p0:List Int) (p1:List (Int×Int)) (p3 a:Int):T ((Bool×Int×Int×Bool×Int×Int) ⊕ (Bool×Int×Int)):=
 .ok (.inr ((decide (p3<(↑p0.length:Int))),a,p3))
noncomputable def KU (sh:Sh) (p0:List Int) (p1:List (Int×Int)) (p2:Int):Option ((Bool×Int×Int×Bool×Int×Int) ⊕ (Bool×Int×Int)):=cS sh (ym sh p0 p1) (Jk sh p0 p1) p0 p2
noncomputable def af4 {R:Type} (k:AX->AS SS->Option R) (p0:List Int) (p1:List (Int×Int)) (x:(Bool×Int×Int×Bool×Int×Int) ⊕ (Bool×Int×Int)):Option R:=(λx=>ξs (λv=>k (.exit 0) (ajM p0 p1 v.1 v.2.1 v.2.2.1 v.2.2.2.1 v.2.2.2.2.1 v.2.2.2.2.2)) (λv=>k (.exit 0) (ajN p0 p1 v.1 v.2.1 v.2.2)) x) x
noncomputable def Zb:bH SS:=bT 10 (λst=>(dB st 0 208).bind λ_=>(bB 130 (aZ st 28 0)).bind λp0=>(lM st 2).bind λp1=>(bq (aZ st 11 0)).bind λp2=>some (p0,p1,p2)) (λp=>acd p.1 p.2.1 p.2.2) (λp=>KU shut p.1 p.2.1 p.2.2) (λk p=>af4 k p.1 p.2.1)
noncomputable def aek:ay SS:= { (vv shut) with T:=bm ((vv shut).T) 105 ⟨⟨ξ6,ar 105⟩,[PX]⟩ }
theorem Tj:aJ aek γ:=(aJ.b8 (an.all JZ rfl) ξU rfl bn λc hc=>by cases hc;exact ao.cons (ao.nil) (by kernel_rfl) ap5)
theorem aqi:aG KK γ ⟨ζJ,ar 156⟩ (bQ (a_ ζJ) 10) Zb:=
 aG.c6 (π:=List Int×(List (Int×Int))×Int) (σ:=Int) Tj (ao.nil) rfl 60 (λp i a=>Gf p.1 p.2.1 a i) (λp=>p.1) (λp=>p.2.2) (St:=λp=>ym shut p.1 p.2.1) (F:=λp=>Jk shut p.1 p.2.1) (λp=>rfl)
  (λm p i a k=>by kernel_rfl) (by rintro p (x|x)<;>exact⟨_,_,λ_=>rfl⟩) (λp N C A O w a hr=>dQ hr (t:=130) (sl:=28) rfl λv h=>h)
noncomputable def Tk:ay SS:= { (vv shut) with T:=bm (bm ((vv shut).T) 105 ⟨⟨ξ6,ar 105⟩,[PX]⟩) 156 ⟨⟨ζJ,ar 156⟩,[Zb]⟩ }
theorem ael:aJ Tk γ:=(aJ.b8 Tj Tryz.func156 rfl bn λc hc=>by cases hc;exact ao.cons (ao.nil) (by kernel_rfl) aqi)
noncomputable def D9 (sh:Sh) (m:cp) (w:Int):T (Int×Int):=
 .bd (wj sh m w) λy0=>
  .bf (y0 !=0) (
   .ok (0,y0))<|
  .bd (MO sh w) λy1=>
   .gd (ab3 m.ae [])<|
    .bd (KG sh m.ae []) λy2=>
     .gd (acd y1.1 y2.2.2 0)<|
      .bd (KU sh y1.1 y2.2.2 0) λx7=> .cs x7 (λy3=>
       .bf (y3.2.1==0) (
        .ok (0,4))<|
       .ok (y3.2.1,0)) λy3=>
       .bf (y3.2.1==0) (
        .ok (0,4))<|
       .ok (y3.2.1,0)
noncomputable def wh (sh:Sh) (m:cp) (w:Int):Option (Int×Int):=sh.s _ (D9 sh m w).val
theorem asG:R2 KK Tk 156 54 35 [35,27] (D9 shut) (dE KK 35 27):=by intro R m w k;kernel_rfl
noncomputable def ah4 (sh:Sh):bO SS:=eH KK 156 54 35 (wh sh) (dE KK 35 27)
noncomputable def CE (sh:Sh):ay SS:=cq (ah4 sh) (vv sh)
theorem JS:an (CE shut) γ:=eS JZ ael rfl rfl asG
noncomputable def Gu (p0:List az) (p1:List aq) (p2 p3 p4:Int) (p5:List Int):AS SS:=⟨[(0,(vs .eL)),(2,(va 3 0)),(7,(vd 55 p0)),(8,(vi p3)),(9,(vi p4))],[(bX 130 [(.own 4)]),(some (.bI 260 [] [(.one (.bp 2 0)),(.one (.bp 3 0))])),(bX 58 [(.aU 55 p0),(.aU 56 p1)]),(bX 35 [(lu p2)]),(rX 35 p5)],4,(some ⟨⟨ζK,ar 150⟩,[13],(iG (a_ ζK) 7),(iH (a_ ζK) 7),[(5,(va 0 0)),(12,(vc 1))],none⟩),false,[],[0]⟩
noncomputable def akm (p0:List az) (p1:List aq) (p2 p3:Int) (a0:Bool) (a1:Int) (a2:List Int):AS SS:= { Gu p0 p1 p2 p3 p2 a2 with env:=[(10,(vb a0)),(0,(vs .eL)),(2,(va 3 0)),(7,(vd 55 p0)),(8,(vi p3)),(9,(vi a1))] }
noncomputable def yr (sh:Sh) (p0:List az) (p1:List aq) (p2 p3:Int) (a:Int×List Int):T ((Int×List Int) ⊕ (Bool×Int×List Int)):=
 .bf (decide (a.1<p3)) (
  .bd (idx p0 a.1) λz0=>
   .bf (z0.aa==p2) (
    .bd (app 8 a.2 [z0.br]) λz1=>
     .ok (.inl ((β.wrap (a.1+1)),z1)))<|
   .ok (.inl ((β.wrap (a.1+1)),a.2)))<|
 .ok (.inr ((decide (a.1<p3)),a.1,a.2))
noncomputable def Ld (sh:Sh) (p0:List az) (p1:List aq) (p2 p3 p4:Int) (p5:List Int):Option ((Bool×Int×List Int)):=cA sh (yr sh p0 p1 p2 p3) 1000000 (p4,p5)
noncomputable def ags {R:Type} (k:AX->AS SS->Option R) (p0:List az) (p1:List aq) (p2 p3:Int) (x:(Bool×Int×List Int)):Option R:=(λv=>k (.exit 0) (akm p0 p1 p2 p3 v.1 v.2.1 v.2.2)) x
noncomputable def Zr:bH SS:=oQ (λst=>gc (ar 260 2) (me [0] (jP 0 0 35 (st))))<|bT 2 (λst=>((dB st 1 260).bind λ_=>lQ st 19 7).bind λ_=>(bB 55 (aZ st 7 0)).bind λp0=>(bB 56 (bg st 2 1)).bind λp1=>(bq (bg st 3 0)).bind λp2=>(bq (aZ st 8 0)).bind λp3=>(bq (aZ st 9 0)).bind λp4=>(c9 st 4 35).bind λp5=>some (p0,p1,p2,p3,p4,p5)) (λp=>Gu p.1 p.2.1 p.2.2.1 p.2.2.2.1 p.2.2.2.2.1 p.2.2.2.2.2) (λp=>Ld shut p.1 p.2.1 p.2.2.1 p.2.2.2.1 p.2.2.2.2.1 p.2.2.2.2.2) (λk p=>ags k p.1 p.2.1 p.2.2.1 p.2.2.2.1)
theorem aqC:aG KK γ ⟨ζL,ar 260⟩ (bQ (a_ ζL) 2) Zr:=aG.pre (dA.comp (dA.gc (ar 260 2)) (dA.comp (dA.me [0]) (dA.jP 0 0 35)))<|
 aG.cA (π:=List az×List aq×Int×Int×Int×List Int) (σ:=Int×List Int) (an.all JS rfl) (ao.nil) rfl 60 (λp a=>Gu p.1 p.2.1 p.2.2.1 p.2.2.2.1 a.1 a.2) (λp=>(p.2.2.2.2.1,p.2.2.2.2.2)) (St:=λp=>yr shut p.1 p.2.1 p.2.2.1 p.2.2.2.1) (λp=>1000000) (λp=>rfl)
  (λm p a k=>by kernel_rfl)
noncomputable def Tf:ay SS:= { (CE shut) with T:=bm ((CE shut).T) 260 ⟨⟨ζL,ar 260⟩,[Zr]⟩ }
theorem aeg:aJ Tf γ:=(aJ.b8 (an.all JS rfl) Tryz.func260 rfl bn λc hc=>by cases hc;exact ao.cons (ao.nil) (by kernel_rfl) aqC)
noncomputable def D6 (sh:Sh) (s:aP) (pid:Int):T (List Int):=
 .bd (pP sh s) λy0=>
  .bf (y0 !=0) (
   .ok [])<|
  .gd (Gu s.aA s.au pid ((↑s.aA.length:Int)) 0 [])<|
   .bd (Ld sh s.aA s.au pid ((↑s.aA.length:Int)) 0 []) λy1=>
    .ok y1.2.2
noncomputable def Fz (sh:Sh) (s:aP) (pid:Int):Option (List Int):=sh.s _ (D6 sh s pid).val
theorem asD:R2 KK Tf 150 58 35 [130] (D6 shut) (b5 KK 130):=by intro R s pid k;kernel_rfl
noncomputable def ah0 (sh:Sh):bO SS:=eH KK 150 58 35 (Fz sh) (b5 KK 130)
noncomputable def vq (sh:Sh):ay SS:=cq (ah0 sh) (CE sh)
theorem JO:an (vq shut) γ:=eS JS aeg rfl rfl asD
noncomputable def Gp (p0:List aq) (p1:List az) (p2 p3:Int) (p4:List aq):AS SS:=⟨[(5,(va 0 0)),(20,(vd 56 p0)),(21,(vi p2)),(22,(vi p3))],[(bX 262 [(.own 1),(.own 2)]),(rX 127 p1),(rX 132 p4)],0,none,false,[],[]⟩
noncomputable def akc (p0:List aq) (p1:List az) (p2:Int) (a0:Bool) (a1:Int) (a2:List aq):AS SS:= { Gp p0 p1 p2 p2 a2 with env:=[(23,(vb a0)),(5,(va 0 0)),(20,(vd 56 p0)),(21,(vi p2)),(22,(vi a1))] }
noncomputable def UZ (sh:Sh) (p0:List aq) (p1:List az) (p2:Int) (a:Int×List aq):T ((Int×List aq) ⊕ (Bool×Int×List aq)):=
 .bf (decide (a.1<p2)) (
  .bd (idx p0 a.1) λz0=>
   .bd (app 8 [] z0.bt) λz1=>
    .bd (app 32 a.2 [aq.mk z0.aa z1]) λz2=>
     .ok (.inl ((β.wrap (a.1+1)),z2)))<|
 .ok (.inr ((decide (a.1<p2)),a.1,a.2))
noncomputable def K_ (sh:Sh) (p0:List aq) (p1:List az) (p2 p3:Int) (p4:List aq):Option ((Bool×Int×List aq)):=cA sh (UZ sh p0 p1 p2) 1000000 (p3,p4)
noncomputable def agl {R:Type} (k:AX->AS SS->Option R) (p0:List aq) (p1:List az) (p2:Int) (x:(Bool×Int×List aq)):Option R:=(λv=>k (.exit 0) (akc p0 p1 p2 v.1 v.2.1 v.2.2)) x
noncomputable def P8:bH SS:=oQ (λst=>gc (ar 219 7) (jP 0 1 132 (st)))<|bT 7 (λst=>(bB 56 (aZ st 20 0)).bind λp0=>(c9 st 1 127).bind λp1=>(bq (aZ st 21 0)).bind λp2=>(bq (aZ st 22 0)).bind λp3=>(c9 st 2 132).bind λp4=>some (p0,p1,p2,p3,p4)) (λp=>Gp p.1 p.2.1 p.2.2.1 p.2.2.2.1 p.2.2.2.2) (λp=>K_ shut p.1 p.2.1 p.2.2.1 p.2.2.2.1 p.2.2.2.2) (λk p=>agl k p.1 p.2.1 p.2.2.1)
theorem aqx:aG KK γ ⟨ξB,ar 219⟩ (bQ (a_ ξB) 7) P8:=aG.pre (dA.comp (dA.gc (ar 219 7)) (dA.jP 0 1 132))<|
 aG.cA (π:=List aq×List az×Int×Int×List aq) (σ:=Int×List aq) (an.all JO rfl) (ao.nil) rfl 60 (λp a=>Gp p.1 p.2.1 p.2.2.1 a.1 a.2) (λp=>(p.2.2.2.1,p.2.2.2.2)) (St:=λp=>UZ shut p.1 p.2.1 p.2.2.1) (λp=>1000000) (λp=>rfl)
  (λm p a k=>by kernel_rfl)
noncomputable def Gv (p0:Int) (p1:List az) (p2 p3:Int):AS SS:=⟨[(0,(vo 0)),(1,(vu p0)),(2,(vc 1)),(8,(vl p1)),(9,(vi p2)),(10,(vi p3))],[(rX 127 p1),(some (.bI 270 [] [(.one (.bp 2 0))])),(bX 284 [(.v (.func (.func 221) (.mk []) (.mk [])))])],3,none,false,[],[]⟩
noncomputable def aks (p0:Int) (p1:List az) (a0:Bool) (a1 a2:Int):AS SS:= { Gv p0 p1 p0 p0 with env:=[(17,(vb a0)),(16,(vi a1)),(15,(vi a2)),(0,(vo 0)),(1,(vu p0)),(2,(vc 1)),(8,(vl p1)),(9,(vi a2)),(10,(vi a1))] }
noncomputable def yt (sh:Sh) (p0:Int) (p1:List az) (a:Int×Int):T ((Int×Int) ⊕ (Bool×Int×Int)):=
 .bf (decide (a.1<a.2)) (
  .bd (idx p1 (β.wrap ((θ.wrap (β.wrap (a.1+a.2))).fdiv 2))) λz0=>
   .bd (p1[(β.wrap ((θ.wrap (β.wrap (a.1+a.2))).fdiv 2)).toNat]?) λz1=>
    .bd (nB sh z1.br p0) λy2=>
     .bf (decide (y2<0)) (
      .ok (.inl ((β.wrap (β.wrap ((θ.wrap (β.wrap (a.1+a.2))).fdiv 2)+1)),a.2)))<|
     .ok (.inl (a.1,(β.wrap ((θ.wrap (β.wrap (a.1+a.2))).fdiv 2)))))<|
 .ok (.inr ((decide (a.1<a.2)),a.2,a.1))
noncomputable def Lh (sh:Sh) (p0:Int) (p1:List az) (p2 p3:Int):Option ((Bool×Int×Int)):=cA sh (yt sh p0 p1) 1000000 (p2,p3)
noncomputable def agx {R:Type} (k:AX->AS SS->Option R) (p0:Int) (p1:List az) (x:(Bool×Int×Int)):Option R:=(λv=>k (.exit 0) (aks p0 p1 v.1 v.2.1 v.2.2)) x
noncomputable def Zt:bH SS:=bT 4 (λst=>(dB st 1 270).bind λ_=>(bq (aZ st 1 0)).bind λp0=>(c9 st 0 127).bind λp1=>(bq (aZ st 9 0)).bind λp2=>(bq (aZ st 10 0)).bind λp3=>some (p0,p1,p2,p3)) (λp=>Gv p.1 p.2.1 p.2.2.1 p.2.2.2) (λp=>Lh shut p.1 p.2.1 p.2.2.1 p.2.2.2) (λk p=>agx k p.1 p.2.1)
noncomputable def aey:ay SS:= { (vq shut) with T:=bm ((vq shut).T) 219 ⟨⟨ξB,ar 219⟩,[P8]⟩ }
theorem Tx:aJ aey γ:=(aJ.b8 (an.all JO rfl) ξW rfl bn λc hc=>by cases hc;exact ao.cons (ao.nil) (by kernel_rfl) aqx)
theorem aqG:aG KK γ ⟨ξp,ar 269⟩ (bQ (a_ ξp) 4) Zt:=
 aG.cA (π:=Int×List az×Int×Int) (σ:=Int×Int) Tx (ao.nil) rfl 60 (λp a=>Gv p.1 p.2.1 a.1 a.2) (λp=>(p.2.2.1,p.2.2.2)) (St:=λp=>yt shut p.1 p.2.1) (λp=>1000000) (λp=>rfl)
  (λm p a k=>by kernel_rfl)
noncomputable def Tz:ay SS:= { (vq shut) with T:=bm (bm ((vq shut).T) 219 ⟨⟨ξB,ar 219⟩,[P8]⟩) 269 ⟨⟨ξp,ar 269⟩,[Zt]⟩ }
theorem aez:aJ Tz γ:=(aJ.b8 Tx ζb rfl bn λc hc=>by cases hc;exact ao.cons (ao.nil) (by kernel_rfl) aqG)
noncomputable def Eh (sh:Sh) (s:aP) (name pid:Int):T (aP×Int):=
 .bd (pP sh s) λy0=>
  .bf (y0 !=0) (
   .bf (y0 !=0) (
    .ok (⟨[],[]⟩,y0))<|
   .bd (pM sh name) λy1=>
    .bf (!y1) (
     .ok (⟨[],[]⟩,351))<|
    .bd (wg sh pid) λy2=>
     .bf (!y2) (
      .ok (⟨[],[]⟩,2))<|
     .no)<|
  .bd (app 16 [] s.aA) λz1=>
   .gd (Gp s.au z1 ((↑s.au.length:Int)) 0 [])<|
    .bd (K_ sh s.au z1 ((↑s.au.length:Int)) 0 []) λy2=>
     .bd (pM sh name) λy3=>
      .bf (!y3) (
       .ok (⟨[],[]⟩,351))<|
      .bd (wg sh pid) λy4=>
       .bf (!y4) (
        .ok (⟨[],[]⟩,2))<|
       .gd (Gv name z1 0 (↑z1.length:Int))<|
        .bd (Lh sh name z1 0 ((↑z1.length:Int))) λy5=>
         .bf (decide (y5.2.2<(↑z1.length:Int))) (
          .bd (idx z1 y5.2.2) λz6=>
           .bd (z1[y5.2.2.toNat]?) λz7=>
            .bd (nB sh z7.br name) λy8=>
             .bf (y8==0) (
              .ok (⟨[],[]⟩,5))<|
             .bf ((↑z1.length:Int)==16) (
              .ok (⟨[],[]⟩,6))<|
             .bd (wV z1 y5.2.2 [az.mk name pid]) λz9=>
              .ok (⟨z9,y2.2.2⟩,0))<|
         .bf ((↑z1.length:Int)==16) (
          .ok (⟨[],[]⟩,6))<|
         .bd (wV z1 y5.2.2 [az.mk name pid]) λz6=>
          .ok (⟨z6,y2.2.2⟩,0)
noncomputable def FK (sh:Sh) (s:aP) (name pid:Int):Option (aP×Int):=sh.s _ (Eh sh s name pid).val
theorem asP:R3 KK Tz 167 58 35 35 [58,27] (Eh shut) (dE KK 58 27):=by intro R s name pid k;kernel_rfl
noncomputable def aib (sh:Sh):bO SS:=pD KK 167 58 35 35 (FK sh) (dE KK 58 27)
noncomputable def CG (sh:Sh):ay SS:=cq (aib sh) (vq sh)
theorem J0:an (CG shut) γ:=tp JO aez rfl rfl asP
noncomputable def Gx (p0:List az) (p1 p2 p3:Int):AS SS:=⟨[(0,(vd 55 p0)),(1,(vu p1)),(2,(vc 0)),(8,(vl p0)),(9,(vi p2)),(10,(vi p3))],[(some (.bI 270 [] [(.one (.bp 1 0))])),(bX 284 [(.v (.func (.func 221) (.mk []) (.mk [])))])],2,none,false,[],[]⟩
noncomputable def aku (p0:List az) (p1:Int) (a0:Bool) (a1 a2:Int):AS SS:= { Gx p0 p1 p1 p1 with env:=[(17,(vb a0)),(16,(vi a1)),(15,(vi a2)),(0,(vd 55 p0)),(1,(vu p1)),(2,(vc 0)),(8,(vl p0)),(9,(vi a2)),(10,(vi a1))] }
noncomputable def yv (sh:Sh) (p0:List az) (p1:Int) (a:Int×Int):T ((Int×Int) ⊕ (Bool×Int×Int)):=
 .bf (decide (a.1<a.2)) (
  .bd (idx p0 (β.wrap ((θ.wrap (β.wrap (a.1+a.2))).fdiv 2))) λz0=>
   .bd (nB sh z0.br p1) λy1=>
    .bf (decide (y1<0)) (
     .ok (.inl ((β.wrap (β.wrap ((θ.wrap (β.wrap (a.1+a.2))).fdiv 2)+1)),a.2)))<|
    .ok (.inl (a.1,(β.wrap ((θ.wrap (β.wrap (a.1+a.2))).fdiv 2)))))<|
 .ok (.inr ((decide (a.1<a.2)),a.2,a.1))
noncomputable def Lj (sh:Sh) (p0:List az) (p1 p2 p3:Int):Option ((Bool×Int×Int)):=cA sh (yv sh p0 p1) 1000000 (p2,p3)
noncomputable def agz {R:Type} (k:AX->AS SS->Option R) (p0:List az) (p1:Int) (x:(Bool×Int×Int)):Option R:=(λv=>k (.exit 0) (aku p0 p1 v.1 v.2.1 v.2.2)) x
noncomputable def Zv:bH SS:=bT 4 (λst=>(dB st 0 270).bind λ_=>(bB 55 (aZ st 0 0)).bind λp0=>(bq (aZ st 1 0)).bind λp1=>(bq (aZ st 9 0)).bind λp2=>(bq (aZ st 10 0)).bind λp3=>some (p0,p1,p2,p3)) (λp=>Gx p.1 p.2.1 p.2.2.1 p.2.2.2) (λp=>Lj shut p.1 p.2.1 p.2.2.1 p.2.2.2) (λk p=>agz k p.1 p.2.1)
theorem aqI:aG KK γ ⟨ξp,ar 269⟩ (bQ (a_ ξp) 4) Zv:=
 aG.cA (π:=List az×Int×Int×Int) (σ:=Int×Int) (an.all J0 rfl) (ao.nil) rfl 60 (λp a=>Gx p.1 p.2.1 a.1 a.2) (λp=>(p.2.2.1,p.2.2.2)) (St:=λp=>yv shut p.1 p.2.1) (λp=>1000000) (λp=>rfl)
  (λm p a k=>by kernel_rfl)
noncomputable def TC:ay SS:= { (CG shut) with T:=bm ((CG shut).T) 269 ⟨⟨ξp,ar 269⟩,[Zv]⟩ }
theorem aeC:aJ TC γ:=(aJ.b8 (an.all J0 rfl) ζb rfl bn λc hc=>by cases hc;exact ao.cons (ao.nil) (by kernel_rfl) aqI)
noncomputable def Ej (sh:Sh) (s:aP) (name:Int):T (Int×Int):=
 .bd (pP sh s) λy0=>
  .bf (y0 !=0) (
   .ok (0,350))<|
  .bd (pM sh name) λy1=>
   .bf (!y1) (
    .ok (0,351))<|
   .gd (Gx s.aA name 0 (↑s.aA.length:Int))<|
    .bd (Lj sh s.aA name 0 ((↑s.aA.length:Int))) λy2=>
     .bf (decide (y2.2.2<(↑s.aA.length:Int))) (
      .bd (idx s.aA y2.2.2) λz3=>
       .bd (nB sh z3.br name) λy4=>
        .bf (!y4==0) (
         .ok (0,4))<|
        .bd (idx s.aA y2.2.2) λz5=>
         .ok (z5.aa,0))<|
     .ok (0,4)
noncomputable def wi (sh:Sh) (s:aP) (name:Int):Option (Int×Int):=sh.s _ (Ej sh s name).val
theorem asR:R2 KK TC 169 58 35 [35,27] (Ej shut) (dE KK 35 27):=by intro R s name k;kernel_rfl
noncomputable def aid (sh:Sh):bO SS:=eH KK 169 58 35 (wi sh) (dE KK 35 27)
noncomputable def J2 (sh:Sh):ay SS:=cq (aid sh) (CG sh)
theorem Uq:an (J2 shut) γ:=eS J0 aeC rfl rfl asR
end Go.Proofs.YtoggponeookhbaaGreatDoor
end
section
namespace Go.Vx
open Go.RowKit Go.Dc
section
variable {S:bL} {K:bG S} {P:Program}
theorem Ng {X:Type} {t:T X} {x:X} (h:shut.s _ t.val=some x):t.val=some x:=by rw[sP] at h;exact h
theorem IA {G:ay S} (hG:aJ G P) {n f:Nat} {ava:List (aD S)} {rs:List Nat} {X:Type} {t:T X} {kf: {R:Type}->(Rs S->Option R)->X->Option R}
  (h: ∀ {R:Type} (k:Rs S->Option R),kQ G n f ava [] (nS G.K rs k)=t.run (kf k)) (hp:ava.all aD.pure=true) {x:X} (hx:t.val=some x) {r:Rs S} (hr: ∀ {R:Type} (k:Rs S->Option R),kf k x=k r):gH G.K P f ava r:=by
 have U:kQ G n f ava [] (nS G.K rs (λr=>some (ULift.up.{0} r).down))=some r:=by
  rw[h,T.BC,hx];exact hr _
 obtain⟨r',h',dt,h2,h3⟩:=EX hG U;obtain⟨r'',h4,h5⟩:=gH.QK hG.K hp h3 h2;obtain⟨r3,h6,h7⟩:=aaN hG.K h4 h5;have e:r3=r:=by simpa using h6
 rw[<-e];exact h7
theorem mB (hK:cI K P) {A:Pl} {O:List Nat} {w:World} {t:Nat} {x:S.El t} {v:Value} (hs:(S.ty t).agg=(match K.bA t x with| .agg _=>true| .one _=>false)) (U:(match K.bA t x with| .agg _=>true| .one l=>ξt l.sz 1)=true) (h:(S.ty t).is O w v x):(K.bA t x).rel A O w v:=by
 obtain⟨cs,hr,hv⟩:=h;have jH:=hK.bA A O w t x cs hr;unfold Ty.mk' at hv
 revert jH hs U
 cases K.bA t x with
 |agg ls=>
  intro hs U jH;rw[hs] at hv;exact⟨cs,hv,jH⟩
 |one l=>
  intro hs U jH;rw[hs] at hv;obtain⟨ys,zs,rfl,h2,h3⟩:=jH;rw[show zs=[] from h3,ζk] at hv;have hl:=h2.len;rw[ξb U] at hl
  match ys,hl with
  |[u],_=>
   have:v=u:=hv;rw[this];exact h2
theorem PS (hK:cI K P) {A:Pl} {O:List Nat} {w:World} {t:Nat} {x:S.El t} {v:Value} (hc:K.cls t (K.bA t x).cells=some x) (hs:(S.ty t).agg=(match K.bA t x with| .agg _=>true| .one _=>false)) (h:(K.bA t x).rel A O w v):(S.ty t).is O w v x:=by
 revert hc hs h
 cases K.bA t x with
 |agg ls=>
  rintro hc hs ⟨cs,rfl,hr⟩;exact⟨cs,hK.cls A O w t ls x cs hc hr,by unfold Ty.mk';rw[hs];rfl⟩
 |one l=>
  intro hc hs hr;exact⟨[v],hK.cls A O w t [l] x [v] hc ⟨[v],[],rfl,hr,rfl⟩,by unfold Ty.mk';rw[hs];rfl⟩
theorem Ff (hK:cI K P) {f:Nat} {ts:List Nat} {spec: {R:Type}->nr S ts->(Rs S->Option R)->Option R}
  (h: ∀ {R:Type} (xs:nr S ts) (k:Rs S->Option R) (z:R),spec xs k=some z-> ∃r,k r=some z/\gH K P f (sx K xs) r) {R:Type} (ava:List (aD S)) (k:Rs S->Option R) (z:R) (_:ava.all aD.pure=true) (hz:(kR K f ts spec).out ava k=some z): ∃r,k r=some z/\gH K P f ava r:=by
 simp only[kR] at hz;split at hz
 rotate_left
 ·cases hz
 rename_i xs eB;cases hp:(sx K xs).all aD.pure<;>rw[hp] at hz
 ·cases hz
 simp only[cond_true] at hz;obtain⟨r,U,h2⟩:=h xs k z hz;exact⟨r,U,h2.1,λA O w vs hv hO hG=>h2.2 A O w vs (Ij hK eB hv) hO hG⟩
theorem PR {α:Type} {T:Ty α} {O:List Nat} {w:World} {v:Value} {x:α} (h:T.is O w v x):T.is [] w v x:=h.tr (Tr.less λ_ hk=>by cases hk)
end
end Go.Vx
end
section
namespace Go.Proofs.YtoggponeookhbaaGreatDoor
open Go.RowKit Go.Dc Go.Vx
noncomputable def U7 (sh:Sh) (b:aq):T (Int):=
 .ok b.aa
noncomputable def FR (sh:Sh) (b:aq):Option (Int):=sh.s _ (U7 sh b).val
theorem as7:R1 KK (J2 shut) 292 132 [35] (U7 shut) (b5 KK 35):=by intro R b k;kernel_rfl
noncomputable def aiu (sh:Sh):bO SS:=fS KK 292 132 (FR sh) (b5 KK 35)
noncomputable def ya (sh:Sh):ay SS:=cq (aiu sh) (J2 sh)
theorem Kf:an (ya shut) γ:=gm Uq (an.all Uq rfl) rfl rfl as7
noncomputable def Gz (p0:List aq) (p1 p2 p3:Int):AS SS:=⟨[(0,(vd 56 p0)),(1,(vu p1)),(2,(vc 0)),(8,(vl p0)),(9,(vi p2)),(10,(vi p3))],[(some (.bI 308 [] [(.one (.bp 1 0))])),(bX 330 [(.v (.func (.func 292) (.mk []) (.mk [])))])],2,none,false,[],[]⟩
noncomputable def akx (p0:List aq) (p1:Int) (a0:Bool) (a1 a2:Int):AS SS:= { Gz p0 p1 p1 p1 with env:=[(17,(vb a0)),(16,(vi a1)),(15,(vi a2)),(0,(vd 56 p0)),(1,(vu p1)),(2,(vc 0)),(8,(vl p0)),(9,(vi a2)),(10,(vi a1))] }
noncomputable def yw (sh:Sh) (p0:List aq) (p1:Int) (a:Int×Int):T ((Int×Int) ⊕ (Bool×Int×Int)):=
 .bf (decide (a.1<a.2)) (
  .bd (idx p0 (β.wrap ((θ.wrap (β.wrap (a.1+a.2))).fdiv 2))) λz0=>
   .bd (FR sh z0) λy1=>
    .bd (nB sh y1 p1) λy2=>
     .bf (decide (y2<0)) (
      .ok (.inl ((β.wrap (β.wrap ((θ.wrap (β.wrap (a.1+a.2))).fdiv 2)+1)),a.2)))<|
     .ok (.inl (a.1,(β.wrap ((θ.wrap (β.wrap (a.1+a.2))).fdiv 2)))))<|
 .ok (.inr ((decide (a.1<a.2)),a.2,a.1))
noncomputable def Ll (sh:Sh) (p0:List aq) (p1 p2 p3:Int):Option ((Bool×Int×Int)):=cA sh (yw sh p0 p1) 1000000 (p2,p3)
noncomputable def agB {R:Type} (k:AX->AS SS->Option R) (p0:List aq) (p1:Int) (x:(Bool×Int×Int)):Option R:=(λv=>k (.exit 0) (akx p0 p1 v.1 v.2.1 v.2.2)) x
noncomputable def Zx:bH SS:=bT 4 (λst=>(dB st 0 308).bind λ_=>(bB 56 (aZ st 0 0)).bind λp0=>(bq (aZ st 1 0)).bind λp1=>(bq (aZ st 9 0)).bind λp2=>(bq (aZ st 10 0)).bind λp3=>some (p0,p1,p2,p3)) (λp=>Gz p.1 p.2.1 p.2.2.1 p.2.2.2) (λp=>Ll shut p.1 p.2.1 p.2.2.1 p.2.2.2) (λk p=>agB k p.1 p.2.1)
theorem aqK:aG KK γ ⟨ζM,ar 307⟩ (bQ (a_ ζM) 4) Zx:=
 aG.cA (π:=List aq×Int×Int×Int) (σ:=Int×Int) (an.all Kf rfl) (ao.nil) rfl 60 (λp a=>Gz p.1 p.2.1 a.1 a.2) (λp=>(p.2.2.1,p.2.2.2)) (St:=λp=>yw shut p.1 p.2.1) (λp=>1000000) (λp=>rfl)
  (λm p a k=>by kernel_rfl)
noncomputable def Ja:ay SS:= { (ya shut) with T:=bm ((ya shut).T) 307 ⟨⟨ζM,ar 307⟩,[Zx]⟩ }
theorem aeM:aJ Ja γ:=(aJ.b8 (an.all Kf rfl) Tryz.func307 rfl bn λc hc=>by cases hc;exact ao.cons (ao.nil) (by kernel_rfl) aqK)
noncomputable def Ex (sh:Sh) (l:List aq) (pid:Int):T (Int×Bool):=
 .gd (Gz l pid 0 (↑l.length:Int))<|
  .bd (Ll sh l pid 0 ((↑l.length:Int))) λy0=>
   .bf (decide (y0.2.2<(↑l.length:Int))) (
    .bd (idx l y0.2.2) λz1=>
     .bd (FR sh z1) λy2=>
      .bd (nB sh y2 pid) λy3=>
       .ok (y0.2.2,(y3==0)))<|
   .ok (y0.2.2,false)
noncomputable def MQ (sh:Sh) (l:List aq) (pid:Int):Option (Int×Bool):=sh.s _ (Ex sh l pid).val
theorem as6 {R:Type} (l:List aq) (pid:Int) (k:Rs SS->Option R):kQ Ja 100 291 [KK.bA 56 l,KK.bA 35 pid,(.one (.v (.func (.func 292) #[] #[])):aD SS)] [] (nS KK [3,4] k)=(Ex shut l pid).run (λr=>k (.ret (.bD [KK.bA 3 r.1,KK.bA 4 r.2]))):=by kernel_rfl
theorem ai7 (l:List aq) (pid:Int) {x:Int×Bool} (h:MQ shut l pid=some x):gH KK γ 291 [KK.bA 56 l,KK.bA 35 pid,(.one (.v (.func (.func 292) #[] #[])):aD SS)] (.ret (.bD [KK.bA 3 x.1,KK.bA 4 x.2])):=IA (G:=Ja) aeM (kf:=λ{R} (k:Rs SS->Option R)=>(λr=>k (.ret (.bD [KK.bA 3 r.1,KK.bA 4 r.2])))) (λk=>as6 l pid k) rfl (Ng h) λk=>rfl
end Go.Proofs.YtoggponeookhbaaGreatDoor
end
section
namespace Go.Dc
open Go.RowKit
section
variable {P:Program} {r:Option Nat} {N:Nat} {ops:Array Oper} {Q:Exit->Act->World->Prop} {ds:List Deferred}
theorem at5 {id:Nat} {E:Env} {w:World} (hm:P.follows .mixedOrders=true) (bb:List dz) (Φ:List (Bool->World->Value->Prop)) (kk:Nat) (cl:List Nat) (I:Bool->World->Prop) (hlen:Nat.ble bb.length ops.size=true) (qA:BJ ops bb.length=true) (Hn:Φ.length=bb.length) (lL:xy N ops bb bb 0=true)
  (rZ:kk<bb.length) (Oe: ∀o,ops[kk]? =some o-> ∀x∈cl,x∈tg ops 12 (d_ o)) (hI:I false w.drew)
  (ug: ∀i p φ,bb[i]? =some p->Φ[i]? =some φ-> ∀ph a w',(ph=true->i≠kk/\i∉cl)->I ph w'->a.tmps.size=N->a.defers=ds->(∀s,p.base.contains s=true-> ∀v,E.get s=some v->a.tmps.getD s undef=v)->
   (∀(j:Nat),p.tv.contains j=true-> ∀(q:dz) (ψ:Bool->World->Value->Prop),bb[j]? =some q->Φ[j]? =some ψ->ψ ph w' (a.tmps.getD q.d undef))->iq P r ops Q i p.d a w' (λv cU=>φ (ph||ξt i kk) cU v/\I (ph||ξt i kk) cU/\ ∀(j:Nat) (ψ:Bool->World->Value->Prop) u,j≠i->Φ[j]? =some ψ->ψ ph w' u->ψ (ph||ξt i kk) cU u))
  (p_: ∀a w',I true w'->a.tmps.size=N->a.defers=ds->(∀s v,E.get s=some v->(bb.any λp=>ξt p.d s)=false->a.tmps.getD s undef=v)->
   (∀(i:Nat) (p:dz) (φ:Bool->World->Value->Prop),bb[i]? =some p->Φ[i]? =some φ->φ true w' (a.tmps.getD p.d undef))->wpOpsIn (fw r) 0 P ops Q (ξL bb.length (ops.size-bb.length)) a w'):
  WC P r N (.region id ops true) Q E ds w:=by
 have hle:=ξq hlen;intro a ha;refine wpIn_region_draw λt=>?_;simp only[Region.schedule,hm,ζN,if_true];refine wpAnyIn_sound ops.size t _ a _ ?_;have key: ∀(fuel:Nat) (listed:Array Bool) (ph:Bool) (a:Act) (w':World),listed.getD kk true=ph->listed.size=ops.size->gN listed bb.length+(ops.size-bb.length)=fuel->(∀k,bb.length<=k->k<ops.size->listed.getD k true=false)->I ph w'->a.tmps.size=N->a.defers=ds->
   (∀(k:Nat) (o:Oper),ops[k]? =some o->listed.getD k true=true-> ∀x∈d_ o,listed.getD x true=true)->
   (∀s v,E.get s=some v->(∀(k:Nat) (p:dz),bb[k]? =some p->p.d=s->listed.getD k true=false)->a.tmps.getD s undef=v)->
   (∀(i:Nat) (p:dz) (φ:Bool->World->Value->Prop),bb[i]? =some p->Φ[i]? =some φ->listed.getD i true=true->φ ph w' (a.tmps.getD p.d undef))->
   wpAnyIn (fw r) 0 P .any ops Q fuel listed a w':=by
  intro fuel
  induction fuel with
  |zero=>
   intro listed ph a w' oL hs hl ht hF hN hd bN hb hr;have h0:gN listed bb.length=0:=by omega
   have eX:=xf _ h0;have ua:ph=true:=by rw[<-oL];exact eX kk rZ
   subst ua;have hc:ops.size-bb.length=0:=by omega
   refine IU qA 0 bb.length listed a w' (ξn _) (by omega) hs (λk hk=>eX k hk) ht bN ?_;have nH:=p_ a w' hF hN hd (λs v hv aN=>hb s v hv λk p hp e=>by
    rw[ζ6] at aN;have:=aN p (ξh hp);rw[e] at this;simp at this) λi p φ hp gV=>hr i p φ hp gV (eX i (ε.1 hp).1)
   rw[hc] at nH;exact nH
  |succ fuel ih=>
   intro listed ph a w' oL hs hl ht hF hN hd bN hb hr
   by_cases h0:gN listed bb.length=0
   ·have eX:=xf _ h0;have ua:ph=true:=by rw[<-oL];exact eX kk rZ
    subst ua;refine IU qA (fuel+1) bb.length listed a w' (ξn _) (by omega) hs (λk hk=>eX k hk) ht bN ?_;have nH:=p_ a w' hF hN hd (λs v hv aN=>hb s v hv λk p hp e=>by
     rw[ζ6] at aN;have:=aN p (ξh hp);rw[e] at this;simp at this) λi p φ hp gV=>hr i p φ hp gV (eX i (ε.1 hp).1)
    rw[show ops.size-bb.length=fuel+1 by omega] at nH;exact nH
   refine⟨λud=>?_,λi hi=>?_⟩
   ·exfalso;obtain⟨i,U,h2,h3⟩:=A4 bb.length h0;have qf:i<bb.length:=U;obtain⟨⟨o,ho,_,lI,_⟩,_⟩:=sB lL i bb[i] (η qf);simp only[ξ0] at ho lI;have:i∈ζc .any ops listed:=by
     unfold ζc;rw[ξC];refine⟨by simp;omega,?_⟩;rw[h2,ho];simp only[ζ1,ξM,τ,ξ5,ξ8];intro e he;cases ji:Region.binds .any e with
     |false=>simp
     |true=>
      have aB:=lI e.on (oR.2 ⟨e,he,ji,rfl⟩);have:=h3 e.on aB;have bz:e.on<listed.size:=by omega
      simp only[ζ,ξ3 bz,ξ5] at this ⊢;simp[this]
    rw[ud] at this;cases this
   ·unfold ζc at hi;rw[ξC] at hi;obtain⟨Ai,iw⟩:=hi;have cY:i<ops.size:=by simpa using Ai
    have qf:i<bb.length:=by
     rcases ζd i bb.length with h|dp
     ·exact h
     ·exfalso;obtain⟨o,ho,eX,N_⟩:=IS qA i dp cY;rw[ho] at iw;simp only[ζg,ζ7,τ,ξ5,ξ8] at iw;obtain⟨k,U,h2,_⟩:=A4 bb.length h0;have h5:=th bN 12 (d_ o) (λx hx=>by
       obtain⟨e,he,ji,At⟩:=oR.1 hx;have h3:=iw.2 e he;rw[ji] at h3;simp only[ξN,ξO] at h3;have YC:=N_ x hx;have bz:e.on<listed.size:=by omega
       rw[<-At];simp only[ζ,ξ3 bz,ξ5] at h3 ⊢;exact h3) k (eX k (by omega))
      rw[h5] at h2;cases h2
    have ON:i<Φ.length:=by omega
    have hp:=η qf;have gV:=η ON;obtain⟨⟨o,ho,qa,lI,Oo⟩,Om,zU,_⟩:=sB lL i bb[i] hp;simp only[ξ0] at ho lI zU;rw[ho] at iw;simp only[ζg,ζ7,τ,ξ5,ξ8] at iw;obtain⟨gT,qx⟩:=iw;have rQ: ∀x∈d_ o,listed.getD x true=true:=by
     intro x hx;obtain⟨e,he,ji,rfl⟩:=oR.1 hx;have U:=qx e he;rw[ji] at U;simp only[ξN,ξO] at U;have aB:=lI e.on hx;have bz:e.on<listed.size:=by omega
     simp only[ζ,ξ3 bz,ξ5] at U ⊢;exact U
    refine ug i _ _ hp gV ph a w' ?_ hF hN hd ?_ ?_ _ ?_
    ·intro ua;rw[ua] at oL;refine⟨λe=>by(rw[e,oL] at gT;cases gT),λani=>?_⟩;have j7:kk<ops.size:=by omega
     have hko:=Oe _ (ξ3 j7) i ani;have:=th bN 12 (d_ ops[kk]) (λx hx=>bN kk _ (ξ3 j7) oL x hx) i hko;rw[this] at gT;cases gT
    ·intro s Pg v hv;have qz:s∈bb[i].base:=by simpa using Pg
     refine hb s v hv λk p mZ aY=>?_;rcases Vq zU s qz k p mZ aY with rfl|⟨o',eA,OL⟩
     ·exact gT
     ·cases hk:listed.getD k true with
      |false=>rfl
      |true=>rw[bN k o' eA hk i OL] at gT;cases gT
    ·intro j qh q ψ hq hJ;have hj:j∈bb[i].tv:=by simpa using qh
     exact hr j q ψ hq hJ (rQ j (Oo j hj))
    ·rintro v cU ⟨hv,hI2,eK⟩;have On:bb[i].d<a.tmps.size:=by rw[hN];exact Om
     have mu:i<listed.size:=by omega
     have ga: ∀k,(listed.setIfInBounds i true).getD k true=true↔k=i\/listed.getD k true=true:=by
      intro k
      by_cases hk:i=k
      ·subst hk;simp[ζ,mu]
      ·simp only[ζ,ξ2 hk];constructor
       ·exact λh=> .inr h
       ·rintro (h|h)
        ·exact absurd h.symm hk
        ·exact h
     have fJ: ∀s,s≠bb[i].d->(a.put (some bb[i].d) v).tmps.getD s undef=a.tmps.getD s undef:=by
      intro s qz;simp only[Act.put,ζ,ξ2 (Ne.symm qz)]
     have fL:(a.put (some bb[i].d) v).tmps.getD bb[i].d undef=v:=by
      simp[Act.put,ζ,On]
     have qp:=Qi mu gT bb.length;simp only[qf,if_true] at qp;refine ih _ (ph||ξt i kk) _ cU ?_ (by simpa using hs) (by omega) (λk hk eY=>by
      have:=ht k hk eY;simp only[ζ,ξ2 (show i≠k by omega)] at this ⊢;exact this) hI2 (by simp[Act.put,hN]) hd ?_ ?_ ?_
     ·cases cM:ξt i kk with
      |true=>
       have:=ξb cM;subst this;rw[ζO];exact(ga i).2 (.inl rfl)
      |false=>
       rw[ζv,<-oL];have aN:i≠kk:=λe=>by rw[e,ζP] at cM;cases cM
       simp only[ζ,ξ2 aN]
     ·intro k o' eA hk x hx;rw[ga] at hk ⊢;right;rcases hk with rfl|hk
      ·rw[ho] at eA;cases eA;exact rQ x hx
      ·exact bN k o' eA hk x hx
     ·intro s u hu aN;have U:s≠bb[i].d:=λe=>by
       have:=aN i _ hp e.symm;have h2:=(ga i).2 (.inl rfl);rw[h2] at this;cases this
      rw[fJ s U];refine hb s u hu λk p mZ aY=>?_;have:=aN k p mZ aY;cases hk:listed.getD k true with
      |false=>rfl
      |true=>rw[(ga k).2 (.inr hk)] at this;cases this
     ·intro j q ψ hq hJ hj;rw[ga] at hj
      by_cases nI:j=i
      ·subst nI;rw[hp] at hq;rw[gV] at hJ;cases hq;cases hJ;rw[fL];exact hv
      ·have OS:listed.getD j true=true:=hj.resolve_left nI;have aN:q.d≠bb[i].d:=by
        rcases ζd i j with aB|dp
        ·exact(sB lL i _ hp).2.2.2 j q aB hq
        ·exact λe=>(sB lL j q hq).2.2.2 i _ (by omega) hp e.symm
       rw[fJ _ aN];exact eK j ψ _ nI hJ (hr j q ψ hq hJ OS)
 refine key ops.size _ false a _ (by simp[ζ,show kk<ops.size by omega]) (by simp) ?_ (λk _ hk=>by simp[ζ,hk]) hI ha.size ha.defers ?_ ?_ ?_
 ·have: ∀n,n<=ops.size->gN (ζl ops.size false) n=n:=by
   intro n
   induction n with
   |zero=>intro _;rfl
   |succ n ih=>
    intro hn;simp only[gN,ih (by omega)];have:(ζl ops.size false).getD n true=false:=by simp[ζ,show n<ops.size by omega]
    simp[this]
  rw[this _ hle];omega
 ·intro k o ho hk;have aB:=(Array.getElem?_eq_some_iff.1 ho).1;simp[ζ,aB] at hk
 ·intro s v hv _;exact ha.get s v hv
 ·intro i p φ hp _ hi;have aB:i<ops.size:=by have:=(ε.1 hp).1;omega
  simp[ζ,aB] at hi
def cK (ψ:SP) (k:Option Value):Bool->World->Value->Prop:=λph w u=>bif ph then ∀v,k=some v->u=v else ψ.p w u
def uZ (w:World) (Ψ:World->World->Value->Prop):Bool->World->Value->Prop:=λph w' u=>ph=true-> ∃w1 w2,Fr [] w w1/\Ψ w1 w2 u/\Fr [] w2 w'
def Sa (bb:List dz) (keep:List (Option Value)) (k:Nat) (F:Nat->dz->Option Value->Prop):Prop:=
 match bb,keep with
 |p::ps,v::vs=>F k p v/\Sa ps vs (k+1) F
 |_,_=>True
theorem ac2: ∀ {bb:List dz} {keep:List (Option Value)} {k:Nat} {F:Nat->dz->Option Value->Prop},Sa bb keep k F-> ∀(i:Nat) (p:dz) (v:Option Value),bb[i]? =some p->keep[i]? =some v->F (k+i) p v
 |[],_,_,_,_,i,p,v,hp,_=>by simp at hp
 |_::_,[],_,_,_,i,p,v,_,hv=>by simp at hv
 |q::qs,u::us,k,F,h,i,p,v,hp,hv=>by
  cases i with
  |zero=>
   simp only[ξ9,ξI] at hp hv;subst hp;subst hv;exact h.1
  |succ i=>
   have:=ac2 h.2 i p v (by simpa using hp) (by simpa using hv);have e:k+1+i=k+(i+1):=by omega
   rwa [e] at this
def HA:List SP->List (Option Value)->Prop
 |ψ::I',some v::ks=>(∀w u,ψ.p w u->u=v)/\HA I' ks
 |_::I',none::ks=>HA I' ks
 |_,_=>True
theorem PV: ∀ {Φ:List SP} {keep:List (Option Value)},HA Φ keep-> ∀(j:Nat) (ψ:SP) (v:Value),Φ[j]? =some ψ->keep[j]? =some (some v)-> ∀w u,ψ.p w u->u=v
 |[],_,_,j,ψ,v,U,_=>by simp at U
 |_::_,[],_,j,ψ,v,_,h2=>by simp at h2
 |φ::I_,some u::ks,h,j,ψ,v,U,h2=>by
  cases j with
  |zero=>
   simp only[ξ9,ξI] at U h2;subst U;subst h2;exact h.1
  |succ j=>exact PV h.2 j ψ v (by simpa using U) (by simpa using h2)
 |φ::I_,none::ks,h,j,ψ,v,U,h2=>by
  cases j with
  |zero=>simp at h2
  |succ j=>exact PV (Φ:=I_) (keep:=ks) h j ψ v (by simpa using U) (by simpa using h2)
theorem at6 {id:Nat} {E:Env} {w:World} (hm:P.follows .mixedOrders=true) (bb:List dz) (Φ:List SP) (keep:List (Option Value)) (dK:Nat) (mb cl:List Nat) (Ψ:World->World->Value->Prop)
  (hlen:Nat.ble (bb++[dz.mk dK mb []]).length ops.size=true) (qA:BJ ops (bb++[dz.mk dK mb []]).length=true) (Hn:Φ.length=bb.length) (j7:keep.length=bb.length) (lL:xy N ops (bb++[dz.mk dK mb []]) (bb++[dz.mk dK mb []]) 0=true)
  (bN:(match ops[bb.length]? with|some o=>cl.all λx=>(tg ops 12 (d_ o)).contains x|none=>false)=true)
  (mW:HA Φ keep)
  (ug:yG bb Φ 0 λi p φ=> ∀a w',Fr [] w w'->a.tmps.size=N->a.defers=ds->(∀s,p.base.contains s=true-> ∀v,E.get s=some v->a.tmps.getD s undef=v)->
   (∀(j:Nat),p.tv.contains j=true-> ∀(q:dz) (ψ:SP),bb[j]? =some q->Φ[j]? =some ψ->ψ.p w' (a.tmps.getD q.d undef))->iq P r ops Q i p.d a w' (λv cU=>φ.p cU v/\Fr [] w' cU))
  (anP: ∀a w',Fr [] w w'->a.tmps.size=N->a.defers=ds->(∀(j:Nat),mb.contains j=true-> ∀(q:dz) (ψ:SP),bb[j]? =some q->Φ[j]? =some ψ->ψ.p w' (a.tmps.getD q.d undef))->iq P r ops Q bb.length dK a w' (λv cU=>Ψ w' cU v))
  (anO:Sa bb keep 0 λi p k=>match k with
   |none=>cl.contains i=true
   |some v=> ∀w1 w2 u,Fr [] w w1->Ψ w1 w2 u-> ∀a w',Fr [] w2 w'->a.tmps.size=N->a.defers=ds->(∀s,p.base.contains s=true-> ∀v,E.get s=some v->a.tmps.getD s undef=v)->iq P r ops Q i p.d a w' (λx cU=>x=v/\Fr [] w' cU))
  (p_: ∀w1 w2 u a w',Fr [] w w1->Ψ w1 w2 u->Fr [] w2 w'->a.tmps.size=N->a.defers=ds->(∀s v,E.get s=some v->((bb++[dz.mk dK mb []]).any λp=>ξt p.d s)=false->a.tmps.getD s undef=v)->
   (∀(i:Nat) (p:dz) (v:Value),bb[i]? =some p->keep[i]? =some (some v)->a.tmps.getD p.d undef=v)->a.tmps.getD dK undef=u->
   wpOpsIn (fw r) 0 P ops Q (ξL (bb++[dz.mk dK mb []]).length (ops.size-(bb++[dz.mk dK mb []]).length)) a w'):
  WC P r N (.region id ops true) Q E ds w:=by
 have m0:(bb++[dz.mk dK mb []]:List dz).length=bb.length+1:=by simp
 have iV:(ξr cK Φ keep).length=bb.length:=by simp[Hn,j7]
 have pW: ∀(j:Nat) ψ,(ξr cK Φ keep++[uZ w Ψ])[j]? =some ψ->(j<bb.length/\ ∃φ k,Φ[j]? =some φ/\keep[j]? =some k/\ψ=cK φ k)\/(j=bb.length/\ψ=uZ w Ψ):=by
  intro j ψ h;rcases ζd j bb.length with hj|hj
  ·left;rw[κ (by omega)] at h;have U:j<Φ.length:=by omega
   have h2:j<keep.length:=by omega
   refine⟨hj,Φ[j],keep[j],η U,η h2,?_⟩;rw[ξc,η U,η h2] at h;exact(ζm h).symm
  ·right;rw[ξg (by omega),iV] at h;rcases Nat.eq_or_lt_of_le hj with e|aB
   ·subst e;simp only[ζQ,ξ9,ξI] at h;exact⟨rfl,h.symm⟩
   ·rw[List.getElem?_eq_none (by simp;omega)] at h;cases h
 have anC: ∀(j:Nat) p,(bb++[dz.mk dK mb []])[j]? =some p->j<bb.length->bb[j]? =some p:=λj p h hj=>by rwa [κ hj] at h
 refine at5 hm (bb++[dz.mk dK mb []]) (ξr cK Φ keep++[uZ w Ψ]) bb.length cl (λph w'=>bif ph then ∃w1 w2 u,Fr [] w w1/\Ψ w1 w2 u/\Fr [] w2 w' else Fr [] w w') hlen qA (by simp[Hn,j7]) lL (by omega) ?_ (Fr.drew [] w) ?_ ?_
 ·intro o ho x hx;rw[ho] at bN;simpa using ξu.1 bN x hx
 ·intro i p φ hp gV ph a w' oL hI hN hd hb hr;rcases pW i φ gV with⟨hi,φ0,k0,U,h2,rfl⟩|⟨rfl,rfl⟩
  ·have kZ:=anC i p hp hi;have aN:ξt i bb.length=false:=by
    cases cM:ξt i bb.length with
    |false=>rfl
    |true=>have:=ξb cM;omega
   rw[aN,ζv];cases ph with
   |false=>
    have hI:Fr [] w w':=hI;refine iq.weaken (Vf ug i p φ0 kZ U a w' hI hN hd hb (λj hj q ψ hq hJ=>?_)) λv cU hh=>⟨hh.1,hI.trans hh.2,λj ψ u _ hJ hu=>?_⟩
    ·have iy:=(ε.1 hq).1;have hz:(ξr cK Φ keep++[uZ w Ψ])[j]? =some (cK ψ (keep[j]'(by omega))):=by
      rw[κ (by omega),ξc,hJ,η (by omega)]
     exact hr j hj q _ (by rw[κ iy];exact hq) hz
    ·rcases pW j ψ hJ with⟨_,I9,k2,_,_,rfl⟩|⟨_,rfl⟩
     ·exact I9.st hh.2 hu
     ·intro hh;cases hh
   |true=>
    obtain⟨w1,w2,u,rT,um,wK⟩:=hI;have h3:=ac2 anO i p k0 kZ h2;rw[ξ0] at h3;cases k0 with
    |none=>
     have:cl.contains i=true:=h3;exact absurd (by simpa using this) (oL rfl).2
    |some v=>
     refine iq.weaken (h3 w1 w2 u rT um a w' wK hN hd hb) λx cU hh=>⟨?_,⟨w1,w2,u,rT,um,wK.trans hh.2⟩,λj ψ y _ hJ hy=>?_⟩
     ·intro v' jJ;cases jJ;exact hh.1
     ·rcases pW j ψ hJ with⟨_,I9,k2,_,_,rfl⟩|⟨_,rfl⟩
      ·exact hy
      ·intro _;obtain⟨x1,x2,g1,g2,g3⟩:=hy rfl;exact⟨x1,x2,g1,g2,g3.trans hh.2⟩
  ·cases ph with
   |true=>exact absurd rfl (oL rfl).1
   |false=>
    have kZ:p=⟨dK,mb,[]⟩:=by
     rw[ξg (ξn _),ζQ] at hp;exact(ζm hp).symm
    subst kZ;have hI:Fr [] w w':=hI;rw[ζP,ζO];refine iq.weaken (anP a w' hI hN hd (λj hj q ψ hq hJ=>?_)) λv cU um=>⟨λ_=>⟨w',cU,hI,um,Fr.refl [] _⟩,⟨w',cU,v,hI,um,Fr.refl [] _⟩,λj ψ y nI hJ hy=>?_⟩
    ·have iy:=(ε.1 hq).1;have hz:(ξr cK Φ keep++[uZ w Ψ])[j]? =some (cK ψ (keep[j]'(by omega))):=by
      rw[κ (by omega),ξc,hJ,η (by omega)]
     exact hr j hj q _ (by rw[κ iy];exact hq) hz
    ·rcases pW j ψ hJ with⟨_,I9,k2,U,h2,rfl⟩|⟨e,_⟩
     ·intro v' jJ;subst jJ;exact PV mW j I9 v' U h2 _ _ hy
     ·exact absurd e nI
 ·intro a w' hI hN hd hb hr;obtain⟨w1,w2,rT,um,wK⟩:=hr bb.length ⟨dK,mb,[]⟩ (uZ w Ψ) (by simp) (by rw[ξg (by omega),iV];simp) rfl;refine p_ w1 w2 _ a w' rT um wK hN hd hb (λi p v hp hv=>?_) rfl;have wM:=(ε.1 hp).1;have hz:(ξr cK Φ keep++[uZ w Ψ])[i]? =some (cK (Φ[i]'(by omega)) (some v)):=by
   rw[κ (by omega),ξc,hv,η (by omega)]
  exact hr i p _ (by rw[κ wM];exact hp) hz v rfl
theorem apl {Θ:dP} {O:List Nat} {w:World} {i d:Nat} {o:Oper} {E:Env} (aO:Θ.ok P) {a:Act} (ha:Has N E ds a) (ho:ops[i]? =some o) (hw:want N ops E o.guard=some true) (hd:o.dst=some d) {t:Nat} {x y:Operand} {ti te:TI}
  (ah:o.op= .call { callee:= .builtin .append,args:= #[x,y],argTypes:= #[t,t] }) (ht:Θ.get t=some ti) (h5:ti.tag=5) (ct:Θ.get ti.e=some te) {α:Type} {T:Ty α} (hn:T.n=te.size) (m3:η6 0 te.size=true) (hz:te.zero.cells.size=te.size) (cO:Nat.ble 1 te.bytes=true) {e nb:Nat} (he:ti.e=e) (As:te.bytes=nb)
  {w0:World} {v u:Value} {xs ys zs:List α} (hx:ev E x=some v) (hy:ev E y=some u) (hF:Fr [] w0 w) (hO:OB O w) (hv:Own T e w0.heap.size O w v xs) (hu:T.slice.is O w u ys) (hlen:app nb xs ys=some zs):
  iq P r ops Q i d a w (λv' w'=> ∃O',fO T e w0.heap.size O w v zs O' w' v'):=by
 subst he As;obtain⟨hle,rfl⟩:=E4 hlen;obtain⟨v',w',O',aX,jB⟩:=RH (P:=P) (ty:=o.type) aO ht h5 ct hn (ξq m3) hz hF.size hO hv hu hle (ξq cO);refine uB ho (l3 ha hw) hd (b:=true) (v:=v') (w':=w') ?_ ⟨O',jB⟩;simp only[if_true];refine⟨by rw[ah];simp,?_⟩;simp only[execOp,ah,ξk,resolve,ξX,ξf,invoke,builtin,ξP,ζ2,ζe,ha.eval hx,ha.eval hy,aX]
end
end Go.Dc
end
section
namespace Go.Proofs.YtoggponeookhbaaGreatDoor
open Go.RowKit Go.Dc Go.Vx
theorem alC:gQ γ 79:=eI bn Tryz.func79 rfl
theorem alD:gQ γ 80:=eI bn Tryz.func80 rfl
theorem alB:gQ γ 63:=eI bn Tryz.func63 rfl
theorem MB:gQ γ 202:=eI bn ζR rfl
theorem MC:gQ γ 203:=eI bn ζS rfl
theorem alA:gQ γ 294:=eI bn ζT rfl
theorem alu:gQ γ 107:=eI bn Tryz.func107 rfl
theorem alv:gQ γ 219:=eI bn ξW rfl
theorem alw:gQ γ 261:=eI bn ζU rfl
theorem alx:gQ γ 262:=eI bn ζV rfl
theorem V5:gQ γ 263:=eI bn ζW rfl
theorem aly:gQ γ 291:=eI bn Tryz.func291 rfl
theorem alz:gQ γ 293:=eI bn Tryz.func293 rfl
theorem asp {O:List Nat} {w:World} {v:Value} {x:aq}:pa.is O w v x↔ ∃s1,v= .agg #[.int .u64 x.aa,s1]/\(Ty.slice (Ty.int .u64)).is O w s1 x.bt:=by
 constructor
 ·rintro ⟨cs,⟨_,_,rfl,rfl,q1⟩,rfl⟩;obtain⟨z1,rfl,y1⟩:=RV rfl q1;exact⟨z1,rfl,y1⟩
 ·rintro ⟨z1,rfl,y1⟩;exact⟨[.int .u64 x.aa,z1],⟨[.int .u64 x.aa],[z1],rfl,rfl,(uN rfl y1)⟩,rfl⟩
theorem nY {O:List Nat} {w:World} {v:Value} {x:aP}:kL.is O w v x↔ ∃s0 s1,v= .agg #[s0,s1]/\(Ty.slice gi).is O w s0 x.aA/\(Ty.slice pa).is O w s1 x.au:=by
 constructor
 ·rintro ⟨cs,⟨_,_,rfl,q1,q2⟩,rfl⟩;obtain⟨z1,rfl,y1⟩:=RV rfl q1;obtain⟨z2,rfl,y2⟩:=RV rfl q2;exact⟨z1,z2,rfl,y1,y2⟩
 ·rintro ⟨z1,z2,rfl,y1,y2⟩;exact⟨[z1,z2],⟨[z1],[z2],rfl,(uN rfl y1),(uN rfl y2)⟩,rfl⟩
theorem asq {O:List Nat} {w:World} {cs:List Value} {x:az} (h:gi.rep O w cs x):cs=[.int .u64 x.br,.int .u64 x.aa]:=by
 obtain⟨_,_,rfl,rfl,rfl⟩:=h;exact rfl
noncomputable def HQ:Pl:=⟨λ_=>none,none⟩
noncomputable def Pz (sh:Sh) (x:aP):Option Int:=pP sh x
theorem anY {O:List Nat} {w:World} (hO:OB O w) (hG:dR KK O w) {v0:Value} {x0:aP} (h0:kL.is O w v0 x0) {r:Int} (h:Pz shut x0=some r):Calls γ 63 #[v0] w (ll (xJ (Ty.int .i64)) O w r):=by
 have hc:gH KK γ 63 [KK.bA 58 x0] (.ret (.s (KK.bA 27 r))):=IA (G:=Jb) T7 (kf:=λ{R} (k:Rs SS->Option R)=>(λr=>k (.ret (.s (KK.bA 27 r))))) (λk=>ac5 x0 k) rfl (Ng h) λk=>rfl;refine(hc.2 HQ O w [v0] ⟨v0,[],rfl,mB eP (t:=58) rfl rfl h0,rfl⟩ hO hG).mono ?_;rintro e w' ⟨⟨v,rfl,U,_⟩,hF⟩;cases U;exact⟨_,rfl,fk.2 rfl,hF⟩
noncomputable def sm (p:Int):Bool:=bif decide (p>=1) then decide (p<4294967296) else false
theorem aoi (p:Int):(vL shut p).val=some (sm p):=by
 unfold vL sm;cases h:decide (p>=1)<;>simp
theorem an4 {O:List Nat} {w:World} (hO:OB O w) (hG:dR KK O w) {v0:Value} {x0:Int} (h0:(Ty.int .u64).is O w v0 x0):Calls γ 107 #[v0] w (ll (xJ Ty.bool) O w (sm x0)):=by
 have hc:gH KK γ 107 [KK.bA 35 x0] (.ret (.s (KK.bA 4 (sm x0)))):=IA (G:=CX shut) (an.all Ku rfl) (kf:=λ{R} (k:Rs SS->Option R)=>(λr=>k (.ret (.s (KK.bA 4 r))))) (λk=>ac4 x0 k) rfl (aoi x0) λk=>rfl;refine(hc.2 HQ O w [v0] ⟨v0,[],rfl,mB eP (t:=35) rfl rfl h0,rfl⟩ hO hG).mono ?_;rintro e w' ⟨⟨v,rfl,U,_⟩,hF⟩;cases U;exact⟨_,rfl,pA.2 rfl,hF⟩
noncomputable def PB (sh:Sh) (l:List aq) (pid:Int):Option (Int×Bool):=MQ sh l pid
theorem an3 {O:List Nat} {w:World} (hO:OB O w) (hG:dR KK O w) {v0:Value} {x0:List aq} (h0:(Ty.slice pa).is O w v0 x0) {pid:Int} {r:Int×Bool} (h:PB shut x0 pid=some r):Calls γ 291 #[v0,.int .u64 pid,.func (.func 292) #[] #[]] w (ll (rt2 (Ty.int .i64) Ty.bool) O w r):=by
 refine((ai7 x0 pid h).2 HQ O w [v0,.int .u64 pid,.func (.func 292) #[] #[]] ⟨v0,_,rfl,mB eP (t:=56) rfl rfl h0,_,_,rfl,⟨rfl,rfl⟩,_,_,rfl,⟨rfl,rfl⟩,rfl⟩ hO hG).mono ?_;rintro e w' ⟨⟨v,rfl,xs,rfl,a,_,rfl,⟨U,_⟩,b,_,rfl,⟨h2,_⟩,h3⟩,hF⟩;cases U;cases h2;rw[show _=[] from h3];exact⟨_,rfl,⟨_,_,rfl,fk.2 rfl,pA.2 rfl⟩,hF⟩
noncomputable def RR (x:List Int):Option (List Int):=app 8 [] x
theorem arZ {O:List Nat} {w:World} (hO:OB O w) (_:w.heap.size<=w.heap.size) {v0:Value} {x0:List Int} (h0:(Ty.slice (Ty.int .u64)).is O w v0 x0) {r:List Int} (h:RR x0=some r):Calls γ 80 #[v0] w (ig (Ty.int .u64) 35 w.heap.size O w (.slice none 0 0) r):=rA.2.2.2.2.1 hO h0 h
noncomputable def RS (x:List az):Option (List az):=app 16 [] x
theorem arY {O:List Nat} {w:World} (hO:OB O w) (_:w.heap.size<=w.heap.size) {v0:Value} {x0:List az} (h0:(Ty.slice gi).is O w v0 x0) {r:List az} (h:RS x0=some r):Calls γ 79 #[v0] w (ig gi 127 w.heap.size O w (.slice none 0 0) r):=rA.2.2.2.1 hO h0 h
abbrev TR:Ty (Int×Value):=sG .u64
abbrev TW:Ty Int:=Ty.int .u64
theorem l4:TW.Flat:=λh=>h
noncomputable def bx (z:aq):Int×List Int:=(z.aa,z.bt)
structure jd (B:Nat) (O:List Nat) (w:World) (b:Nat) (nv rv:Value) (S:List Nat) (aE:List (Int×Value)) (x:aP):Prop where
 mem:b∈O
 ge:B<=b
 cf:ck w b 262 [nv,rv]
 ns:Go.Dc.Own gi 127 B O w nv x.aA
 row:Go.Dc.Own TR 132 B O w rv aE
 fo:eD TW 35 B w S aE (x.au.map bx)
 nd:S.Nodup
 out: ∀g∈S,g∉O
 nb:nv.ownBlock≠some b
 rb:rv.ownBlock≠some b
 dj:Dj nv rv
noncomputable def ri (B:Nat) (O:List Nat) (w:World) (b:Nat) (x:aP):Prop:= ∃nv rv S aE,jd B O w b nv rv S aE x
structure cg (B:Nat) (O:List Nat) (w:World) (O':List Nat) (w':World):Prop where
 tr:Tr O w O' w'
 ob:OB O' w'
 sub:Sub O O'
 below: ∀k,k<B->w'.heap[k]? =w.heap[k]?
theorem cg.refl {B:Nat} {O:List Nat} {w:World} (h:OB O w):cg B O w O w:=⟨Tr.refl _ _,h,Sub.refl _,λ_ _=>rfl⟩
theorem cg.trans {B:Nat} {O O' yi:List Nat} {w w' cU:World} (h:cg B O w O' w') (k:cg B O' w' yi cU):cg B O w yi cU:=
 ⟨h.tr.trans k.tr,k.ob,h.sub.trans k.sub,λi hi=>(k.below i hi).trans (h.below i hi)⟩
theorem cg.fr {O O':List Nat} {w w':World} (h:cg w.heap.size O w O' w'):Fr [] w w':=⟨h.tr.os,h.tr.tape,h.tr.output,h.tr.size,λk hk _=>h.below k hk⟩
theorem cg.xr {B:Nat} {O:List Nat} {w w':World} (hO:OB O w) (hB:B<=w.heap.size) (h:Fr [] w w'):cg B O w O w':=
 ⟨h.gj,h.ob hO,Sub.refl _,λk hk=>h.block k (δ hk hB) (by simp)⟩
theorem cg.oW {B:Nat} {O:List Nat} {w w':World} {b t:Nat} {cs:List Value} (hB:B<=w.heap.size) (h:rj O w b t cs w'):cg B O w (b::O) w':=
 ⟨h.tr,h.ob,Sub.cons (Sub.refl _) _,λk hk=>h.fr.block k (δ hk hB) (by simp)⟩
theorem cg.QL {α:Type} {T:Ty α} {e B:Nat} {O O':List Nat} {w w':World} {v v':Value} {xs zs:List α} (hB:B<=w.heap.size) (ho:Go.Dc.Own T e B O w v xs) (h:fO T e B O w v zs O' w' v'):cg B O w O' w':=
 ⟨h.tr,h.ob,h.sub,λk hk=>h.fr k (δ hk hB) λe=>by have:=(ho.lt k e).1;omega⟩
theorem cg.lk {B b:Nat} {O:List Nat} {w w':World} (hO:OB O w) (hb:b∈O) (hB:B<=b) (h:Fr [b] w w'):cg B O w O w':=
 ⟨h.tr (lS hb),h.ob hO,Sub.refl _,λk hk=>h.block k (by have:=hO b hb;omega) (by simp;omega)⟩
theorem cg.ao7 {α:Type} {T:Ty α} {e B:Nat} {O:List Nat} {w w':World} {v:Value} {xs:List α} (hO:OB O w) (hB:B<=w.heap.size) (hv:ey T e w.heap.size w' v xs) (h:Fr [] w w'):cg B O w (v.ownBlock.toList++O) w':=
 ⟨⟨h.os,h.tape,h.output,h.size,λk hk ho=>⟨λhm=>by
  rcases ξm.1 hm with hm|hm
  ·have:=(hv.lt k (by simpa using hm)).1;omega
  ·exact ho hm,h.block k hk (by simp)⟩⟩,λk hk=>by
  rcases ξm.1 hk with hk|hk
  ·exact(hv.lt k (by simpa using hk)).2
  ·exact δ (hO k hk) h.size,λk hk=>ξd _ hk,λk hk=>h.block k (δ hk hB) (by simp)⟩
section
variable {B:Nat} {O O':List Nat} {w w' cU:World} {b:Nat} {nv rv:Value} {S:List Nat} {aE:List (Int×Value)} {x:aP}
theorem jd.c7 (h:jd B O w b nv rv S aE x) (hf:Fr [] w w'):jd B O w' b nv rv S aE x:=
 ⟨h.mem,h.ge,h.cf.c7 hf,h.ns.c7 hf,h.row.c7 hf,h.fo.c7 l4 hf,h.nd,h.out,h.nb,h.rb,h.dj⟩
theorem jd.new (h:jd B O w b nv rv S aE x) {b' t:Nat} {cs:List Value} (hn:rj O w b' t cs w'):jd B (b'::O) w' b nv rv S aE x:=
 ⟨ζ0 _ h.mem,h.ge,h.cf.c7 hn.fr,h.ns.new hn,h.row.new hn,h.fo.c7 l4 hn.fr,h.nd,λg hg hm=>by
  rcases ζw.1 hm with rfl|hm
  ·have:=(h.fo.lt g hg).2;have:=hn.ge;omega
  ·exact h.out g hg hm,h.nb,h.rb,h.dj⟩
theorem jd.st (h:jd B O w b nv rv S aE x) {b':Nat} (hb:b'∈O) (hf:Fr [b'] w w') (U:b'≠b) (h2:nv.ownBlock≠some b') (h3:rv.ownBlock≠some b'):jd B O w' b nv rv S aE x:=
 ⟨h.mem,h.ge,h.cf.fr hf (by simp;exact λe=>U e.symm),h.ns.st hf hb h2,h.row.st hf hb h3,h.fo.keep l4 λg hg=>hf.block g (h.fo.lt g hg).2 (by simp;rintro rfl;exact h.out _ hg hb),h.nd,h.out,h.nb,h.rb,h.dj⟩
theorem fO.later {α:Type} {T:Ty α} {e B:Nat} {O O':List Nat} {w w2 w3:World} {v v':Value} {zs:List α} (ap:fO T e B O w v zs O' w2 v') (f:Fr [] w2 w3):fO T e B O w v zs O' w3 v':=
 ⟨ap.own.c7 f,ap.tr.trans f.gj,f.ob ap.ob,ap.sub,λk hk aN=>(f.block k (δ hk ap.tr.size) (by simp)).trans (ap.fr k hk aN),ap.ne⟩
theorem jd.boxes (h:jd B O w b nv rv S aE x) {uT:Value} {S':List Nat} {uE:List (Int×Value)} {x':aP} (ap:fO TR 132 B O w rv uE O' w' uT) (hb:ck cU b 262 [nv,uT]) (hf:Fr [b] w' cU)
  (iT:eD TW 35 B w S' uE (x'.au.map bx)) (r_:S'.Nodup) (qw: ∀g∈S',g∉O) (hn:x'.aA=x.aA):jd B O' cU b nv uT S' uE x':=by
 have hm:=ap.sub _ h.mem;have AD:=ap.ne _ h.cf.lt h.rb;have nL:=ap.other h.ns λg hg=>h.dj g hg;refine⟨hm,h.ge,hb,by rw[hn];exact nL.st hf hm h.nb,ap.own.st hf hm AD,?_,r_,λg hg=>(ap.tr.keep g (iT.lt g hg).2 (qw g hg)).1,h.nb,AD,λg hg=>ap.ne _ (h.ns.lt g hg).2 (h.dj g hg)⟩;refine iT.keep l4 λg hg=>?_;have U:=(ap.tr.keep g (iT.lt g hg).2 (qw g hg)).2;rw[hf.block g (δ (iT.lt g hg).2 ap.tr.size) (by simp;rintro rfl;exact qw _ hg h.mem),U]
end
noncomputable def wT:List aq->List aq->Option (List aq)
 |[],acc=>some acc
 |z::r,acc=>(RR z.bt).bind λws=>(app 32 acc [aq.mk z.aa ws]).bind λpt=>wT r pt
noncomputable def AO (fuel:Sh) (x:aP):Option (aP×Int):=
 (Pz fuel x).bind λe=>bif (!(e==0)) then some (aP.mk [] [],e) else(RS x.aA).bind λns=>(wT x.au []).bind λbs=>some (aP.mk ns bs,0)
noncomputable def afF (O:List Nat) (w:World) (r:aP×Int) (en:Ending) (w':World):Prop:=
 ∃pv O',en= .returned (.tuple #[pv,.int .i64 r.2])/\cg w.heap.size O w O' w'/\(r.2=0-> ∃b,pv= .pointer (some ⟨b,0,none⟩)/\ri w.heap.size O' w' b r.1)
theorem Vi {aE:List (Int×Value)} {acc pt:List aq} {z:aq} {p:Int×Value} (hl:aE.length=acc.length) (h:app 32 acc [z]=some pt):app 32 aE [p]=some (aE++[p])/\pt=acc++[z]:=by
 obtain⟨U,h2⟩:=E4 h;refine⟨?_,h2⟩;unfold app;rw[if_pos (by rw[hl];exact U)]
noncomputable def SP.agw (p:Int) (B:Nat) (ws:List Int):SP:=⟨λw u=> ∃v,u= .agg #[.int .u64 p,v]/\ey TW 35 B w v ws,λhf ⟨v,h,k⟩=>⟨v,h,k.c7 l4 hf⟩⟩
noncomputable def SP.agr (p:Int) (B:Nat) (O:List Nat) (ws:List Int):SP:=⟨λw u=> ∃v,TR.slice.is O w u [(p,v)]/\ey TW 35 B w v ws,λhf ⟨v,h,k⟩=>⟨v,h.tr hf.gj,k.c7 l4 hf⟩⟩
theorem al5 {O:List Nat} {w1 w:World} {v:Value} {ws:List Int} (h:ey TW 35 w1.heap.size w v ws) (hO:OB O w1): ∀g,v.ownBlock=some g->g∉O:=λg hg hm=>by
 have:=(h.lt g hg).1;have:=hO g hm;omega
set_option maxRecDepth 100000 in
set_option maxHeartbeats 4000000 in
theorem an5 {O:List Nat} {w:World} (hO:OB O w) (hG:dR KK [] w) {v0:Value} {x0:aP} (h0:kL.is [] w v0 x0) {r:aP×Int} (h:AO shut x0=some r):Calls γ 219 #[v0] w (afF O w r):=by
 obtain⟨fx,fy,rfl,zr,wy⟩:=nY.1 h0;have lH:cg w.heap.size O w O w:=cg.refl hO;refine lC (args:=[(.agg #[fx,fy])]) (N:=45) ξW rfl rfl rfl ?_;unfold AO at h;refine aS ?_;refine bl (l:=[0,1,2]) rfl ?_;refine u7 rfl rfl rfl rfl rfl rfl [fx,fy] rfl hO (λb1 w1 n1=>?_);have cO:=n1.cf;have eW:=lH.trans (cg.oW lH.tr.size n1);refine aK ak [1,2] [(1,(.pointer (some ⟨b1,0,none⟩)))] rfl ⟨rfl,trivial⟩ ?_;refine bc ?_;refine aT ?_;refine aS ?_;refine aS ?_;refine bl (l:=[0,1,2]) rfl ?_;refine fX ak rfl rfl rfl rfl rfl rfl rfl cO [fx,fy] rfl rfl (.inl rfl) (.agg #[fx,fy]) rfl ?_;obtain⟨e,he,h⟩:=bind_some h;refine I4 rfl rfl rfl rfl rfl alB rfl (anY (Bb _) (hG.tr eW.fr.gj) (h0.tr eW.fr.gj) he) (λv2 w2 g2 f2=>?_);obtain rfl:=fk.1 g2;have dD:=eW.trans (cg.xr eW.ob eW.tr.size f2);have cO:=cO.c7 f2;refine aK ak [2] [(1,(.pointer (some ⟨b1,0,none⟩))),(4,.int .i64 e)] rfl ⟨rfl,rfl,trivial⟩ ?_;refine bc ?_;refine aT ?_;refine aS ?_;refine bl (l:=[0,1]) rfl ?_;refine aK ak [0,1] [(1,(.pointer (some ⟨b1,0,none⟩))),(4,.int .i64 e),(11,.bool (!(e==0)))] rfl ⟨rfl,rfl,rfl,trivial⟩ ?_;refine bc ?_;refine aT ?_;rcases oq h with⟨hc,h⟩|⟨hc,h⟩
 ·refine jV rfl hc ?_;refine aS ?_;refine bl (l:=[0,1,2]) rfl ?_;refine aK ak [0,1,2] [(2,(.pointer none)),(3,.int .i64 e)] rfl ⟨rfl,rfl,trivial⟩ ?_;refine bc ?_;refine aT ?_;refine fz ?_;cases h;exact jW (iL rfl ⟨_,_,rfl,dD,λh0=>by simp at hc;exact absurd h0 hc⟩)
 refine ke rfl hc ?_;refine gW ?_;refine aT ?_;refine aS ?_;refine bl (l:=[0,1,2,3,4,5,6]) rfl ?_;refine aK ak [0] [(1,(.pointer (some ⟨b1,0,none⟩))),(13,(.pointer (some ⟨b1,0,none⟩)))] rfl ⟨rfl,rfl,trivial⟩ ?_;refine fX ak rfl rfl rfl rfl rfl rfl rfl cO [fx] rfl rfl (.inr rfl) fx rfl ?_;obtain⟨ns,nL,h⟩:=bind_some h;refine pg rfl rfl rfl rfl rfl alC rfl (arY (Bb _) (ξn _) (zr.tr dD.fr.gj) nL) (λ_ w3 hg=>?_);obtain⟨nv,rfl,mY,f3⟩:=WN rfl hg;refine⟨_,rfl,?_⟩;have fh:=dD.trans (cg.ao7 dD.ob dD.tr.size mY f3);have mY:=mY.less dD.tr.size;obtain⟨A3,c3,rfl,anm,anp⟩:=mY.form;refine aK ak [3,4] [(1,(.pointer (some ⟨b1,0,none⟩))),(17,.agg #[(.slice A3 ns.length c3),.slice none 0 0])] rfl ⟨rfl,rfl,trivial⟩ ?_;have cO:=cO.c7 f3;refine u7 rfl rfl rfl rfl rfl rfl [(.slice A3 ns.length c3),.slice none 0 0] rfl fh.ob (λb w4 n4=>?_);generalize auT:(η7 A3 ns.length c3)=nv at*
 have hH:jd w.heap.size (b::(nv.ownBlock.toList++(b1::O))) w4 b nv (.slice none 0 0) [] [] (aP.mk ns []):=
  ⟨ξ4,ι fh.tr.size n4.ge,n4.cf,(mY.own (λh=>h) λg hg=>List.mem_append_left _ (by rw[hg];simp)).new n4,Own.oT,rfl,List.nodup_nil,λg hg=>(by cases hg),λe=>by
   have:=(mY.lt b e).2;have:=n4.ge;omega,(aoW _),(ai' _)⟩
 have dC:=fh.trans (cg.oW fh.tr.size n4);have cO:=cO.c7 n4.fr;refine aK ak [6] [(1,(.pointer (some ⟨b1,0,none⟩))),(5,(.pointer (some ⟨b,0,none⟩)))] rfl ⟨rfl,rfl,trivial⟩ ?_;refine bc ?_;refine aT ?_;refine aS ?_;refine aS ?_;refine bl (l:=[0,1,2,3]) rfl ?_;refine aK ak [0] [(5,(.pointer (some ⟨b,0,none⟩))),(19,(.pointer (some ⟨b1,1,none⟩)))] rfl ⟨rfl,rfl,trivial⟩ ?_;refine fX ak rfl rfl rfl rfl rfl rfl rfl cO [fy] rfl rfl (.inr rfl) fy rfl ?_;obtain⟨A5,c5,rfl,ann,anq⟩:=iJ wy;refine aK ak [2,3] [(5,(.pointer (some ⟨b,0,none⟩))),(20,.slice A5 x0.au.length c5),(21,.int .i64 (x0.au.length:Int)),(22,.int .i64 ((0:Nat):Int))] rfl ⟨rfl,rfl,rfl,rfl,trivial⟩ ?_;refine bc ?_;refine aT ?_;obtain⟨bs,fa,h⟩:=bind_some h;refine u6 ?_;refine Sw (λm E W=> ∃(rest:List aq) (i:Nat) (O':List Nat) (acc:List aq) (rv:Value) (S:List Nat) (aE:List (Int×Value)),rest.length=m/\x0.au.drop i=rest/\E=[(5,(.pointer (some ⟨b,0,none⟩))),(20,.slice A5 x0.au.length c5),(21,.int .i64 (x0.au.length:Int)),(22,.int .i64 (i:Int))]/\cg w.heap.size O w O' W/\jd w.heap.size O' W b nv rv S aE (aP.mk ns acc)/\wT rest acc=some bs) _
  [(5,(.pointer (some ⟨b,0,none⟩))),(20,.slice A5 x0.au.length c5),(21,.int .i64 (x0.au.length:Int)),(22,.int .i64 ((0:Nat):Int))] ⟨rfl,rfl,rfl,rfl,trivial⟩ ⟨x0.au,0,_,[],_,[],[],rfl,rfl,rfl,dC,hH,fa⟩ ?_
 rintro m E W ⟨rest,i,O5,acc,rv,S,aE,rfl,GX,rfl,kE,hH,fa⟩;rcases rest with _|⟨z,rest⟩
 ·have hl:=drop_nil GX;have hc:(decide ((i:Int)<(x0.au.length:Int)))=false:=decide_eq_false (by omega);refine aS ?_;refine bl (l:=[0]) rfl ?_;refine aK ak [0] [(5,(.pointer (some ⟨b,0,none⟩))),(23,.bool (decide ((i:Int)<(x0.au.length:Int))))] rfl ⟨rfl,rfl,trivial⟩ ?_;refine bc ?_;refine aT ?_;refine aS ?_;refine ke rfl hc ?_;refine Sv ?_;refine xR (xR (SE (aT ?_)));refine aS ?_;refine bl (l:=[0,1,2]) rfl ?_;refine aK ak [0,1,2] [(2,(.pointer (some ⟨b,0,none⟩))),(3,.int .i64 0)] rfl ⟨rfl,rfl,trivial⟩ ?_;refine bc ?_;refine aT ?_;refine fz ?_;cases fa;cases h;exact iL rfl ⟨_,_,rfl,kE,λ_=>⟨b,rfl,_,_,_,_,hH⟩⟩
 obtain⟨hl,hg,GX⟩:=drop_cons GX;have hc:(decide ((i:Int)<(x0.au.length:Int)))=true:=decide_eq_true (by omega);refine aS ?_;refine bl (l:=[0]) rfl ?_;refine aK ak [0] [(5,(.pointer (some ⟨b,0,none⟩))),(20,.slice A5 x0.au.length c5),(21,.int .i64 (x0.au.length:Int)),(22,.int .i64 (i:Int)),(23,.bool (decide ((i:Int)<(x0.au.length:Int))))] rfl ⟨rfl,rfl,rfl,rfl,rfl,trivial⟩ ?_;refine bc ?_;refine aT ?_;refine aS ?_;refine jV rfl hc ?_;refine gW ?_;refine aT ?_;refine aS ?_;refine u6 ?_;refine aS ?_;refine bl (l:=[0,1,2,3]) rfl ?_;refine SD ak rfl rfl rfl rfl rfl rfl rfl rfl rfl rfl wy rfl (ζ3 _) (by rw[μ];exact hg) (λp6 Av=>?_);refine adH ak rfl rfl rfl rfl rfl rfl rfl Av kE.fr rfl rfl (λv6 AI=>?_);obtain⟨vw,rfl,YA⟩:=asp.1 AI;obtain⟨Aw,cw,rfl,auJ,auQ⟩:=iJ YA;refine BR ak rfl rfl rfl rfl rfl rfl [(.int .u64 0),(.slice none 0 0)] rfl kE.ob (λb7 w7 n7=>?_);have Xe:=hH.new n7;have gJ:=kE.trans (cg.oW kE.tr.size n7);have Qm:b7≠b:=by have:=hH.cf.lt;have:=n7.ge;omega
 have hq7:=hH.ns.aac n7;have hr7:=hH.row.aac n7;refine iK ak rfl rfl rfl rfl rfl rfl rfl n7.cf [(.int .u64 z.aa),(.slice Aw z.bt.length cw)] rfl rfl (by simp[ξ]) rfl [(.int .u64 z.aa),(.slice Aw z.bt.length cw)] rfl (λw8 rR f8=>?_);have wF:=Xe.st ξ4 f8 Qm hq7 hr7;have kW:=gJ.trans (cg.lk gJ.ob ξ4 (ι kE.tr.size n7.ge) f8);clear Xe gJ;refine bc ?_;refine aT ?_;rw[wT] at fa;obtain⟨ws,Pt,fa⟩:=bind_some fa;obtain⟨pt,Xt,fa⟩:=bind_some fa;obtain⟨Ar,cr,rfl,auI,auP⟩:=wF.row.form;have F_:=kW.ob;have hlen:aE.length=acc.length:=by have:=wF.fo.len;simpa using this
 refine at6 mixed [⟨26,[],[5]⟩,⟨27,[],[5]⟩,⟨28,[1],[]⟩,⟨29,[2],[]⟩,⟨30,[3],[]⟩,⟨31,[4],[]⟩,⟨32,[],[7]⟩,⟨33,[6],[]⟩,⟨34,[],[7]⟩,⟨35,[8],[]⟩,⟨36,[9],[]⟩,⟨37,[7,10],[]⟩,⟨38,[11],[]⟩]
  [SP.eq (.pointer (some ⟨b,0,none⟩)),SP.eq (.pointer (some ⟨b,0,none⟩)),SP.eq (.pointer (some ⟨b,0,none⟩)),SP.eq (.pointer (some ⟨b,0,none⟩)),SP.eq (.pointer (some ⟨b,1,none⟩)),SP.eq (.slice Ar aE.length cr),SP.eq (.pointer (some ⟨b7,0,none⟩)),SP.eq (.int .u64 z.aa),SP.eq (.pointer (some ⟨b7,1,none⟩)),SP.eq (.slice Aw z.bt.length cw),SP.oz TW l4 35 w8.heap.size ws,SP.agw z.aa w8.heap.size ws,SP.agr z.aa w8.heap.size (b7::O5) ws] [some (.pointer (some ⟨b,0,none⟩)),none,none,none,none,none,none,none,none,none,none,none,none] 39 [5,12] [1,2,3,4,5,6,7,8,9,10,11,12] (λw1 w2 u=> ∃vn O',ey TW 35 w8.heap.size w1 vn ws/\fO TR 132 w.heap.size (b7::O5) w1 (.slice Ar aE.length cr) (aE++[(z.aa,vn)]) O' w2 u) rfl rfl rfl rfl rfl rfl ⟨λ_ _ h=>h,trivial⟩ ⟨?_,?_,?_,?_,?_,?_,?_,?_,?_,?_,?_,?_,?_,trivial⟩ ?_ ⟨?_,rfl,rfl,rfl,rfl,rfl,rfl,rfl,rfl,rfl,rfl,rfl,rfl,trivial⟩ ?_
 ·intro a w2 bY hN aY hb hd;exact eu ak ⟨hN,aY,cJ (E:=[(5,(.pointer (some ⟨b,0,none⟩)))]) ⟨hb 5 rfl _ rfl,trivial⟩⟩ rfl rfl rfl rfl rfl
 ·intro a w2 bY hN aY hb hd;exact eu ak ⟨hN,aY,cJ (E:=[(5,(.pointer (some ⟨b,0,none⟩)))]) ⟨hb 5 rfl _ rfl,trivial⟩⟩ rfl rfl rfl rfl rfl
 ·intro a w2 bY hN aY hb hd;exact eu ak ⟨hN,aY,cJ (E:=[(27,(.pointer (some ⟨b,0,none⟩)))]) ⟨(hd 1 rfl _ _ rfl rfl),trivial⟩⟩ rfl rfl rfl rfl rfl
 ·intro a w2 bY hN aY hb hd;exact eu ak ⟨hN,aY,cJ (E:=[(28,(.pointer (some ⟨b,0,none⟩)))]) ⟨(hd 2 rfl _ _ rfl rfl),trivial⟩⟩ rfl rfl rfl rfl rfl
 ·intro a w2 bY hN aY hb hd;exact eu ak ⟨hN,aY,cJ (E:=[(29,(.pointer (some ⟨b,0,none⟩)))]) ⟨(hd 3 rfl _ _ rfl rfl),trivial⟩⟩ rfl rfl rfl rfl rfl
 ·intro a w2 bY hN aY hb hd;exact xv ak ⟨hN,aY,cJ (E:=[(30,(.pointer (some ⟨b,1,none⟩)))]) ⟨(hd 4 rfl _ _ rfl rfl),trivial⟩⟩ rfl rfl rfl rfl rfl rfl (wF.cf.c7 bY) [(.slice Ar aE.length cr)] rfl rfl (.inr rfl) (.slice Ar aE.length cr) rfl
 ·intro a w2 bY hN aY hb hd;exact eu ak ⟨hN,aY,cJ (E:=[(7,(.pointer (some ⟨b7,0,none⟩)))]) ⟨hb 7 rfl _ rfl,trivial⟩⟩ rfl rfl rfl rfl rfl
 ·intro a w2 bY hN aY hb hd;exact xv ak ⟨hN,aY,cJ (E:=[(32,(.pointer (some ⟨b7,0,none⟩)))]) ⟨(hd 6 rfl _ _ rfl rfl),trivial⟩⟩ rfl rfl rfl rfl rfl rfl (rR.c7 bY) [(.int .u64 z.aa)] rfl rfl (.inr rfl) (.int .u64 z.aa) rfl
 ·intro a w2 bY hN aY hb hd;exact eu ak ⟨hN,aY,cJ (E:=[(7,(.pointer (some ⟨b7,0,none⟩)))]) ⟨hb 7 rfl _ rfl,trivial⟩⟩ rfl rfl rfl rfl rfl
 ·intro a w2 bY hN aY hb hd;exact xv ak ⟨hN,aY,cJ (E:=[(34,(.pointer (some ⟨b7,1,none⟩)))]) ⟨(hd 8 rfl _ _ rfl rfl),trivial⟩⟩ rfl rfl rfl rfl rfl rfl (rR.c7 bY) [(.slice Aw z.bt.length cw)] rfl rfl (.inr rfl) (.slice Aw z.bt.length cw) rfl
 ·intro a w2 bY hN aY hb hd;exact(apm (O:=[]) ⟨hN,aY,cJ (E:=[(35,(.slice Aw z.bt.length cw))]) ⟨(hd 9 rfl _ _ rfl rfl),trivial⟩⟩ rfl rfl rfl rfl alD rfl ((arZ (Bb _) (ξn _) (YA.tr (kW.fr.trans bY).gj) Pt).mono λ_ _ hh=>WN rfl hh)).weaken (λu w3 ⟨hu,hf⟩=>⟨hu.less bY.size,hf⟩)
 ·intro a w2 bY hN aY hb hd;have d88:ey TW 35 w8.heap.size w2 (a.tmps.getD 36 undef) ws:=hd 10 rfl _ _ rfl rfl;obtain⟨u,VZ⟩: ∃v,a.tmps.getD 36 undef=v:=⟨_,rfl⟩;rw[VZ] at d88;obtain⟨xT,yN,rfl,_,_⟩:=d88.form;exact(eu ak ⟨hN,aY,cJ (E:=[(33,(.int .u64 z.aa)),(36,(.slice xT ws.length yN))]) ⟨(hd 7 rfl _ _ rfl rfl),VZ,trivial⟩⟩ rfl rfl rfl rfl rfl).weaken (λu w3 ⟨hu,hf⟩=>by subst hu;exact⟨⟨_,rfl,d88.c7 l4 hf⟩,hf⟩)
 ·intro a w2 bY hN aY hb hd;have d96: ∃v,(a.tmps.getD 37 undef)= .agg #[.int .u64 z.aa,v]/\ey TW 35 w8.heap.size w2 v ws:=hd 11 rfl _ _ rfl rfl;obtain⟨v97,e95,W7⟩:=d96;obtain⟨xT,yN,rfl,_,_⟩:=W7.form;exact(apq ak ⟨hN,aY,cJ (E:=[(37,(.agg #[(.int .u64 z.aa),(.slice xT ws.length yN)]))]) ⟨e95,trivial⟩⟩ rfl rfl rfl rfl rfl rfl rfl rfl rfl (T:=TR) (xs:=[(z.aa,(.slice xT ws.length yN))]) (vs:=[(.agg #[(.int .u64 z.aa),(.slice xT ws.length yN)])]) rfl ⟨⟨_,⟨rfl,_,_,_,rfl⟩,rfl⟩,trivial⟩ rfl rfl rfl (bY.ob F_)).weaken (λu w3 ⟨hu,hf⟩=>⟨⟨_,hu,W7.c7 l4 hf⟩,hf⟩)
 ·intro a w2 bY hN aY hd;obtain⟨vn,XQ,qB⟩: ∃v,TR.slice.is (b7::O5) w2 (a.tmps.getD 38 undef) [(z.aa,v)]/\ey TW 35 w8.heap.size w2 v ws:=hd 12 rfl _ _ rfl rfl;obtain⟨v38,VY⟩: ∃v,a.tmps.getD 38 undef=v:=⟨_,rfl⟩;rw[VY] at XQ;obtain⟨tN,_⟩:=Vi (p:=(z.aa,vn)) hlen Xt;exact iq.weaken (apl ak ⟨hN,aY,cJ (E:=[(31,(.slice Ar aE.length cr)),(38,v38)]) ⟨hd 5 rfl _ _ rfl rfl,VY,trivial⟩⟩ rfl rfl rfl rfl rfl rfl rfl rfl rfl rfl rfl rfl rfl rfl rfl (kW.fr.trans bY) (bY.ob F_) (wF.row.c7 bY) XQ tN) (λ_ _ ⟨O',h⟩=>⟨vn,O',qB,h⟩)
 ·rintro w1 w2 u rT ⟨vn,O',qB,ap⟩ a w' bY hN aY hb;exact eu ak ⟨hN,aY,cJ (E:=[(5,(.pointer (some ⟨b,0,none⟩)))]) ⟨hb 5 rfl _ rfl,trivial⟩⟩ rfl rfl rfl rfl rfl
 rintro w9 w10 u a au_ f9 ⟨vn,O10,qB,ap⟩ f10 hN aY GV jF hu;have ap:=fO.later ap f10;have pT:=wF.c7 f9;have Xo:=kW.trans (cg.xr F_ kW.tr.size f9);obtain⟨tN,rfl⟩:=Vi (p:=(z.aa,vn)) hlen Xt;have Xn:=Xo.trans (cg.QL Xo.tr.size pT.row ap);obtain⟨BY,E6,rfl,auG,auN⟩:=ap.own.form;refine BT (E:=[(5,(.pointer (some ⟨b,0,none⟩))),(20,.slice A5 x0.au.length c5),(21,.int .i64 (x0.au.length:Int)),(22,.int .i64 (i:Int)),(26,(.pointer (some ⟨b,0,none⟩))),(39,(.slice BY (aE++[(z.aa,vn)]).length E6))]) (l:=[14,15,16,17]) hN aY ⟨GV 5 _ rfl rfl,GV 20 _ rfl rfl,GV 21 _ rfl rfl,GV 22 _ rfl rfl,(jF 0 _ _ rfl rfl),hu,trivial⟩ rfl ?_;refine aK ak [14,15,16] [(5,(.pointer (some ⟨b,0,none⟩))),(20,.slice A5 x0.au.length c5),(21,.int .i64 (x0.au.length:Int)),(22,.int .i64 (i:Int)),(39,(.slice BY (aE++[(z.aa,vn)]).length E6)),(42,(.pointer (some ⟨b,1,none⟩)))] rfl ⟨rfl,rfl,rfl,rfl,rfl,rfl,trivial⟩ ?_;have N9:=ap.cf pT.cf pT.rb;refine iK ak rfl rfl rfl rfl rfl rfl rfl N9 [(.slice BY (aE++[(z.aa,vn)]).length E6)] rfl rfl (by simp[ξ]) rfl [nv,(.slice BY (aE++[(z.aa,vn)]).length E6)] rfl (λw11 amX f11=>?_);have amS:=Xn.trans (cg.lk Xn.ob (ap.sub _ pT.mem) pT.ge f11);have qw:=al5 qB F_;have amR:=pT.boxes (x':=aP.mk ns (acc++[aq.mk z.aa ws])) (S':=S++(vn.ownBlock.toList++[])) ap amX f11
  (by rw[ζn];exact pT.fo.app ⟨[],rfl,rfl,qB.less (ι kW.tr.size (ξn _)),rfl⟩)
  (by
   rw[ζk];refine ξJ.2 ⟨pT.nd,by cases vn.ownBlock<;>simp,λg hg g' j6 e=>?_⟩;subst e;have U:=(wF.fo.lt _ hg).2;have h2:=(qB.lt g (by simpa using j6)).1;omega)
  (λg hg=>by
   rcases ξm.1 hg with hg|hg
   ·exact pT.out g hg
   ·exact qw g (by simpa using hg)) rfl
 refine bc ?_;refine BV (aT ?_);refine bl (l:=[0,1]) rfl ?_;refine aK ak [0,1] [(5,(.pointer (some ⟨b,0,none⟩))),(20,.slice A5 x0.au.length c5),(21,.int .i64 (x0.au.length:Int)),(22,(.int .i64 (β.wrap ((i:Int)+(1:Int)))))] rfl ⟨rfl,rfl,rfl,rfl,trivial⟩ ?_;refine bc ?_;exact I6 rest.length [(5,(.pointer (some ⟨b,0,none⟩))),(20,.slice A5 x0.au.length c5),(21,.int .i64 (x0.au.length:Int)),(22,(.int .i64 ((i+1:Nat):Int)))] (ξQ _) ⟨rfl,rfl,rfl,congrArg (λz=>some (ζo .i64 z)) (u9 hl (ι ann anq)),trivial⟩ ⟨rest,i+1,O10,_,_,_,_,rfl,GX,rfl,amS,amR,fa⟩
noncomputable def pc (L:List (Value×Value)):List Value:=L.flatMap λp=>[p.1,p.2]
theorem jR: ∀(L:List (Value×Value)),(pc L).length=L.length*2
 |[]=>rfl
 |_::r=>by have:=jR r;unfold pc at this ⊢;simp[this];omega
theorem Q2 (L M:List (Value×Value)):pc (L++M)=pc L++pc M:=by simp[pc]
theorem H9: ∀(L:List (Value×Value)) (k:Nat),(pc L).take (k*2)=pc (L.take k)
 |[],k=>by simp[pc]
 |x::r,0=>by simp[pc]
 |x::r,k+1=>by
  have:=H9 r k;show([x.1,x.2]++pc r).take ((k+1)*2)=[x.1,x.2]++pc (r.take k);rw[show(k+1)*2=2+k*2 by omega,List.take_append,<-this,ξR (by simp)];simp
theorem H8: ∀(L:List (Value×Value)) (k:Nat),(pc L).drop (k*2)=pc (L.drop k)
 |[],k=>by simp[pc]
 |x::r,0=>by simp
 |x::r,k+1=>by
  have:=H8 r k;show([x.1,x.2]++pc r).drop ((k+1)*2)=pc (r.drop k);rw[show(k+1)*2=2+k*2 by omega,List.drop_append,<-this];simp
theorem apP {L:List (Value×Value)} {R:List Value} {k:Nat} {x:Value×Value} (h:L[k]? =some x):((pc L++R).drop (k*2)).take 2=[x.1,x.2]:=by
 have hk:=(ε.1 h).1;rw[ξv (by rw[jR];omega),H8,List.drop_eq_getElem_cons hk,(ε.1 h).2];rfl
theorem apQ {L:List (Value×Value)} {R:List Value} {k:Nat} {x:Value×Value} (hk:k<L.length):putAt (pc L++R) (k*2) [x.1,x.2]=pc (L.set k x)++R:=by
 unfold putAt;have e:L.set k x=L.take k++[x]++L.drop (k+1):=by
  rw[List.set_eq_take_append_cons_drop,if_pos hk];simp
 rw[e,Q2,Q2,ξa (by rw[jR];omega),H9,ξv (by rw[jR];simp;omega)];rw[show k*2+[x.1,x.2].length=(k+1)*2 by simp;omega,H8];simp[pc]
noncomputable def rp (r:Int×Value):Value×Value:=(.int .u64 r.1,r.2)
noncomputable def rc (aE:List (Int×Value)):List Value:=pc (aE.map rp)
theorem Rf {L:List (Int×Value)} {R:List Value} {k:Nat} {x:Int×Value} (h:L[k]? =some x):((rc L++R).drop (k*2)).take 2=[.int .u64 x.1,x.2]:=
 apP (x:=rp x) (by simp[h])
theorem abf {L:List (Int×Value)} {R:List Value} {k:Nat} {x:Int×Value} (hk:k<L.length):putAt (rc L++R) (k*2) [.int .u64 x.1,x.2]=rc (L.set k x)++R:=by
 have:=apQ (L:=L.map rp) (R:=R) (x:=rp x) (k:=k) (by simpa using hk);rw[show[(rp x).1,(rp x).2]=[.int .u64 x.1,x.2] from rfl] at this;rw[rc,this,rc];simp[ζX]
theorem Rh {O:List Nat} {w:World}: ∀ {L:List (Int×Value)},(∀r∈L,∃A n c,r.2= .slice A n c)->cz TR O w (rc L) L
 |[],_=>rfl
 |r::L,h=>⟨[.int .u64 r.1,r.2],rc L,rfl,⟨rfl,h r ξ4⟩,Rh λx hx=>h x (ζ0 _ hx)⟩
theorem RA {O:List Nat} {w:World}: ∀ {L:List (Int×Value)} {cs:List Value},cz TR O w cs L->cs=rc L/\ ∀r∈L,∃A n c,r.2= .slice A n c
 |[],_,h=>⟨h,by simp⟩
 |r::L,cs,⟨c1,c2,U,h2,h3⟩=>by
  obtain⟨e,f⟩:=RA h3;subst U;rw[h2.1,e];refine⟨rfl,λx hx=>?_⟩;rcases ζw.1 hx with rfl|hx
  ·exact h2.2
  ·exact f x hx
noncomputable def abL:Value->Nat
 | .slice _ n _=>n
 |_=>0
noncomputable def emp (r:Int×Value):Bool:=abL r.2==0
noncomputable def nA:List (Int×Value)->Nat->Int
 |[],_=> -1
 |r::rest,k=>bif emp r then(k:Int) else nA rest (k+1)
theorem alj {n:Nat} {A:Option Addr} {c:Nat} {p:Int}:emp (p,.slice A n c)=((n:Int)==0):=by
 unfold emp abL;cases h:n==0<;>simp_all
set_option maxRecDepth 100000 in
set_option maxHeartbeats 4000000 in
theorem YF {O:List Nat} {w:World} (hO:OB O w) {p:Int} {A:Option Addr} {n c:Nat}:Calls γ 263 #[.agg #[.int .u64 p,.slice A n c]] w (ll (xJ Ty.bool) O w (emp (p,.slice A n c))):=by
 refine lC (args:=[.agg #[.int .u64 p,.slice A n c]]) (N:=7) ζW rfl rfl rfl ?_;refine aS ?_;refine bl (l:=[0,1]) rfl ?_;refine u7 rfl rfl rfl rfl rfl rfl [.int .u64 p,.slice A n c] rfl hO (λb1 w1 n1=>?_);refine aK ak [1] [(1,(.pointer (some ⟨b1,0,none⟩)))] rfl ⟨rfl,trivial⟩ ?_;refine bc ?_;refine aT ?_;refine aS ?_;refine bl (l:=[0,1,2,3,4]) rfl ?_;refine aK ak [0] [(3,(.pointer (some ⟨b1,1,none⟩)))] rfl ⟨rfl,trivial⟩ ?_;refine fX ak rfl rfl rfl rfl rfl rfl rfl n1.cf [.slice A n c] rfl rfl (.inr rfl) (.slice A n c) rfl ?_;refine aK ak [2,3,4] [(2,.bool ((n:Int)==0))] rfl ⟨rfl,trivial⟩ ?_;refine bc ?_;refine aT ?_;refine fz ?_;refine iL rfl ⟨_,rfl,?_,n1.fr⟩;exact pA.2 (by rw[alj];rfl)
set_option maxRecDepth 100000 in
set_option maxHeartbeats 4000000 in
theorem ar2 {O:List Nat} {w:World} (hO:OB O w) {v:Value} {aE:List (Int×Value)} (hv:TR.slice.is [] w v aE):Calls γ 294 #[v,.func (.func 263) #[] #[]] w (ll (xJ (Ty.int .i64)) O w (nA aE 0)):=by
 obtain⟨A,c,rfl,OR,Yc⟩:=iJ hv;refine lC (args:=[.slice A aE.length c,.func (.func 263) #[] #[]]) (N:=19) ζT rfl rfl rfl ?_;refine aS ?_;refine bl (l:=[0]) rfl ?_;refine aK ak [0] [(0,.slice A aE.length c),(1,.func (.func 263) #[] #[])] rfl ⟨rfl,rfl,trivial⟩ ?_;refine bc ?_;refine aT ?_;refine aS ?_;refine aS ?_;refine bl (l:=[0,1,2]) rfl ?_;refine aK ak [0,1,2] [(0,.slice A aE.length c),(1,.func (.func 263) #[] #[]),(7,.int .i64 (aE.length:Int)),(8,.int .i64 ((0:Nat):Int))] rfl ⟨rfl,rfl,rfl,rfl,trivial⟩ ?_;refine bc ?_;refine aT ?_;refine u6 ?_;refine Sw (λm E W=> ∃(rest:List (Int×Value)) (i:Nat),rest.length=m/\aE.drop i=rest/\E=[(0,.slice A aE.length c),(1,.func (.func 263) #[] #[]),(7,.int .i64 (aE.length:Int)),(8,.int .i64 (i:Int))]/\Fr [] w W/\nA rest i=nA aE 0) _
  [(0,.slice A aE.length c),(1,.func (.func 263) #[] #[]),(7,.int .i64 (aE.length:Int)),(8,.int .i64 ((0:Nat):Int))] ⟨rfl,rfl,rfl,rfl,trivial⟩ ⟨aE,0,rfl,rfl,rfl,Fr.refl _ _,rfl⟩ ?_
 rintro m E W ⟨rest,i,rfl,XP,rfl,hF,hf⟩;rcases rest with _|⟨z,rest⟩
 ·have hl:=drop_nil XP;have hc:(decide ((i:Int)<(aE.length:Int)))=false:=decide_eq_false (by omega);refine aS ?_;refine bl (l:=[0]) rfl ?_;refine aK ak [0] [(9,.bool (decide ((i:Int)<(aE.length:Int))))] rfl ⟨rfl,trivial⟩ ?_;refine bc ?_;refine aT ?_;refine aS ?_;refine ke rfl hc ?_;refine Sv ?_;refine xR (xR (SE (aT ?_)));refine aS ?_;refine bl (l:=[0]) rfl ?_;refine aK ak [0] [(4,.int .i64 (-1))] rfl ⟨rfl,trivial⟩ ?_;refine bc ?_;refine aT ?_;refine fz ?_;exact iL rfl ⟨_,rfl,fk.2 (by rw[<-hf];rfl),hF⟩
 obtain⟨hl,hg,hd⟩:=drop_cons XP;have hc:(decide ((i:Int)<(aE.length:Int)))=true:=decide_eq_true (by omega);refine aS ?_;refine bl (l:=[0]) rfl ?_;refine aK ak [0] [(0,.slice A aE.length c),(1,.func (.func 263) #[] #[]),(7,.int .i64 (aE.length:Int)),(8,.int .i64 (i:Int)),(9,.bool (decide ((i:Int)<(aE.length:Int))))] rfl ⟨rfl,rfl,rfl,rfl,rfl,trivial⟩ ?_;refine bc ?_;refine aT ?_;refine aS ?_;refine jV rfl hc ?_;refine gW ?_;refine aT ?_;refine aS ?_;refine u6 ?_;refine aS ?_;refine bl (l:=[0,1]) rfl ?_;refine aK ak [0,1] [(0,.slice A aE.length c),(1,.func (.func 263) #[] #[]),(5,.int .i64 (i:Int)),(7,.int .i64 (aE.length:Int)),(8,.int .i64 (i:Int))] rfl ⟨rfl,rfl,rfl,rfl,rfl,trivial⟩ ?_;refine bc ?_;refine aT ?_;refine aS ?_;refine bl (l:=[0,1,2,3,4,5]) rfl ?_;refine aK ak [0,1,2] [(0,.slice A aE.length c),(1,.func (.func 263) #[] #[]),(5,.int .i64 (i:Int)),(7,.int .i64 (aE.length:Int)),(8,.int .i64 (i:Int)),(11,.func (.func 263) #[] #[]),(12,.slice A aE.length c),(13,.int .i64 (i:Int))] rfl ⟨rfl,rfl,rfl,rfl,rfl,rfl,rfl,rfl,trivial⟩ ?_;refine SD ak rfl rfl rfl rfl rfl rfl rfl rfl rfl rfl hv rfl (ζ3 _) (by rw[μ];exact hg) (λp6 Av=>?_);refine adH ak rfl rfl rfl rfl rfl rfl rfl Av hF rfl rfl (λv6 AI=>?_);obtain⟨cs,⟨rfl,A2,n2,c2,e2⟩,rfl⟩:=AI;obtain⟨p,q⟩:=z;simp only at e2;subst e2;refine adF (O:=O) (first:=[]) (cap:=[]) rfl rfl rfl rfl rfl rfl rfl V5 (YF (hF.ob hO)) (λv7 w7 g7 f7=>?_);obtain rfl:=pA.1 g7;have hF:=hF.trans f7;rw[nA] at hf;refine bc ?_;refine aT ?_;rcases hb:emp (p,.slice A2 n2 c2) with _|_
 ·refine sT rfl ?_;refine gW ?_;refine BV (aT ?_);refine bl (l:=[0,1]) rfl ?_;refine aK ak [0,1] [(0,.slice A aE.length c),(1,.func (.func 263) #[] #[]),(7,.int .i64 (aE.length:Int)),(8,(.int .i64 (β.wrap ((i:Int)+(1:Int)))))] rfl ⟨rfl,rfl,rfl,rfl,trivial⟩ ?_;refine bc ?_;rw[hb] at hf;exact I6 rest.length [(0,.slice A aE.length c),(1,.func (.func 263) #[] #[]),(7,.int .i64 (aE.length:Int)),(8,(.int .i64 ((i+1:Nat):Int)))] (ξQ _) ⟨rfl,rfl,rfl,congrArg (λz=>some (ζo .i64 z)) (u9 hl (ι OR Yc)),trivial⟩ ⟨rest,i+1,rfl,hd,rfl,hF,hf⟩
 ·refine xO rfl ?_;refine aS ?_;refine bl (l:=[0,1]) rfl ?_;refine aK ak [0,1] [(4,.int .i64 (i:Int))] rfl ⟨rfl,trivial⟩ ?_;refine bc ?_;refine aT ?_;refine fz ?_;rw[hb] at hf;exact I5 (jW (jW (I5 (jW (iL rfl ⟨_,rfl,fk.2 (by rw[<-hf];rfl),hF⟩)))))
theorem Wd: ∀(L:List (Int×Value)) (k:Nat),(nA L k= -1/\L.filter (λr=>!emp r)=L)\/ ∃i x,nA L k=((k+i:Nat):Int)/\L[i]? =some x/\emp x=true/\(L.take i).filter (λr=>!emp r)=L.take i
 |[],k=> .inl ⟨rfl,rfl⟩
 |r::L,k=>by
  rw[nA];cases hr:emp r with
  |true=>exact .inr ⟨0,r,rfl,rfl,hr,rfl⟩
  |false=>
   rcases Wd L (k+1) with⟨U,h2⟩|⟨i,x,U,h2,h3,h4⟩
   ·exact .inl ⟨U,by rw[ξw,hr];simp only[ζ1,if_true];rw[h2]⟩
   ·exact .inr ⟨i+1,x,by rw[show k+(i+1)=k+1+i by omega];exact U,by simpa using h2,h3,by
     rw[List.take_succ_cons,ξw,hr];simp only[ζ1,if_true];rw[h4]⟩
theorem Wl {p:Int×Value->Bool} {L:List (Int×Value)} {j:Nat} {x:Int×Value} (h:L[j]? =some x):(L.take (j+1)).filter p=(L.take j).filter p++bif p x then[x] else[]:=by
 rw[ζ8,h,List.filter_append];cases hp:p x<;>simp[hp]
theorem adE {P:Program} {r:Option Nat} {N:Nat} {Θ:dP} {ops:Array Oper} {Q:Exit->Act->World->Prop} {l:List Nat} {E:Env} {ds:List Deferred} {w:World} {i:Nat} {o:Oper} (aO:Θ.ok P) (ho:ops[i]? =some o) (hw:want N ops E o.guard=some true) (hd:o.dst=none) {t:Nat} {x:Operand} {ti te:TI}
  (ah:o.op= .call { callee:= .builtin .clear,args:= #[x],argTypes:= #[t] }) (ht:Θ.get t=some ti) (h5:ti.tag=5) (ct:Θ.get ti.e=some te) {g of m c e k:Nat} {cur:Array Value} (hx:ev E x=some (.slice (some ⟨g,of,none⟩) (m+1) c)) (hg:w.heap[g]? =some (.cells cur e (0,0))) (hz:te.zero.cells.size=k) (U: ∀u∈(χ te.zero.cells (m+1)).toList,u.oneCell'=true) (G6:of+(m+1)*k<=cur.size)
  (h: ∀(W:World) (new:Array Value),Fr [g] w W->W.heap[g]? =some (.cells new e (0,0))->new=(cur.toList.take of++(χ te.zero.cells (m+1)).toList++cur.toList.drop (of+(m+1)*k)).toArray->WO P r N ops Q l E ds W):WO P r N ops Q (i::l) E ds w:=by
 have hu:=(aO.fits ht).slice h5;have hl:(χ te.zero.cells (m+1)).toList.length=(m+1)*k:=by rw[υ,size_zeroCells,hz]
 have gv:=run_storeCells_at P g of e (χ te.zero.cells (m+1)).toList 0 cur w hg (by rw[hl];omega) U;rw[hl] at gv;simp only[ζf] at gv;have aX:(ζs #[t] o.type #[.slice (some ⟨g,of,none⟩) (m+1) c]).run P w= .ok (.tuple #[]) (w.setRow g (cur.toList.take of++(χ te.zero.cells (m+1)).toList++cur.toList.drop (of+(m+1)*k)).toArray):=by
  simp only[ζs,ξk,List.getElem?_toArray,ξ9,run_underlying hu,ξf];simp[vf (aO.fits ct),gv]
 have oG:=h (w.setRow g (cur.toList.take of++(χ te.zero.cells (m+1)).toList++cur.toList.drop (of+(m+1)*k)).toArray) _ (qS hg) (by simp only[ζY,ξY,hg,if_true,τ]) rfl;refine auf (v:= .tuple #[]) ho hw hd (by rw[ah];simp) (λa ha=>?_) oG;simp only[execOp,ah,ξk,resolve,ξX,ξf,invoke,builtin,ξP,ζ2,ζe,ha.eval hx,aX]
theorem adM {n:Nat} {a b u:Value} (ha:a.oneCell'=true) (hb:b.oneCell'=true) (h:u∈(χ (ζZ #[a,b]).cells n).toList):u.oneCell'=true:=by
 simp only[χ,Value.cells,Array.toList_map,List.mem_map] at h;obtain⟨i,_,rfl⟩:=h;rcases Nat.mod_two_eq_zero_or_one i with h|h<;>simp[h,ha,hb]
set_option maxRecDepth 100000 in
set_option maxHeartbeats 4000000 in
theorem ar0 {O:List Nat} {w:World} (hO:OB O w) {B:Nat} {v:Value} {aE:List (Int×Value)} (hv:Go.Dc.Own TR 132 B O w v aE):Calls γ 262 #[v,.func (.func 263) #[] #[]] w (ig TR 132 B O w v (aE.filter λr=>!emp r)):=by
 obtain⟨A,c,rfl,fI,mR⟩:=hv.form;refine lC (args:=[.slice A aE.length c,.func (.func 263) #[] #[]]) (N:=42) ζV rfl rfl rfl ?_;refine aS ?_;refine bl (l:=[0]) rfl ?_;refine aK ak [0] [(0,.slice A aE.length c),(1,.func (.func 263) #[] #[])] rfl ⟨rfl,rfl,trivial⟩ ?_;refine bc ?_;refine aT ?_;refine aS ?_;refine bl (l:=[0,1,2,3]) rfl ?_;refine aK ak [0,1] [(0,.slice A aE.length c),(1,.func (.func 263) #[] #[]),(8,.slice A aE.length c),(9,.func (.func 263) #[] #[])] rfl ⟨rfl,rfl,rfl,rfl,trivial⟩ ?_;refine I4 rfl rfl rfl rfl rfl alA rfl (ar2 hO (hv.oz.data (Re _) (λ_ _ h=>by cases h))) (λv2 w2 g2 f2=>?_);obtain rfl:=fk.1 g2;refine aK ak [3] [(0,.slice A aE.length c),(1,.func (.func 263) #[] #[]),(5,.int .i64 (nA aE 0))] rfl ⟨rfl,rfl,rfl,trivial⟩ ?_;refine bc ?_;refine aT ?_;refine aS ?_;refine aS ?_;refine bl (l:=[0,1]) rfl ?_;refine aK ak [0,1] [(0,.slice A aE.length c),(1,.func (.func 263) #[] #[]),(5,.int .i64 (nA aE 0)),(12,.bool ((nA aE 0)== -1))] rfl ⟨rfl,rfl,rfl,rfl,trivial⟩ ?_;refine bc ?_;refine aT ?_;rcases Wd aE 0 with⟨hr,anc⟩|⟨i0,x0,hr,sj,qb,hf0⟩
 ·refine jV rfl (by rw[hr];rfl) ?_;refine aS ?_;refine bl (l:=[0,1]) rfl ?_;refine aK ak [0,1] [(4,.slice A aE.length c)] rfl ⟨rfl,trivial⟩ ?_;refine bc ?_;refine aT ?_;refine fz ?_;refine jW (iL rfl ⟨_,O,rfl,?_⟩);rw[anc];exact⟨hv.c7 f2,f2.gj,f2.ob hO,Sub.refl _,λk hk _=>f2.block k hk (by simp),λ_ _ h=>h⟩
 rw[ξ0] at hr;refine ke rfl (by rw[hr];exact beq_eq_false_iff_ne.2 (by omega)) ?_;rw[hr];refine gW ?_;refine aT ?_;obtain⟨cs,⟨bN,jl⟩,fK⟩:=hv.ex;have G9:=(ε.1 sj).1;rcases jl with⟨_,oI⟩|⟨g,cap,cur,jl,jA,hh,mo,tR,fi,lJ⟩
 ·omega
 injection jl with hA qu j5;subst hA;subst j5;have gZ:=hv.mem g rfl;obtain⟨tT,oF⟩:=RA fK;have pV:TR.n=2:=rfl;rw[pV] at fi lJ;obtain⟨R,hR⟩: ∃R,R=cur.toList.drop (aE.length*2):=⟨_,rfl⟩;have mj:cur.toList=rc aE++R:=by
  rw[hR,<-tT,<-lJ];exact(ξ7 _ _).symm
 have hRl:aE.length*2+R.length=c*2:=by
  have:=congrArg ζp mj;rw[υ,fi] at this;simp only[ν,rc,jR,ρ] at this;omega
 have hb:ck w g 132 (rc aE++R):=by
  unfold ck;rw[<-mj,ξz];exact hh
 have cM:=hb.c7 f2;have kG:β.wrap ((i0:Int)+1)=((i0+1:Nat):Int):=u9 G9 (by omega);refine aS ?_;refine aS ?_;refine bl (l:=[0,1,2]) rfl ?_;refine aK ak [0,1,2] [(0,.slice (some ⟨g,0,none⟩) aE.length c),(1,.func (.func 263) #[] #[]),(5,.int .i64 (i0:Int)),(6,.int .i64 (β.wrap ((i0:Int)+1)))] rfl ⟨rfl,rfl,rfl,rfl,trivial⟩ ?_;rw[kG];refine bc ?_;refine aT ?_;refine u6 ?_;refine Sw (λm E W=> ∃(i j:Nat) (M:List (Int×Value)),aE.length-j=m/\i<j/\j<=aE.length/\E=[(0,.slice (some ⟨g,0,none⟩) aE.length c),(1,.func (.func 263) #[] #[]),(5,.int .i64 (i:Int)),(6,.int .i64 (j:Int))]/\Fr [g] w W/\ck W g 132 (rc M++R)/\M.length=aE.length/\M.take i=(aE.take j).filter (λr=>!emp r)/\M.drop j=aE.drop j) _
  [(0,.slice (some ⟨g,0,none⟩) aE.length c),(1,.func (.func 263) #[] #[]),(5,.int .i64 (i0:Int)),(6,.int .i64 ((i0+1:Nat):Int))] ⟨rfl,rfl,rfl,rfl,trivial⟩ ⟨i0,i0+1,aE,rfl,ξQ _,G9,rfl,f2.more (by simp),cM,rfl,by rw[Wl sj,hf0,qb];simp,rfl⟩ ?_
 rintro m E W ⟨i,j,M,hm,cC,XZ,rfl,rO,GR,Xk,zB,Xi⟩;refine aS ?_;refine aS ?_;refine bl (l:=[0,1,2,3]) rfl ?_;refine aK ak [0,1,2,3] [(0,.slice (some ⟨g,0,none⟩) aE.length c),(1,.func (.func 263) #[] #[]),(5,.int .i64 (i:Int)),(6,.int .i64 (j:Int)),(19,.bool (decide ((j:Int)<(aE.length:Int))))] rfl ⟨rfl,rfl,rfl,rfl,rfl,trivial⟩ ?_;refine bc ?_;refine aT ?_
 by_cases iy:j<aE.length
 case neg=>
  refine ke rfl (decide_eq_false (by omega)) ?_;refine Sv ?_;refine xR (xR (SE (aT ?_)));refine aS ?_;refine bl (l:=[0,1,2,3]) rfl ?_;refine aK ak [0,1] [(0,.slice (some ⟨g,0,none⟩) aE.length c),(5,.int .i64 (i:Int)),(36,.slice (some ⟨g,0,none⟩) aE.length c),(37,.int .i64 (i:Int))] rfl ⟨rfl,rfl,rfl,rfl,trivial⟩ ?_;refine BS ak rfl rfl rfl rfl rfl rfl rfl rfl rfl rfl mo (by omega) ?_;rw[if_neg (by omega),τ,jf,ξ0];obtain⟨q,hq⟩: ∃q,aE.length-i=q+1:=⟨aE.length-i-1,by omega⟩;rw[hq];have bz:(rc M++R).length=c*2:=by simp only[ν,rc,jR,ρ];omega
  refine adE (k:=2) ak rfl rfl rfl rfl rfl rfl rfl rfl GR rfl (λu hu=>adM rfl rfl hu) (by simp only[ξK,bz];show i*2+(q+1)*2<=c*2;omega) (λW3 new hsr hsh fj=>?_);have Np:Fr [g] w W3:=rO.trans hsr;have auY:(rc M++R).take (i*2)=rc (M.take i):=by
   unfold rc;rw[ξa (by rw[jR,ρ];omega),H9,ζ4]
  have gT:new.toList=rc (M.take i)++((χ (ζZ #[.int .u64 0,.slice none 0 0]).cells (q+1)).toList++(rc M++R).drop (i*2+(q+1)*2)):=by
   rw[fj];simp only[ξD,ξo]
   congr 1
  have nL:new.size=c*2:=by
   rw[<-υ,gT];simp only[ν,ξx,υ,size_zeroCells,rc,jR,ρ,ξy];show min i M.length*2+((q+1)*2+(M.length*2+R.length-(i*2+(q+1)*2)))=c*2;omega
  refine bc ?_;refine aT ?_;refine aS ?_;refine bl (l:=[0,1,2,3]) rfl ?_;refine aK ak [0,1] [(39,.slice (some ⟨g,0,none⟩) aE.length c),(40,.int .i64 (i:Int))] rfl ⟨rfl,rfl,trivial⟩ ?_;refine SB ak rfl rfl rfl rfl rfl rfl rfl rfl rfl rfl mo (by omega) ?_;refine aK ak [3] [(4,.slice (some ⟨g,0,none⟩) i c)] rfl ⟨rfl,trivial⟩ ?_;refine bc ?_;refine aT ?_;refine fz ?_;refine iL rfl ⟨_,O,rfl,?_⟩;have hjx:aE.take j=aE:=ξR (by omega);rw[hjx] at zB;have wM:(aE.filter λr=>!emp r).length=i:=by rw[<-zB,ξy];omega
  have:=SF (T:=TR) (e:=132) (B:=B) (n0:=aE.length) (zs:=aE.filter λr=>!emp r) (cap:=c) hO gZ jA Np hsh nL tR (by omega) (Rh λx hx=>oF x (ξC.1 hx).1) (by
   rw[gT,zB];refine ξE ?_;rw[rc,jR,ρ];rfl)
  rw[wM] at this;exact this
 refine jV rfl (decide_eq_true (by omega)) ?_;refine gW ?_;refine aT ?_;obtain⟨z,hz⟩: ∃x,aE[j]? =some x:=⟨_,η iy⟩;have hMz:M[j]? =some z:=by
  have:=congrArg (·[0]?) Xi;simp only[ξG,ζf] at this;rw[this,hz]
 obtain⟨A2,n2,c2,e2⟩:=oF z (ξh hz);obtain⟨p,q⟩:=z;simp only at e2;subst e2;have Xj: ∀(M':List (Int×Value)),(∀k,j<k->M'[k]? =M[k]?)->M'.drop (j+1)=aE.drop (j+1):=by
  intro M' h;apply List.ext_getElem?;intro k;have:=congrArg (·[k+1]?) Xi;simp only[ξG] at this ⊢;rw[h _ (by omega),show j+1+k=j+(k+1) by omega,this]
 have e1: ∀j:Nat,(j:Int).toNat*({ tag:=8,k:=0,e:=0,fs:=[(29,0),(40,1)],size:=2,bytes:=32,zero:= .agg #[.int .u64 0,.slice none 0 0] }:TI).size=j*2:=λj=>by rw[μ]
 refine aS ?_;refine u6 ?_;refine aS ?_;refine bl (l:=[0,1,2,3,4,5]) rfl ?_;refine aK ak [0,1] [(0,.slice (some ⟨g,0,none⟩) aE.length c),(1,.func (.func 263) #[] #[]),(5,.int .i64 (i:Int)),(6,.int .i64 (j:Int)),(22,.slice (some ⟨g,0,none⟩) aE.length c),(23,.int .i64 (j:Int))] rfl ⟨rfl,rfl,rfl,rfl,rfl,rfl,trivial⟩ ?_;refine xQ ak rfl rfl rfl rfl rfl rfl rfl rfl rfl rfl (by omega) (by rw[μ];omega) ?_;rw[e1,jf,ξ0];refine fX ak rfl rfl rfl rfl rfl rfl rfl GR [.int .u64 p,.slice A2 n2 c2] (Rf hMz) rfl (.inl rfl) (.agg #[.int .u64 p,.slice A2 n2 c2]) rfl ?_;refine BR ak rfl rfl rfl rfl rfl rfl [(.int .u64 0),(.slice none 0 0)] rfl (rO.ob hO) (λb7 w7 n7=>?_);refine iK ak rfl rfl rfl rfl rfl rfl rfl n7.cf [.int .u64 p,.slice A2 n2 c2] rfl rfl (by simp[ξ]) rfl [.int .u64 p,.slice A2 n2 c2] rfl (λw8 rR f8=>?_);have Qm:g≠b7:=by have:=GR.lt;have:=n7.ge;omega
 have am0:=(GR.c7 n7.fr).fr f8 (by simp;exact Qm);have Xb:Fr [g] w w8:=by
  refine⟨f8.os.trans (n7.fr.os.trans rO.os),f8.tape.trans (n7.fr.tape.trans rO.tape),f8.output.trans (n7.fr.output.trans rO.output),ι rO.size (ι n7.fr.size f8.size),λk hk hn=>?_⟩;have U:=rO.size;have h2:=n7.ge;have h3:=n7.fr.size;rw[f8.block k (by omega) (by simp;omega),n7.fr.block k (by omega) (by simp),rO.block k hk hn]
 refine bc ?_;refine aT ?_;refine aS ?_;refine bl (l:=[0,1,2,3]) rfl ?_;refine aK ak [0] [(0,.slice (some ⟨g,0,none⟩) aE.length c),(1,.func (.func 263) #[] #[]),(5,.int .i64 (i:Int)),(6,.int .i64 (j:Int)),(7,(.pointer (some ⟨b7,0,none⟩))),(26,.func (.func 263) #[] #[])] rfl ⟨rfl,rfl,rfl,rfl,rfl,rfl,trivial⟩ ?_;refine fX ak rfl rfl rfl rfl rfl rfl rfl rR [.int .u64 p,.slice A2 n2 c2] rfl rfl (.inl rfl) (.agg #[.int .u64 p,.slice A2 n2 c2]) rfl ?_;refine adF (O:=O) (first:=[]) (cap:=[]) rfl rfl rfl rfl rfl rfl rfl V5 (YF (Xb.ob hO)) (λv9 w9 g9 f9=>?_);obtain rfl:=pA.1 g9;have Xc:=Xb.trans (f9.more (by simp));have XA:=am0.c7 f9;have amY:=rR.c7 f9;refine aK ak [3] [(0,.slice (some ⟨g,0,none⟩) aE.length c),(1,.func (.func 263) #[] #[]),(5,.int .i64 (i:Int)),(6,.int .i64 (j:Int)),(7,(.pointer (some ⟨b7,0,none⟩))),(29,.bool (!emp (p,.slice A2 n2 c2)))] rfl ⟨rfl,rfl,rfl,rfl,rfl,rfl,trivial⟩ ?_;refine bc ?_;refine aT ?_;have G8:=Wl (p:=λr=>!emp r) hz;rcases hb:emp (p,.slice A2 n2 c2) with _|_
 ·rw[hb] at G8;refine xO rfl ?_;refine aS ?_;refine bl (l:=[0,1,2,3,4]) rfl ?_;refine aK ak [0,1] [(0,.slice (some ⟨g,0,none⟩) aE.length c),(1,.func (.func 263) #[] #[]),(5,.int .i64 (i:Int)),(6,.int .i64 (j:Int)),(7,(.pointer (some ⟨b7,0,none⟩))),(30,.slice (some ⟨g,0,none⟩) aE.length c),(31,.int .i64 (i:Int))] rfl ⟨rfl,rfl,rfl,rfl,rfl,rfl,rfl,trivial⟩ ?_;refine fX ak rfl rfl rfl rfl rfl rfl rfl amY [.int .u64 p,.slice A2 n2 c2] rfl rfl (.inl rfl) (.agg #[.int .u64 p,.slice A2 n2 c2]) rfl ?_;refine xQ ak rfl rfl rfl rfl rfl rfl rfl rfl rfl rfl (by omega) (by rw[μ];omega) ?_;rw[e1,jf,ξ0];refine iK ak rfl rfl rfl rfl rfl rfl rfl XA [.int .u64 p,.slice A2 n2 c2] rfl rfl (by simp[ξ]) (ξe (by simp only[ν,rc,jR,ρ];show i*2+2<=_;omega)) (rc (M.set i (p,.slice A2 n2 c2))++R) (abf (x:=(p,.slice A2 n2 c2)) (by omega)) (λw10 N9 f10=>?_);refine bc ?_;refine aT ?_;refine bl (l:=[0,1,2]) rfl ?_;refine aK ak [0,1,2] [(0,.slice (some ⟨g,0,none⟩) aE.length c),(1,.func (.func 263) #[] #[]),(5,.int .i64 (β.wrap ((i:Int)+1))),(6,.int .i64 (j:Int))] rfl ⟨rfl,rfl,rfl,rfl,trivial⟩ ?_;rw[u9 (show i<aE.length by omega) (by omega)];refine bc ?_;refine BV (aT ?_);refine bl (l:=[0,1,2]) rfl ?_;refine aK ak [0,1,2] [(0,.slice (some ⟨g,0,none⟩) aE.length c),(1,.func (.func 263) #[] #[]),(5,.int .i64 ((i+1:Nat):Int)),(6,.int .i64 (β.wrap ((j:Int)+1)))] rfl ⟨rfl,rfl,rfl,rfl,trivial⟩ ?_;rw[u9 iy (by omega)];refine bc ?_;refine I6 (aE.length-(j+1)) [(0,.slice (some ⟨g,0,none⟩) aE.length c),(1,.func (.func 263) #[] #[]),(5,.int .i64 ((i+1:Nat):Int)),(6,.int .i64 ((j+1:Nat):Int))] (by omega) ⟨rfl,rfl,rfl,rfl,trivial⟩ ⟨i+1,j+1,M.set i (p,.slice A2 n2 c2),rfl,by omega,by omega,rfl,Xc.trans f10,N9,by rw[ξF];exact Xk,?_,Xj _ (λk hk=>List.getElem?_set_ne (by omega))⟩;rw[G8,<-zB,ζ8,List.take_set_of_le (by omega),List.getElem?_set_self (by omega)];rfl
 ·rw[hb] at G8;refine sT rfl ?_;refine gW ?_;refine BV (aT ?_);refine bl (l:=[0,1,2]) rfl ?_;refine aK ak [0,1,2] [(0,.slice (some ⟨g,0,none⟩) aE.length c),(1,.func (.func 263) #[] #[]),(5,.int .i64 (i:Int)),(6,.int .i64 (β.wrap ((j:Int)+1)))] rfl ⟨rfl,rfl,rfl,rfl,trivial⟩ ?_;rw[u9 iy (by omega)];refine bc ?_;refine I6 (aE.length-(j+1)) [(0,.slice (some ⟨g,0,none⟩) aE.length c),(1,.func (.func 263) #[] #[]),(5,.int .i64 (i:Int)),(6,.int .i64 ((j+1:Nat):Int))] (by omega) ⟨rfl,rfl,rfl,rfl,trivial⟩ ⟨i,j+1,M,rfl,by omega,by omega,rfl,Xc,XA,Xk,?_,Xj M (λ_ _=>rfl)⟩;rw[G8,<-zB];simp
end Go.Proofs.YtoggponeookhbaaGreatDoor
end
section


end
section
namespace Go.Proofs.YtoggponeookhbaaGreatDoor
open Go.RowKit Go.Dc Go.Vx
theorem Wu: ∀ {S:List Nat} {rs:List (Int×Value)} {xs:List (Int×List Int)} {B:Nat} {w:World} {k:Nat} {r:Int×Value} {y:Int×List Int},eD TW 35 B w S rs xs->rs[k]? =some r->xs[k]? =some y->r.1=y.1/\ey TW 35 B w r.2 y.2/\ ∀g,r.2.ownBlock=some g->g∈S
 |_,x::rs,z::xs,_,_,0,r,y,⟨S2,U,h2,h3,h4⟩,hr,hy=>by
  simp at hr hy;subst hr;subst hy;exact⟨U,h3,λg hg=>by rw[h2,hg];simp⟩
 |_,x::rs,z::xs,_,_,k+1,r,y,⟨S2,U,h2,h3,h4⟩,hr,hy=>by
  obtain⟨a,b,c⟩:=Wu h4 (by simpa using hr) (by simpa using hy);exact⟨a,b,λg hg=>by rw[h2];exact ξd _ (c g hg)⟩
 |_,[],_,_,_,_,_,_,_,hr,_=>by simp at hr
 |_,_::_,[],_,_,_,_,_,h,_,_=>h.elim
theorem aq9 {B:Nat} {O2:List Nat} {w:World} {rv:Value} {S:List Nat} {aE:List (Int×Value)} {bs:List aq} (hr:ey TR 132 B w rv aE) (hf:eD TW 35 B w S aE (bs.map bx)) (U: ∀g,rv.ownBlock=some g->g∉O2) (h2: ∀g∈S,g∉O2):(Ty.slice pa).is O2 w rv bs:=by
 have hlen:aE.length=bs.length:=by have:=hf.len;simpa using this
 obtain⟨cs,⟨A,c,hc,hl,hx⟩,hv⟩:=hr.data (Re _) U;refine⟨cs,⟨A,c,by rw[<-hlen];exact hc,by rw[<-hlen];exact hl,λk z hk=>?_⟩,hv⟩;have r6:k<aE.length:=by rw[hlen];exact(ε.1 hk).1
 obtain⟨ad,es,hA,hb,ho,fK,zZ⟩:=hx k _ (η r6);obtain⟨e1,e2,e3⟩:=Wu hf (η r6) (show(bs.map bx)[k]? =some (bx z) by simp[hk]);refine⟨ad,es,hA,hb,ho,?_,zZ⟩;refine⟨[.int .u64 z.aa],[aE[k].2],?_,rfl,uN rfl (e2.data l4 λg hg=>h2 g (e3 g hg))⟩;rw[fK.1,e1];rfl
theorem jd.ahp {B:Nat} {O O2:List Nat} {w:World} {b:Nat} {nv rv:Value} {S:List Nat} {aE:List (Int×Value)} {x:aP} (h:jd B O w b nv rv S aE x) (hO: ∀g∈O2,g<B):(Ty.slice pa).is O2 w rv x.au:=
 aq9 h.row.oz h.fo (λg hg ho=>by have:=(h.row.lt g hg).1;have:=hO g ho;omega) (λg hg ho=>by have:=(h.fo.lt g hg).1;have:=hO g ho;omega)
theorem IM:gi.Flat:=λh=>h
noncomputable def uX (x:aP):aP:=aP.mk x.aA (x.au.filter λz=>!(z.bt.length==0))
noncomputable def Hp (fuel:Sh) (x:aP) (pid:Int):Option (aP×Int):=
 (PB fuel x.au pid).bind λf=>bif (!f.2) then(m7 32 x.au f.1 [aq.mk pid []]).bind λbs=>some (aP.mk x.aA bs,f.1) else some (x,f.1)
set_option maxRecDepth 100000 in
set_option maxHeartbeats 4000000 in
theorem an2 {O:List Nat} {w:World} (hO:OB O w) {B b:Nat} {x:aP} (hG:dR KK [] w) (hB:B<=w.heap.size) (h:ri B O w b x) {pid:Int} {r:aP×Int} (hr:Hp shut x pid=some r):
  Calls γ 261 #[.pointer (some ⟨b,0,none⟩),.int .u64 pid] w (λen w'=>en= .returned (.int .i64 r.2)/\ ∃O',cg B O w O' w'/\ri B O' w' b r.1):=by
 obtain⟨nv,rv,S,aE,h⟩:=h;unfold Hp at hr;refine lC (args:=[.pointer (some ⟨b,0,none⟩),.int .u64 pid]) (N:=34) ζU rfl rfl rfl ?_;refine aS ?_;refine bl (l:=[0]) rfl ?_;refine aK ak [0] [(0,(.pointer (some ⟨b,0,none⟩))),(1,.int .u64 pid)] rfl ⟨rfl,rfl,trivial⟩ ?_;refine bc ?_;refine aT ?_;refine aS ?_;refine bl (l:=[0,1,2,3,4,5,6,7,8,9,10,11]) rfl ?_;refine aK ak [0,1,2,3] [(0,(.pointer (some ⟨b,0,none⟩))),(1,.int .u64 pid),(11,(.pointer (some ⟨b,1,none⟩)))] rfl ⟨rfl,rfl,rfl,trivial⟩ ?_;obtain⟨A1,c1,rfl,_,_⟩:=h.row.form;refine fX ak rfl rfl rfl rfl rfl rfl rfl h.cf [.slice A1 aE.length c1] rfl rfl (.inr rfl) (.slice A1 aE.length c1) rfl ?_;refine aK ak [5] [(0,(.pointer (some ⟨b,0,none⟩))),(1,.int .u64 pid),(12,.slice A1 aE.length c1),(13,.int .u64 pid)] rfl ⟨rfl,rfl,rfl,rfl,trivial⟩ ?_;obtain⟨f,hf,hr⟩:=bind_some hr;refine I4 rfl rfl rfl rfl rfl aly rfl (an3 (Bb _) hG (h.ahp (λ_ hg=>by cases hg)) hf) (λv2 w2 g2 f2=>?_);obtain⟨_,_,rfl,q1,q2⟩:=g2;obtain rfl:=fk.1 q1;obtain rfl:=pA.1 q2;have h:=h.c7 f2;have dD:cg B O w O w2:=cg.xr hO hB f2;refine aK ak [7,8,9,10,11] [(0,(.pointer (some ⟨b,0,none⟩))),(1,.int .u64 pid),(5,.int .i64 f.1),(6,.bool f.2)] rfl ⟨rfl,rfl,rfl,rfl,trivial⟩ ?_;refine bc ?_;refine aT ?_;refine aS ?_;refine aS ?_;refine bl (l:=[0,1]) rfl ?_;refine aK ak [0,1] [(0,(.pointer (some ⟨b,0,none⟩))),(1,.int .u64 pid),(5,.int .i64 f.1),(18,.bool (!f.2))] rfl ⟨rfl,rfl,rfl,rfl,trivial⟩ ?_;refine bc ?_;refine aT ?_;rcases oq hr with⟨hc,hr⟩|⟨hc,hr⟩
 rotate_left
 ·refine ke rfl hc ?_;refine gW ?_;refine aT ?_;refine aS ?_;refine bl (l:=[0,1]) rfl ?_;refine aK ak [0,1] [(4,.int .i64 f.1)] rfl ⟨rfl,trivial⟩ ?_;refine bc ?_;refine aT ?_;refine fz ?_;cases hr;exact iL rfl ⟨rfl,_,dD,_,_,_,_,h⟩
 refine jV rfl hc ?_;obtain⟨bs,fa,hr⟩:=bind_some hr;cases hr;refine bl (l:=[0,1,2,3,4,5,6,7,8,9,10,11,12,13,14]) rfl ?_;refine aK ak [0,1,2,3,4] [(1,.int .u64 pid),(5,.int .i64 f.1),(19,(.pointer (some ⟨b,0,none⟩))),(23,(.pointer (some ⟨b,1,none⟩)))] rfl ⟨rfl,rfl,rfl,rfl,trivial⟩ ?_;refine fX ak rfl rfl rfl rfl rfl rfl rfl h.cf [.slice A1 aE.length c1] rfl rfl (.inr rfl) (.slice A1 aE.length c1) rfl ?_;refine aK ak [6,7,8] [(5,.int .i64 f.1),(19,(.pointer (some ⟨b,0,none⟩))),(24,.slice A1 aE.length c1),(25,.int .i64 f.1),(27,.agg #[.int .u64 pid,.slice none 0 0])] rfl ⟨rfl,rfl,rfl,rfl,rfl,trivial⟩ ?_;refine adG ak rfl rfl rfl rfl rfl rfl rfl rfl rfl rfl (T:=TR) (xs:=[(pid,.slice none 0 0)]) (vs:=[.agg #[.int .u64 pid,.slice none 0 0]]) rfl ⟨⟨_,⟨rfl,_,_,_,rfl⟩,rfl⟩,trivial⟩ rfl rfl rfl dD.ob (λb3 w3 q3=>?_);have h:=h.c7 q3.fr;have fh:=dD.trans (cg.xr dD.ob (ι hB dD.tr.size) q3.fr);have Ol:=q3.data dD.ob;have Pa:=(q3.own (B:=0) (Nat.zero_le _)).plain;have W8:B<=w3.heap.size:=ι hB fh.tr.size;obtain⟨j0,j1,jsz,rfl⟩:=YJ fa;have hlen:aE.length=x.au.length:=by have:=h.fo.len;simpa using this
 have rW:IG aE f.1 [(pid,.slice none 0 0)]=some (aE.take f.1.toNat++[(pid,.slice none 0 0)]++aE.drop f.1.toNat):=by
  unfold IG m7;rw[if_pos ⟨j0,by rw[hlen];exact j1,by rw[hlen];exact jsz⟩]
 refine adI rfl rfl rfl rfl rfl alz rfl (ar3 fh.ob W8 h.row (fk.2 rfl) Ol Pa rW) (λv' w' O' ap=>?_);have dC:=fh.trans (cg.QL W8 h.row ap);have hb4:=ap.cf h.cf h.rb;obtain⟨A2,c2,rfl,_,_⟩:=ap.own.form;have iT:=h.fo.ins f.1.toNat pid (by rw[hlen];omega);generalize hL:(aE.take f.1.toNat++[(pid,.slice none 0 0)]++aE.drop f.1.toNat)=L at*
 refine aK ak [11,12,13] [(5,.int .i64 f.1),(29,.slice A2 L.length c2),(32,(.pointer (some ⟨b,1,none⟩)))] rfl ⟨rfl,rfl,rfl,trivial⟩ ?_;refine iK ak rfl rfl rfl rfl rfl rfl rfl hb4 [.slice A2 L.length c2] rfl rfl (by simp[ξ]) rfl [nv,.slice A2 L.length c2] rfl (λw5 tP f5=>?_);have kE:=dC.trans (cg.lk dC.ob (ap.sub _ h.mem) h.ge f5);refine bc ?_;refine aT ?_;refine aS ?_;refine bl (l:=[0,1]) rfl ?_;refine aK ak [0,1] [(4,.int .i64 f.1)] rfl ⟨rfl,trivial⟩ ?_;refine bc ?_;refine aT ?_;refine fz ?_;refine iL rfl ⟨rfl,_,kE,_,_,_,_,h.boxes (x':=aP.mk x.aA (x.au.take f.1.toNat++[aq.mk pid []]++x.au.drop f.1.toNat)) ap tP f5 ?_ h.nd h.out rfl⟩;simpa[ζ4,ζx,bx] using iT
theorem auj {P:Program} {r:Option Nat} {N:Nat} {ops:Array Oper} {Q:Exit->Act->World->Prop} {l:List Nat} {E:Env} {ds:List Deferred} {w:World} {i d:Nat} {o:Oper} (ho:ops[i]? =some o) (hw:want N ops E o.guard=some true) (hd:o.dst=some d) (hN:η6 d N=true) {x:Operand} {args:Array Operand} {ts:Array TypeId} (ah:o.op= .call { callee:= .value x,args:=args,argTypes:=ts })
  {g:FuncId} {first cap vs:List Value} (hx:ev E x=some (.func (.func g) first.toArray cap.toArray)) (fc:l5 E args.toList=some vs) (he: ∀(vs:Array Value) (u:World),(callFunc g vs).run P u= .ok (.enter g vs) u)
  {R:Ending->World->Prop} (iv:Calls P g (first++vs++cap).toArray w R) (h: ∀e w',R e w'-> ∃v,e= .returned v/\WO P r N ops Q l ((d,v)::E) ds w'):WO P r N ops Q (i::l) E ds w:=
 SC ho hw hd hN (by rw[ah];simp) (λa ha=>by simpa using abV (w:=w) ha ah hx fc he) iv h
noncomputable def uo (fuel:Sh) (x:aP) (pid:Int):Option (aP×Int×Int):=
 (AO fuel x).bind λh=>bif (!(h.2==0)) then some (aP.mk [] [],0,h.2) else bif (!(sm pid)) then some (aP.mk [] [],0,2) else(Hp fuel h.1 pid).bind λq=>some (q.1,q.2,0)
noncomputable def adR (O:List Nat) (w:World) (r:aP×Int×Int) (en:Ending) (w':World):Prop:=
 ∃pv O',en= .returned (.tuple #[pv,.int .i64 r.2.1,.int .i64 r.2.2])/\cg w.heap.size O w O' w'/\(r.2.2=0-> ∃b,pv= .pointer (some ⟨b,0,none⟩)/\ri w.heap.size O' w' b r.1)
theorem cg.to {O O1 O':List Nat} {w w1 w':World} (h:cg w.heap.size O w O1 w1) (k:cg w1.heap.size O1 w1 O' w'):cg w.heap.size O w O' w':=
 h.trans ⟨k.tr,k.ob,k.sub,λi hi=>k.below i (δ hi h.tr.size)⟩
theorem ri.less {B B':Nat} {O:List Nat} {w:World} {b:Nat} {x:aP} (h:ri B O w b x) (hb:B'<=B):ri B' O w b x:=by
 obtain⟨nv,rv,S,aE,h⟩:=h;have less: ∀ {α:Type} {T:Ty α} {e:Nat} {v:Value} {xs:List α},Go.Dc.Own T e B O w v xs->Go.Dc.Own T e B' O w v xs:=λh=>by
  obtain⟨⟨cs,⟨h0,U⟩,h2⟩,h3⟩:=h;refine⟨⟨cs,⟨h0,?_⟩,h2⟩,h3⟩;rcases U with U|⟨g,cap,cur,hv,hg,r⟩
  ·exact .inl U
  ·exact .inr ⟨g,cap,cur,hv,ι hb hg,r⟩
 have al3: ∀ {S:List Nat} {rs:List (Int×Value)} {xs:List (Int×List Int)},eD TW 35 B w S rs xs->eD TW 35 B' w S rs xs:=λ{S rs xs} h=>by
  induction rs generalizing S xs with
  |nil=>cases xs with
   |nil=>exact h
   |cons _ _=>exact h.elim
  |cons r rs ih=>cases xs with
   |nil=>exact h.elim
   |cons y ys=>obtain⟨S2,U,h2,h3,h4⟩:=h;exact⟨S2,U,h2,h3.less hb,ih h4⟩
 exact⟨nv,rv,S,aE,h.mem,ι hb h.ge,h.cf,less h.ns,less h.row,al3 h.fo,h.nd,h.out,h.nb,h.rb,h.dj⟩
set_option maxRecDepth 100000 in
set_option maxHeartbeats 4000000 in
theorem PA {O:List Nat} {w:World} (hO:OB O w) (hG:dR KK [] w) {v0:Value} {x0:aP} (h0:kL.is [] w v0 x0) {pid:Int} {r:aP×Int×Int} (h:uo shut x0 pid=some r):Calls γ 202 #[v0,.int .u64 pid] w (adR O w r):=by
 obtain⟨fx,fy,rfl,zr,wy⟩:=nY.1 h0;have lH:cg w.heap.size O w O w:=cg.refl hO;refine lC (args:=[(.agg #[fx,fy]),.int .u64 pid]) (N:=29) ζR rfl rfl rfl ?_;unfold uo at h;refine aS ?_;refine bl (l:=[0,1,2,3]) rfl ?_;refine u7 rfl rfl rfl rfl rfl rfl [fx,fy] rfl hO (λb1 w1 n1=>?_);have cO:=n1.cf;have eW:=lH.trans (cg.oW lH.tr.size n1);refine aK ak [1,2,3] [(1,.int .u64 pid),(2,(.pointer (some ⟨b1,0,none⟩)))] rfl ⟨rfl,rfl,trivial⟩ ?_;refine bc ?_;refine aT ?_;refine aS ?_;refine bl (l:=[0,1,2,3,4,5,6]) rfl ?_;refine fX ak rfl rfl rfl rfl rfl rfl rfl cO [fx,fy] rfl rfl (.inl rfl) (.agg #[fx,fy]) rfl ?_;obtain⟨e,he,h⟩:=bind_some h;refine pg rfl rfl rfl rfl rfl alv rfl (an5 eW.ob (hG.tr eW.fr.gj) (h0.tr eW.fr.gj) he) (λ_ w2 hg=>?_);obtain⟨pv,O2,rfl,dD,tK⟩:=hg;refine⟨_,rfl,?_⟩;have fh:=eW.to dD;refine aK ak [2,3,4,5,6] [(1,.int .u64 pid),(7,pv),(8,.int .i64 e.2)] rfl ⟨rfl,rfl,rfl,trivial⟩ ?_;refine bc ?_;refine aT ?_;refine aS ?_;refine u6 ?_;refine aS ?_;refine bl (l:=[0,1,2]) rfl ?_;refine aK ak [0,1,2] [(1,.int .u64 pid),(7,pv),(8,.int .i64 e.2),(15,.bool (!(e.2==0)))] rfl ⟨rfl,rfl,rfl,rfl,trivial⟩ ?_;refine bc ?_;refine aT ?_;rcases oq h with⟨hc,h⟩|⟨hc,h⟩
 ·refine jV rfl hc ?_;refine aS ?_;refine bl (l:=[0,1,2,3]) rfl ?_;refine aK ak [0,1,2,3] [(4,(.pointer none)),(5,.int .i64 0),(6,.int .i64 e.2)] rfl ⟨rfl,rfl,rfl,trivial⟩ ?_;refine bc ?_;refine aT ?_;refine fz ?_;cases h;exact I5 (jW (iL rfl ⟨_,_,rfl,fh,λh0=>by simp at hc;exact absurd h0 hc⟩))
 refine ke rfl hc ?_;have qb:e.2=0:=by simpa using hc
 obtain⟨b,rfl,hH⟩:=tK qb;have hH:=hH.less eW.tr.size;refine aS ?_;refine bl (l:=[0,1,2,3]) rfl ?_;refine aK ak [0] [(1,.int .u64 pid),(7,(.pointer (some ⟨b,0,none⟩))),(8,.int .i64 e.2),(20,.int .u64 pid)] rfl ⟨rfl,rfl,rfl,rfl,trivial⟩ ?_;refine I4 rfl rfl rfl rfl rfl alu rfl (an4 (Bb _) (hG.tr fh.fr.gj) (fk.2 rfl)) (λv4 w4 g4 f4=>?_);obtain rfl:=pA.1 g4;have dC:=fh.trans (cg.xr fh.ob fh.tr.size f4);have hH:ri w.heap.size O2 w4 b e.1:=let⟨_,_,_,_,k⟩:=hH;⟨_,_,_,_,k.c7 f4⟩
 refine aK ak [2,3] [(1,.int .u64 pid),(7,(.pointer (some ⟨b,0,none⟩))),(19,.bool (!(sm pid)))] rfl ⟨rfl,rfl,rfl,trivial⟩ ?_;refine bc ?_;refine aT ?_;rcases oq h with⟨hc,h⟩|⟨hc,h⟩
 ·refine jV rfl hc ?_;refine aS ?_;refine bl (l:=[0,1,2]) rfl ?_;refine aK ak [0,1,2] [(4,(.pointer none)),(5,.int .i64 0),(6,.int .i64 2)] rfl ⟨rfl,rfl,rfl,trivial⟩ ?_;refine bc ?_;refine aT ?_;refine fz ?_;cases h;exact I5 (jW (iL rfl ⟨_,_,rfl,dC,λh0=>by cases h0⟩))
 refine ke rfl hc ?_;refine gW ?_;refine BV (aT ?_);refine aS ?_;refine bl (l:=[0,1,2]) rfl ?_;refine aK ak [0,1,2] [(1,.int .u64 pid),(7,(.pointer (some ⟨b,0,none⟩))),(9,.func (.func 261) #[.pointer (some ⟨b,0,none⟩)] #[])] rfl ⟨rfl,rfl,rfl,trivial⟩ ?_;refine bc ?_;refine aT ?_;refine aS ?_;refine bl (l:=[0,1,2,3,4,5,6]) rfl ?_;refine aK ak [0,1,2] [(25,(.pointer (some ⟨b,0,none⟩))),(26,.func (.func 261) #[.pointer (some ⟨b,0,none⟩)] #[]),(27,.int .u64 pid)] rfl ⟨rfl,rfl,rfl,trivial⟩ ?_;obtain⟨q,hq,h⟩:=bind_some h;cases h;refine auj (first:=[.pointer (some ⟨b,0,none⟩)]) (cap:=[]) rfl rfl rfl rfl rfl rfl rfl alw (an2 dC.ob (hG.tr dC.fr.gj) dC.tr.size hH hq) (λ_ w5 hg=>?_);obtain⟨rfl,O5,kE,hH5⟩:=hg;refine⟨_,rfl,?_⟩;refine aK ak [4,5,6] [(4,(.pointer (some ⟨b,0,none⟩))),(5,.int .i64 q.2),(6,.int .i64 0)] rfl ⟨rfl,rfl,rfl,trivial⟩ ?_;refine bc ?_;refine aT ?_;refine fz ?_;exact iL rfl ⟨_,_,rfl,dC.trans kE,λ_=>⟨b,rfl,hH5⟩⟩
noncomputable def Safe (S:List Nat) (w:World) (v:Value) (ys:List Int):Prop:= ∀O2:List Nat,(∀g∈S,g∉O2)->TW.slice.is O2 w v ys
theorem Safe.keep {S:List Nat} {w w':World} {O O':List Nat} {v:Value} {ys:List Int} (h:Safe S w v ys) (ht:Tr O w O' w') (hk: ∀g∈S,w'.heap[g]? =w.heap[g]?):Safe S w' v ys:=λO2 nG=>by
 refine(h ((List.range w.heap.size).filter λk=>!S.contains k) (λg hg hm=>?_)).tr ⟨ht.os,ht.tape,ht.output,ht.size,λk lK eY=>?_⟩
 ·simp[hg] at hm
 ·have hS:k∈S:=by
   rw[ξC] at eY
   by_cases hc:k∈S
   ·exact hc
   ·exact absurd ⟨by simpa using lK,by simpa using hc⟩ eY
  exact⟨nG k hS,hk k hS⟩
noncomputable def fD (S:List Nat) (w:World):List (Int×Value)->List aq->Prop
 |[],[]=>True
 |r::rs,z::bs=>r.1=z.aa/\Safe S w r.2 z.bt/\fD S w rs bs
 |_,_=>False
theorem fD.imp {S S':List Nat} {w w':World} (h: ∀v ys,Safe S w v ys->Safe S' w' v ys): ∀ {rs:List (Int×Value)} {bs:List aq},fD S w rs bs->fD S' w' rs bs
 |[],[],_=>trivial
 |_::_,_::_,⟨U,h2,h3⟩=>⟨U,h _ _ h2,fD.imp h h3⟩
 |[],_::_,k=>k.elim
 |_::_,[],k=>k.elim
theorem fD.len {S:List Nat} {w:World}: ∀ {rs:List (Int×Value)} {bs:List aq},fD S w rs bs->rs.length=bs.length
 |[],[],_=>rfl
 |_::_,_::_,⟨_,_,h3⟩=>by simp[fD.len h3]
 |[],_::_,k=>k.elim
 |_::_,[],k=>k.elim
theorem fD.of {B:Nat} {w:World}: ∀ {S:List Nat} {rs:List (Int×Value)} {bs:List aq} (S0:List Nat),eD TW 35 B w S rs (bs.map bx)->(∀g∈S,g∈S0)->fD S0 w rs bs
 |_,[],[],_,_,_=>trivial
 |_,r::rs,z::bs,S0,⟨S2,U,h2,h3,h4⟩,hs=>by
  refine⟨U,λO2 nG=>h3.data l4 λg hg=>nG g (hs g (by rw[h2,hg];simp)),fD.of S0 h4 λg hg=>hs g (by rw[h2];exact ξd _ hg)⟩
 |_,[],_::_,_,h,_=>h.elim
 |_,_::_,[],_,h,_=>h.elim
theorem fD.at_ {S:List Nat} {w:World}: ∀ {rs:List (Int×Value)} {bs:List aq} {k:Nat} {z:aq},fD S w rs bs->bs[k]? =some z-> ∃v,rs[k]? =some (z.aa,v)/\Safe S w v z.bt
 |r::rs,y::bs,0,z,⟨U,h2,_⟩,hk=>by
  simp at hk;subst hk;exact⟨r.2,by simp[<-U],h2⟩
 |r::rs,y::bs,k+1,z,⟨_,_,h3⟩,hk=>by
  obtain⟨v,a,b⟩:=fD.at_ h3 (by simpa using hk);exact⟨v,by simpa using a,b⟩
 |[],[],_,_,_,hk=>by simp at hk
 |[],_::_,_,_,h,_=>h.elim
 |_::_,[],_,_,h,_=>h.elim
theorem fD.set {S:List Nat} {w:World}: ∀ {rs:List (Int×Value)} {bs:List aq} (k:Nat) {v:Value} {p:Int} {ys:List Int},fD S w rs bs->Safe S w v ys->fD S w (rs.set k (p,v)) (bs.set k (aq.mk p ys))
 |[],[],_,_,_,_,h,_=>h
 |r::rs,y::bs,0,v,p,ys,⟨_,_,h3⟩,hv=>⟨rfl,hv,h3⟩
 |r::rs,y::bs,k+1,v,p,ys,⟨U,h2,h3⟩,hv=>⟨U,h2,fD.set k h3 hv⟩
 |[],_::_,_,_,_,_,h,_=>h.elim
 |_::_,[],_,_,_,_,h,_=>h.elim
theorem ar4 {S:List Nat} {w:World}:Safe S w (.slice none 0 0) []:=λ_ _=>lX _ _ _
theorem fD.filter {S:List Nat} {w:World}: ∀ {rs:List (Int×Value)} {bs:List aq},fD S w rs bs->fD S w (rs.filter λr=>!emp r) (bs.filter λz=>!(z.bt.length==0))
 |[],[],_=>trivial
 |r::rs,z::bs,⟨U,h2,h3⟩=>by
  obtain⟨A,c,e,_,_⟩:=iJ (h2 [] (λ_ _ h=>by cases h));have he:emp r=(z.bt.length==0):=by unfold emp;rw[e];rfl
  rw[ξw,ξw,he];cases hz:z.bt.length==0 with
  |true=>exact fD.filter h3
  |false=>exact⟨U,h2,fD.filter h3⟩
 |[],_::_,k=>k.elim
 |_::_,[],k=>k.elim
structure lq (B:Nat) (O:List Nat) (w:World) (b:Nat) (nv rv:Value) (S:List Nat) (aE:List (Int×Value)) (x:aP):Prop where
 mem:b∈O
 ge:B<=b
 cf:ck w b 262 [nv,rv]
 ns:Go.Dc.Own gi 127 B O w nv x.aA
 row:Go.Dc.Own TR 132 B O w rv aE
 fo:fD S w aE x.au
 lt: ∀g∈S,B<=g/\g<w.heap.size
 out: ∀g∈S,g∉O
 nb:nv.ownBlock≠some b
 rb:rv.ownBlock≠some b
 dj:Dj nv rv
noncomputable def UH (B:Nat) (O:List Nat) (w:World) (b:Nat) (x:aP):Prop:= ∃nv rv S aE,lq B O w b nv rv S aE x
theorem jd.Sx {B:Nat} {O:List Nat} {w:World} {b:Nat} {nv rv:Value} {S:List Nat} {aE:List (Int×Value)} {x:aP} (h:jd B O w b nv rv S aE x):lq B O w b nv rv S aE x:=
 ⟨h.mem,h.ge,h.cf,h.ns,h.row,fD.of S h.fo (λ_ h=>h),h.fo.lt,h.out,h.nb,h.rb,h.dj⟩
section
variable {B:Nat} {O O':List Nat} {w w' cU:World} {b:Nat} {nv rv:Value} {S:List Nat} {aE:List (Int×Value)} {x:aP}
theorem lq.c7 (h:lq B O w b nv rv S aE x) (hf:Fr [] w w'):lq B O w' b nv rv S aE x:=
 ⟨h.mem,h.ge,h.cf.c7 hf,h.ns.c7 hf,h.row.c7 hf,h.fo.imp λ_ _ k=>k.keep (O:=[]) (O':=[]) hf.gj λg hg=>hf.block g (h.lt g hg).2 (by simp),λg hg=>⟨(h.lt g hg).1,δ (h.lt g hg).2 hf.size⟩,h.out,h.nb,h.rb,h.dj⟩
theorem lq.cell (h:lq B O w b nv rv S aE x) {b':Nat} (hb:b'∈O) (aB:b'<B) (hf:Fr [b'] w w'):lq B O w' b nv rv S aE x:=
 ⟨h.mem,h.ge,h.cf.fr hf (by simp;have:=h.ge;omega),h.ns.st hf hb (λe=>by have:=(h.ns.lt b' e).1;omega),h.row.st hf hb (λe=>by have:=(h.row.lt b' e).1;omega),
  h.fo.imp λ_ _ k=>k.keep (hf.tr (lS hb)) λg hg=>hf.block g (h.lt g hg).2 (by simp;have:=(h.lt g hg).1;omega),λg hg=>⟨(h.lt g hg).1,δ (h.lt g hg).2 hf.size⟩,h.out,h.nb,h.rb,h.dj⟩
theorem lq.boxes (h:lq B O w b nv rv S aE x) {uT:Value} {uE:List (Int×Value)} {x':aP} (ap:fO TR 132 B O w rv uE O' w' uT) (hb:ck cU b 262 [nv,uT]) (hf:Fr [b] w' cU)
  (iT:fD S w uE x'.au) (hn:x'.aA=x.aA):lq B O' cU b nv uT S uE x':=by
 have hm:=ap.sub _ h.mem;have AD:=ap.ne _ h.cf.lt h.rb;have nL:=ap.other h.ns λg hg=>h.dj g hg;refine⟨hm,h.ge,hb,by rw[hn];exact nL.st hf hm h.nb,ap.own.st hf hm AD,?_,λg hg=>⟨(h.lt g hg).1,δ (h.lt g hg).2 (ι ap.tr.size hf.size)⟩,λg hg=>(ap.tr.keep g (h.lt g hg).2 (h.out g hg)).1,h.nb,AD,λg hg=>ap.ne _ (h.ns.lt g hg).2 (h.dj g hg)⟩;refine iT.imp λ_ _ k=>k.keep (ap.tr.trans (hf.tr (lS hm))) λg hg=>?_;rw[hf.block g (δ (h.lt g hg).2 ap.tr.size) (by simp;rintro rfl;exact h.out _ hg h.mem),(ap.tr.keep g (h.lt g hg).2 (h.out g hg)).2]
theorem lq.data {O2:List Nat} (h:lq B O w b nv rv S aE x) (hO: ∀g∈O2,g<B):kL.is O2 w (.agg #[nv,rv]) x:=by
 refine nY.2 ⟨_,_,rfl,h.ns.oz.data IM (λg hg ho=>by have:=(h.ns.lt g hg).1;have:=hO g ho;omega),?_⟩;have hlen:=h.fo.len;obtain⟨cs,⟨A,c,hc,hl,hx⟩,hv⟩:=h.row.oz.data (O:=O2) (Re _) (λg hg ho=>by have:=(h.row.lt g hg).1;have:=hO g ho;omega);refine⟨cs,⟨A,c,by rw[<-hlen];exact hc,by rw[<-hlen];exact hl,λk z hk=>?_⟩,hv⟩;obtain⟨v,hr,hs⟩:=h.fo.at_ hk;obtain⟨ad,es,hA,hb,ho,fK,zZ⟩:=hx k _ hr;refine⟨ad,es,hA,hb,ho,?_,zZ⟩;refine⟨[.int .u64 z.aa],[v],?_,rfl,uN rfl (hs O2 λg hg ho=>by have:=(h.lt g hg).1;have:=hO g ho;omega)⟩;rw[fK.1];rfl
end
set_option maxRecDepth 100000 in
set_option maxHeartbeats 4000000 in
theorem PC {O:List Nat} {w:World} (hO:OB O w) {B b:Nat} {x:aP} (hB:B<=w.heap.size) (h:UH B O w b x):Calls γ 203 #[.pointer (some ⟨b,0,none⟩)] w (λen w'=>en= .returned (.tuple #[])/\ ∃O',cg B O w O' w'/\UH B O' w' b (uX x)):=by
 obtain⟨nv,rv,S,aE,h⟩:=h;refine lC (args:=[.pointer (some ⟨b,0,none⟩)]) (N:=12) ζS rfl rfl rfl ?_;refine bl (l:=[0,1,2,3,4,5,6,7,8,9,10]) rfl ?_;refine aK ak [0,1,2,3,4] [(2,(.pointer (some ⟨b,0,none⟩))),(6,(.pointer (some ⟨b,1,none⟩)))] rfl ⟨rfl,rfl,trivial⟩ ?_;obtain⟨A1,c1,rfl,_,_⟩:=h.row.form;refine fX ak rfl rfl rfl rfl rfl rfl rfl h.cf [.slice A1 aE.length c1] rfl rfl (.inr rfl) (.slice A1 aE.length c1) rfl ?_;refine adI rfl rfl rfl rfl rfl alx rfl (ar0 hO h.row) (λv' w' O' ap=>?_);have eW:=cg.QL hB h.row ap;have cO:=ap.cf h.cf h.rb;obtain⟨A2,c2,rfl,_,_⟩:=ap.own.form;have iT:=h.fo.filter;generalize hL:(aE.filter λr=>!emp r)=L at*
 refine aK ak [7,8,9] [(8,.slice A2 L.length c2),(11,(.pointer (some ⟨b,1,none⟩)))] rfl ⟨rfl,rfl,trivial⟩ ?_;refine iK ak rfl rfl rfl rfl rfl rfl rfl cO [.slice A2 L.length c2] rfl rfl (by simp[ξ]) rfl [nv,.slice A2 L.length c2] rfl (λw3 zT f3=>?_);have dD:=eW.trans (cg.lk eW.ob (ap.sub _ h.mem) h.ge f3);refine bc ?_;exact auq rfl ⟨rfl,_,dD,_,_,_,_,h.boxes (x':=uX x) ap zT f3 iT rfl⟩
theorem RF {B:Nat} {O:List Nat} {w:World} {A:Option Addr} {c:Nat} {aE:List (Int×Value)} (hv:Go.Dc.Own TR 132 B O w (.slice A aE.length c) aE) (h0:0<aE.length):
  ∃g R,A=some ⟨g,0,none⟩/\g∈O/\B<=g/\ck w g 132 (rc aE++R)/\aE.length*2+R.length=c*2/\aE.length<=c/\c<=maxLen/\ ∀r∈aE,∃A n c,r.2= .slice A n c:=by
 obtain⟨cs,⟨bN,jl⟩,fK⟩:=hv.ex;rcases jl with⟨_,oI⟩|⟨g,cap,cur,jl,jA,hh,mo,tR,fi,lJ⟩
 ·omega
 injection jl with hA qu j5;subst hA;subst j5;obtain⟨tT,oF⟩:=RA fK;have pV:TR.n=2:=rfl;rw[pV] at fi lJ;have mj:cur.toList=rc aE++cur.toList.drop (aE.length*2):=by
  rw[<-tT,<-lJ,lJ]
  conv=>lhs;rw[<-ξ7 (aE.length*2) cur.toList]
  rw[lJ]
 refine⟨g,cur.toList.drop (aE.length*2),rfl,hv.mem g rfl,jA,?_,?_,mo,tR,oF⟩
 ·unfold ck;rw[<-mj,ξz];exact hh
 ·have:=congrArg ζp mj;rw[υ,fi] at this;simp only[ν,rc,jR,ρ] at this;omega
theorem ary {B:Nat} {O:List Nat} {w':World} {g c:Nat} {L:List (Int×Value)} {R:List Value} (hg:g∈O) (hB:B<=g) (hb:ck w' g 132 (rc L++R)) (hl:L.length*2+R.length=c*2) (hc:L.length<=c) (hm:c<=maxLen) (hf: ∀r∈L,∃A n c,r.2= .slice A n c):
  Go.Dc.Own TR 132 B O w' (.slice (some ⟨g,0,none⟩) L.length c) L:=by
 refine⟨⟨rc L,⟨by rw[rc,jR,ρ];rfl,.inr ⟨g,c,(rc L++R).toArray,rfl,hB,hb,hc,hm,?_,?_⟩⟩,Rh hf⟩,λk hk=>by cases hk;exact hg⟩
 ·rw[ξK,ν,rc,jR,ρ];exact hl
 ·exact ξE (by rw[rc,jR,ρ];rfl)
theorem sH {L:List (Int×Value)} {R:List Value} {k:Nat} {x:Int×Value} (h:L[k]? =some x):((rc L++R).drop (k*2+1)).take 1=[x.2]:=by
 have:=Rf (R:=R) h;have e:=congrArg (List.drop 1) this;rw[List.drop_take,ζt] at e;simpa using e
theorem Rg {L:List (Int×Value)} {R:List Value} {k:Nat} {x:Int×Value} {v:Value} (h:L[k]? =some x):putAt (rc L++R) (k*2+1) [v]=rc (L.set k (x.1,v))++R:=by
 have hk:=(ε.1 h).1;rw[<-abf (x:=(x.1,v)) hk];have h0:=Rf (R:=R) h;have hd:((rc L++R).drop (k*2))= .int .u64 x.1::x.2::(rc L++R).drop (k*2+2):=by
  have:=ξ7 2 ((rc L++R).drop (k*2));rw[h0,ζt] at this;exact this.symm
 unfold putAt;have ht:(rc L++R).take (k*2+1)=(rc L++R).take (k*2)++[.int .u64 x.1]:=by
  rw[List.take_add,hd];rfl
 rw[ht];simp
noncomputable def AL (fuel:Sh) (x:aP) (pid:Int):Option (aP×Int×Int):=
 (uo fuel x pid).bind λh=>bif (!(h.2.2==0)) then some (aP.mk [] [],0,h.2.2) else(idx h.1.au h.2.1).bind λz=>some (uX (aP.mk h.1.aA (h.1.au.set h.2.1.toNat (aq.mk z.aa []))),(z.bt.length:Int),0)
noncomputable def AM (fuel:Sh) (x:aP) (pid:Int):Option (aP×Int×Int):=
 (uo fuel x pid).bind λh=>bif (!(h.2.2==0)) then some (aP.mk [] [],0,h.2.2) else(idx h.1.au h.2.1).bind λz=>bif ((z.bt.length:Int)==0) then some (aP.mk [] [],0,4) else
  (idx z.bt 0).bind λw0=>some (uX (aP.mk h.1.aA (h.1.au.set h.2.1.toNat (aq.mk z.aa (z.bt.drop 1)))),w0,0)
noncomputable def AN (fuel:Sh) (x:aP) (pid:Int) (words:List Int):Option (aP×Int):=
 (uo fuel x pid).bind λh=>bif (!(h.2.2==0)) then some (aP.mk [] [],h.2.2) else(idx h.1.au h.2.1).bind λz=>bif (decide (β.wrap ((z.bt.length:Int)+(words.length:Int))>4)) then some (aP.mk [] [],6) else
  (app 8 z.bt words).bind λws=>some (uX (aP.mk h.1.aA (h.1.au.set h.2.1.toNat (aq.mk z.aa ws))),0)
theorem Q9 {B:Nat} {O:List Nat} {w w':World} {b g c:Nat} {nv:Value} {S:List Nat} {aE L:List (Int×Value)} {R:List Value} {names:List az} {bs:List aq} (mem:b∈O) (ge:B<=b) (cf:ck w b 262 [nv,.slice (some ⟨g,0,none⟩) aE.length c]) (ns:Go.Dc.Own gi 127 B O w nv names) (nb:nv.ownBlock≠some b) (dj:Dj nv (.slice (some ⟨g,0,none⟩) aE.length c))
  (rV:g≠b) (gZ:g∈O) (jA:B<=g) (hl:aE.length*2+R.length=c*2) (hc:aE.length<=c) (hm:c<=maxLen) (f:Fr [g] w w') (fH:ck w' g 132 (rc L++R)) (hL:L.length=aE.length) (hLf: ∀r∈L,∃A n c,r.2= .slice A n c) (iT:fD S w L bs) (lt: ∀j∈S,B<=j/\j<w.heap.size) (out: ∀j∈S,j∉O):
  lq B O w' b nv (.slice (some ⟨g,0,none⟩) aE.length c) S L (aP.mk names bs):=by
 refine⟨mem,ge,cf.fr f (by simp;exact λe=>rV e.symm),ns.st f gZ (λe=>dj g e rfl),?_,iT.imp λ_ _ k=>k.keep (f.tr (lS gZ)) λj hj=>f.block j (lt j hj).2 (by simp;rintro rfl;exact out _ hj gZ),λj hj=>⟨(lt j hj).1,δ (lt j hj).2 f.size⟩,out,nb,λe=>rV (by injection e),dj⟩;rw[<-hL];exact ary gZ jA fH (by rw[hL];exact hl) (by rw[hL];exact hc) hm hLf
noncomputable def SP.safe (S:List Nat) (ys:List Int):SP:=⟨λw u=>(∀g∈S,g<w.heap.size)/\Safe S w u ys,λhf ⟨U,h2⟩=>⟨λg hg=>δ (U g hg) hf.size,h2.keep (O:=[]) (O':=[]) hf.gj λg hg=>hf.block g (U g hg) (by simp)⟩⟩
theorem apn {P:Program} {r:Option Nat} {N:Nat} {Θ:dP} {ops:Array Oper} {Q:Exit->Act->World->Prop} {E:Env} {ds:List Deferred} {w:World} {i d:Nat} {o:Oper} {S:List Nat} (aO:Θ.ok P) {a:Act} (ha:Has N E ds a) (ho:ops[i]? =some o) (hw:want N ops E o.guard=some true) (hd:o.dst=some d) {t:Nat} {x:Operand} {lo hi mx:Option Operand} {ti te:TI} (ah:o.op= .slice t x lo hi mx) (ht:Θ.get t=some ti)
  (h5:ti.tag=5) (ct:Θ.get ti.e=some te) {v:Value} (hx:ev E x=some v) {l' h' m':Option (IntKind×Int)} (qq:pL E lo=some l') (qe:pL E hi=some h') (Aq:pL E mx=some m') {xs ys:List Int} (hn:TW.n=te.size) (hv:Safe S w v xs)
  (hc:gq xs (l'.map (·.2)) (h'.map (·.2)) (m'.map (·.2))=some ys):iq P r ops Q i d a w (λu w'=>Safe S w' u ys/\Fr [] w w'):=by
 obtain⟨v',aX,jJ⟩:=IB (w:=w) aO ht h5 ct hn (hv [] λ_ _ hm=>by cases hm) hc;have hs:Safe S w v' ys:=λO2 nG=>by
  obtain⟨v'',Yt,anV⟩:=IB (w:=w) aO ht h5 ct hn (hv O2 nG) hc;rw[aX] at Yt;injection Yt with e1 e2;rw[e1];exact anV
 refine uB ho (l3 ha hw) hd (b:=true) (v:=v') (w':=w) ?_ ⟨hs,Fr.refl _ _⟩;simp only[if_true];refine⟨by rw[ah];simp,?_⟩;simp only[execOp,ah,ξk,ha.eval hx,we ha qq,we ha qe,we ha Aq,aX];rfl
set_option maxRecDepth 100000 in
set_option maxHeartbeats 4000000 in
theorem anZ {O:List Nat} {w:World} (hO:OB O w) (hG:dR KK [] w) {v0:Value} {x0:aP} (h0:kL.is [] w v0 x0) {v1:Value} {x1:Int} (U:(Ty.int .u64).is [] w v1 x1) {r:aP×Int×Int} (h:AL shut x0 x1=some r):Calls γ 152 #[v0,v1] w (ll (rt3 kL (Ty.int .i64) (Ty.int .i64)) O w r):=by
 obtain rfl:=fk.1 U;obtain⟨fx,fy,rfl,zr,wy⟩:=nY.1 h0;have lH:cg w.heap.size O w O w:=cg.refl hO;refine lC (args:=[(.agg #[fx,fy]),(.int .u64 x1)]) (N:=47) η0 rfl rfl rfl ?_;unfold AL at h;refine aS ?_;refine bl (l:=[0,1,2,3]) rfl ?_;refine u7 rfl rfl rfl rfl rfl rfl [fx,fy] rfl hO (λb1 w1 n1=>?_);have cO:=n1.cf;have eW:=lH.trans (cg.oW lH.tr.size n1);refine BR ak rfl rfl rfl rfl rfl rfl [(.slice none 0 0),(.slice none 0 0)] rfl eW.ob (λb2 w2 n2=>?_);have cO:=cO.c7 n2.fr;have cM:=n2.cf;have mU:w.heap.size<=b2:=ι eW.tr.size n2.ge;have dD:=eW.trans (cg.oW eW.tr.size n2);have i2:b2∈b2::b1::O:=ξ4;have iz:b2<w2.heap.size:=cM.lt;have nG: ∀g∈O,g<w2.heap.size:=λg hg=>δ (hO g hg) dD.tr.size;refine aK ak [2,3] [(1,(.int .u64 x1)),(2,(.pointer (some ⟨b1,0,none⟩))),(4,(.pointer (some ⟨b2,0,none⟩)))] rfl ⟨rfl,rfl,rfl,trivial⟩ ?_;refine bc ?_;refine aT ?_;refine aS ?_;refine bl (l:=[0,1,2,3,4,5,6,7,8,9]) rfl ?_;refine fX ak rfl rfl rfl rfl rfl rfl rfl cO [fx,fy] rfl rfl (.inl rfl) (.agg #[fx,fy]) rfl ?_;obtain⟨e,he,h⟩:=bind_some h;refine aK ak [1] [(1,(.int .u64 x1)),(4,(.pointer (some ⟨b2,0,none⟩))),(12,(.agg #[fx,fy])),(13,(.int .u64 x1))] rfl ⟨rfl,rfl,rfl,rfl,trivial⟩ ?_;refine pg rfl rfl rfl rfl rfl MB rfl (PA dD.ob (hG.tr dD.fr.gj) (h0.tr dD.fr.gj) he) (λ_ w3 hg=>?_);obtain⟨pv,O3,rfl,fh,tK⟩:=hg;refine⟨_,rfl,?_⟩;have cM:ck w3 b2 58 [(.slice none 0 0),(.slice none 0 0)]:=(fh.below _ iz).trans cM;have dC:=dD.to fh;have i2:=fh.sub _ i2;refine aK ak [3,4,5,6,7,8,9] [(1,(.int .u64 x1)),(4,(.pointer (some ⟨b2,0,none⟩))),(7,pv),(8,(.int .i64 e.2.1)),(9,(.int .i64 e.2.2))] rfl ⟨rfl,rfl,rfl,rfl,rfl,trivial⟩ ?_;refine bc ?_;refine aT ?_;refine aS ?_;refine aS ?_;refine bl (l:=[0,1]) rfl ?_;refine aK ak [0,1] [(1,(.int .u64 x1)),(4,(.pointer (some ⟨b2,0,none⟩))),(7,pv),(8,(.int .i64 e.2.1)),(9,(.int .i64 e.2.2)),(19,(.bool (!(e.2.2==0))))] rfl ⟨rfl,rfl,rfl,rfl,rfl,rfl,trivial⟩ ?_;refine bc ?_;refine aT ?_;rcases oq h with⟨hc,h⟩|⟨hc,h⟩
 ·refine jV rfl hc ?_;cases h;refine aS ?_;refine bl (l:=[0,1,2,3,4]) rfl ?_;refine aK ak [0,1] [(4,(.pointer (some ⟨b2,0,none⟩))),(20,(.agg #[(.slice none 0 0),(.slice none 0 0)])),(21,(.int .i64 e.2.2))] rfl ⟨rfl,rfl,rfl,trivial⟩ ?_;refine iK ak rfl rfl rfl rfl rfl rfl rfl cM [(.slice none 0 0),(.slice none 0 0)] rfl rfl (by simp[ξ]) rfl [(.slice none 0 0),(.slice none 0 0)] rfl (λwE kY fE=>?_);refine aK ak [3,4] [(4,(.pointer (some ⟨b2,0,none⟩))),(5,(.int .i64 0)),(6,(.int .i64 e.2.2))] rfl ⟨rfl,rfl,rfl,trivial⟩ ?_;refine bc ?_;refine aT ?_;refine fz ?_;exact jW (sV ak (vs:=[.agg #[(.slice none 0 0),(.slice none 0 0)],(.int .i64 0),(.int .i64 e.2.2)]) ⟨_,_,rfl,⟨_,_,_,_,rfl,kY,rfl,rfl,.inl rfl,rfl⟩,_,_,rfl,rfl,_,_,rfl,rfl,rfl⟩ ⟨_,rfl,⟨_,_,_,rfl,(nY.2 ⟨_,_,rfl,lX _ _ _,lX _ _ _⟩),fk.2 rfl,fk.2 rfl⟩,(dC.trans (cg.lk dC.ob i2 mU fE)).fr⟩)
 refine ke rfl hc ?_;have qb:e.2.2=0:=by simpa using hc
 obtain⟨b,rfl,nv,rv,S,aE,hH⟩:=tK qb;refine gW ?_;refine aT ?_;obtain⟨z,hz,h⟩:=bind_some h;obtain⟨qj,qo⟩:=so hz;obtain⟨k,hk⟩: ∃k:Nat,k=e.2.1.toNat:=⟨_,rfl⟩;rw[<-hk] at qo;have Ad:e.2.1=(k:Int):=by omega
 rw[Ad];rw[<-hk] at h;have kX:=hH.Sx;obtain⟨vw,hr,uf⟩:=kX.fo.at_ qo;obtain⟨Aw,cw,rfl,Ya,Yd⟩:=iJ (uf [] λ_ _ hm=>by cases hm);obtain⟨Ar,cr,rfl,_,_⟩:=hH.row.form;have r6:=(ε.1 hr).1;obtain⟨g,R,rfl,gZ,jA,jC,Al,zW,Ao,oF⟩:=RF hH.row (by omega);have rV:g≠b:=λe=>hH.rb (by rw[<-e];rfl);have e1:(k:Int).toNat*({ tag:=8,k:=0,e:=0,fs:=[(29,0),(40,1)],size:=2,bytes:=32,zero:= .agg #[.int .u64 0,.slice none 0 0] }:TI).size=k*2:=by rw[μ]
 have aB:(k:Int).toNat<aE.length:=by rw[μ];exact r6
 refine aS ?_;refine bl (l:=[0,1,2,3,4,5,6,7,8,9,10]) rfl ?_;refine aK ak [0,1,2,3] [(4,(.pointer (some ⟨b2,0,none⟩))),(7,(.pointer (some ⟨b,0,none⟩))),(8,(.int .i64 (k:Int))),(25,(.pointer (some ⟨b,1,none⟩)))] rfl ⟨rfl,rfl,rfl,rfl,trivial⟩ ?_;refine fX ak rfl rfl rfl rfl rfl rfl rfl hH.cf [(.slice (some ⟨g,0,none⟩) aE.length cr)] rfl rfl (.inr rfl) (.slice (some ⟨g,0,none⟩) aE.length cr) rfl ?_;refine aK ak [5] [(4,(.pointer (some ⟨b2,0,none⟩))),(7,(.pointer (some ⟨b,0,none⟩))),(8,(.int .i64 (k:Int))),(26,(.slice (some ⟨g,0,none⟩) aE.length cr)),(27,(.int .i64 (k:Int)))] rfl ⟨rfl,rfl,rfl,rfl,rfl,trivial⟩ ?_;refine xQ ak rfl rfl rfl rfl rfl rfl rfl rfl rfl rfl (by omega) aB ?_;rw[e1,jf,ξ0];refine aK ak [7] [(4,(.pointer (some ⟨b2,0,none⟩))),(7,(.pointer (some ⟨b,0,none⟩))),(8,(.int .i64 (k:Int))),(29,(.pointer (some ⟨g,k*2+1,none⟩)))] rfl ⟨rfl,rfl,rfl,rfl,trivial⟩ ?_;refine fX ak rfl rfl rfl rfl rfl rfl rfl jC [(.slice Aw z.bt.length cw)] (sH hr) rfl (.inr rfl) (.slice Aw z.bt.length cw) rfl ?_;refine aK ak [9,10] [(4,(.pointer (some ⟨b2,0,none⟩))),(7,(.pointer (some ⟨b,0,none⟩))),(8,(.int .i64 (k:Int))),(10,(.int .i64 (z.bt.length:Int)))] rfl ⟨rfl,rfl,rfl,rfl,trivial⟩ ?_;refine bc ?_;refine aT ?_;refine aS ?_;refine bl (l:=[0,1,2,3,4,5,6,7,8]) rfl ?_;refine aK ak [0,1,2,3] [(4,(.pointer (some ⟨b2,0,none⟩))),(7,(.pointer (some ⟨b,0,none⟩))),(8,(.int .i64 (k:Int))),(10,(.int .i64 (z.bt.length:Int))),(35,(.pointer (some ⟨b,1,none⟩)))] rfl ⟨rfl,rfl,rfl,rfl,rfl,trivial⟩ ?_;refine fX ak rfl rfl rfl rfl rfl rfl rfl hH.cf [(.slice (some ⟨g,0,none⟩) aE.length cr)] rfl rfl (.inr rfl) (.slice (some ⟨g,0,none⟩) aE.length cr) rfl ?_;refine aK ak [5] [(4,(.pointer (some ⟨b2,0,none⟩))),(7,(.pointer (some ⟨b,0,none⟩))),(8,(.int .i64 (k:Int))),(10,(.int .i64 (z.bt.length:Int))),(36,(.slice (some ⟨g,0,none⟩) aE.length cr)),(37,(.int .i64 (k:Int)))] rfl ⟨rfl,rfl,rfl,rfl,rfl,rfl,trivial⟩ ?_;refine xQ ak rfl rfl rfl rfl rfl rfl rfl rfl rfl rfl (by omega) aB ?_;rw[e1,jf,ξ0];refine aK ak [7] [(4,(.pointer (some ⟨b2,0,none⟩))),(7,(.pointer (some ⟨b,0,none⟩))),(8,(.int .i64 (k:Int))),(10,(.int .i64 (z.bt.length:Int))),(39,(.pointer (some ⟨g,k*2+1,none⟩)))] rfl ⟨rfl,rfl,rfl,rfl,rfl,trivial⟩ ?_;refine iK ak rfl rfl rfl rfl rfl rfl rfl jC [(.slice none 0 0)] rfl rfl (by simp[ξ]) (ξe (by simp only[ν,rc,jR,ρ];show k*2+1+1<=_;omega)) (rc (aE.set k (z.aa,(.slice none 0 0)))++R) (Rg (x:=(z.aa,(.slice Aw z.bt.length cw))) hr) (λw5 tP f5=>?_);have hW:=Q9 (bs:=e.1.au.set k (aq.mk z.aa [])) hH.mem hH.ge hH.cf hH.ns hH.nb hH.dj rV gZ jA Al zW Ao f5 tP (by rw[ξF]) (λr hr=>by
  rcases ξi hr with hr|rfl
  ·exact oF r hr
  ·exact⟨_,_,_,rfl⟩) (kX.fo.set k ar4) kX.lt hH.out
 have cM:=cM.fr f5 (by simp;omega);have rP:=dC.trans (cg.lk dC.ob gZ (ι dD.tr.size jA) f5);clear hH kX;refine bc ?_;refine aT ?_;have zv:w2.heap.size<=w5.heap.size:=ι fh.tr.size f5.size;refine aS ?_;refine bl (l:=[0,1]) rfl ?_;refine aK ak [0] [(10,(.int .i64 (z.bt.length:Int))),(4,(.pointer (some ⟨b2,0,none⟩))),(7,(.pointer (some ⟨b,0,none⟩))),(40,(.pointer (some ⟨b,0,none⟩)))] rfl ⟨rfl,rfl,rfl,rfl,trivial⟩ ?_;refine pg rfl rfl rfl rfl rfl MC rfl (PC rP.ob zv ⟨_,_,_,_,hW⟩) (λ_ w7 hg=>?_);obtain⟨rfl,O7,gJ,jn,ju,S7,abe,hW⟩:=hg;refine⟨_,rfl,?_⟩;have cM:ck w7 b2 58 [(.slice none 0 0),(.slice none 0 0)]:=(gJ.below _ iz).trans cM;have i2:=gJ.sub _ i2;have kW:cg w.heap.size O w O7 w7:=rP.trans ⟨gJ.tr,gJ.ob,gJ.sub,λj hj=>gJ.below j (δ hj dD.tr.size)⟩;refine aK ak [] [(10,(.int .i64 (z.bt.length:Int))),(4,(.pointer (some ⟨b2,0,none⟩))),(7,(.pointer (some ⟨b,0,none⟩)))] rfl ⟨rfl,rfl,rfl,trivial⟩ ?_;refine bc ?_;refine aT ?_;cases h;refine aS ?_;refine bl (l:=[0,1,2,3,4,5,6,7]) rfl ?_;refine aK ak [0,1,2] [(7,(.pointer (some ⟨b,0,none⟩))),(10,(.int .i64 (z.bt.length:Int))),(4,(.pointer (some ⟨b2,0,none⟩))),(44,(.pointer (some ⟨b,0,none⟩)))] rfl ⟨rfl,rfl,rfl,rfl,trivial⟩ ?_;refine fX ak rfl rfl rfl rfl rfl rfl rfl hW.cf [jn,ju] rfl rfl (.inl rfl) (.agg #[jn,ju]) rfl ?_;obtain⟨Ax,cx,zt,_,_⟩:=hW.ns.form;obtain⟨Ay,cy,zu,_,_⟩:=hW.row.form;refine aK ak [4] [(4,(.pointer (some ⟨b2,0,none⟩))),(45,(.agg #[jn,ju])),(46,(.int .i64 (z.bt.length:Int)))] rfl ⟨rfl,rfl,rfl,trivial⟩ ?_;refine iK ak rfl rfl rfl rfl rfl rfl rfl cM [jn,ju] rfl rfl (by rw[zt,zu];simp[ξ]) rfl [jn,ju] rfl (λwE kY fE=>?_);have zI:=hW.cell i2 iz fE;have hE:=(kW.trans (cg.lk kW.ob i2 mU fE)).fr;refine aK ak [6,7] [(4,(.pointer (some ⟨b2,0,none⟩))),(5,(.int .i64 (z.bt.length:Int))),(6,(.int .i64 0))] rfl ⟨rfl,rfl,rfl,trivial⟩ ?_;refine bc ?_;refine aT ?_;refine fz ?_;exact(sV ak (vs:=[.agg #[jn,ju],(.int .i64 (z.bt.length:Int)),(.int .i64 0)]) ⟨_,_,rfl,⟨_,_,_,_,rfl,kY,rfl,rfl,.inl rfl,rfl⟩,_,_,rfl,rfl,_,_,rfl,rfl,rfl⟩ ⟨_,rfl,⟨_,_,_,rfl,(zI.data nG),fk.2 rfl,fk.2 rfl⟩,hE⟩)
set_option maxRecDepth 100000 in
set_option maxHeartbeats 4000000 in
theorem an0 {O:List Nat} {w:World} (hO:OB O w) (hG:dR KK [] w) {v0:Value} {x0:aP} (h0:kL.is [] w v0 x0) {v1:Value} {x1:Int} (U:(Ty.int .u64).is [] w v1 x1) {r:aP×Int×Int} (h:AM shut x0 x1=some r):Calls γ 171 #[v0,v1] w (ll (rt3 kL (Ty.int .u64) (Ty.int .i64)) O w r):=by
 obtain rfl:=fk.1 U;obtain⟨fx,fy,rfl,zr,wy⟩:=nY.1 h0;have lH:cg w.heap.size O w O w:=cg.refl hO;refine lC (args:=[(.agg #[fx,fy]),(.int .u64 x1)]) (N:=68) η1 rfl rfl rfl ?_;unfold AM at h;refine aS ?_;refine bl (l:=[0,1,2,3]) rfl ?_;refine u7 rfl rfl rfl rfl rfl rfl [fx,fy] rfl hO (λb1 w1 n1=>?_);have cO:=n1.cf;have eW:=lH.trans (cg.oW lH.tr.size n1);refine BR ak rfl rfl rfl rfl rfl rfl [(.slice none 0 0),(.slice none 0 0)] rfl eW.ob (λb2 w2 n2=>?_);have cO:=cO.c7 n2.fr;have cM:=n2.cf;have mU:w.heap.size<=b2:=ι eW.tr.size n2.ge;have dD:=eW.trans (cg.oW eW.tr.size n2);have i2:b2∈b2::b1::O:=ξ4;have iz:b2<w2.heap.size:=cM.lt;have nG: ∀g∈O,g<w2.heap.size:=λg hg=>δ (hO g hg) dD.tr.size;refine aK ak [2,3] [(1,(.int .u64 x1)),(2,(.pointer (some ⟨b1,0,none⟩))),(4,(.pointer (some ⟨b2,0,none⟩)))] rfl ⟨rfl,rfl,rfl,trivial⟩ ?_;refine bc ?_;refine aT ?_;refine aS ?_;refine bl (l:=[0,1,2,3,4,5,6,7,8,9]) rfl ?_;refine fX ak rfl rfl rfl rfl rfl rfl rfl cO [fx,fy] rfl rfl (.inl rfl) (.agg #[fx,fy]) rfl ?_;obtain⟨e,he,h⟩:=bind_some h;refine aK ak [1] [(1,(.int .u64 x1)),(4,(.pointer (some ⟨b2,0,none⟩))),(13,(.agg #[fx,fy])),(14,(.int .u64 x1))] rfl ⟨rfl,rfl,rfl,rfl,trivial⟩ ?_;refine pg rfl rfl rfl rfl rfl MB rfl (PA dD.ob (hG.tr dD.fr.gj) (h0.tr dD.fr.gj) he) (λ_ w3 hg=>?_);obtain⟨pv,O3,rfl,fh,tK⟩:=hg;refine⟨_,rfl,?_⟩;have cM:ck w3 b2 58 [(.slice none 0 0),(.slice none 0 0)]:=(fh.below _ iz).trans cM;have dC:=dD.to fh;have i2:=fh.sub _ i2;refine aK ak [3,4,5,6,7,8,9] [(1,(.int .u64 x1)),(4,(.pointer (some ⟨b2,0,none⟩))),(7,pv),(8,(.int .i64 e.2.1)),(9,(.int .i64 e.2.2))] rfl ⟨rfl,rfl,rfl,rfl,rfl,trivial⟩ ?_;refine bc ?_;refine aT ?_;refine aS ?_;refine aS ?_;refine bl (l:=[0,1]) rfl ?_;refine aK ak [0,1] [(1,(.int .u64 x1)),(4,(.pointer (some ⟨b2,0,none⟩))),(7,pv),(8,(.int .i64 e.2.1)),(9,(.int .i64 e.2.2)),(20,(.bool (!(e.2.2==0))))] rfl ⟨rfl,rfl,rfl,rfl,rfl,rfl,trivial⟩ ?_;refine bc ?_;refine aT ?_;rcases oq h with⟨hc,h⟩|⟨hc,h⟩
 ·refine jV rfl hc ?_;cases h;refine aS ?_;refine bl (l:=[0,1,2,3,4]) rfl ?_;refine aK ak [0,1] [(4,(.pointer (some ⟨b2,0,none⟩))),(21,(.agg #[(.slice none 0 0),(.slice none 0 0)])),(22,(.int .i64 e.2.2))] rfl ⟨rfl,rfl,rfl,trivial⟩ ?_;refine iK ak rfl rfl rfl rfl rfl rfl rfl cM [(.slice none 0 0),(.slice none 0 0)] rfl rfl (by simp[ξ]) rfl [(.slice none 0 0),(.slice none 0 0)] rfl (λwE kY fE=>?_);refine aK ak [3,4] [(4,(.pointer (some ⟨b2,0,none⟩))),(5,(.int .u64 0)),(6,(.int .i64 e.2.2))] rfl ⟨rfl,rfl,rfl,trivial⟩ ?_;refine bc ?_;refine aT ?_;refine fz ?_;exact jW (sV ak (vs:=[.agg #[(.slice none 0 0),(.slice none 0 0)],(.int .u64 0),(.int .i64 e.2.2)]) ⟨_,_,rfl,⟨_,_,_,_,rfl,kY,rfl,rfl,.inl rfl,rfl⟩,_,_,rfl,rfl,_,_,rfl,rfl,rfl⟩ ⟨_,rfl,⟨_,_,_,rfl,(nY.2 ⟨_,_,rfl,lX _ _ _,lX _ _ _⟩),fk.2 rfl,fk.2 rfl⟩,(dC.trans (cg.lk dC.ob i2 mU fE)).fr⟩)
 refine ke rfl hc ?_;have qb:e.2.2=0:=by simpa using hc
 obtain⟨b,rfl,nv,rv,S,aE,hH⟩:=tK qb;refine gW ?_;refine aT ?_;obtain⟨z,hz,h⟩:=bind_some h;obtain⟨qj,qo⟩:=so hz;obtain⟨k,hk⟩: ∃k:Nat,k=e.2.1.toNat:=⟨_,rfl⟩;rw[<-hk] at qo;have Ad:e.2.1=(k:Int):=by omega
 rw[Ad];rw[<-hk] at h;have kX:=hH.Sx;obtain⟨vw,hr,uf⟩:=kX.fo.at_ qo;obtain⟨Aw,cw,rfl,Ya,Yd⟩:=iJ (uf [] λ_ _ hm=>by cases hm);obtain⟨Ar,cr,rfl,_,_⟩:=hH.row.form;have r6:=(ε.1 hr).1;obtain⟨g,R,rfl,gZ,jA,jC,Al,zW,Ao,oF⟩:=RF hH.row (by omega);have rV:g≠b:=λe=>hH.rb (by rw[<-e];rfl);have e1:(k:Int).toNat*({ tag:=8,k:=0,e:=0,fs:=[(29,0),(40,1)],size:=2,bytes:=32,zero:= .agg #[.int .u64 0,.slice none 0 0] }:TI).size=k*2:=by rw[μ]
 have aB:(k:Int).toNat<aE.length:=by rw[μ];exact r6
 refine aS ?_;refine bl (l:=[0,1,2,3,4,5,6,7]) rfl ?_;refine aK ak [0,1,2,3] [(4,(.pointer (some ⟨b2,0,none⟩))),(7,(.pointer (some ⟨b,0,none⟩))),(8,(.int .i64 (k:Int))),(26,(.pointer (some ⟨b,1,none⟩)))] rfl ⟨rfl,rfl,rfl,rfl,trivial⟩ ?_;refine fX ak rfl rfl rfl rfl rfl rfl rfl hH.cf [(.slice (some ⟨g,0,none⟩) aE.length cr)] rfl rfl (.inr rfl) (.slice (some ⟨g,0,none⟩) aE.length cr) rfl ?_;refine aK ak [5] [(4,(.pointer (some ⟨b2,0,none⟩))),(7,(.pointer (some ⟨b,0,none⟩))),(8,(.int .i64 (k:Int))),(27,(.slice (some ⟨g,0,none⟩) aE.length cr)),(28,(.int .i64 (k:Int)))] rfl ⟨rfl,rfl,rfl,rfl,rfl,trivial⟩ ?_;refine xQ ak rfl rfl rfl rfl rfl rfl rfl rfl rfl rfl (by omega) aB ?_;rw[e1,jf,ξ0];refine aK ak [7] [(4,(.pointer (some ⟨b2,0,none⟩))),(7,(.pointer (some ⟨b,0,none⟩))),(10,(.pointer (some ⟨g,k*2,none⟩)))] rfl ⟨rfl,rfl,rfl,trivial⟩ ?_;refine bc ?_;refine aT ?_;refine aS ?_;refine aS ?_;refine bl (l:=[0,1,2,3,4,5]) rfl ?_;refine aK ak [0,1,2] [(4,(.pointer (some ⟨b2,0,none⟩))),(7,(.pointer (some ⟨b,0,none⟩))),(10,(.pointer (some ⟨g,k*2,none⟩))),(32,(.pointer (some ⟨g,k*2+1,none⟩)))] rfl ⟨rfl,rfl,rfl,rfl,trivial⟩ ?_;refine fX ak rfl rfl rfl rfl rfl rfl rfl jC [(.slice Aw z.bt.length cw)] (sH hr) rfl (.inr rfl) (.slice Aw z.bt.length cw) rfl ?_;refine aK ak [4,5] [(4,(.pointer (some ⟨b2,0,none⟩))),(7,(.pointer (some ⟨b,0,none⟩))),(10,(.pointer (some ⟨g,k*2,none⟩))),(35,(.bool ((z.bt.length:Int)==0)))] rfl ⟨rfl,rfl,rfl,rfl,trivial⟩ ?_;refine bc ?_;refine aT ?_;rcases oq h with⟨hc,h⟩|⟨hc,h⟩
 ·refine jV rfl hc ?_;cases h;refine aS ?_;refine bl (l:=[0,1,2,3]) rfl ?_;refine aK ak [0] [(4,(.pointer (some ⟨b2,0,none⟩))),(36,(.agg #[(.slice none 0 0),(.slice none 0 0)]))] rfl ⟨rfl,rfl,trivial⟩ ?_;refine iK ak rfl rfl rfl rfl rfl rfl rfl cM [(.slice none 0 0),(.slice none 0 0)] rfl rfl (by simp[ξ]) rfl [(.slice none 0 0),(.slice none 0 0)] rfl (λwE kY fE=>?_);refine aK ak [2,3] [(4,(.pointer (some ⟨b2,0,none⟩))),(5,(.int .u64 0)),(6,(.int .i64 4))] rfl ⟨rfl,rfl,rfl,trivial⟩ ?_;refine bc ?_;refine aT ?_;refine fz ?_;exact jW (sV ak (vs:=[.agg #[(.slice none 0 0),(.slice none 0 0)],(.int .u64 0),(.int .i64 4)]) ⟨_,_,rfl,⟨_,_,_,_,rfl,kY,rfl,rfl,.inl rfl,rfl⟩,_,_,rfl,rfl,_,_,rfl,rfl,rfl⟩ ⟨_,rfl,⟨_,_,_,rfl,(nY.2 ⟨_,_,rfl,lX _ _ _,lX _ _ _⟩),fk.2 rfl,fk.2 rfl⟩,(dC.trans (cg.lk dC.ob i2 mU fE)).fr⟩)
 refine ke rfl hc ?_;refine gW ?_;refine aT ?_;obtain⟨w0,Hm,h⟩:=bind_some h;obtain⟨_,Hm⟩:=so Hm;refine aS ?_;refine bl (l:=[0,1,2,3,4,5,6]) rfl ?_;refine aK ak [0,1,2] [(4,(.pointer (some ⟨b2,0,none⟩))),(7,(.pointer (some ⟨b,0,none⟩))),(10,(.pointer (some ⟨g,k*2,none⟩))),(39,(.pointer (some ⟨g,k*2+1,none⟩)))] rfl ⟨rfl,rfl,rfl,rfl,trivial⟩ ?_;refine fX ak rfl rfl rfl rfl rfl rfl rfl jC [(.slice Aw z.bt.length cw)] (sH hr) rfl (.inr rfl) (.slice Aw z.bt.length cw) rfl ?_;refine SD ak rfl rfl rfl rfl rfl rfl rfl rfl rfl rfl (uf [] λ_ _ hm=>by cases hm) rfl (Int.le_refl 0) Hm (λp6 Av=>?_);refine auk ak rfl rfl rfl rfl rfl rfl rfl Av rfl rfl (λv6 AI=>?_);obtain rfl:=fk.1 AI;refine aK ak [6] [(4,(.pointer (some ⟨b2,0,none⟩))),(7,(.pointer (some ⟨b,0,none⟩))),(10,(.pointer (some ⟨g,k*2,none⟩))),(11,(.int .u64 w0))] rfl ⟨rfl,rfl,rfl,rfl,trivial⟩ ?_;refine bc ?_;refine aT ?_;refine aS ?_;have X6: ∀g∈S,g<w3.heap.size:=λg hg=>(kX.lt g hg).2;refine I1 mixed [⟨43,[],[10]⟩,⟨44,[],[10]⟩,⟨45,[1],[]⟩,⟨46,[2],[]⟩,⟨47,[3],[]⟩,⟨48,[],[10]⟩,⟨49,[5],[]⟩,⟨50,[6],[]⟩,⟨51,[7],[]⟩,⟨52,[8],[]⟩,⟨53,[],[10]⟩,⟨54,[10],[]⟩,⟨55,[11],[]⟩,⟨56,[12],[]⟩,⟨57,[13],[]⟩,⟨58,[4,9,14],[]⟩] [SP.eq (.pointer (some ⟨g,k*2,none⟩)),SP.eq (.pointer (some ⟨g,k*2,none⟩)),SP.eq (.pointer (some ⟨g,k*2,none⟩)),SP.eq (.pointer (some ⟨g,k*2+1,none⟩)),SP.eq (.slice Aw z.bt.length cw),SP.eq (.pointer (some ⟨g,k*2,none⟩)),SP.eq (.pointer (some ⟨g,k*2,none⟩)),SP.eq (.pointer (some ⟨g,k*2+1,none⟩)),SP.eq (.slice Aw z.bt.length cw),SP.eq (.int .i64 (z.bt.length:Int)),SP.eq (.pointer (some ⟨g,k*2,none⟩)),SP.eq (.pointer (some ⟨g,k*2,none⟩)),SP.eq (.pointer (some ⟨g,k*2+1,none⟩)),SP.eq (.slice Aw z.bt.length cw),SP.eq (.int .i64 (z.bt.length:Int)),SP.safe S (z.bt.drop 1)] rfl rfl rfl rfl ⟨?_,?_,?_,?_,?_,?_,?_,?_,?_,?_,?_,?_,?_,?_,?_,?_,trivial⟩ ?_
 ·intro a w2 bY hN aY hb hd;exact eu ak ⟨hN,aY,cJ (E:=[(10,(.pointer (some ⟨g,k*2,none⟩)))]) ⟨hb 10 rfl _ rfl,trivial⟩⟩ rfl rfl rfl rfl rfl
 ·intro a w2 bY hN aY hb hd;exact eu ak ⟨hN,aY,cJ (E:=[(10,(.pointer (some ⟨g,k*2,none⟩)))]) ⟨hb 10 rfl _ rfl,trivial⟩⟩ rfl rfl rfl rfl rfl
 ·intro a w2 bY hN aY hb hd;exact eu ak ⟨hN,aY,cJ (E:=[(44,(.pointer (some ⟨g,k*2,none⟩)))]) ⟨(hd 1 rfl _ _ rfl rfl),trivial⟩⟩ rfl rfl rfl rfl rfl
 ·intro a w2 bY hN aY hb hd;exact eu ak ⟨hN,aY,cJ (E:=[(45,(.pointer (some ⟨g,k*2,none⟩)))]) ⟨(hd 2 rfl _ _ rfl rfl),trivial⟩⟩ rfl rfl rfl rfl rfl
 ·intro a w2 bY hN aY hb hd;exact xv ak ⟨hN,aY,cJ (E:=[(46,(.pointer (some ⟨g,k*2+1,none⟩)))]) ⟨(hd 3 rfl _ _ rfl rfl),trivial⟩⟩ rfl rfl rfl rfl rfl rfl (jC.c7 bY) [(.slice Aw z.bt.length cw)] (sH hr) rfl (.inr rfl) (.slice Aw z.bt.length cw) rfl
 ·intro a w2 bY hN aY hb hd;exact eu ak ⟨hN,aY,cJ (E:=[(10,(.pointer (some ⟨g,k*2,none⟩)))]) ⟨hb 10 rfl _ rfl,trivial⟩⟩ rfl rfl rfl rfl rfl
 ·intro a w2 bY hN aY hb hd;exact eu ak ⟨hN,aY,cJ (E:=[(48,(.pointer (some ⟨g,k*2,none⟩)))]) ⟨(hd 5 rfl _ _ rfl rfl),trivial⟩⟩ rfl rfl rfl rfl rfl
 ·intro a w2 bY hN aY hb hd;exact eu ak ⟨hN,aY,cJ (E:=[(49,(.pointer (some ⟨g,k*2,none⟩)))]) ⟨(hd 6 rfl _ _ rfl rfl),trivial⟩⟩ rfl rfl rfl rfl rfl
 ·intro a w2 bY hN aY hb hd;exact xv ak ⟨hN,aY,cJ (E:=[(50,(.pointer (some ⟨g,k*2+1,none⟩)))]) ⟨(hd 7 rfl _ _ rfl rfl),trivial⟩⟩ rfl rfl rfl rfl rfl rfl (jC.c7 bY) [(.slice Aw z.bt.length cw)] (sH hr) rfl (.inr rfl) (.slice Aw z.bt.length cw) rfl
 ·intro a w2 bY hN aY hb hd;exact eu ak ⟨hN,aY,cJ (E:=[(51,(.slice Aw z.bt.length cw))]) ⟨(hd 8 rfl _ _ rfl rfl),trivial⟩⟩ rfl rfl rfl rfl rfl
 ·intro a w2 bY hN aY hb hd;exact eu ak ⟨hN,aY,cJ (E:=[(10,(.pointer (some ⟨g,k*2,none⟩)))]) ⟨hb 10 rfl _ rfl,trivial⟩⟩ rfl rfl rfl rfl rfl
 ·intro a w2 bY hN aY hb hd;exact eu ak ⟨hN,aY,cJ (E:=[(53,(.pointer (some ⟨g,k*2,none⟩)))]) ⟨(hd 10 rfl _ _ rfl rfl),trivial⟩⟩ rfl rfl rfl rfl rfl
 ·intro a w2 bY hN aY hb hd;exact eu ak ⟨hN,aY,cJ (E:=[(54,(.pointer (some ⟨g,k*2,none⟩)))]) ⟨(hd 11 rfl _ _ rfl rfl),trivial⟩⟩ rfl rfl rfl rfl rfl
 ·intro a w2 bY hN aY hb hd;exact xv ak ⟨hN,aY,cJ (E:=[(55,(.pointer (some ⟨g,k*2+1,none⟩)))]) ⟨(hd 12 rfl _ _ rfl rfl),trivial⟩⟩ rfl rfl rfl rfl rfl rfl (jC.c7 bY) [(.slice Aw z.bt.length cw)] (sH hr) rfl (.inr rfl) (.slice Aw z.bt.length cw) rfl
 ·intro a w2 bY hN aY hb hd;exact eu ak ⟨hN,aY,cJ (E:=[(56,(.slice Aw z.bt.length cw))]) ⟨(hd 13 rfl _ _ rfl rfl),trivial⟩⟩ rfl rfl rfl rfl rfl
 ·intro a w2 bY hN aY hb hd;exact(apn (S:=S) (l':=some (.i64,1)) (h':=some (.i64,(z.bt.length:Int))) (m':=some (.i64,(z.bt.length:Int))) (ys:=z.bt.drop 1) ak ⟨hN,aY,cJ (E:=[(47,(.slice Aw z.bt.length cw)),(52,(.int .i64 (z.bt.length:Int))),(57,(.int .i64 (z.bt.length:Int)))]) ⟨(hd 4 rfl _ _ rfl rfl),(hd 9 rfl _ _ rfl rfl),(hd 14 rfl _ _ rfl rfl),trivial⟩⟩ rfl rfl rfl rfl rfl rfl rfl rfl rfl rfl rfl rfl (uf.keep (O:=[]) (O':=[]) bY.gj λg hg=>bY.block g (X6 g hg) (by simp)) (by
   simp only[τ];unfold gq;have:=(ε.1 Hm).1;rw[if_pos (by simp at this ⊢;omega)];simp)).weaken (λu w3 ⟨hu,hf⟩=>⟨⟨λg hg=>δ (X6 g hg) (ι bY.size hf.size),hu⟩,hf⟩)
 intro a w4 f4 hN aY fa eN;have hH:=hH.c7 f4;have kX:=kX.c7 f4;have jC:=jC.c7 f4;have cM:=cM.c7 f4;have kE:=dC.trans (cg.xr dC.ob dC.tr.size f4);obtain⟨_,Pj⟩:(∀g∈S,g<w4.heap.size)/\Safe S w4 (a.tmps.getD 58 undef) (z.bt.drop 1):=eN 15 _ _ rfl rfl;obtain⟨vn,qB⟩: ∃v,a.tmps.getD 58 undef=v:=⟨_,rfl⟩;rw[qB] at Pj;obtain⟨An,cn,rfl,_,_⟩:=iJ (Pj [] λ_ _ hm=>by cases hm);refine BT (E:=[(4,(.pointer (some ⟨b2,0,none⟩))),(7,(.pointer (some ⟨b,0,none⟩))),(11,(.int .u64 w0)),(43,(.pointer (some ⟨g,k*2,none⟩))),(58,(.slice An (z.bt.drop 1).length cn))]) (l:=[16,17,18]) hN aY ⟨fa 4 _ rfl rfl,fa 7 _ rfl rfl,fa 11 _ rfl rfl,(eN 0 _ _ rfl rfl),qB,trivial⟩ rfl ?_;generalize hND:z.bt.drop 1=ND at*
 refine aK ak [16,17] [(4,(.pointer (some ⟨b2,0,none⟩))),(7,(.pointer (some ⟨b,0,none⟩))),(11,(.int .u64 w0)),(58,(.slice An ND.length cn)),(60,(.pointer (some ⟨g,k*2+1,none⟩)))] rfl ⟨rfl,rfl,rfl,rfl,rfl,trivial⟩ ?_;refine iK ak rfl rfl rfl rfl rfl rfl rfl jC [(.slice An ND.length cn)] rfl rfl (by simp[ξ]) (ξe (by simp only[ν,rc,jR,ρ];show k*2+1+1<=_;omega)) (rc (aE.set k (z.aa,(.slice An ND.length cn)))++R) (Rg (x:=(z.aa,(.slice Aw z.bt.length cw))) hr) (λw5 tP f5=>?_);have hW:=Q9 (bs:=e.1.au.set k (aq.mk z.aa ND)) hH.mem hH.ge hH.cf hH.ns hH.nb hH.dj rV gZ jA Al zW Ao f5 tP (by rw[ξF]) (λr hr=>by
  rcases ξi hr with hr|rfl
  ·exact oF r hr
  ·exact⟨_,_,_,rfl⟩) (kX.fo.set k Pj) kX.lt hH.out
 have cM:=cM.fr f5 (by simp;omega);have rP:=kE.trans (cg.lk kE.ob gZ (ι dD.tr.size jA) f5);clear hH kX;refine bc ?_;refine aT ?_;have zv:w2.heap.size<=w5.heap.size:=ι fh.tr.size (ι f4.size f5.size);refine aS ?_;refine bl (l:=[0,1]) rfl ?_;refine aK ak [0] [(11,(.int .u64 w0)),(4,(.pointer (some ⟨b2,0,none⟩))),(7,(.pointer (some ⟨b,0,none⟩))),(61,(.pointer (some ⟨b,0,none⟩)))] rfl ⟨rfl,rfl,rfl,rfl,trivial⟩ ?_;refine pg rfl rfl rfl rfl rfl MC rfl (PC rP.ob zv ⟨_,_,_,_,hW⟩) (λ_ w7 hg=>?_);obtain⟨rfl,O7,gJ,jn,ju,S7,abe,hW⟩:=hg;refine⟨_,rfl,?_⟩;have cM:ck w7 b2 58 [(.slice none 0 0),(.slice none 0 0)]:=(gJ.below _ iz).trans cM;have i2:=gJ.sub _ i2;have kW:cg w.heap.size O w O7 w7:=rP.trans ⟨gJ.tr,gJ.ob,gJ.sub,λj hj=>gJ.below j (δ hj dD.tr.size)⟩;refine aK ak [] [(11,(.int .u64 w0)),(4,(.pointer (some ⟨b2,0,none⟩))),(7,(.pointer (some ⟨b,0,none⟩)))] rfl ⟨rfl,rfl,rfl,trivial⟩ ?_;refine bc ?_;refine aT ?_;cases h;refine aS ?_;refine bl (l:=[0,1,2,3,4,5,6,7]) rfl ?_;refine aK ak [0,1,2] [(7,(.pointer (some ⟨b,0,none⟩))),(11,(.int .u64 w0)),(4,(.pointer (some ⟨b2,0,none⟩))),(65,(.pointer (some ⟨b,0,none⟩)))] rfl ⟨rfl,rfl,rfl,rfl,trivial⟩ ?_;refine fX ak rfl rfl rfl rfl rfl rfl rfl hW.cf [jn,ju] rfl rfl (.inl rfl) (.agg #[jn,ju]) rfl ?_;obtain⟨Ax,cx,zt,_,_⟩:=hW.ns.form;obtain⟨Ay,cy,zu,_,_⟩:=hW.row.form;refine aK ak [4] [(4,(.pointer (some ⟨b2,0,none⟩))),(66,(.agg #[jn,ju])),(67,(.int .u64 w0))] rfl ⟨rfl,rfl,rfl,trivial⟩ ?_;refine iK ak rfl rfl rfl rfl rfl rfl rfl cM [jn,ju] rfl rfl (by rw[zt,zu];simp[ξ]) rfl [jn,ju] rfl (λwE kY fE=>?_);have zI:=hW.cell i2 iz fE;have hE:=(kW.trans (cg.lk kW.ob i2 mU fE)).fr;refine aK ak [6,7] [(4,(.pointer (some ⟨b2,0,none⟩))),(5,(.int .u64 w0)),(6,(.int .i64 0))] rfl ⟨rfl,rfl,rfl,trivial⟩ ?_;refine bc ?_;refine aT ?_;refine fz ?_;exact(sV ak (vs:=[.agg #[jn,ju],(.int .u64 w0),(.int .i64 0)]) ⟨_,_,rfl,⟨_,_,_,_,rfl,kY,rfl,rfl,.inl rfl,rfl⟩,_,_,rfl,rfl,_,_,rfl,rfl,rfl⟩ ⟨_,rfl,⟨_,_,_,rfl,(zI.data nG),fk.2 rfl,fk.2 rfl⟩,hE⟩)
set_option maxRecDepth 100000 in
set_option maxHeartbeats 4000000 in
theorem an1 {O:List Nat} {w:World} (hO:OB O w) (hG:dR KK [] w) {v0:Value} {x0:aP} (h0:kL.is [] w v0 x0) {v1:Value} {x1:Int} (U:(Ty.int .u64).is [] w v1 x1) {v2:Value} {x2:List Int} (h2:(Ty.slice (Ty.int .u64)).is [] w v2 x2) {r:aP×Int} (h:AN shut x0 x1 x2=some r):Calls γ 170 #[v0,v1,v2] w (ll (rt2 kL (Ty.int .i64)) O w r):=by
 obtain rfl:=fk.1 U;obtain⟨A2,c2,rfl,auH,auO⟩:=iJ h2;obtain⟨fx,fy,rfl,zr,wy⟩:=nY.1 h0;have lH:cg w.heap.size O w O w:=cg.refl hO;refine lC (args:=[(.agg #[fx,fy]),(.int .u64 x1),(.slice A2 x2.length c2)]) (N:=55) η2 rfl rfl rfl ?_;unfold AN at h;refine aS ?_;refine bl (l:=[0,1,2]) rfl ?_;refine u7 rfl rfl rfl rfl rfl rfl [fx,fy] rfl hO (λb1 w1 n1=>?_);have cO:=n1.cf;have eW:=lH.trans (cg.oW lH.tr.size n1);refine BR ak rfl rfl rfl rfl rfl rfl [(.slice none 0 0),(.slice none 0 0)] rfl eW.ob (λb2 w2 n2=>?_);have cO:=cO.c7 n2.fr;have cM:=n2.cf;have mU:w.heap.size<=b2:=ι eW.tr.size n2.ge;have dD:=eW.trans (cg.oW eW.tr.size n2);have i2:b2∈b2::b1::O:=ξ4;have iz:b2<w2.heap.size:=cM.lt;have nG: ∀g∈O,g<w2.heap.size:=λg hg=>δ (hO g hg) dD.tr.size;refine aK ak [2] [(1,(.int .u64 x1)),(2,(.slice A2 x2.length c2)),(3,(.pointer (some ⟨b1,0,none⟩))),(6,(.pointer (some ⟨b2,0,none⟩)))] rfl ⟨rfl,rfl,rfl,rfl,trivial⟩ ?_;refine bc ?_;refine aT ?_;refine aS ?_;refine bl (l:=[0,1,2,3,4,5,6,7,8,9]) rfl ?_;refine fX ak rfl rfl rfl rfl rfl rfl rfl cO [fx,fy] rfl rfl (.inl rfl) (.agg #[fx,fy]) rfl ?_;obtain⟨e,he,h⟩:=bind_some h;refine aK ak [1] [(1,(.int .u64 x1)),(2,(.slice A2 x2.length c2)),(6,(.pointer (some ⟨b2,0,none⟩))),(13,(.agg #[fx,fy])),(14,(.int .u64 x1))] rfl ⟨rfl,rfl,rfl,rfl,rfl,trivial⟩ ?_;refine pg rfl rfl rfl rfl rfl MB rfl (PA dD.ob (hG.tr dD.fr.gj) (h0.tr dD.fr.gj) he) (λ_ w3 hg=>?_);obtain⟨pv,O3,rfl,fh,tK⟩:=hg;refine⟨_,rfl,?_⟩;have cM:ck w3 b2 58 [(.slice none 0 0),(.slice none 0 0)]:=(fh.below _ iz).trans cM;have dC:=dD.to fh;have i2:=fh.sub _ i2;refine aK ak [3,4,5,6,7,8,9] [(1,(.int .u64 x1)),(2,(.slice A2 x2.length c2)),(6,(.pointer (some ⟨b2,0,none⟩))),(8,pv),(9,(.int .i64 e.2.1)),(10,(.int .i64 e.2.2))] rfl ⟨rfl,rfl,rfl,rfl,rfl,rfl,trivial⟩ ?_;refine bc ?_;refine aT ?_;refine aS ?_;refine aS ?_;refine bl (l:=[0,1]) rfl ?_;refine aK ak [0,1] [(1,(.int .u64 x1)),(2,(.slice A2 x2.length c2)),(6,(.pointer (some ⟨b2,0,none⟩))),(8,pv),(9,(.int .i64 e.2.1)),(10,(.int .i64 e.2.2)),(20,(.bool (!(e.2.2==0))))] rfl ⟨rfl,rfl,rfl,rfl,rfl,rfl,rfl,trivial⟩ ?_;refine bc ?_;refine aT ?_;rcases oq h with⟨hc,h⟩|⟨hc,h⟩
 ·refine jV rfl hc ?_;cases h;refine aS ?_;refine bl (l:=[0,1,2,3]) rfl ?_;refine aK ak [0,1] [(6,(.pointer (some ⟨b2,0,none⟩))),(21,(.agg #[(.slice none 0 0),(.slice none 0 0)])),(22,(.int .i64 e.2.2))] rfl ⟨rfl,rfl,rfl,trivial⟩ ?_;refine iK ak rfl rfl rfl rfl rfl rfl rfl cM [(.slice none 0 0),(.slice none 0 0)] rfl rfl (by simp[ξ]) rfl [(.slice none 0 0),(.slice none 0 0)] rfl (λwE kY fE=>?_);refine aK ak [3] [(6,(.pointer (some ⟨b2,0,none⟩))),(7,(.int .i64 e.2.2))] rfl ⟨rfl,rfl,trivial⟩ ?_;refine bc ?_;refine aT ?_;refine fz ?_;exact jW (sV ak (vs:=[.agg #[(.slice none 0 0),(.slice none 0 0)],(.int .i64 e.2.2)]) ⟨_,_,rfl,⟨_,_,_,_,rfl,kY,rfl,rfl,.inl rfl,rfl⟩,_,_,rfl,rfl,rfl⟩ ⟨_,rfl,⟨_,_,rfl,(nY.2 ⟨_,_,rfl,lX _ _ _,lX _ _ _⟩),fk.2 rfl⟩,(dC.trans (cg.lk dC.ob i2 mU fE)).fr⟩)
 refine ke rfl hc ?_;have qb:e.2.2=0:=by simpa using hc
 obtain⟨b,rfl,nv,rv,S,aE,hH⟩:=tK qb;refine gW ?_;refine aT ?_;obtain⟨z,hz,h⟩:=bind_some h;obtain⟨qj,qo⟩:=so hz;obtain⟨k,hk⟩: ∃k:Nat,k=e.2.1.toNat:=⟨_,rfl⟩;rw[<-hk] at qo;have Ad:e.2.1=(k:Int):=by omega
 rw[Ad];rw[<-hk] at h;have kX:=hH.Sx;obtain⟨vw,hr,uf⟩:=kX.fo.at_ qo;obtain⟨Aw,cw,rfl,Ya,Yd⟩:=iJ (uf [] λ_ _ hm=>by cases hm);obtain⟨Ar,cr,rfl,_,_⟩:=hH.row.form;have r6:=(ε.1 hr).1;obtain⟨g,R,rfl,gZ,jA,jC,Al,zW,Ao,oF⟩:=RF hH.row (by omega);have rV:g≠b:=λe=>hH.rb (by rw[<-e];rfl);have e1:(k:Int).toNat*({ tag:=8,k:=0,e:=0,fs:=[(29,0),(40,1)],size:=2,bytes:=32,zero:= .agg #[.int .u64 0,.slice none 0 0] }:TI).size=k*2:=by rw[μ]
 have aB:(k:Int).toNat<aE.length:=by rw[μ];exact r6
 refine aS ?_;refine bl (l:=[0,1,2,3,4,5,6,7]) rfl ?_;refine aK ak [0,1,2,3] [(6,(.pointer (some ⟨b2,0,none⟩))),(2,(.slice A2 x2.length c2)),(8,(.pointer (some ⟨b,0,none⟩))),(9,(.int .i64 (k:Int))),(26,(.pointer (some ⟨b,1,none⟩)))] rfl ⟨rfl,rfl,rfl,rfl,rfl,trivial⟩ ?_;refine fX ak rfl rfl rfl rfl rfl rfl rfl hH.cf [(.slice (some ⟨g,0,none⟩) aE.length cr)] rfl rfl (.inr rfl) (.slice (some ⟨g,0,none⟩) aE.length cr) rfl ?_;refine aK ak [5] [(6,(.pointer (some ⟨b2,0,none⟩))),(2,(.slice A2 x2.length c2)),(8,(.pointer (some ⟨b,0,none⟩))),(9,(.int .i64 (k:Int))),(27,(.slice (some ⟨g,0,none⟩) aE.length cr)),(28,(.int .i64 (k:Int)))] rfl ⟨rfl,rfl,rfl,rfl,rfl,rfl,trivial⟩ ?_;refine xQ ak rfl rfl rfl rfl rfl rfl rfl rfl rfl rfl (by omega) aB ?_;rw[e1,jf,ξ0];refine aK ak [7] [(6,(.pointer (some ⟨b2,0,none⟩))),(2,(.slice A2 x2.length c2)),(8,(.pointer (some ⟨b,0,none⟩))),(11,(.pointer (some ⟨g,k*2,none⟩)))] rfl ⟨rfl,rfl,rfl,rfl,trivial⟩ ?_;refine bc ?_;refine aT ?_;refine aS ?_;refine aS ?_;refine bl (l:=[0,1,2,3,4,5,6,7,8]) rfl ?_;refine aK ak [0,1,2] [(6,(.pointer (some ⟨b2,0,none⟩))),(2,(.slice A2 x2.length c2)),(8,(.pointer (some ⟨b,0,none⟩))),(11,(.pointer (some ⟨g,k*2,none⟩))),(32,(.pointer (some ⟨g,k*2+1,none⟩)))] rfl ⟨rfl,rfl,rfl,rfl,rfl,trivial⟩ ?_;refine fX ak rfl rfl rfl rfl rfl rfl rfl jC [(.slice Aw z.bt.length cw)] (sH hr) rfl (.inr rfl) (.slice Aw z.bt.length cw) rfl ?_;refine aK ak [4,5,6,7,8] [(6,(.pointer (some ⟨b2,0,none⟩))),(2,(.slice A2 x2.length c2)),(8,(.pointer (some ⟨b,0,none⟩))),(11,(.pointer (some ⟨g,k*2,none⟩))),(38,(.bool (decide (β.wrap ((z.bt.length:Int)+(x2.length:Int))>4))))] rfl ⟨rfl,rfl,rfl,rfl,rfl,trivial⟩ ?_;refine bc ?_;refine aT ?_;rcases oq h with⟨hc,h⟩|⟨hc,h⟩
 ·refine jV rfl hc ?_;cases h;refine aS ?_;refine bl (l:=[0,1,2]) rfl ?_;refine aK ak [0] [(6,(.pointer (some ⟨b2,0,none⟩))),(39,(.agg #[(.slice none 0 0),(.slice none 0 0)]))] rfl ⟨rfl,rfl,trivial⟩ ?_;refine iK ak rfl rfl rfl rfl rfl rfl rfl cM [(.slice none 0 0),(.slice none 0 0)] rfl rfl (by simp[ξ]) rfl [(.slice none 0 0),(.slice none 0 0)] rfl (λwE kY fE=>?_);refine aK ak [2] [(6,(.pointer (some ⟨b2,0,none⟩))),(7,(.int .i64 6))] rfl ⟨rfl,rfl,trivial⟩ ?_;refine bc ?_;refine aT ?_;refine fz ?_;exact jW (sV ak (vs:=[.agg #[(.slice none 0 0),(.slice none 0 0)],(.int .i64 6)]) ⟨_,_,rfl,⟨_,_,_,_,rfl,kY,rfl,rfl,.inl rfl,rfl⟩,_,_,rfl,rfl,rfl⟩ ⟨_,rfl,⟨_,_,rfl,(nY.2 ⟨_,_,rfl,lX _ _ _,lX _ _ _⟩),fk.2 rfl⟩,(dC.trans (cg.lk dC.ob i2 mU fE)).fr⟩)
 refine ke rfl hc ?_;refine gW ?_;refine aT ?_;obtain⟨ws,Pt,h⟩:=bind_some h;cases h;refine aS ?_;refine bl (l:=[0,1,2,3,4,5,6,7,8,9]) rfl ?_;refine aK ak [0,1,2,3] [(6,(.pointer (some ⟨b2,0,none⟩))),(2,(.slice A2 x2.length c2)),(8,(.pointer (some ⟨b,0,none⟩))),(11,(.pointer (some ⟨g,k*2,none⟩))),(40,(.pointer (some ⟨g,k*2,none⟩))),(43,(.pointer (some ⟨g,k*2+1,none⟩)))] rfl ⟨rfl,rfl,rfl,rfl,rfl,rfl,trivial⟩ ?_;refine fX ak rfl rfl rfl rfl rfl rfl rfl jC [(.slice Aw z.bt.length cw)] (sH hr) rfl (.inr rfl) (.slice Aw z.bt.length cw) rfl ?_;refine aK ak [5] [(6,(.pointer (some ⟨b2,0,none⟩))),(8,(.pointer (some ⟨b,0,none⟩))),(40,(.pointer (some ⟨g,k*2,none⟩))),(44,(.slice Aw z.bt.length cw)),(45,(.slice A2 x2.length c2))] rfl ⟨rfl,rfl,rfl,rfl,rfl,trivial⟩ ?_;obtain⟨vw2,S1,S2,eN,zF,OE,hre⟩:=hH.fo.at_ (show(e.1.au.map bx)[k]? =some (bx z) by simp[qo]);rw[hr] at eN;obtain rfl:(.slice Aw z.bt.length cw)=vw2:=by injection eN with e;injection e with e1 e2
 have cY: ∀j,((.slice Aw z.bt.length cw):Value).ownBlock=some j->j∈S:=λj hj=>by rw[zF,hj];simp
 have Hc: ∀j,j∈O3->((.slice Aw z.bt.length cw):Value).ownBlock≠some j:=λj hj e=>hH.out j (cY j e) hj;have dp: ∀j,j<w2.heap.size->((.slice Aw z.bt.length cw):Value).ownBlock≠some j:=λj hj e=>by have:=(OE.lt j e).1;omega
 refine adC (O:=((.slice Aw z.bt.length cw):Value).ownBlock.toList) ak rfl rfl rfl rfl rfl rfl rfl rfl rfl rfl rfl rfl rfl rfl fh.fr (λj hj=>(OE.lt j (by simpa using hj)).2) (OE.own l4 λj hj=>by simpa using hj) (h2.tr ⟨dC.fr.os,dC.fr.tape,dC.fr.output,dC.fr.size,λj hj _=>⟨λhm=>dp j (δ hj dD.tr.size) (by simpa using hm),dC.fr.block j hj (by simp)⟩⟩) Pt (λvn w4 O4 ap=>?_);obtain⟨An,cn,rfl,_,_⟩:=ap.own.form;have cM:ck w4 b2 58 [(.slice none 0 0),(.slice none 0 0)]:=(ap.fr _ cM.lt (dp _ iz)).trans cM;have jC:ck w4 g 132 (rc aE++R):=(ap.fr _ jC.lt (Hc _ gZ)).trans jC;have wG:ck w4 b 262 [nv,(.slice (some ⟨g,0,none⟩) aE.length cr)]:=(ap.fr _ hH.cf.lt (Hc _ hH.mem)).trans hH.cf;have nL:=(hH.ns.oz.keep IM (w':=w4) λj hj=>ap.fr j (hH.ns.lt j hj).2 (Hc _ (hH.ns.mem j hj))).own IM hH.ns.mem;have kE:cg w.heap.size O w O3 w4:=⟨⟨ap.tr.os.trans dC.tr.os,ap.tr.tape.trans dC.tr.tape,ap.tr.output.trans dC.tr.output,ι dC.tr.size ap.tr.size,λj hj ho=>⟨(dC.tr.keep j hj ho).1,(ap.fr j (δ hj dC.tr.size) (dp j (δ hj dD.tr.size))).trans (dC.tr.keep j hj ho).2⟩⟩,λj hj=>δ (dC.ob j hj) ap.tr.size,dC.sub,λj hj=>(ap.fr j (δ hj dC.tr.size) (dp j (δ hj dD.tr.size))).trans (dC.below j hj)⟩;have r_:=hH.nd;rw[zF,ξJ,ξJ] at r_;have iT:=hre (w':=w4) (λj hj=>ap.fr j (hH.fo.lt j (by rw[zF];simp at hj ⊢;rcases hj with hj|hj;exact .inl hj;exact .inr (.inr hj))).2 (λe=>by
  rcases ξm.1 hj with hj|hj
  ·exact r_.1.2.2 j hj j (by rw[e];simp) rfl
  ·exact r_.2.2 j (ξd _ (by rw[e];simp)) j hj rfl)) l4 ap.own.oz
 obtain⟨S',Xm⟩: ∃S',S'=S1++(η7 An ws.length cn).ownBlock.toList++S2:=⟨_,rfl⟩;rw[<-Xm] at iT;have iT:eD TW 35 w2.heap.size w4 S' (aE.set k (z.aa,.slice An ws.length cn)) ((e.1.au.set k (aq.mk z.aa ws)).map bx):=by rw[ζX];exact iT
 have qw: ∀j∈S',j∉O3:=λj hj hm=>by
  rw[Xm] at hj;simp only[ξm,Option.mem_toList] at hj;rcases hj with(hj|hj)|hj
  ·exact hH.out j (by rw[zF];simp[hj]) hm
  ·exact ap.ne j (dC.ob j hm) (Hc j hm) hj
  ·exact hH.out j (by rw[zF];simp[hj]) hm
 refine aK ak [7,8] [(6,(.pointer (some ⟨b2,0,none⟩))),(8,(.pointer (some ⟨b,0,none⟩))),(46,(.slice An ws.length cn)),(48,(.pointer (some ⟨g,k*2+1,none⟩)))] rfl ⟨rfl,rfl,rfl,rfl,trivial⟩ ?_;refine iK ak rfl rfl rfl rfl rfl rfl rfl jC [(.slice An ws.length cn)] rfl rfl (by simp[ξ]) (ξe (by simp only[ν,rc,jR,ρ];show k*2+1+1<=_;omega)) (rc (aE.set k (z.aa,(.slice An ws.length cn)))++R) (Rg (x:=(z.aa,(.slice Aw z.bt.length cw))) hr) (λw5 tP f5=>?_);have hW:=Q9 (bs:=e.1.au.set k (aq.mk z.aa ws)) hH.mem hH.ge wG nL hH.nb hH.dj rV gZ jA Al zW Ao f5 tP (by rw[ξF]) (λr hr=>by
  rcases ξi hr with hr|rfl
  ·exact oF r hr
  ·exact⟨_,_,_,rfl⟩) (fD.of S' iT (λ_ h=>h)) iT.lt qw
 have cM:=cM.fr f5 (by simp;omega);have rP:=kE.trans (cg.lk kE.ob gZ (ι dD.tr.size jA) f5);clear hH kX;refine bc ?_;refine aT ?_;have zv:w2.heap.size<=w5.heap.size:=ι fh.tr.size (ι ap.tr.size f5.size);refine aS ?_;refine bl (l:=[0,1]) rfl ?_;refine aK ak [0] [(6,(.pointer (some ⟨b2,0,none⟩))),(8,(.pointer (some ⟨b,0,none⟩))),(49,(.pointer (some ⟨b,0,none⟩)))] rfl ⟨rfl,rfl,rfl,trivial⟩ ?_;refine pg rfl rfl rfl rfl rfl MC rfl (PC rP.ob zv ⟨_,_,_,_,hW⟩) (λ_ w7 hg=>?_);obtain⟨rfl,O7,gJ,jn,ju,S7,abe,hW⟩:=hg;refine⟨_,rfl,?_⟩;have cM:ck w7 b2 58 [(.slice none 0 0),(.slice none 0 0)]:=(gJ.below _ iz).trans cM;have i2:=gJ.sub _ i2;have kW:cg w.heap.size O w O7 w7:=rP.trans ⟨gJ.tr,gJ.ob,gJ.sub,λj hj=>gJ.below j (δ hj dD.tr.size)⟩;refine aK ak [] [(6,(.pointer (some ⟨b2,0,none⟩))),(8,(.pointer (some ⟨b,0,none⟩)))] rfl ⟨rfl,rfl,trivial⟩ ?_;refine bc ?_;refine aT ?_;refine aS ?_;refine bl (l:=[0,1,2,3,4,5]) rfl ?_;refine aK ak [0,1,2] [(8,(.pointer (some ⟨b,0,none⟩))),(6,(.pointer (some ⟨b2,0,none⟩))),(53,(.pointer (some ⟨b,0,none⟩)))] rfl ⟨rfl,rfl,rfl,trivial⟩ ?_;refine fX ak rfl rfl rfl rfl rfl rfl rfl hW.cf [jn,ju] rfl rfl (.inl rfl) (.agg #[jn,ju]) rfl ?_;obtain⟨Ax,cx,zt,_,_⟩:=hW.ns.form;obtain⟨Ay,cy,zu,_,_⟩:=hW.row.form;refine iK ak rfl rfl rfl rfl rfl rfl rfl cM [jn,ju] rfl rfl (by rw[zt,zu];simp[ξ]) rfl [jn,ju] rfl (λwE kY fE=>?_);have zI:=hW.cell i2 iz fE;have hE:=(kW.trans (cg.lk kW.ob i2 mU fE)).fr;refine aK ak [5] [(6,(.pointer (some ⟨b2,0,none⟩))),(7,(.int .i64 0))] rfl ⟨rfl,rfl,trivial⟩ ?_;refine bc ?_;refine aT ?_;refine fz ?_;exact(sV ak (vs:=[.agg #[jn,ju],(.int .i64 0)]) ⟨_,_,rfl,⟨_,_,_,_,rfl,kY,rfl,rfl,.inl rfl,rfl⟩,_,_,rfl,rfl,rfl⟩ ⟨_,rfl,⟨_,_,rfl,(zI.data nG),fk.2 rfl⟩,hE⟩)
section
variable {P:Program} {r:Option Nat} {N:Nat} {Θ:dP} {ops:Array Oper} {Q:Exit->Act->World->Prop} {l:List Nat} {E:Env} {ds:List Deferred} {w:World} {i d:Nat} {o:Oper} {O:List Nat}
theorem apo (aO:Θ.ok P) {a:Act} (ha:Has N E ds a) (ho:ops[i]? =some o) (hw:want N ops E o.guard=some true) (hd:o.dst=some d) {t:Nat} {x y:Operand} {ti te:TI} (ah:o.op= .slice t x none (some y) none) (ht:Θ.get t=some ti)
  (h5:ti.tag=5) (ct:Θ.get ti.e=some te) {ad:Addr} {n c hi:Nat} {k:IntKind} (hx:ev E x=some (.slice (some ad) n c)) (hy:ev E y=some (.int k hi)) (fI:n<=c) (qe:hi<=c):
  iq P r ops Q i d a w (λu w'=>u= .slice (some ad) hi c/\Fr [] w w'):=by
 refine uB ho (l3 ha hw) hd (b:=true) (v:= .slice (some ad) hi c) (w':=w) ?_ ⟨rfl,Fr.refl _ _⟩;simp only[if_true];refine⟨by rw[ah];simp,?_⟩;simp only[execOp,ah,ξk,ha.eval hx,τ,ξZ,ha.eval hy,abT aO ht h5 ct fI qe];rfl
theorem aui (aO:Θ.ok P) (ho:ops[i]? =some o) (hw:want N ops E o.guard=some true) (hd:o.dst=some d) (hN:η6 d N=true) {t:Nat} {x y z:Operand} {ti te:TI} (ah:o.op= .slice t x (some y) (some z) none) (ht:Θ.get t=some ti)
  (h5:ti.tag=5) (ct:Θ.get ti.e=some te) {ad:Addr} {n c lo hi:Nat} {k k':IntKind} (hx:ev E x=some (.slice (some ad) n c)) (hy:ev E y=some (.int k lo)) (hz:ev E z=some (.int k' hi)) (fI:n<=c) (qq:lo<=hi) (qe:hi<=c) (OR:lo<c)
  (h:WO P r N ops Q l ((d,.slice (some (ad.add (lo*te.size))) (hi-lo) (c-lo))::E) ds w):WO P r N ops Q (i::l) E ds w:=by
 have hu:=(aO.fits ht).slice h5;have hb:=xK (P:=P) (w:=w) (b:=true) (n:=n) (c:=c) (lo:=some (k,(lo:Int))) (hi:=some (k',(hi:Int))) (mx:=none) fI (by simp) (by simp;omega) (by simp;omega) (by simp) (by simp);simp only[τ,ξZ,ξ5,Option.getD_none,lO,μ] at hb;refine gE ho hw hd hN (by rw[ah];simp) (λa ha=>?_) h;simp only[execOp,ah,ξk,ha.eval hx,τ,ξZ,ha.eval hy,ha.eval hz,Instr.sliceAt,run_underlying hu,ξf,Instr.slice,hb,gf (aO.fits ct),ξX];rw[if_neg (by omega)]
theorem aud (aO:Θ.ok P) (ho:ops[i]? =some o) (hw:want N ops E o.guard=some true) (hd:o.dst=some d) (hN:η6 d N=true) {t:Nat} {x y:Operand} {ti te:TI}
  (ah:o.op= .call { callee:= .builtin .append,args:= #[x,y],argTypes:= #[t,t] }) (ht:Θ.get t=some ti) (h5:ti.tag=5) (ct:Θ.get ti.e=some te) {g k c m c' e:Nat} {ad:Addr} {cur:Array Value} {us:List Value}
  (hx:ev E x=some (.slice (some ⟨g,0,none⟩) k c)) (hy:ev E y=some (.slice (some ad) m c')) (hg:w.heap[g]? =some (.cells cur e (0,0))) (fp:fP w ad us) (j_:us.length=m*te.size) (U: ∀u∈us,u.oneCell'=true) (G6:k+m<=c) (fi:(k+m)*te.size<=cur.size)
  (h: ∀(W:World) (new:Array Value),Fr [g] w W->W.heap[g]? =some (.cells new e (0,0))->new=(cur.toList.take (k*te.size)++us++cur.toList.drop (k*te.size+us.length)).toArray->WO P r N ops Q l ((d,.slice (some ⟨g,0,none⟩) (k+m) c)::E) ds W):WO P r N ops Q (i::l) E ds w:=by
 have jI:=(aO.fits ht).slice h5;obtain⟨x',jK,hs,pX,sk⟩:=(aO.fits ct).info;have gv:=run_storeCells_at P g (k*te.size) e us 0 cur w hg (by rw[j_];rw[Nat.add_mul] at fi;omega) U;simp only[ζf] at gv;have oG:=h (w.setRow g (cur.toList.take (k*te.size)++us++cur.toList.drop (k*te.size+us.length)).toArray) _ (qS hg) (by simp only[ζY,ξY,hg,if_true,τ]) rfl;refine gE ho hw hd hN (by rw[ah];simp) (λa ha=>?_) oG;have hfc:=run_firstCells_some (P:=P) (w:=w) te.size m ad m c' us j_ fp;have aX:(ζq #[t,t] o.type #[.slice (some ⟨g,0,none⟩) k c,.slice (some ad) m c']).run P w= .ok (.slice (some ⟨g,0,none⟩) (k+m) c) (w.setRow g (cur.toList.take (k*te.size)++us++cur.toList.drop (k*te.size+us.length)).toArray):=by
  simp[ζq,run_underlying jI,sizeOf,typeInfo,jK,Builtin.lenOf,hs,hfc,G6,jf,gv]
 simp only[execOp,ah,ξk,resolve,ξX,ξf,invoke,builtin,ξP,ζ2,ζe,ha.eval hx,ha.eval hy,aX]
end
noncomputable def np (z:az):Value×Value:=(.int .u64 z.br,.int .u64 z.aa)
noncomputable def nc (L:List az):List Value:=pc (L.map np)
theorem Qn {O:List Nat} {w:World}: ∀ {L:List az},cz gi O w (nc L) L
 |[]=>rfl
 |z::L=>⟨[.int .u64 z.br,.int .u64 z.aa],nc L,rfl,⟨[.int .u64 z.br],[.int .u64 z.aa],rfl,rfl,rfl⟩,Qn⟩
theorem abE {O:List Nat} {w:World}: ∀ {L:List az} {cs:List Value},cz gi O w cs L->cs=nc L
 |[],_,h=>h
 |z::L,cs,⟨c1,c2,U,h2,h3⟩=>by
  rw[U,abE h3,asq h2];rfl
theorem su (L:List az):(nc L).length=L.length*2:=by rw[nc,jR,ρ]
theorem aoO (L:List az) (k:Nat):(nc L).take (k*2)=nc (L.take k):=by rw[nc,H9,nc,ζ4]
theorem aoM (L:List az) (k:Nat):(nc L).drop (k*2)=nc (L.drop k):=by rw[nc,H8,nc,ζx]
theorem aoL (L M:List az):nc (L++M)=nc L++nc M:=by rw[nc,ζn,Q2];rfl
theorem aoN: ∀ {L:List az} {u:Value},u∈nc L->u.oneCell'=true:=λ{L u} h=>cz.one (Qn (O:=[]) (w:=default) (L:=L)) u h
noncomputable def IF (xs:List az) (i j:Int):Option (List az):=if 0<=i/\i<=j/\j<=xs.length then some (xs.take i.toNat++xs.drop j.toNat) else none
set_option maxRecDepth 100000 in
set_option maxHeartbeats 4000000 in
theorem ar1 {O:List Nat} {w:World} (hO:OB O w) {B:Nat} {v:Value} {xs:List az} (hv:Go.Dc.Own gi 127 B O w v xs) {i j:Int} {zs:List az} (hz:IF xs i j=some zs):
  Calls γ 223 #[v,.int .i64 i,.int .i64 j] w (ig gi 127 B O w v zs):=by
 unfold IF at hz;split at hz
 case isFalse=>cases hz
 rename_i cC;cases hz;obtain⟨i,rfl⟩: ∃k:Nat,i=k:=⟨i.toNat,by omega⟩;obtain⟨j,rfl⟩: ∃k:Nat,j=k:=⟨j.toNat,by omega⟩;simp only[μ] at*
 obtain⟨A,c,rfl,fI,mR⟩:=hv.form;have am8:(Ty.slice gi).is [] w (.slice A xs.length c) xs:=hv.oz.data IM (λ_ _ h=>by cases h);refine lC (args:=[.slice A xs.length c,.int .i64 i,.int .i64 j]) (N:=33) η3 rfl rfl rfl ?_;refine aS ?_;refine bl (l:=[0]) rfl ?_;refine aK ak [0] [(0,.slice A xs.length c),(1,.int .i64 i),(2,.int .i64 j)] rfl ⟨rfl,rfl,rfl,trivial⟩ ?_;refine bc ?_;refine aT ?_;refine aS ?_;refine bl (l:=[0,1,2,3,4,5]) rfl ?_;refine aK ak [0,1,2,3,4] [(0,.slice A xs.length c),(1,.int .i64 i),(2,.int .i64 j),(8,.slice A xs.length c),(9,.int .i64 i),(10,.int .i64 j),(12,.int .i64 (xs.length:Int))] rfl ⟨rfl,rfl,rfl,rfl,rfl,rfl,rfl,trivial⟩ ?_;refine auh (l':=some (.i64,(i:Int))) (h':=some (.i64,(j:Int))) (m':=some (.i64,(xs.length:Int))) (ys:=(xs.take j).drop i) ak rfl rfl rfl rfl rfl rfl rfl rfl rfl rfl rfl rfl rfl am8 (by
  simp only[τ];unfold gq;rw[if_pos (by simp;omega)];simp) (λv1 U=>?_)
 refine bc ?_;refine aT ?_;refine aS ?_;refine aS ?_;refine bl (l:=[0,1,2]) rfl ?_;refine aK ak [0,1,2] [(0,.slice A xs.length c),(1,.int .i64 i),(2,.int .i64 j),(16,.bool ((i:Int)==j))] rfl ⟨rfl,rfl,rfl,rfl,trivial⟩ ?_;refine bc ?_;refine aT ?_
 by_cases anh:i=j
 ·subst anh;refine jV rfl (by simp) ?_;refine aS ?_;refine bl (l:=[0,1]) rfl ?_;refine aK ak [0,1] [(6,.slice A xs.length c)] rfl ⟨rfl,trivial⟩ ?_;refine bc ?_;refine aT ?_;refine fz ?_;refine jW (iL rfl ⟨_,O,rfl,?_⟩);rw[ξ7];exact⟨hv,Tr.refl _ _,hO,Sub.refl _,λ_ _ _=>rfl,λ_ _ h=>h⟩
 refine ke rfl (beq_eq_false_iff_ne.2 (by omega)) ?_;refine gW ?_;refine aT ?_;obtain⟨cs,⟨bN,jl⟩,fK⟩:=hv.ex;rcases jl with⟨_,oI⟩|⟨g,cap,cur,jl,jA,hh,mo,tR,fi,lJ⟩
 ·omega
 injection jl with hA qu j5;subst hA;subst j5;have gZ:=hv.mem g rfl;have tT:=abE fK;have pV:gi.n=2:=rfl;rw[pV] at fi lJ;obtain⟨R,hR⟩: ∃R,R=cur.toList.drop (xs.length*2):=⟨_,rfl⟩;have mj:cur.toList=nc xs++R:=by
  rw[hR,<-tT,<-lJ];exact(ξ7 _ _).symm
 have hRl:xs.length*2+R.length=c*2:=by
  have:=congrArg ζp mj;rw[υ,fi] at this;simp only[ν,su] at this;omega
 have hb:ck w g 127 (nc xs++R):=by
  unfold ck;rw[<-mj,ξz];exact hh
 refine aS ?_;refine bl (l:=[0,1,2]) rfl ?_;refine aK ak [0,1,2] [(0,.slice (some ⟨g,0,none⟩) xs.length c),(1,.int .i64 i),(2,.int .i64 j),(7,.int .i64 (xs.length:Int))] rfl ⟨rfl,rfl,rfl,rfl,trivial⟩ ?_;refine bc ?_;refine aT ?_;refine aS ?_;refine I1 mixed [⟨20,[],[0]⟩,⟨21,[],[1]⟩,⟨22,[0,1],[]⟩,⟨23,[],[0]⟩,⟨24,[],[2]⟩,⟨25,[3,4],[]⟩] [SP.eq (.slice (some ⟨g,0,none⟩) xs.length c),SP.eq (.int .i64 i),SP.eq (.slice (some ⟨g,0,none⟩) i c),SP.eq (.slice (some ⟨g,0,none⟩) xs.length c),SP.eq (.int .i64 j),SP.eq (.slice (if c=j then some ⟨g,0,none⟩ else(some ⟨g,0,none⟩:Option Addr).map (·.add (j*2))) (xs.length-j) (c-j))] rfl rfl rfl rfl ⟨?_,?_,?_,?_,?_,?_,trivial⟩ ?_
 ·intro a w2 bY hN aY hb hd;exact eu ak ⟨hN,aY,cJ (E:=[(0,.slice (some ⟨g,0,none⟩) xs.length c)]) ⟨hb 0 rfl _ rfl,trivial⟩⟩ rfl rfl rfl rfl rfl
 ·intro a w2 bY hN aY hb hd;exact eu ak ⟨hN,aY,cJ (E:=[(1,.int .i64 i)]) ⟨hb 1 rfl _ rfl,trivial⟩⟩ rfl rfl rfl rfl rfl
 ·intro a w2 bY hN aY hb hd;exact apo (n:=xs.length) (c:=c) (hi:=i) ak ⟨hN,aY,cJ (E:=[(20,.slice (some ⟨g,0,none⟩) xs.length c),(21,.int .i64 i)]) ⟨(hd 0 rfl _ _ rfl rfl),(hd 1 rfl _ _ rfl rfl),trivial⟩⟩ rfl rfl rfl rfl rfl rfl rfl rfl rfl mo (by omega)
 ·intro a w2 bY hN aY hb hd;exact eu ak ⟨hN,aY,cJ (E:=[(0,.slice (some ⟨g,0,none⟩) xs.length c)]) ⟨hb 0 rfl _ rfl,trivial⟩⟩ rfl rfl rfl rfl rfl
 ·intro a w2 bY hN aY hb hd;exact eu ak ⟨hN,aY,cJ (E:=[(2,.int .i64 j)]) ⟨hb 2 rfl _ rfl,trivial⟩⟩ rfl rfl rfl rfl rfl
 ·intro a w2 bY hN aY hb hd;refine(Be (A:=some ⟨g,0,none⟩) (n:=xs.length) (c:=c) (lo:=j) ak ⟨hN,aY,cJ (E:=[(23,.slice (some ⟨g,0,none⟩) xs.length c),(24,.int .i64 j)]) ⟨(hd 3 rfl _ _ rfl rfl),(hd 4 rfl _ _ rfl rfl),trivial⟩⟩ rfl rfl rfl rfl rfl rfl rfl rfl rfl mo (by omega)).weaken (λu w3 hh=>?_);exact hh
 intro a w3 f3 hN aY fa hr;have zT:=hb.c7 f3;obtain⟨ad,zS,pY⟩: ∃ad,(if c=j then some ⟨g,0,none⟩ else(some ⟨g,0,none⟩:Option Addr).map (·.add (j*2)))=some ad/\fP w3 ad (nc (xs.drop j)):=by
  by_cases XM:c=j
  ·refine⟨⟨g,0,none⟩,by rw[if_pos XM],?_⟩;rw[List.drop_eq_nil_of_le (by omega)];intro k u hk;simp[nc,pc] at hk
  ·refine⟨⟨g,j*2,none⟩,by rw[if_neg XM,τ,jf,ξ0],?_⟩;intro k u hk;rw[jf,zT.cell];rw[<-aoM,ξG] at hk;have aB:=(ε.1 hk).1;rw[κ aB];exact hk
 rw[zS] at hr;refine BT (E:=[(1,.int .i64 i),(2,.int .i64 j),(7,.int .i64 (xs.length:Int)),(22,.slice (some ⟨g,0,none⟩) i c),(25,.slice (some ad) (xs.length-j) (c-j))]) (l:=[6,7]) hN aY ⟨fa 1 _ rfl rfl,fa 2 _ rfl rfl,fa 7 _ rfl rfl,(hr 2 _ _ rfl rfl),(hr 5 _ _ rfl rfl),trivial⟩ rfl ?_;have fT:(nc (xs.drop j)).length=(xs.length-j)*2:=by rw[su,ξx]
 refine aud ak rfl rfl rfl rfl rfl rfl rfl rfl rfl rfl zT pY fT (λu hu=>aoN hu) (by omega) (by simp only[ξK,ν,su];show(i+(xs.length-j))*2<=_;omega) (λw4 new Ae hh4 fj=>?_);have Ye:new.toList=nc (xs.take i++xs.drop j)++(nc xs++R).drop (i*2+(xs.length-j)*2):=by
  rw[fj];simp only[ξD];rw[fT,aoL,ξo,ξo]
  congr 1
  show List.take (i*2) (nc xs++R)=_;rw[ξa (by rw[su];omega),aoO]
 have iV:(xs.take i++xs.drop j).length=i+(xs.length-j):=by simp;omega
 refine aK ak [7] [(0,.slice (some ⟨g,0,none⟩) (i+(xs.length-j)) c),(1,.int .i64 i),(2,.int .i64 j),(7,.int .i64 (xs.length:Int))] rfl ⟨rfl,rfl,rfl,rfl,trivial⟩ ?_;refine bc ?_;refine aT ?_;refine aS ?_;refine bl (l:=[0,1,2,3,4,5]) rfl ?_;refine aK ak [0,1,2,3] [(0,.slice (some ⟨g,0,none⟩) (i+(xs.length-j)) c),(27,.slice (some ⟨g,0,none⟩) (i+(xs.length-j)) c),(29,.int .i64 ((i+(xs.length-j):Nat):Int)),(30,.int .i64 (xs.length:Int))] rfl ⟨rfl,rfl,rfl,rfl,trivial⟩ ?_;refine aui (n:=i+(xs.length-j)) (c:=c) (lo:=i+(xs.length-j)) (hi:=xs.length) ak rfl rfl rfl rfl rfl rfl rfl rfl rfl rfl rfl (by omega) (by omega) mo (by omega) ?_;obtain⟨q,hq⟩: ∃q,xs.length-(i+(xs.length-j))=q+1:=⟨xs.length-(i+(xs.length-j))-1,by omega⟩;rw[hq,jf,ξ0];have Yh:new.size=c*2:=by
  rw[<-υ,Ye];simp only[ν,ξx,su,ξy];omega
 refine adE (k:=2) ak rfl rfl rfl rfl rfl rfl rfl rfl hh4 rfl (λu hu=>adM rfl rfl hu) (by rw[Yh];show(i+(xs.length-j))*2+(q+1)*2<=c*2;omega) (λw5 aaf hf5 hh5 ans=>?_);have Yf:aaf.toList=nc (xs.take i++xs.drop j)++((χ (ζZ #[.int .u64 0,.int .u64 0]).cells (q+1)).toList++new.toList.drop ((i+(xs.length-j))*2+(q+1)*2)):=by
  rw[ans];simp only[ξD,ξo]
  congr 1
  show List.take ((i+(xs.length-j))*2) new.toList=_;rw[Ye];exact ξE (by rw[su,iV])
 have anu:aaf.size=c*2:=by
  rw[<-υ,Yf];simp only[ν,ξx,su,υ,size_zeroCells,Yh,ξy];show _+((q+1)*2+_)=_;omega
 refine bc ?_;refine aT ?_;refine aS ?_;refine bl (l:=[0,1]) rfl ?_;refine aK ak [0,1] [(6,.slice (some ⟨g,0,none⟩) (i+(xs.length-j)) c)] rfl ⟨rfl,trivial⟩ ?_;refine bc ?_;refine aT ?_;refine fz ?_;refine iL rfl ⟨_,O,rfl,?_⟩;have Np:Fr [g] w w5:=(f3.more (by simp)).trans (Ae.trans hf5);have:=SF (T:=gi) (e:=127) (B:=B) (n0:=xs.length) (zs:=xs.take i++xs.drop j) (cap:=c) hO gZ jA Np hh5 anu tR (by rw[iV];omega) Qn (by
  rw[Yf];exact ξE (by rw[su,iV];rfl))
 rw[iV] at this;exact this
end Go.Proofs.YtoggponeookhbaaGreatDoor
end
section
namespace Go.Vx
open Go.RowKit Go.Dc
section
variable {S:bL} {K:bG S} {P:Program}
def jU:List (aD S)->Option (List Value)
 |[]=>some []
 | .one (.v u)::r=>(match jU r with|some us=>some (u::us)|none=>none)
 |_=>none
theorem ads {A:Pl} {O:List Nat} {w:World}: ∀ {ava:List (aD S)} {us vs:List Value},jU ava=some us->dO A O w ava vs->vs=us
 |[],us,vs,h,hr=>by
  cases h;exact hr
 | .one (.v u)::r,us,vs,h,⟨y,ys,e,U,h2⟩=>by
  simp only[jU] at h;split at h
  ·rename_i us' hu;cases h;have U:[y]=[u]/\_:=U;rw[e,ads hu h2,List.cons.inj U.1|>.1]
  ·cases h
 | .agg _::_,us,vs,h,_=>by simp[jU] at h
 | .one (.aU _ _)::_,us,vs,h,_=>by simp[jU] at h
 | .one (.ptr _ _ _)::_,us,vs,h,_=>by simp[jU] at h
 | .one (.bp _ _)::_,us,vs,h,_=>by simp[jU] at h
 | .one (.jg _ _ _ _)::_,us,vs,h,_=>by simp[jU] at h
 | .one (.own _)::_,us,vs,h,_=>by simp[jU] at h
 | .one (.fl _ _ _ _)::_,us,vs,h,_=>by simp[jU] at h
 | .one (.jZ _ _ _)::_,us,vs,h,_=>by simp[jU] at h
 | .one (.mp _)::_,us,vs,h,_=>by simp[jU] at h
 | .one (.bI _)::_,us,vs,h,_=>by simp[jU] at h
 | .one .eL::_,us,vs,h,_=>by simp[jU] at h
 | .one (.ep _)::_,us,vs,h,_=>by simp[jU] at h
 | .one (.cd _ _ _)::_,us,vs,h,_=>by simp[jU] at h
 | .one (.dW _ _)::_,us,vs,h,_=>by simp[jU] at h
def Sf (K:bG S) (f e:Nat) (tr:List (S.El e)->List Value->Option (List (S.El e))):iM S:=⟨f,λava h k=>match ava with
 | .one (.own r)::rest=>(match jU rest,gr K (aH h) e (.own r) with
  |some us,some xs=>(tr xs us).bind λzs=>k (.ret (.s (.one (.own h.length)))) (h.set r none++[some (.row e zs)]) [r]
  |_,_=>none)
 |_=>none⟩
theorem atD (hK:cI K P) {f e:Nat} {tr:List (S.El e)->List Value->Option (List (S.El e))} (gY:gQ P f)
  (hC: ∀(O:List Nat) (w:World) (v:Value) (us:List Value) (xs zs:List (S.El e)),OB O w->Dc.Own (S.ty e) e 0 O w v xs->tr xs us=some zs->Calls P f (v::us).toArray w (ig (S.ty e) e 0 O w v zs))
  {R:Type} (ava:List (aD S)) (h:AH S) (k:Rs S->AH S->List Nat->Option R) (z:R) (hz:(Sf K f e tr).out ava h k=some z): ∃r h' dt,k r h' dt=some z/\ic K P f ava h r h' dt:=by
 simp only[Sf] at hz;split at hz
 rotate_left
 ·cases hz
 rename_i r rest;split at hz
 rotate_left
 ·cases hz
 rename_i us xs fp eB;obtain⟨zs,gU,hk⟩:=bind_some hz;have oK:=Mz eB;refine⟨_,_,_,hk,gY,λA O w vs hv hg hO hG bZ iA=>?_⟩;obtain⟨v,Sp,rfl,AJ,AA⟩:=hv;obtain rfl:=ads fp AA;obtain⟨_,oM,jl,_⟩:=AJ;cases jl;obtain⟨v0,AG,gu,XJ⟩:=hg.al r _ oK;rw[oM] at AG;cases AG;refine(hC O w v Sp xs zs hO gu gU).mono ?_;rintro en w' ⟨v',O2,rfl,ha⟩;obtain⟨A',dF⟩: ∃A':Pl,A'=⟨λi=>bif ξt i h.length then some v' else A.pl i,A.ls⟩:=⟨_,rfl⟩;have fb: ∀i,i≠h.length->A'.pl i=A.pl i:=λi hi=>by
  rw[dF];have:ξt i h.length=false:=by
   cases hb:ξt i h.length with
   |false=>rfl
   |true=>exact absurd (ξb hb) hi
  simp only[this,cond_false]
 have iC:A'.pl h.length=some v':=by rw[dF];simp
 have hle:A.le A':=⟨λi p hp=>by
  rw[fb i (λe=>by subst e;rw[bZ _ (ξn _)] at hp;cases hp)];exact hp,by rw[dF]⟩
 have gM: ∀b,cG v≠some b->v.ownBlock≠some b:=λb hb hv=>hb (lB hv);have fL: ∀b,b<w.heap.size->cG v≠some b->w'.heap[b]? =w.heap[b]? :=λb hb hn=>ha.fr b hb (gM b hn);have dp: ∀b,cG v'=some b->v'.ownBlock=some b/\b∈O2:=by
  intro b hb;have gM:v'.ownBlock=some b:=by
   rcases mD ha.own with⟨e1,_⟩|⟨b',c,e1⟩
   ·rw[e1] at hb;cases hb
   ·rw[e1] at hb ⊢;cases hb;rfl
  exact⟨gM,ha.own.mem b gM⟩
 have qv: ∀b,b<w.heap.size->cG v≠some b->cG v'≠some b:=λb hb hn h'=>ha.ne b hb (gM b hn) (dp b h').1;have oJ:v'.oneCell'=true:=by
  rcases mD ha.own with⟨e1,_⟩|⟨b',c,e1⟩<;>rw[e1]<;>rfl
 have hlen:(h.set r none).length=h.length:=by simp
 have mq: ∀ {i:Nat} {X:Ob S},aH (h.set r none++[some (.row e zs)]) i=some X->(i≠r/\aH h i=some X)\/(i=h.length/\X= .row e zs):=by
  intro i X hi;rcases qH hi with U|⟨U,h2⟩
  ·exact .inl (QJ U)
  ·exact .inr ⟨U.trans hlen,h2⟩
 have sa: ∀i X,aH (h.set r none++[some (.row e zs)]) i=some X->X.nt=true:=λi X hi=>by
  rcases mq hi with⟨_,U⟩|⟨_,rfl⟩
  ·exact iA i X U
  ·rfl
 refine⟨A',O2,⟨v',rfl,⟨v',iC,rfl,oJ⟩⟩,⟨cv.HN sa ?_ ?_,ha.ob,ha.tr,λi hi=>fb i (by omega),(λj hj=>?_),by rw[dF],by simp,?_,?_,λi X _=>sa i X⟩⟩
 ·intro i X hi;rcases mq hi with⟨qg,U⟩|⟨rfl,rfl⟩
  ·obtain⟨p,hp,hR,hb⟩:=hg.al i X U;have aB:=jo U;exact⟨p,by rw[fb i (by omega)];exact hp,hR.keep ha.tr hle λb bM=>have bM:=iR (iA i X U) bM;⟨fL b (hO b (hb b bM)) (λgM=>hg.dj i r _ _ p v b qg U oK hp oM bM gM),ha.sub b (hb b bM)⟩,λb bM=>ha.sub b (hb b bM)⟩
  ·exact⟨v',iC,ha.own,λb hb=>(dp b hb).2⟩
 ·intro i j X Y p q b cC hi hj hp hq bM eE;have fM: ∀ {i:Nat} {X:Ob S} {p:Value},i≠r->aH h i=some X->A'.pl i=some p->cG p=some b->b<w.heap.size/\A.pl i=some p/\cG v≠some b:=by
   intro i X p h0 U h2 h3;have aB:=jo U;rw[fb i (by omega)] at h2;obtain⟨p',cH,_,hb⟩:=hg.al i X U;rw[h2] at cH;cases cH;exact⟨hO b (hb b h3),h2,λgM=>hg.dj i r _ _ p v b h0 U oK h2 oM h3 gM⟩
  rcases mq hi with⟨qg,U⟩|⟨rfl,rfl⟩
  ·rcases mq hj with⟨tY,h2⟩|⟨rfl,rfl⟩
   ·exact hg.dj i j X Y p q b cC U h2 (fM qg U hp bM).2.1 (fM tY h2 hq eE).2.1 bM eE
   ·rw[iC] at hq;cases hq;have h3:=fM qg U hp bM;exact qv b h3.1 h3.2.2 eE
  ·rcases mq hj with⟨tY,h2⟩|⟨rfl,rfl⟩
   ·rw[iC] at hp;cases hp;have h3:=fM tY h2 hq eE;exact qv b h3.1 h3.2.2 bM
   ·exact absurd rfl cC
 ·have:j=r:=by simpa using hj
  subst this;exact jo oK
 ·intro i hi;simp at hi;rw[fb i (by omega)];exact bZ i (by omega)
 ·intro b hb hn;have mY:=hn r (by simp) v oM;refine⟨fL b (hO b hb) mY,ha.sub b hb,λi X p hi hX hp bM=>?_⟩;rcases mq hX with⟨_,U⟩|⟨rfl,rfl⟩
  ·have:=jo U;omega
  ·rw[iC] at hp;cases hp;exact qv b (hO b hb) mY (iR rfl bM)
end
end Go.Vx
end
section
namespace Go.Proofs.YtoggponeookhbaaGreatDoor
open Go.RowKit Go.Dc Go.Vx
noncomputable def yS (xs:List az) (us:List Value):Option (List az):=match us with
 |[.int .i64 i,.int .i64 j]=>IF xs i j
 |_=>none
noncomputable def Mv:iM SS:=Sf KK 223 127 yS
theorem ai9 {R:Type} (xs:List (aD SS)) (h:AH SS) (k:Rs SS->AH SS->List Nat->Option R) (z:R) (hz:Mv.out xs h k=some z): ∃r h' dt,k r h' dt=some z/\ic KK γ 223 xs h r h' dt:=
 atD (e:=127) (tr:=yS) eP (eI bn η3 rfl) (λO w v us xs zs hO hv hz=>by
  unfold yS at hz;split at hz
  ·exact ar1 hO hv hz
  ·cases hz) xs h k z hz
noncomputable def Kc (sh:Sh):ay SS:= { ya sh with H:=Mv::(ya sh).H }
theorem afs:an (Kc shut) γ:=an.mS (c:=Mv) Kf ai9
noncomputable def FM (sh:Sh) (s:aP) (pid:Int) (words:List Int):Option (aP×Int):=sh.s _ (AN sh s pid words)
noncomputable def FN (sh:Sh) (s:aP) (pid:Int):Option (aP×Int×Int):=sh.s _ (AM sh s pid)
noncomputable def FB (sh:Sh) (s:aP) (pid:Int):Option (aP×Int×Int):=sh.s _ (AL sh s pid)
theorem RU {α:Type} {x:α}:shut.s α x=x:=by rw[sP]
noncomputable def Mo (sh:Sh):bO SS:=kR KK 170 [58,35,130] (λ{R} xs (k:Rs SS->Option R)=>match xs with| .cons s (.cons pid (.cons words .nil))=>(FM sh s pid words).bind (λr=>k (.ret (.bD [KK.bA 58 r.1,KK.bA 27 r.2]))))
noncomputable def Mp (sh:Sh):bO SS:=kR KK 171 [58,35] (λ{R} xs (k:Rs SS->Option R)=>match xs with| .cons s (.cons pid .nil)=>(FN sh s pid).bind (λr=>k (.ret (.bD [KK.bA 58 r.1,KK.bA 35 r.2.1,KK.bA 27 r.2.2]))))
noncomputable def Mn (sh:Sh):bO SS:=kR KK 152 [58,35] (λ{R} xs (k:Rs SS->Option R)=>match xs with| .cons s (.cons pid .nil)=>(FB sh s pid).bind (λr=>k (.ret (.bD [KK.bA 58 r.1,KK.bA 3 r.2.1,KK.bA 27 r.2.2]))))
theorem g0 {O:List Nat} {w:World} (h:dR KK O w):dR KK [] w:=h.tr (Tr.less λ_ hk=>by cases hk)
theorem PN {A:Pl} {O:List Nat} {w:World} {s:aP} {v:Value} (h:(KK.bA 58 s).rel A O w v):kL.is [] w v s:=PR (PS eP (t:=58) rfl rfl h)
theorem Sg {A:Pl} {O:List Nat} {w:World} {s:Int} {v:Value} (h:(KK.bA 35 s).rel A O w v):(Ty.int .u64).is [] w v s:=PR (PS eP (t:=35) rfl rfl h)
theorem aup {A:Pl} {O:List Nat} {w:World} {s:List Int} {v:Value} (h:(KK.bA 130 s).rel A O w v):(Ty.slice (Ty.int .u64)).is [] w v s:=PR (PS eP (t:=130) rfl rfl h)
theorem aif {R:Type} (ys:List (aD SS)) (k:Rs SS->Option R) (z:R) (hp:ys.all aD.pure=true) (hz:(Mo shut).out ys k=some z): ∃r,k r=some z/\gH KK γ 170 ys r:=
 Ff eP (λ{R} xs k z h=>by
  match xs,h with
  | .cons s (.cons pid (.cons words .nil)),h=>
   obtain⟨r,hr,hk⟩:=bind_some h;refine⟨_,hk,eI bn η2 rfl,λA O w vs hv hO hG=>?_⟩;obtain⟨v0,_,rfl,h0,v1,_,rfl,U,v2,_,rfl,h2,h3⟩:=hv;rw[show _=[] from h3];refine(an1 hO (g0 hG) (PN h0) (Sg U) (aup h2) (RU.symm.trans hr)).mono ?_;rintro e w' ⟨v,rfl,⟨a,b,rfl,q1,q2⟩,hF⟩;exact⟨⟨_,rfl,[a,b],rfl,a,[b],rfl,mB eP (t:=58) rfl rfl q1,b,[],rfl,mB eP (t:=27) rfl rfl q2,rfl⟩,hF⟩) ys k z hp hz
theorem aih {R:Type} (ys:List (aD SS)) (k:Rs SS->Option R) (z:R) (hp:ys.all aD.pure=true) (hz:(Mp shut).out ys k=some z): ∃r,k r=some z/\gH KK γ 171 ys r:=
 Ff eP (λ{R} xs k z h=>by
  match xs,h with
  | .cons s (.cons pid .nil),h=>
   obtain⟨r,hr,hk⟩:=bind_some h;refine⟨_,hk,eI bn η1 rfl,λA O w vs hv hO hG=>?_⟩;obtain⟨v0,_,rfl,h0,v1,_,rfl,U,h3⟩:=hv;rw[show _=[] from h3];refine(an0 hO (g0 hG) (PN h0) (Sg U) (RU.symm.trans hr)).mono ?_;rintro e w' ⟨v,rfl,⟨a,b,c,rfl,q1,q2,q3⟩,hF⟩;exact⟨⟨_,rfl,[a,b,c],rfl,a,[b,c],rfl,mB eP (t:=58) rfl rfl q1,b,[c],rfl,mB eP (t:=35) rfl rfl q2,c,[],rfl,mB eP (t:=27) rfl rfl q3,rfl⟩,hF⟩) ys k z hp hz
theorem ah2 {R:Type} (ys:List (aD SS)) (k:Rs SS->Option R) (z:R) (hp:ys.all aD.pure=true) (hz:(Mn shut).out ys k=some z): ∃r,k r=some z/\gH KK γ 152 ys r:=
 Ff eP (λ{R} xs k z h=>by
  match xs,h with
  | .cons s (.cons pid .nil),h=>
   obtain⟨r,hr,hk⟩:=bind_some h;refine⟨_,hk,eI bn η0 rfl,λA O w vs hv hO hG=>?_⟩;obtain⟨v0,_,rfl,h0,v1,_,rfl,U,h3⟩:=hv;rw[show _=[] from h3];refine(anZ hO (g0 hG) (PN h0) (Sg U) (RU.symm.trans hr)).mono ?_;rintro e w' ⟨v,rfl,⟨a,b,c,rfl,q1,q2,q3⟩,hF⟩;exact⟨⟨_,rfl,[a,b,c],rfl,a,[b,c],rfl,mB eP (t:=58) rfl rfl q1,b,[c],rfl,mB eP (t:=3) rfl rfl q2,c,[],rfl,mB eP (t:=27) rfl rfl q3,rfl⟩,hF⟩) ys k z hp hz
noncomputable def J3 (sh:Sh):ay SS:= { Kc sh with C:=Mo sh::(Kc sh).C }
theorem afp:an (J3 shut) γ:=an.l_ (c:=Mo shut) afs aif
noncomputable def J4 (sh:Sh):ay SS:= { J3 sh with C:=Mp sh::(J3 sh).C }
theorem afq:an (J4 shut) γ:=an.l_ (c:=Mp shut) afp aih
noncomputable def vr (sh:Sh):ay SS:= { J4 sh with C:=Mn sh::(J4 sh).C }
theorem JQ:an (vr shut) γ:=an.l_ (c:=Mn shut) afq ah2
noncomputable def Gq (p0:List aq) (p1:List az) (p2 p3:Int) (p4:List aq):AS SS:=⟨[(5,(va 0 0)),(20,(vd 56 p0)),(21,(vi p2)),(22,(vi p3))],[(bX 262 [(.own 1),(.own 2)]),(rX 127 p1),(rX 132 p4)],0,none,false,[],[]⟩
noncomputable def akd (p0:List aq) (p1:List az) (p2:Int) (a0:Bool) (a1:Int) (a2:List aq):AS SS:= { Gq p0 p1 p2 p2 a2 with env:=[(23,(vb a0)),(5,(va 0 0)),(20,(vd 56 p0)),(21,(vi p2)),(22,(vi a1))] }
noncomputable def U0 (sh:Sh) (p0:List aq) (p1:List az) (p2:Int) (a:Int×List aq):T ((Int×List aq) ⊕ (Bool×Int×List aq)):=
 .bf (decide (a.1<p2)) (
  .bd (idx p0 a.1) λz0=>
   .bd (app 8 [] z0.bt) λz1=>
    .bd (app 32 a.2 [aq.mk z0.aa z1]) λz2=>
     .ok (.inl ((β.wrap (a.1+1)),z2)))<|
 .ok (.inr ((decide (a.1<p2)),a.1,a.2))
noncomputable def La (sh:Sh) (p0:List aq) (p1:List az) (p2 p3:Int) (p4:List aq):Option ((Bool×Int×List aq)):=cA sh (U0 sh p0 p1 p2) 1000000 (p3,p4)
noncomputable def agm {R:Type} (k:AX->AS SS->Option R) (p0:List aq) (p1:List az) (p2:Int) (x:(Bool×Int×List aq)):Option R:=(λv=>k (.exit 0) (akd p0 p1 p2 v.1 v.2.1 v.2.2)) x
noncomputable def P9:bH SS:=oQ (λst=>gc (ar 219 7) (jP 0 1 132 (st)))<|bT 7 (λst=>(bB 56 (aZ st 20 0)).bind λp0=>(c9 st 1 127).bind λp1=>(bq (aZ st 21 0)).bind λp2=>(bq (aZ st 22 0)).bind λp3=>(c9 st 2 132).bind λp4=>some (p0,p1,p2,p3,p4)) (λp=>Gq p.1 p.2.1 p.2.2.1 p.2.2.2.1 p.2.2.2.2) (λp=>La shut p.1 p.2.1 p.2.2.1 p.2.2.2.1 p.2.2.2.2) (λk p=>agm k p.1 p.2.1 p.2.2.1)
theorem aqy:aG KK γ ⟨ξB,ar 219⟩ (bQ (a_ ξB) 7) P9:=aG.pre (dA.comp (dA.gc (ar 219 7)) (dA.jP 0 1 132))<|
 aG.cA (π:=List aq×List az×Int×Int×List aq) (σ:=Int×List aq) (an.all JQ rfl) (ao.nil) rfl 60 (λp a=>Gq p.1 p.2.1 p.2.2.1 a.1 a.2) (λp=>(p.2.2.2.1,p.2.2.2.2)) (St:=λp=>U0 shut p.1 p.2.1 p.2.2.1) (λp=>1000000) (λp=>rfl)
  (λm p a k=>by kernel_rfl)
noncomputable def Gw (p0:Int) (p1:List az) (p2 p3:Int):AS SS:=⟨[(0,(vo 0)),(1,(vu p0)),(2,(vc 1)),(8,(vl p1)),(9,(vi p2)),(10,(vi p3))],[(rX 127 p1),(some (.bI 270 [] [(.one (.bp 2 0))])),(bX 284 [(.v (.func (.func 221) (.mk []) (.mk [])))])],3,none,false,[],[]⟩
noncomputable def akt (p0:Int) (p1:List az) (a0:Bool) (a1 a2:Int):AS SS:= { Gw p0 p1 p0 p0 with env:=[(17,(vb a0)),(16,(vi a1)),(15,(vi a2)),(0,(vo 0)),(1,(vu p0)),(2,(vc 1)),(8,(vl p1)),(9,(vi a2)),(10,(vi a1))] }
noncomputable def yu (sh:Sh) (p0:Int) (p1:List az) (a:Int×Int):T ((Int×Int) ⊕ (Bool×Int×Int)):=
 .bf (decide (a.1<a.2)) (
  .bd (idx p1 (β.wrap ((θ.wrap (β.wrap (a.1+a.2))).fdiv 2))) λz0=>
   .bd (p1[(β.wrap ((θ.wrap (β.wrap (a.1+a.2))).fdiv 2)).toNat]?) λz1=>
    .bd (nB sh z1.br p0) λz2=>
     .bf (decide (z2<0)) (
      .ok (.inl ((β.wrap (β.wrap ((θ.wrap (β.wrap (a.1+a.2))).fdiv 2)+1)),a.2)))<|
     .ok (.inl (a.1,(β.wrap ((θ.wrap (β.wrap (a.1+a.2))).fdiv 2)))))<|
 .ok (.inr ((decide (a.1<a.2)),a.2,a.1))
noncomputable def Li (sh:Sh) (p0:Int) (p1:List az) (p2 p3:Int):Option ((Bool×Int×Int)):=cA sh (yu sh p0 p1) 1000000 (p2,p3)
noncomputable def agy {R:Type} (k:AX->AS SS->Option R) (p0:Int) (p1:List az) (x:(Bool×Int×Int)):Option R:=(λv=>k (.exit 0) (akt p0 p1 v.1 v.2.1 v.2.2)) x
noncomputable def Zu:bH SS:=bT 4 (λst=>(dB st 1 270).bind λ_=>(bq (aZ st 1 0)).bind λp0=>(c9 st 0 127).bind λp1=>(bq (aZ st 9 0)).bind λp2=>(bq (aZ st 10 0)).bind λp3=>some (p0,p1,p2,p3)) (λp=>Gw p.1 p.2.1 p.2.2.1 p.2.2.2) (λp=>Li shut p.1 p.2.1 p.2.2.1 p.2.2.2) (λk p=>agy k p.1 p.2.1)
noncomputable def aeA:ay SS:= { (vr shut) with T:=bm ((vr shut).T) 219 ⟨⟨ξB,ar 219⟩,[P9]⟩ }
theorem TA:aJ aeA γ:=(aJ.b8 (an.all JQ rfl) ξW rfl bn λc hc=>by cases hc;exact ao.cons (ao.nil) (by kernel_rfl) aqy)
theorem aqH:aG KK γ ⟨ξp,ar 269⟩ (bQ (a_ ξp) 4) Zu:=
 aG.cA (π:=Int×List az×Int×Int) (σ:=Int×Int) TA (ao.nil) rfl 60 (λp a=>Gw p.1 p.2.1 a.1 a.2) (λp=>(p.2.2.1,p.2.2.2)) (St:=λp=>yu shut p.1 p.2.1) (λp=>1000000) (λp=>rfl)
  (λm p a k=>by kernel_rfl)
noncomputable def TB:ay SS:= { (vr shut) with T:=bm (bm ((vr shut).T) 219 ⟨⟨ξB,ar 219⟩,[P9]⟩) 269 ⟨⟨ξp,ar 269⟩,[Zu]⟩ }
theorem aeB:aJ TB γ:=(aJ.b8 TA ζb rfl bn λc hc=>by cases hc;exact ao.cons (ao.nil) (by kernel_rfl) aqH)
noncomputable def Ei (sh:Sh) (s:aP) (name:Int):T (aP×Int):=
 .bd (pP sh s) λz0=>
  .bf (z0 !=0) (
   .bf (z0 !=0) (
    .ok (⟨[],[]⟩,z0))<|
   .bd (pM sh name) λz1=>
    .bf (!z1) (
     .ok (⟨[],[]⟩,351))<|
    .no)<|
  .bd (app 16 [] s.aA) λz1=>
   .gd (Gq s.au z1 ((↑s.au.length:Int)) 0 [])<|
    .bd (La sh s.au z1 ((↑s.au.length:Int)) 0 []) λy2=>
     .bd (pM sh name) λz3=>
      .bf (!z3) (
       .ok (⟨[],[]⟩,351))<|
      .gd (Gw name z1 0 (↑z1.length:Int))<|
       .bd (Li sh name z1 0 ((↑z1.length:Int))) λy4=>
        .bf (decide (y4.2.2<(↑z1.length:Int))) (
         .bd (idx z1 y4.2.2) λz5=>
          .bd (z1[y4.2.2.toNat]?) λz6=>
           .bd (nB sh z6.br name) λz7=>
            .bf (!z7==0) (
             .ok (⟨[],[]⟩,4))<|
            .bd (yS z1 [ζo β y4.2.2,ζo β (β.wrap (y4.2.2+1))]) λz8=>
             .ok (⟨z8,y2.2.2⟩,0))<|
        .ok (⟨[],[]⟩,4)
noncomputable def FL (sh:Sh) (s:aP) (name:Int):Option (aP×Int):=sh.s _ (Ei sh s name).val
theorem asQ:R2 KK TB 168 58 35 [58,27] (Ei shut) (dE KK 58 27):=by intro R s name k;kernel_rfl
noncomputable def aic (sh:Sh):bO SS:=eH KK 168 58 35 (FL sh) (dE KK 58 27)
noncomputable def J1 (sh:Sh):ay SS:=cq (aic sh) (vr sh)
theorem Uo:an (J1 shut) γ:=eS JQ aeB rfl rfl asQ
noncomputable def EC (sh:Sh) (s:bo) (x:bR):T (bo×cF):=
 .bf (decide (x.bP>=1)) (
  .bf (!decide (x.bP<=14)) (
   .ok (s,⟨361,0⟩))<|
  .bd (M4 sh x) λz0=>
   .bf (z0) (
    .bf (x.bP==0) (
     .no)<|
    .bf (x.bP==1) (
     .bd (Fx sh s.aC (aI x.fArgs 0)) λz1=>
      .bf (!z1.snd.snd==0) (
       .ok (s,⟨z1.snd.snd,0⟩))<|
      .ok (⟨z1.fst,s.aV,s.aL,s.aF⟩,⟨0,z1.snd.fst⟩))<|
    .bf (x.bP==2) (
     .bd (Fy sh s.aC (aI x.fArgs 0) (aI x.fArgs 1)) λz1=>
      .bf (!z1.snd==0) (
       .ok (s,⟨z1.snd,0⟩))<|
      .bd (Fz sh s.aF (aI x.fArgs 0)) λz2=>
       .bf (!(↑z2.length:Int)==0) (
        .ok (s,⟨341,0⟩))<|
       .bd (FA sh s.aV (aI x.fArgs 0)) λz3=>
        .bd (FB sh s.aF (aI x.fArgs 0)) λz4=>
         .bf (!z4.snd.snd==0) (
          .ok (s,⟨z4.snd.snd,0⟩))<|
         .ok (⟨z1.fst,z3.fst,s.aL,z4.fst⟩,⟨0,0⟩))<|
    .bf (x.bP==3) (
     .bd (FC sh s.aC (aI x.fArgs 0) (aI x.fArgs 1)) λz1=>
      .bf (!z1.snd.snd==0) (
       .ok (s,⟨z1.snd.snd,0⟩))<|
      .ok (⟨z1.fst,s.aV,s.aL,s.aF⟩,⟨0,z1.snd.fst⟩))<|
    .bf (x.bP==4) (
     .bd (wh sh s.aL (aI x.fArgs 1)) λz1=>
      .bf (!z1.snd==0) (
       .ok (s,⟨z1.snd,0⟩))<|
      .bd (y_ sh s.aV (aI x.fArgs 0) z1.fst) λz2=>
       .bf (!z2.snd.snd==0) (
        .ok (s,⟨z2.snd.snd,0⟩))<|
       .ok (⟨s.aC,z2.fst,s.aL,s.aF⟩,⟨0,(θ.wrap z2.snd.fst)⟩))<|
    .bf (x.bP==5) (
     .bf (!decide (aI x.fArgs 1<8)) (
      .ok (s,⟨4,0⟩))<|
     .bd (rF sh s.aV (aI x.fArgs 0) (β.wrap (aI x.fArgs 1))) λz1=>
      .bf (!z1.snd) (
       .ok (s,⟨4,0⟩))<|
      .bd (FD sh s.aV (aI x.fArgs 0) [β.wrap (aI x.fArgs 1)]) λz2=>
       .bf (!z2.snd==0) (
        .ok (s,⟨z2.snd,0⟩))<|
       .ok (⟨s.aC,z2.fst,s.aL,s.aF⟩,⟨0,0⟩))<|
    .bf (x.bP==6) (
     .bf (!decide (aI x.fArgs 1<8)) (
      .ok (s,⟨4,0⟩))<|
     .bd (rF sh s.aV (aI x.fArgs 0) (β.wrap (aI x.fArgs 1))) λz1=>
      .bf (!z1.snd) (
       .ok (s,⟨4,0⟩))<|
      .bd (FF sh s.aV (aI x.fArgs 0) (β.wrap (aI x.fArgs 1))) λz2=>
       .bf (!z2.snd.snd==0) (
        .ok (s,⟨z2.snd.snd,0⟩))<|
       .ok (⟨s.aC,z2.fst,s.aL,s.aF⟩,⟨0,(θ.wrap z2.snd.fst)⟩))<|
    .bf (x.bP==7) (
     .bd (FG sh s.aL (aI x.fArgs 1)) λz1=>
      .bf (!z1.snd.snd==0) (
       .ok (s,⟨z1.snd.snd,0⟩))<|
      .ok (⟨s.aC,s.aV,z1.fst,s.aF⟩,⟨0,z1.snd.fst⟩))<|
    .bf (x.bP==8) (
     .bd (FH sh s.aL (aI x.fArgs 1)) λz1=>
      .bf (!z1.snd==0) (
       .ok (s,⟨z1.snd,0⟩))<|
      .bd (FI sh s.aV z1.fst) λz2=>
       .bf (!z2==0) (
        .ok (s,⟨341,0⟩))<|
       .bd (FJ sh s.aL (aI x.fArgs 1)) λz3=>
        .bf (!z3.snd==0) (
         .ok (s,⟨z3.snd,0⟩))<|
        .ok (⟨s.aC,s.aV,z3.fst,s.aF⟩,⟨0,0⟩))<|
    .bf (x.bP==9) (
     .bd (wh sh s.aL (aI x.fArgs 1)) λz1=>
      .bf (!z1.snd==0) (
       .ok (s,⟨z1.snd,0⟩))<|
      .ok (s,⟨0,z1.fst⟩))<|
    .bf (x.bP==10) (
     .bd (FK sh s.aF (aI x.fArgs 1) (aI x.fArgs 0)) λz1=>
      .bf (!z1.snd==0) (
       .ok (s,⟨z1.snd,0⟩))<|
      .ok (⟨s.aC,s.aV,s.aL,z1.fst⟩,⟨0,0⟩))<|
    .bf (x.bP==11) (
     .bd (wi sh s.aF (aI x.fArgs 1)) λz1=>
      .bf (!z1.snd==0) (
       .ok (s,⟨z1.snd,0⟩))<|
      .bf (!z1.fst==aI x.fArgs 0) (
       .ok (s,⟨362,0⟩))<|
      .bd (FL sh s.aF (aI x.fArgs 1)) λy2=>
       .bf (!y2.2==0) (
        .ok (s,⟨y2.2,0⟩))<|
       .ok (⟨s.aC,s.aV,s.aL,y2.1⟩,⟨0,0⟩))<|
    .bf (x.bP==12) (
     .bd (wi sh s.aF (aI x.fArgs 1)) λz1=>
      .bf (!z1.snd==0) (
       .ok (s,⟨z1.snd,0⟩))<|
      .ok (s,⟨0,z1.fst⟩))<|
    .bf (x.bP==13) (
     .bd (ze sh s.aC (aI x.fArgs 1)) λz1=>
      .bf (!z1) (
       .ok (s,⟨4,0⟩))<|
      .bd (FM sh s.aF (aI x.fArgs 1) [aI x.fArgs 2]) λz2=>
       .bf (!z2.snd !=6) (
        .ok (s,⟨322,0⟩))<|
       .bf (!z2.snd==0) (
        .ok (s,⟨z2.snd,0⟩))<|
       .ok (⟨s.aC,s.aV,s.aL,z2.fst⟩,⟨0,0⟩))<|
    .bf (x.bP==14) (
     .bd (FN sh s.aF (aI x.fArgs 0)) λz1=>
      .bf (!z1.snd.snd !=4) (
       .ok (s,⟨322,0⟩))<|
      .bf (!z1.snd.snd==0) (
       .ok (s,⟨z1.snd.snd,0⟩))<|
      .ok (⟨s.aC,s.aV,s.aL,z1.fst⟩,⟨0,z1.snd.fst⟩))<|
    .no)<|
   .bd (ze sh s.aC (aI x.fArgs 0)) λz1=>
    .bf (!z1) (
     .ok (s,⟨321,0⟩))<|
    .bf (x.bP==0) (
     .no)<|
    .bf (x.bP==1) (
     .bd (Fx sh s.aC (aI x.fArgs 0)) λz2=>
      .bf (!z2.snd.snd==0) (
       .ok (s,⟨z2.snd.snd,0⟩))<|
      .ok (⟨z2.fst,s.aV,s.aL,s.aF⟩,⟨0,z2.snd.fst⟩))<|
    .bf (x.bP==2) (
     .bd (Fy sh s.aC (aI x.fArgs 0) (aI x.fArgs 1)) λz2=>
      .bf (!z2.snd==0) (
       .ok (s,⟨z2.snd,0⟩))<|
      .bd (Fz sh s.aF (aI x.fArgs 0)) λz3=>
       .bf (!(↑z3.length:Int)==0) (
        .ok (s,⟨341,0⟩))<|
       .bd (FA sh s.aV (aI x.fArgs 0)) λz4=>
        .bd (FB sh s.aF (aI x.fArgs 0)) λz5=>
         .bf (!z5.snd.snd==0) (
          .ok (s,⟨z5.snd.snd,0⟩))<|
         .ok (⟨z2.fst,z4.fst,s.aL,z5.fst⟩,⟨0,0⟩))<|
    .bf (x.bP==3) (
     .bd (FC sh s.aC (aI x.fArgs 0) (aI x.fArgs 1)) λz2=>
      .bf (!z2.snd.snd==0) (
       .ok (s,⟨z2.snd.snd,0⟩))<|
      .ok (⟨z2.fst,s.aV,s.aL,s.aF⟩,⟨0,z2.snd.fst⟩))<|
    .bf (x.bP==4) (
     .bd (wh sh s.aL (aI x.fArgs 1)) λz2=>
      .bf (!z2.snd==0) (
       .ok (s,⟨z2.snd,0⟩))<|
      .bd (y_ sh s.aV (aI x.fArgs 0) z2.fst) λz3=>
       .bf (!z3.snd.snd==0) (
        .ok (s,⟨z3.snd.snd,0⟩))<|
       .ok (⟨s.aC,z3.fst,s.aL,s.aF⟩,⟨0,(θ.wrap z3.snd.fst)⟩))<|
    .bf (x.bP==5) (
     .bf (!decide (aI x.fArgs 1<8)) (
      .ok (s,⟨4,0⟩))<|
     .bd (rF sh s.aV (aI x.fArgs 0) (β.wrap (aI x.fArgs 1))) λz2=>
      .bf (!z2.snd) (
       .ok (s,⟨4,0⟩))<|
      .bd (FD sh s.aV (aI x.fArgs 0) [β.wrap (aI x.fArgs 1)]) λz3=>
       .bf (!z3.snd==0) (
        .ok (s,⟨z3.snd,0⟩))<|
       .ok (⟨s.aC,z3.fst,s.aL,s.aF⟩,⟨0,0⟩))<|
    .bf (x.bP==6) (
     .bf (!decide (aI x.fArgs 1<8)) (
      .ok (s,⟨4,0⟩))<|
     .bd (rF sh s.aV (aI x.fArgs 0) (β.wrap (aI x.fArgs 1))) λz2=>
      .bf (!z2.snd) (
       .ok (s,⟨4,0⟩))<|
      .bd (FF sh s.aV (aI x.fArgs 0) (β.wrap (aI x.fArgs 1))) λz3=>
       .bf (!z3.snd.snd==0) (
        .ok (s,⟨z3.snd.snd,0⟩))<|
       .ok (⟨s.aC,z3.fst,s.aL,s.aF⟩,⟨0,(θ.wrap z3.snd.fst)⟩))<|
    .bf (x.bP==7) (
     .bd (FG sh s.aL (aI x.fArgs 1)) λz2=>
      .bf (!z2.snd.snd==0) (
       .ok (s,⟨z2.snd.snd,0⟩))<|
      .ok (⟨s.aC,s.aV,z2.fst,s.aF⟩,⟨0,z2.snd.fst⟩))<|
    .bf (x.bP==8) (
     .bd (FH sh s.aL (aI x.fArgs 1)) λz2=>
      .bf (!z2.snd==0) (
       .ok (s,⟨z2.snd,0⟩))<|
      .bd (FI sh s.aV z2.fst) λz3=>
       .bf (!z3==0) (
        .ok (s,⟨341,0⟩))<|
       .bd (FJ sh s.aL (aI x.fArgs 1)) λz4=>
        .bf (!z4.snd==0) (
         .ok (s,⟨z4.snd,0⟩))<|
        .ok (⟨s.aC,s.aV,z4.fst,s.aF⟩,⟨0,0⟩))<|
    .bf (x.bP==9) (
     .bd (wh sh s.aL (aI x.fArgs 1)) λz2=>
      .bf (!z2.snd==0) (
       .ok (s,⟨z2.snd,0⟩))<|
      .ok (s,⟨0,z2.fst⟩))<|
    .bf (x.bP==10) (
     .bd (FK sh s.aF (aI x.fArgs 1) (aI x.fArgs 0)) λz2=>
      .bf (!z2.snd==0) (
       .ok (s,⟨z2.snd,0⟩))<|
      .ok (⟨s.aC,s.aV,s.aL,z2.fst⟩,⟨0,0⟩))<|
    .bf (x.bP==11) (
     .bd (wi sh s.aF (aI x.fArgs 1)) λz2=>
      .bf (!z2.snd==0) (
       .ok (s,⟨z2.snd,0⟩))<|
      .bf (!z2.fst==aI x.fArgs 0) (
       .ok (s,⟨362,0⟩))<|
      .bd (FL sh s.aF (aI x.fArgs 1)) λy3=>
       .bf (!y3.2==0) (
        .ok (s,⟨y3.2,0⟩))<|
       .ok (⟨s.aC,s.aV,s.aL,y3.1⟩,⟨0,0⟩))<|
    .bf (x.bP==12) (
     .bd (wi sh s.aF (aI x.fArgs 1)) λz2=>
      .bf (!z2.snd==0) (
       .ok (s,⟨z2.snd,0⟩))<|
      .ok (s,⟨0,z2.fst⟩))<|
    .bf (x.bP==13) (
     .bd (ze sh s.aC (aI x.fArgs 1)) λz2=>
      .bf (!z2) (
       .ok (s,⟨4,0⟩))<|
      .bd (FM sh s.aF (aI x.fArgs 1) [aI x.fArgs 2]) λz3=>
       .bf (!z3.snd !=6) (
        .ok (s,⟨322,0⟩))<|
       .bf (!z3.snd==0) (
        .ok (s,⟨z3.snd,0⟩))<|
       .ok (⟨s.aC,s.aV,s.aL,z3.fst⟩,⟨0,0⟩))<|
    .bf (x.bP==14) (
     .bd (FN sh s.aF (aI x.fArgs 0)) λz2=>
      .bf (!z2.snd.snd !=4) (
       .ok (s,⟨322,0⟩))<|
      .bf (!z2.snd.snd==0) (
       .ok (s,⟨z2.snd.snd,0⟩))<|
      .ok (⟨s.aC,s.aV,s.aL,z2.fst⟩,⟨0,z2.snd.fst⟩))<|
    .no)<|
 .ok (s,⟨361,0⟩)
noncomputable def MT (sh:Sh) (s:bo) (x:bR):Option (bo×cF):=sh.s _ (EC sh s x).val
theorem atf:R2 KK (J1 shut) 42 60 38 [60,40] (EC shut) (dE KK 60 40):=by intro R s x k;kernel_rfl
noncomputable def aiD (sh:Sh):bO SS:=eH KK 42 60 38 (MT sh) (dE KK 60 40)
noncomputable def Km (sh:Sh):ay SS:=cq (aiD sh) (J1 sh)
theorem Uy:an (Km shut) γ:=eS Uo (an.all Uo rfl) rfl rfl atf
noncomputable def Eo (sh:Sh) (s:bo) (c:bR):T (bo×cF×Int):=
 .bd (FU sh s) λz0=>
  .bf (z0 !=0) (
   .ok (⟨⟨[0,0,0,0,0,0,0,0,0,0,0,0,0,0,0,0],[]⟩,[],⟨[],0⟩,⟨[],[]⟩⟩,⟨0,0⟩,z0))<|
  .bd (MU sh s) λz1=>
   .bd (MT sh z1 c) λy2=>
    .ok (y2.1,y2.2,0)
noncomputable def FP (sh:Sh) (s:bo) (c:bR):Option (bo×cF×Int):=sh.s _ (Eo sh s c).val
theorem asX:R2 KK (Km shut) 19 60 38 [60,40,27] (Eo shut) (m_ KK 60 40 27):=by intro R s c k;kernel_rfl
noncomputable def aim (sh:Sh):bO SS:=eH KK 19 60 38 (FP sh) (m_ KK 60 40 27)
noncomputable def J9 (sh:Sh):ay SS:=cq (aim sh) (Km sh)
theorem Ut:an (J9 shut) γ:=eS Uy (an.all Uy rfl) rfl rfl asX
theorem eo {x:Int} (h0: -9223372036854775808<=x) (U:x<9223372036854775808):β.wrap x=x:=by
 simp[η4,ζu,η5];omega
theorem qW {x:Int} (h0:0<=x) (U:x<18446744073709551616):θ.wrap x=x:=by
 simp[η4,ζu,η5];omega
def ix (pid:Int):Int:=β.wrap (pid.tmod 64)
theorem AQ {pid:Int} (h:0<=pid):ix pid=pid%64:=by
 unfold ix;rw[Int.tmod_eq_emod_of_nonneg h];exact eo (by omega) (by omega)
@[simp] theorem v93 (pid:Int):tB ab pid=some (ix pid):=rfl
def jQ (l:List ai) (pid:Int):Option ai:=l.find? λz=>z.aa==pid
def cT (l:List ai) (pid:Int):Bool:=match jQ l pid with|some z=>!z.bK|none=>false
def nf (p:bS) (x:ai):Bool:=decide (1<=ix x.aa)&&(decide (ix x.aa<=16)&&((x.aa/64+1==aI p.aQ (ix x.aa-1).toNat)&&(!(x.ba==x.aa)&&((x.ba==0||cT p.ae x.ba)&&bif x.bK then x.ba !=0 else x.da==0))))
def rK (g:List Int):Bool:=(List.range 16).all λi=>decide (0<=aI g i)&&decide (aI g i<=65536)
def mC (l:List ai) (i:Nat) (x:ai):Bool:=i==0||(match l[i-1]? with|some y=>decide (ix y.aa<ix x.aa)|none=>false)
def o5 (p:bS):Bool:=rK p.aQ&&(allI (λi x=>nf p x&&mC p.ae i x) 0 p.ae&&(match p.ae with|z::_=>kA z ⟨1,0,false,0⟩|[]=>false))
structure JC (p:bS):Prop where
 pid: ∀x∈p.ae,0<=x.aa/\x.aa<18446744073709551616
 len:p.ae.length<=maxLen
theorem aok {pid:Int} (h:0<=pid):0<=ix pid/\ix pid<64:=by rw[AQ h];omega
theorem ur {j:Int} {n:Nat} (h0:0<=j) (U:j<n):fq j n=some j.toNat:=by
 unfold fq;rw[if_pos ⟨h0,U⟩]
theorem YH {α:Type} {l:List α} {i:Nat} (h:i<l.length) (hm:l.length<=maxLen) (h0:0<i):idx l (β.wrap ((i:Int)-1))=l[i-1]? :=by
 unfold maxLen at hm;rw[eo (by omega) (by omega)];unfold idx;rw[if_pos (by omega)]
 congr 1
 omega
theorem al_ {S:Int->T (Int ⊕ Int ⊕ (Bool×Int))} {g:List Int} (hS: ∀a:Int,(S a).val=bif decide (a<16) then(fq a 16).bind λz0=>bif decide (aI g z0<0) then some (.inr (.inl a)) else bif decide (aI g z0>65536) then some (.inr (.inl a)) else some (.inl (β.wrap (a+1))) else some (.inr (.inr (decide (a<16),a)))):
  ∃n:Nat,dv (λa=>(S a).val) 1000000 (0:Int)=some (bif rK g then .inr (false,16) else .inl (n:Int)):=by
 have h:=I2 (step:=λa=>(S a).val) (q:=λa=>decide (0<=aI g a)&&decide (aI g a<=65536)) (x:=λa=> .inl (a:Int)) (y:= .inr (false,16)) (N:=16) (λa ha=>by
  rw[hS,decide_eq_true (by omega:(a:Int)<16),cond_true,ur (by omega) (by omega),ο,μ]
  by_cases U:aI g a<0
  ·simp[U,show ¬(0<=aI g a) by omega]
  by_cases h2:aI g a>65536
  ·simp[U,h2,show ¬(aI g a<=65536) by omega]
  ·rw[eo (by omega) (by omega)];simp[U,h2,show(0<=aI g a) by omega,show(aI g a<=65536) by omega]) (by rw[hS];rfl) (k:=16) (n:=1000000) (a:=0) rfl (by omega)
 rw[show((0:Nat):Int)=0 from rfl] at h;unfold rK;rw[List.range_eq_range'];cases hf:List.find? (λb=>!(decide (0<=aI g b)&&decide (aI g b<=65536))) (ξL 0 16) with
 |none=>
  have:((ξL 0 16).all λi=>decide (0<=aI g i)&&decide (aI g i<=65536))=true:=by
   rw[ξu];intro i hi;have:=List.find?_eq_none.1 hf i hi;simpa using this
  rw[this];rw[hf] at h;exact⟨0,h⟩
 |some b=>
  have:((ξL 0 16).all λi=>decide (0<=aI g i)&&decide (aI g i<=65536))=false:=by
   rw[Bool.eq_false_iff];intro ht;rw[ξu] at ht;have U:=ht b (List.mem_of_find?_eq_some hf);have h2:=List.find?_some hf;rw[U] at h2;cases h2
  rw[this];rw[hf] at h;exact⟨b,h⟩
theorem al0 (g:List Int) (l:List ai) (pid:Int):oa ab g l pid=some (match jQ l pid with|some z=> .inl z|none=> .inr (false,(l.length:Int))):=by
 show cB (λi z a=>(Dt ab g l pid i z a).val) (λi a=>(B4 ab g l pid i a).val) 0 l ()=_;unfold jQ;rw[Bx (p:=λz=>z.aa==pid) (e:=λz=> .inl z)]
 ·cases List.find? (λz=>z.aa==pid) l with
  |none=>unfold B4;simp
  |some z=>rfl
 ·intro i z _;unfold Dt;cases z.aa==pid<;>rfl
theorem v46 {p:bS} (hp:JC p):rG ab p=some (bif o5 p then 0 else 320):=by
 show(EL ab p).val=_;unfold EL o5;simp only[T.cE,T.bh,T.dU,T.aR,T.aM];cases m0:p.ae with
 |nil=>
  have:(match([]:List ai) with|z::_=>kA z ⟨1,0,false,0⟩|[]=>false)=false:=rfl;simp
 |cons z0 r=>
  rw[<-m0];have h0:((p.ae.length:Int)==0)=false:=by rw[m0];simp;omega
  have U:idx p.ae 0=some z0:=by rw[m0];rfl
  rw[h0,U];simp only[cond_false,ο];cases he:kA z0 ⟨1,0,false,0⟩ with
  |false=>simp[m0,he]
  |true=>
   have hm:(match p.ae with|z::_=>kA z ⟨1,0,false,0⟩|[]=>false)=true:=by rw[m0];exact he
   rw[hm,ζy];simp only[ξN,cond_false];obtain⟨n,hg⟩:=al_ (S:=LF ab p.aQ p.ae) (g:=p.aQ) λa=>rfl;have hg:KN ab p.aQ p.ae 0=some (bif rK p.aQ then .inr (false,16) else .inl (n:Int)):=hg;rw[hg];cases OH:rK p.aQ with
   |false=>
    have:decide ((n:Int)>=0)=true:=decide_eq_true (by omega);simp[this]
   |true=>
    simp only[cond_true,ο,ξM];have hl:C8 ab p.aQ p.ae=bif allI (λi x=>nf p x&&mC p.ae i x) 0 p.ae then some (.inr (false,(p.ae.length:Int))) else some (.inl ()):=by
     show cB (λi z a=>(Ds ab p.aQ p.ae i z a).val) (λi a=>(B3 ab p.aQ p.ae i a).val) 0 p.ae ()=_;rw[xG (q:=λi x=>nf p x&&mC p.ae i x) (x:= .inl ())]
     ·congr 1
      unfold B3;simp
     ·intro i z hz;have aB:=(ε.1 hz).1;have hx:=hp.pid z (ξh hz);have hr:=aok hx.1;unfold Ds nf mC cT;simp only[T.bh,T.aR,T.aM,T.cE,T.dU,v93,ο,al0]
      by_cases U:1<=ix z.aa
      rotate_left
      ·simp[show ¬(ix z.aa>=1) from U,U]
      by_cases h2:ix z.aa<=16
      rotate_left
      ·simp[show(ix z.aa>=1) from U,U,h2]
      have hw:β.wrap (ix z.aa-1)=ix z.aa-1:=eo (by omega) (by omega);have hi:fq (ix z.aa-1) 16=some (ix z.aa-1).toNat:=ur (by omega) (by omega);have qc:0<=aI p.aQ (ix z.aa-1).toNat/\aI p.aQ (ix z.aa-1).toNat<=65536:=by
       unfold rK at OH;rw[ξu] at OH;have:=OH (ix z.aa-1).toNat (by simp;omega);simpa using this
      have hd:θ.wrap (z.aa.tdiv 64)=z.aa/64:=by
       rw[Int.tdiv_eq_ediv_of_nonneg hx.1];exact qW (by omega) (by omega)
      have hc:(θ.wrap (θ.wrap (z.aa.tdiv 64)+1) !=θ.wrap (aI p.aQ (ix z.aa-1).toNat))=!(z.aa/64+1==aI p.aQ (ix z.aa-1).toNat):=by
       rw[hd,qW (by omega) (by omega),qW (by omega) (by omega)];rfl
      rw[hw,hi];simp only[ο];rw[hc];have aN:(z.ba !=0)=!(z.ba==0):=rfl;have fI:(z.da !=0)=!(z.da==0):=rfl;have Yn:(z.ba==0)=true->(z.ba==z.aa)=false:=λh=>by
       rw[AQ hx.1] at U;simp at h ⊢;omega
      simp only[show(ix z.aa>=1) from U,U,h2,decide_true,cond_true,ξM,aN,fI];cases i with
      |zero=>
       rw[show(((0:Nat):Int)==0)=true from rfl,show((0:Nat)==0)=true from rfl];simp only[cond_true,ζN,ζy];cases hq:z.ba==0 with
       |true=>rw[Yn hq];cases z.aa/64+1==aI p.aQ (ix z.aa-1).toNat<;>cases z.bK<;>cases z.da==0<;>simp
       |false=>
        cases z.aa/64+1==aI p.aQ (ix z.aa-1).toNat<;>cases z.ba==z.aa<;>cases z.bK<;>cases z.da==0<;>(cases jQ p.ae z.ba with|none=>simp|some y=>cases y.bK<;>simp)
      |succ i=>
       have e0:((((i+1:Nat):Int))==0)=false:=by simp;omega
       rw[e0,show(i+1==0)=false from rfl,YH aB hp.len (by omega)];have hi:i<p.ae.length:=by omega
       simp only[ζ5,η hi,ο,v93,cond_false,ξO];cases hq:z.ba==0 with
       |true=>rw[Yn hq];cases decide (ix p.ae[i].aa<ix z.aa)<;>cases z.aa/64+1==aI p.aQ (ix z.aa-1).toNat<;>cases z.bK<;>cases z.da==0<;>simp
       |false=>
        cases decide (ix p.ae[i].aa<ix z.aa)<;>cases z.aa/64+1==aI p.aQ (ix z.aa-1).toNat<;>cases z.ba==z.aa<;>cases z.bK<;>cases z.da==0<;>(cases jQ p.ae z.ba with|none=>simp|some y=>cases y.bK<;>simp)
    rw[hl];cases allI (λi x=>nf p x&&mC p.ae i x) 0 p.ae<;>rfl
def m8 (d:aj):Bool:=decide (d.aa<4294967296)&&(decide (d.b_>=0)&&decide (d.b_<=7))
def fF (a b:aj):Bool:=decide (a.aa<b.aa)||(a.aa==b.aa&&decide (a.b_<b.b_))
def ka {α:Type} (q:α->α->Bool) (l:List α) (i:Nat) (z:α):Bool:=i==0||(match l[i-1]? with|some y=>q y z|none=>false)
def H2 (l:List aj) (i:Nat) (x:aj):Bool:=ka fF l i x
theorem ib {σ X:Type} {step:σ->Option (σ ⊕ X)} {n:Nat} {a:σ}:dv step (n+1) a=(step a).bind λy=>match y with| .inl a'=>dv step n a'| .inr x=>some x:=rfl
def uO (l:List aj):Bool:=allI (λi x=>m8 x&&H2 l i x) 0 l&&decide (l.length<=64)
@[simp] theorem v94 (d:aj):MM ab d=some (m8 d):=by
 show(DU ab d).val=_;unfold DU m8;have:decide (d.b_<8)=decide (d.b_<=7):=by rw[ζr];simp;omega
 simp only[T.aR,T.aM,this];cases decide (d.aa<4294967296)<;>cases decide (d.b_>=0)<;>rfl
def l9 (x y:Int):Int:=if x<y then -1 else if x>y then 1 else 0
@[simp] theorem nn (x y:Int):nB ab x y=some (l9 x y):=by
 show(DZ ab x y).val=_;unfold DZ l9;simp only[T.aR,T.aM]
 by_cases U:x<y
 ·simp[U]
 ·by_cases h2:x>y
  ·simp[U,h2]
  ·simp[U,h2]
@[simp] theorem v130 (x y:Int):MS ab x y=some (l9 x y):=nn x y
def yQ (a b:aj):Int:=if l9 a.aa b.aa=0 then l9 a.b_ b.b_ else l9 a.aa b.aa
@[simp] theorem Sm (a b:aj):yZ ab a b=some (yQ a b):=by
 show(DV ab a b).val=_;unfold DV yQ;simp only[T.bh,nn,v130,ο,T.cE,T.dU,T.aM];generalize l9 a.aa b.aa=c1;generalize l9 a.b_ b.b_=c2;have h:KS ab [c1,c2] 0=some (if c1=0 then(if c2=0 then .inr (false,2) else .inl c2) else .inl c1):=by
  show dv (λa=>(rl ab [c1,c2] a).val) 1000000 0=_;have e0:(rl ab [c1,c2] 0).val=if c1=0 then some (.inl 1) else some (.inr (.inl c1)):=by
   unfold rl;simp only[T.aR,T.bh,T.aM]
   by_cases h:c1=0
   ·simp[idx,h];rfl
   ·have:(c1 !=0)=true:=by simp[h]
    simp[idx,h,this]
  have e1:(rl ab [c1,c2] 1).val=if c2=0 then some (.inl 2) else some (.inr (.inl c2)):=by
   unfold rl;simp only[T.aR,T.bh,T.aM]
   by_cases h:c2=0
   ·simp[idx,h];rfl
   ·have:(c2 !=0)=true:=by simp[h]
    simp[idx,h,this]
  have e2:(rl ab [c1,c2] 2).val=some (.inr (.inr (false,2))):=rfl;rw[show(1000000:Nat)=999997+1+1+1 from rfl,ib,e0]
  by_cases h:c1=0
  ·rw[if_pos h,if_pos h,ο];simp only;rw[ib,e1]
   by_cases h2:c2=0
   ·rw[if_pos h2,if_pos h2,ο];simp only;rw[ib,e2,ο]
   ·rw[if_neg h2,if_neg h2,ο]
  ·rw[if_neg h,if_neg h,ο]
 rw[h]
 by_cases U:c1=0
 ·by_cases h2:c2=0<;>simp[U,h2]
 ·simp[U]
theorem VJ (a b:aj):decide (yQ a b>=0)=!fF a b:=by
 unfold yQ fF l9;rw[ζr]
 by_cases U:a.aa<b.aa
 ·simp[U]
 ·by_cases h2:a.aa>b.aa
  ·have: ¬a.aa=b.aa:=by omega
   simp[U,h2,this]
  ·have h3:a.aa=b.aa:=by omega
   by_cases h4:a.b_<b.b_
   ·simp[h3,h4]
   ·by_cases h5:b.b_<a.b_<;>simp[h3,h4,h5]<;>omega
theorem QZ {α X:Type} {S:T (Unit ⊕ Unit ⊕ X)} {l:List α} {i:Nat} {z:α} {g:α->Bool} {q:α->α->Bool} (hm:l.length<=maxLen) (hz:l[i]? =some z)
  (hS:S.val=bif !g z then some (.inr (.inl ())) else bif decide ((i:Int)>0) then(idx l (β.wrap ((i:Int)-1))).bind λy=>bif !q y z then some (.inr (.inl ())) else some (.inl ()) else some (.inl ())):
  S.val=bif g z&&ka q l i z then some (.inl ()) else some (.inr (.inl ())):=by
 have aB:=(ε.1 hz).1;rw[hS];unfold ka;cases g z with
 |false=>rfl
 |true=>
  cases i with
  |zero=>rfl
  |succ i=>
   have U:decide (((i+1:Nat):Int)>0)=true:=decide_eq_true (by omega);have hi:i<l.length:=by omega
   rw[U,YH aB hm (by omega)];simp only[ξN,cond_false,cond_true,ξM,show(i+1==0)=false from rfl,ξO,ζ5,η hi,ο];cases q l[i] z<;>rfl
theorem v47 {l:List aj} (hm:l.length<=maxLen):ow ab l=some (bif uO l then 0 else 330):=by
 show(EM ab l).val=_;unfold EM uO;simp only[T.cE,T.bh,T.dU,T.aM,T.aR];have hl:Lr ab l=bif allI (λi x=>m8 x&&H2 l i x) 0 l then some (.inr (false,(l.length:Int))) else some (.inl ()):=by
  show cB (λi z a=>(yy ab l i z a).val) (λi a=>(Cn ab l i a).val) 0 l ()=_;rw[xG (q:=λi x=>m8 x&&H2 l i x) (x:= .inl ())]
  ·congr 1
   unfold Cn;simp
  ·intro i z hz;exact QZ (S:=yy ab l i z ()) (g:=m8) (q:=fF) hm hz (by unfold yy;simp only[T.bh,T.aR,T.aM,v94,Sm,VJ,ο])
 rw[hl]
 by_cases h:l.length<=64
 ·have U:decide ((l.length:Int)>64)=false:=decide_eq_false (by omega);rw[U,decide_eq_true h];cases allI (λi x=>m8 x&&H2 l i x) 0 l<;>rfl
 ·have U:decide ((l.length:Int)>64)=true:=decide_eq_true (by omega);rw[U,decide_eq_false h];simp
end Go.Proofs.YtoggponeookhbaaGreatDoor
end
