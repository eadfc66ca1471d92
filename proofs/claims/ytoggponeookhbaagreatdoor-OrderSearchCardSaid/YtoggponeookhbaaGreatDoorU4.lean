/- A part of the proof that OrderSearch returns true for every input: the machine of values, its soundness, the program as plain functions, the law. Conditions: those of the given rows. -/
import Derived.Test.YtoggponeookhbaaGreatDoorU3
import Derived.Laws.Bits64b
import Derived.Laws.Strings
set_option linter.unusedVariables false
set_option linter.unusedSimpArgs false
noncomputable section
set_option maxRecDepth 1000000
set_option maxHeartbeats 12000000
open Array renaming getD_eq_getD_getElem?→θ,length_toList→χ,getElem?_setIfInBounds_ne→ξ7,getElem?_eq_getElem→ξ8,all_eq_true_iff_forall_mem→ξf,toArray_toList→ξO,getElem?_modify→ζf,replicate→ζH,ext'→ζT
open Bool renaming eq_iff_iff→κ,true_and→φ,and_eq_true→ξ5,false_or→ξp,not_true→ξP,not_false→ξY,or_false→ζp,false_eq_true→ζu,not_eq_true'→ζv,and_assoc→ζR,false_and→ζS,and_true→ζU,true_or→ζZ,or_true→η0
open ByteArray renaming mk→ξ0,ext→ζ7
open Go.Builtin renaming zeroCells→ξ2,append_→ζK,clear_→ζO
open Go.ByteArray renaming toList_eq→ζn
open Go.IntKind renaming i64→γ,u64→ο,wrap_u64→ζE,signed→ζQ,wrap→ηg,bits→ηh
open Go.Lib renaming indexByte→ζX
open Go.Proofs.Tryz renaming prog→η,func219→ζb,f269→ζc,func269→ζz,f219→ζG,f150→ζY,func202→η3,func203→η4,func294→η5,func261→η6,func262→η7,func263→η8,func152→ηc,func171→ηd,func170→ηe,func223→ηf
open Go.Region renaming ready→ζA
open Go.Result renaming andThen_ok→ξr
open Go.Sem renaming run_bind→ξx,run_pure→ζe
open Go.Utf8 renaming decode→ξ6,decode→ζ0
open Go.Value renaming oneCell'→υ,int→ζJ,agg→ηb,slice→ηm
open Go.World renaming setRow→ηa
open Int renaming toNat_natCast→ι,eq_ofNat_of_zero_le→ζ8,natCast_nonneg→ζq
open List renaming getElem?_eq_some_iff→δ,getElem?_eq_getElem→ε,length_append→ν,getElem?_append_left→ξ,length_map→ρ,mem_cons_self→τ,mem_of_getElem?→ξ3,mem_cons_of_mem→ξ4,getElem?_cons_zero→ξ9,getElem?_append_right→ξb,length_cons→ξc,take_append_drop→ξd,take_append_of_le_length→ξg,length_take→ξh,range→ξi,dropWhile_sublist→ξj,getElem?_zipWith→ξl,mem_append_right→ξm,any_eq_false→ξo,append_assoc→ξs,drop_eq_getElem_cons→ξt,mem_or_eq_of_mem_set→ξu,all_eq_true→ξv,map_cons→ξz,mem_append→ξA,mem_cons→ξB,map_append→ξC,take_of_length_le→ξD,takeWhile_append_dropWhile→ξE,zipWith→ξG,getElem?_eq_none→ξH,drop_append_of_le_length→ξJ,filter_cons→ξK,length_drop→ξL,eq_nil_of_length_eq_zero→ξM,mem_append_left→ξN,mem_filter→ξQ,toList_toArray→ξR,take_left'→ξS,length_set→ξT,foldl_cons→ξU,map_nil→ξV,getElem?_drop→ξW,mem_of_find?_eq_some→ξZ,nodup_append→ζ1,size_toArray→ζ2,range'→ζ4,length→ζ5,map_take→ζ6,map_toArray→ζ9,append_nil→ζd,nil_append→ζi,getElem?_of_mem→ζl,drop_zero→ζm,takeWhile_cons→ζo,map_drop→ζr,find?_eq_none→ζs,all_cons→ζt,take_add_one→ζw,ext_getElem?→ζx,getElem?_map→ζy,mem_map→ζC,any_eq_true→ζF,find?_some→ζL,all_append→ζN,drop_drop→ζP,any_cons→ζW,map_set→η9,map_map→ηj
open Nat renaming lt_of_lt_of_le→ζ,le_trans→μ,zero_add→ψ,le_refl→ξa,ble_eq_true_of_le→ξe,eq_of_beq_eq_true→ξk,add_zero→ξy,le_of_ble_eq_true→ξF,beq→ξI,add_sub_cancel→ξX,lt_succ_iff_lt_or_eq→ζ3,lt_succ_self→ζa,pow_succ→ζh,pow_le_pow_right→ζj,mul_le_mul_right→ζk,lt_or_ge→ζB,mul_comm→ζD,mul_assoc→ζV,beq_refl→η1,sub_self→η2,mul_zero→ηi,ble→ηk,blt→ηl
open Option renaming bind_some→β,map_some→ω,getD_some→ξ1,getD_none→ξw,map_none→ζg
open Option.some renaming injEq→ξq,inj→ζI
open UInt8 renaming ofNat→ξn,toNat→ζM
section
namespace Go.Proofs.YtoggponeookhbaaGreatDoor
open Go.RowKit Go.Dc Go.Vx
variable (U:Sh)
def wG (a:List au) (p1:List ar) (p2 b c:Int) (d:Γa):AS SS:=⟨[(0,vs .cW),(2,va 3 0),(7,vd 55 a),(8,vi b),(9,vi c)],[bX 130 [.own 4],some (.a7 260 [] [.one (.aM 2 0),.one (.aM 3 0)]),bX 58 [.aJ 55 a,.aJ 56 p1],bX 35 [lu p2],rX 35 d],4,some ⟨⟨ζY,aq 150⟩,[13],ey (ca ζY) 7,ez (ca ζY) 7,[(5,va 0 0),(12,vc 1)],none⟩,false,[],[0]⟩
def oZ (U:Sh) (c:List au) (p1:List ar) (p2 b:Int) (a:Int×Γa):T ((Int×Γa)⊕(Bool×Int×Γa)):=.bf (decide (a.1<b)) (.bd (idx c a.1) λz0=>.bf (z0.aa==p2) (.bd (app 8 a.2 [z0.aW]) λd=>.ok (.inl (γ.wrap (a.1+1),d)))<|.ok (.inl (γ.wrap (a.1+1),a.2)))<|.ok (.inr (decide (a.1<b),a.1,a.2))
def CO (a:List au) (p1:List ar) (p2 b c:Int) (d:Γa):=bQ U (oZ U a p1 p2 b) 1000000 (c,d)
def aaj {R} (k:KX SS R) (a:List au) (p1:List ar) (p2 b:Int) (x:(Bool×Int×Γa)):Option R:=(λv=>k (.exit 0) {wG a p1 p2 b p2 v.2.2 with env:=[(10,vb v.1),(0,vs .cW),(2,va 3 0),(7,vd 55 a),(8,vi b),(9,vi v.2.1)]}) x
def QI:aX SS:=hq (λst=>gc (aq 260 2) (ga [0] (et 0 0 35 (st))))<|bh 2 (λst=>((cG st 1 260).bind λ_=>fQ st 19 7).bind λ_=>(eo 55 (cJ st 7 0)).bind λa=>(eo 56 (dH st 2 1)).bind λp1=>(cO (dH st 3 0)).bind λp2=>(cO (cJ st 8 0)).bind λb=>(cO (cJ st 9 0)).bind λc=>(dU st 4 35).bind λd=>some (a,p1,p2,b,c,d)) (u6 wG) (u6 (CO shut)) (λk p=>aaj k p.1 p.2.1 p.2.2.1 p.2.2.2.1)
theorem agI:LS KK η aq Tryz.f260 260 2 QI:=aO.pre (b_.comp (b_.gc (aq 260 2)) (b_.comp (b_.ga [0]) (b_.et 0 0 35)))<|
 aO.bQ (π:=List au×List ar×Int×Int×Int×Γa) (σ:=Int×Γa) (ag.all zO rfl) (aF.nil) rfl 60 (λp a=>wG p.1 p.2.1 p.2.2.1 p.2.2.2.1 a.1 a.2) (λp=>(p.2.2.2.2.1,p.2.2.2.2.2)) (St:=λp=>oZ shut p.1 p.2.1 p.2.2.1 p.2.2.2.1) (λp=>1000000) (λp=>rfl)
  (λm p a k=>by kernel_rfl)
def V7:=bq (zN shut) aq Tryz.f260 260 [QI]
theorem V8:aR V7 η:=bu (ag.all zO rfl) Tryz.func260 rfl aT (by kernel_rfl) agI
def DU (s:aL) (pid:Int):T (Γa):=.bd (jI U s) λa=>.bf (a !=0) (.ok [])<|.gd (wG s.ak s.an pid ((↑s.ak.length:Int)) 0 [])<|.bd (CO U s.ak s.an pid ((↑s.ak.length:Int)) 0 []) λb=>.ok b.2.2
def ve (s:aL) (pid:Int):=U.s _ (DU U s pid).val
def zF:=a6 (bU KK 150 58 35 (ve U) (bH KK 130)) (zN U)
theorem zG:ag (zF shut) η:=bZ (rs:=[130]) zO V8 rfl rfl λs pid k=>by kernel_rfl
def wk (a:List ar) (p1:List au) (p2 b:Int) (c:List ar):AS SS:=⟨[(5,va 0 0),(20,vd 56 a),(21,vi p2),(22,vi b)],[bX 262 [.own 1,.own 2],rX 127 p1,rX 132 c],0,none,false,[],[]⟩
def M8 (U:Sh) (b:List ar) (p1:List au) (p2:Int) (a:Int×List ar):T ((Int×List ar)⊕(Bool×Int×List ar)):=.bf (decide (a.1<p2)) (.bd (idx b a.1) λz0=>.bd (app 8 [] z0.bj) λc=>.bd (app 32 a.2 [ar.mk z0.aa c]) λz2=>.ok (.inl (γ.wrap (a.1+1),z2)))<|.ok (.inr (decide (a.1<p2),a.1,a.2))
def Cq (a:List ar) (p1:List au) (p2 b:Int) (c:List ar):=bQ U (M8 U a p1 p2) 1000000 (b,c)
def ZS {R} (k:KX SS R) (a:List ar) (p1:List au) (p2:Int) (x:(Bool×Int×List ar)):Option R:=(λv=>k (.exit 0) {wk a p1 p2 p2 v.2.2 with env:=[(23,vb v.1),(5,va 0 0),(20,vd 56 a),(21,vi p2),(22,vi v.2.1)]}) x
def Qh:aX SS:=hq (λst=>gc (aq 219 7) (et 0 1 132 (st)))<|bh 7 (λst=>(eo 56 (cJ st 20 0)).bind λa=>(dU st 1 127).bind λp1=>(cO (cJ st 21 0)).bind λp2=>(cO (cJ st 22 0)).bind λb=>(dU st 2 132).bind λc=>some (a,p1,p2,b,c)) (u5 wk) (u5 (Cq shut)) (λk p=>ZS k p.1 p.2.1 p.2.2.1)
theorem age:LS KK η aq ζG 219 7 Qh:=aO.pre (b_.comp (b_.gc (aq 219 7)) (b_.et 0 1 132))<|
 aO.bQ (π:=List ar×List au×Int×Int×List ar) (σ:=Int×List ar) (ag.all zG rfl) (aF.nil) rfl 60 (λp a=>wk p.1 p.2.1 p.2.2.1 a.1 a.2) (λp=>(p.2.2.2.1,p.2.2.2.2)) (St:=λp=>M8 shut p.1 p.2.1 p.2.2.1) (λp=>1000000) (λp=>rfl)
  (λm p a k=>by kernel_rfl)
def wJ (a:Int) (p1:List au) (p2 b:Int):AS SS:=⟨[(0,vo 0),(1,vu a),(2,vc 1),(8,vl p1),(9,vi p2),(10,vi b)],[rX 127 p1,some (.a7 270 [] [.one (.aM 2 0)]),bX 284 [.v (.func (.func 221) (.mk []) (.mk []))]],3,none,false,[],[]⟩
def o1 (b:Int) (p1:List au) (a:Int×Int):T ((Int×Int)⊕(Bool×Int×Int)):=.bf (decide (a.1<a.2)) (.bd (idx p1 (γ.wrap ((ο.wrap (γ.wrap (a.1+a.2))).fdiv 2))) λz0=>.bd (p1[(γ.wrap ((ο.wrap (γ.wrap (a.1+a.2))).fdiv 2)).toNat]?) λd=>.bd (ie U d.aW b) λc=>.bf (decide (c<0)) (.ok (.inl (γ.wrap (γ.wrap ((ο.wrap (γ.wrap (a.1+a.2))).fdiv 2)+1),a.2)))<|.ok (.inl (a.1,γ.wrap ((ο.wrap (γ.wrap (a.1+a.2))).fdiv 2))))<|.ok (.inr (decide (a.1<a.2),a.2,a.1))
def CS (a:Int) (p1:List au) (p2 b:Int):=bQ U (o1 U a p1) 1000000 (p2,b)
def aan {R} (k:KX SS R) (a:Int) (p1:List au) (x:(Bool×Int×Int)):Option R:=(λv=>k (.exit 0) {wJ a p1 a a with env:=[(17,vb v.1),(16,vi v.2.1),(15,vi v.2.2),(0,vo 0),(1,vu a),(2,vc 1),(8,vl p1),(9,vi v.2.2),(10,vi v.2.1)]}) x
def QM:aX SS:=bh 4 (gq (λst=>cG st 1 270) (sq (sI 1) (sq (hR 0 127) (sq (sI 9) (sI 10))))) (u4 wJ) (u4 (CS shut)) (λk p=>aan k p.1 p.2.1)
def KN:=bq (zF shut) aq ζG 219 [Qh]
theorem KO:aR KN η:=bu (ag.all zG rfl) ζb rfl aT (by kernel_rfl) age
theorem agM:LS KK η aq ζc 269 4 QM:=
 aO.bQ (π:=Int×List au×Int×Int) (σ:=Int×Int) KO (aF.nil) rfl 60 (λp a=>wJ p.1 p.2.1 a.1 a.2) (λp=>(p.2.2.1,p.2.2.2)) (St:=λp=>o1 shut p.1 p.2.1) (λp=>1000000) (λp=>rfl)
  (λm p a k=>by kernel_rfl)
def Wp:=bq KN aq ζc 269 [QM]
theorem Wq:aR Wp η:=bu KO ζz rfl aT (by kernel_rfl) agM
def D5 (s:aL) (name pid:Int):T (aL×Int):=.bd (jI U s) λd=>.bf (d !=0) (.bf (d !=0) (.ok (⟨[],[]⟩,d))<|.bd (jG U name) λf=>.bf (!f) (.ok (⟨[],[]⟩,351))<|.bd (na U pid) λc=>.bf (!c) (.ok (⟨[],[]⟩,2))<|.no)<|.bd (app 16 [] s.ak) λa=>.gd (wk s.an a ((↑s.an.length:Int)) 0 [])<|.bd (Cq U s.an a ((↑s.an.length:Int)) 0 []) λc=>.bd (jG U name) λg=>.bf (!g) (.ok (⟨[],[]⟩,351))<|.bd (na U pid) λh=>.bf (!h) (.ok (⟨[],[]⟩,2))<|.gd (wJ name a 0 (↑a.length:Int))<|.bd (CS U name a 0 ((↑a.length:Int))) λb=>.bf (decide (b.2.2<(↑a.length:Int))) (.bd (idx a b.2.2) λe=>.bd (a[b.2.2.toNat]?) λj=>.bd (ie U j.aW name) λi=>.bf (i==0) (.ok (⟨[],[]⟩,5))<|.bf ((↑a.length:Int)==16) (.ok (⟨[],[]⟩,6))<|.bd (nC a b.2.2 [au.mk name pid]) λz9=>.ok (⟨z9,c.2.2⟩,0))<|.bf ((↑a.length:Int)==16) (.ok (⟨[],[]⟩,6))<|.bd (nC a b.2.2 [au.mk name pid]) λe=>.ok (⟨e,c.2.2⟩,0)
def vr (s:aL) (name pid:Int):=U.s _ (D5 U s name pid).val
def z1:=a6 (fN KK 167 58 35 35 (vr U) (dy KK 58 27)) (zF U)
theorem z6:ag (z1 shut) η:=gz (rs:=[58,27]) zG Wq rfl rfl λs name pid k=>by kernel_rfl
def wL (a:List au) (p1 p2 b:Int):AS SS:=⟨[(0,vd 55 a),(1,vu p1),(2,vc 0),(8,vl a),(9,vi p2),(10,vi b)],[some (.a7 270 [] [.one (.aM 1 0)]),bX 284 [.v (.func (.func 221) (.mk []) (.mk []))]],2,none,false,[],[]⟩
def o3 (b:List au) (p1:Int) (a:Int×Int):T ((Int×Int)⊕(Bool×Int×Int)):=.bf (decide (a.1<a.2)) (.bd (idx b (γ.wrap ((ο.wrap (γ.wrap (a.1+a.2))).fdiv 2))) λz0=>.bd (ie U z0.aW p1) λc=>.bf (decide (c<0)) (.ok (.inl (γ.wrap (γ.wrap ((ο.wrap (γ.wrap (a.1+a.2))).fdiv 2)+1),a.2)))<|.ok (.inl (a.1,γ.wrap ((ο.wrap (γ.wrap (a.1+a.2))).fdiv 2))))<|.ok (.inr (decide (a.1<a.2),a.2,a.1))
def CU (a:List au) (p1 p2 b:Int):=bQ U (o3 U a p1) 1000000 (p2,b)
def aap {R} (k:KX SS R) (a:List au) (p1:Int) (x:(Bool×Int×Int)):Option R:=(λv=>k (.exit 0) {wL a p1 p1 p1 with env:=[(17,vb v.1),(16,vi v.2.1),(15,vi v.2.2),(0,vd 55 a),(1,vu p1),(2,vc 0),(8,vl a),(9,vi v.2.2),(10,vi v.2.1)]}) x
def QO:aX SS:=bh 4 (gq (λst=>cG st 0 270) (sq (sD 55 0) (sq (sI 1) (sq (sI 9) (sI 10))))) (u4 wL) (u4 (CU shut)) (λk p=>aap k p.1 p.2.1)
theorem agO:LS KK η aq ζc 269 4 QO:=
 aO.bQ (π:=List au×Int×Int×Int) (σ:=Int×Int) (ag.all z6 rfl) (aF.nil) rfl 60 (λp a=>wL p.1 p.2.1 a.1 a.2) (λp=>(p.2.2.1,p.2.2.2)) (St:=λp=>o3 shut p.1 p.2.1) (λp=>1000000) (λp=>rfl)
  (λm p a k=>by kernel_rfl)
def Wt:=bq (z1 shut) aq ζc 269 [QO]
theorem Wu:aR Wt η:=bu (ag.all z6 rfl) ζz rfl aT (by kernel_rfl) agO
def D7 (s:aL) (name:Int):T (Int×Int):=.bd (jI U s) λb=>.bf (b !=0) (.ok (0,350))<|.bd (jG U name) λc=>.bf (!c) (.ok (0,351))<|.gd (wL s.ak name 0 (↑s.ak.length:Int))<|.bd (CU U s.ak name 0 ((↑s.ak.length:Int))) λa=>.bf (decide (a.2.2<(↑s.ak.length:Int))) (.bd (idx s.ak a.2.2) λz3=>.bd (ie U z3.aW name) λd=>.bf (!d==0) (.ok (0,4))<|.bd (idx s.ak a.2.2) λz5=>.ok (z5.aa,0))<|.ok (0,4)
def ng (s:aL) (name:Int):=U.s _ (D7 U s name).val
def LA:=a6 (bU KK 169 58 35 (ng U) (dy KK 35 27)) (z1 U)
theorem LB:ag (LA shut) η:=bZ (rs:=[35,27]) z6 Wu rfl rfl λs name k=>by kernel_rfl
end Go.Proofs.YtoggponeookhbaaGreatDoor
end
section
namespace Go.Vx
open Go.RowKit Go.Dc
section
variable {S:bm} {K:Kit S} {P:Program}
theorem pY {X:Type} {t:T X} {x:X} (h:shut.s _ t.val=some x):t.val=some x:=by rw[j2] at h;exact h
theorem yh {G:bN S} (a:aR G P) {n f:Nat} {aka:List (aB S)} {rs:Γ} {X:Type} {t:T X} {kf: {R:Type}->(Rs S->Option R)->X->Option R}
  (h: ∀ {R:Type} (k:Rs S->Option R),e1 G n f aka [] (ht G.K rs k)=t.run (kf k)) (hp:aka.all aB.pure=true) {x:X} (m:t.val=some x) {r:Rs S} (l: ∀ {R:Type} (k:Rs S->Option R),kf k x=k r):ej G.K P f aka r:=by
 have h1:e1 G n f aka [] (ht G.K rs (λr=>some (ULift.up.{0} r).down))=some r:=by
  rw[h,T.l9,m];exact l _
 obtain⟨p,h',dt,b,c⟩:=pb a h1;obtain⟨q,d,g⟩:=ej.IH a.K hp c b;obtain⟨o,i,j⟩:=IQ a.K d g;have e:o=r:=by simpa using i
 rw[<-e];exact j
theorem hZ (f:b6 K P) {A:Pl} {O:Γ} {w:World} {t:Nat} {x:S.El t} {v:Value} (c:(S.ty t).agg=(match K.bl t x with| .agg _=>true| .one _=>false)) (h1:(match K.bl t x with| .agg _=>true| .one l=>ξI l.sz 1)=true) (h:(S.ty t).is O w v x):(K.bl t x).rel A O w v:=by
 obtain⟨cs,g,a⟩:=h;have b:=f.bl A O w t x cs g;unfold Ty.mk' at a
 revert b c h1
 cases K.bl t x with
 |agg ls=>
  intro c h1 b;rw[c] at a;exact⟨cs,a,b⟩
 |one l=>
  intro c h1 b;rw[c] at a;obtain⟨ys,zs,rfl,d,e⟩:=b;rw[show zs=[] from e,ζd] at a;have hl:=d.len;rw[ξk h1] at hl
  match ys,hl with
  |[u],_=>
   have:v=u:=a;rw[this];exact d
theorem HW (d:b6 K P) {A:Pl} {O:Γ} {w:World} {t:Nat} {x:S.El t} {v:Value} (a:K.cls t (K.bl t x).cells=some x) (b:(S.ty t).agg=(match K.bl t x with| .agg _=>true| .one _=>false)) (h:(K.bl t x).rel A O w v):(S.ty t).is O w v x:=by
 revert a b h
 cases K.bl t x with
 |agg ls=>
  rintro a b ⟨cs,rfl,c⟩;exact⟨cs,d.cls A O w t ls x cs a c,by unfold Ty.mk';rw[b];rfl⟩
 |one l=>
  intro a b c;exact⟨[v],d.cls A O w t [l] x [v] a ⟨[v],[],rfl,c,rfl⟩,by unfold Ty.mk';rw[b];rfl⟩
theorem pw (e:b6 K P) {f:Nat} {b:Γ} {spec: {R:Type}->h5 S b->(Rs S->Option R)->Option R}
  (h: ∀ {R:Type} (xs:h5 S b) (k:Rs S->Option R) (z:R),spec xs k=some z-> ∃r,k r=some z/\ej K P f (kM K xs) r) {R:Type} (aka:List (aB S)) (k:Rs S->Option R) (z:R) (_:aka.all aB.pure=true) (a:(fE K f b spec).out aka k=some z): ∃r,k r=some z/\ej K P f aka r:=by
 simp only[fE] at a;split at a
 rotate_left
 ·cases a
 rename_i xs i;cases hp:(kM K xs).all aB.pure<;>rw[hp] at a
 ·cases a
 simp only[cond_true] at a;obtain⟨r,h1,c⟩:=h xs k z a;exact⟨r,h1,c.1,λA O w vs g hO d=>c.2 A O w vs (x3 e i g) hO d⟩
theorem HV {α:Type} {T:Ty α} {O:Γ} {w:World} {v:Value} {x:α} (h:T.is O w v x):T.is [] w v x:=h.tr (Tr.less λ_ hk=>by cases hk)
end
end Go.Vx
end
section
namespace Go.Proofs.YtoggponeookhbaaGreatDoor
open Go.RowKit Go.Dc Go.Vx
variable (U:Sh)
def Y5 (U:Sh) (b:ar):T Int:=.ok b.aa
def vG (b:ar):=U.s _ (Y5 U b).val
def s6:=a6 (cR KK 292 132 (vG U) (bH KK 35)) (LA U)
theorem Bg:ag (s6 shut) η:=cX (rs:=[35]) LB (ag.all LB rfl) rfl rfl λb k=>by kernel_rfl
def wP (a:List ar) (p1 p2 b:Int):AS SS:=⟨[(0,vd 56 a),(1,vu p1),(2,vc 0),(8,vl a),(9,vi p2),(10,vi b)],[some (.a7 308 [] [.one (.aM 1 0)]),bX 330 [.v (.func (.func 292) (.mk []) (.mk []))]],2,none,false,[],[]⟩
def o5 (b:List ar) (p1:Int) (a:Int×Int):T ((Int×Int)⊕(Bool×Int×Int)):=.bf (decide (a.1<a.2)) (.bd (idx b (γ.wrap ((ο.wrap (γ.wrap (a.1+a.2))).fdiv 2))) λz0=>.bd (vG U z0) λc=>.bd (ie U c p1) λd=>.bf (decide (d<0)) (.ok (.inl (γ.wrap (γ.wrap ((ο.wrap (γ.wrap (a.1+a.2))).fdiv 2)+1),a.2)))<|.ok (.inl (a.1,γ.wrap ((ο.wrap (γ.wrap (a.1+a.2))).fdiv 2))))<|.ok (.inr (decide (a.1<a.2),a.2,a.1))
def C5 (a:List ar) (p1 p2 b:Int):=bQ U (o5 U a p1) 1000000 (p2,b)
def aaA {R} (k:KX SS R) (a:List ar) (p1:Int) (x:(Bool×Int×Int)):Option R:=(λv=>k (.exit 0) {wP a p1 p1 p1 with env:=[(17,vb v.1),(16,vi v.2.1),(15,vi v.2.2),(0,vd 56 a),(1,vu p1),(2,vc 0),(8,vl a),(9,vi v.2.2),(10,vi v.2.1)]}) x
def QZ:aX SS:=bh 4 (gq (λst=>cG st 0 308) (sq (sD 56 0) (sq (sI 1) (sq (sI 9) (sI 10))))) (u4 wP) (u4 (C5 shut)) (λk p=>aaA k p.1 p.2.1)
theorem agZ:LS KK η aq Tryz.f307 307 4 QZ:=
 aO.bQ (π:=List ar×Int×Int×Int) (σ:=Int×Int) (ag.all Bg rfl) (aF.nil) rfl 60 (λp a=>wP p.1 p.2.1 a.1 a.2) (λp=>(p.2.2.1,p.2.2.2)) (St:=λp=>o5 shut p.1 p.2.1) (λp=>1000000) (λp=>rfl)
  (λm p a k=>by kernel_rfl)
def yT:=bq (s6 shut) aq Tryz.f307 307 [QZ]
theorem XE:aR yT η:=bu (ag.all Bg rfl) Tryz.func307 rfl aT (by kernel_rfl) agZ
def uB (l:List ar) (pid:Int):T (Int×Bool):=.gd (wP l pid 0 (↑l.length:Int))<|.bd (C5 U l pid 0 ((↑l.length:Int))) λa=>.bf (decide (a.2.2<(↑l.length:Int))) (.bd (idx l a.2.2) λd=>.bd (vG U d) λb=>.bd (ie U b pid) λc=>.ok (a.2.2,c==0))<|.ok (a.2.2,false)
def GL (l:List ar) (pid:Int):=U.s _ (uB U l pid).val
theorem aiH {R:Type} (l:List ar) (pid:Int) (k:Rs SS->Option R):e1 yT 100 291 [KK.bl 56 l,KK.bl 35 pid,(.one (.v (.func (.func 292) #[] #[])):aB SS)] [] (ht KK [3,4] k)=(uB shut l pid).run (λr=>k (.ret (.bJ [KK.bl 3 r.1,KK.bl 4 r.2]))):=by kernel_rfl
theorem abW (l:List ar) (pid:Int) {x:Int×Bool} (h:GL shut l pid=some x):ej KK η 291 [KK.bl 56 l,KK.bl 35 pid,(.one (.v (.func (.func 292) #[] #[])):aB SS)] (.ret (.bJ [KK.bl 3 x.1,KK.bl 4 x.2])):=yh (G:=yT) XE (kf:=λ{R} (k:Rs SS->Option R)=>(λr=>k (.ret (.bJ [KK.bl 3 r.1,KK.bl 4 r.2])))) (λk=>aiH l pid k) rfl (pY h) λk=>rfl
end Go.Proofs.YtoggponeookhbaaGreatDoor
end
section
namespace Go.Dc
open Go.RowKit
section
variable {P:Program} {r:Option Nat} {N:Nat} {ops:Array Oper} {Q:Exit->Act->World->Prop} {ds:List Deferred}
theorem ajL {id:Nat} {E:Env} {w:World} (hm:P.follows .mixedOrders=true) (b:List cy) (Φ:List (Bool->World->Value->Prop)) (f:Nat) (cl:Γ) (I:Bool->World->Prop) (hlen:ηk b.length ops.size=true) (au:rz ops b.length=true) (a':Φ.length=b.length) (ah:nX N ops b b 0=true)
  (aA:f<b.length) (aI: ∀o,ops[f]? =some o-> ∀x∈cl,x∈ly ops 12 (cV o)) (hI:I false w.drew)
  (a6: ∀i p g,b[i]? =some p->Φ[i]? =some g-> ∀c a w',(c=true->i≠f/\i∉cl)->I c w'->a.tmps.size=N->a.defers=ds->(∀s,p.base.contains s=true-> ∀v,E.get s=some v->a.tmps.getD s undef=v)->
   (∀(j:Nat),p.lB.contains j=true-> ∀(q:cy) (m:Bool->World->Value->Prop),b[j]? =some q->Φ[j]? =some m->m c w' (a.tmps.getD q.d undef))->eP P r ops Q i p.d a w' (λv cd=>g (c||ξI i f) cd v/\I (c||ξI i f) cd/\ ∀(j:Nat) (m:Bool->World->Value->Prop) u,j≠i->Φ[j]? =some m->m c w' u->m (c||ξI i f) cd u))
  (ay: ∀a w',I true w'->a.tmps.size=N->a.defers=ds->(∀s v,E.get s=some v->(b.any λp=>ξI p.d s)=false->a.tmps.getD s undef=v)->
   (∀(i:Nat) (p:cy) (g:Bool->World->Value->Prop),b[i]? =some p->Φ[i]? =some g->g true w' (a.tmps.getD p.d undef))->wpOpsIn (fw r) 0 P ops Q (ζ4 b.length (ops.size-b.length)) a w'):
  WC P r N (.region id ops true) Q E ds w:=by
 have hle:=ξF hlen;intro a ak;refine wpIn_region_draw λt=>?_;simp only[Region.schedule,hm,ζZ,if_true];refine wpAnyIn_sound ops.size t _ a _ ?_;have key: ∀(fuel:Nat) (listed:Array Bool) (c:Bool) (a:Act) (w':World),listed.getD f true=c->listed.size=ops.size->ep listed b.length+(ops.size-b.length)=fuel->(∀k,b.length<=k->k<ops.size->listed.getD k true=false)->I c w'->a.tmps.size=N->a.defers=ds->
   (∀(k:Nat) (o:Oper),ops[k]? =some o->listed.getD k true=true-> ∀x∈cV o,listed.getD x true=true)->
   (∀s v,E.get s=some v->(∀(k:Nat) (p:cy),b[k]? =some p->p.d=s->listed.getD k true=false)->a.tmps.getD s undef=v)->
   (∀(i:Nat) (p:cy) (g:Bool->World->Value->Prop),b[i]? =some p->Φ[i]? =some g->listed.getD i true=true->g c w' (a.tmps.getD p.d undef))->
   wpAnyIn (fw r) 0 P .any ops Q fuel listed a w':=by
  intro fuel
  induction fuel with
  |zero=>
   intro listed c a w' G ai hl aj ae L W C T aa;have S:ep listed b.length=0:=by omega
   have A:=nF _ S;have Z:c=true:=by rw[<-G];exact A f aA
   subst Z;have aH:ops.size-b.length=0:=by omega
   refine yC au 0 b.length listed a w' (ξa _) (by omega) ai (λk hk=>A k hk) aj C ?_;have X:=ay a w' ae L W (λs v B l=>T s v B λk p hp e=>by
    rw[ξo] at l;have:=l p (ξ3 hp);rw[e] at this;simp at this) λi p g hp O=>aa i p g hp O (A i (δ.1 hp).1)
   rw[aH] at X;exact X
  |succ fuel av=>
   intro listed c a w' G ai hl aj ae L W C T aa
   by_cases S:ep listed b.length=0
   ·have A:=nF _ S;have Z:c=true:=by rw[<-G];exact A f aA
    subst Z;refine yC au (fuel+1) b.length listed a w' (ξa _) (by omega) ai (λk hk=>A k hk) aj C ?_;have X:=ay a w' ae L W (λs v B l=>T s v B λk p hp e=>by
     rw[ξo] at l;have:=l p (ξ3 hp);rw[e] at this;simp at this) λi p g hp O=>aa i p g hp O (A i (δ.1 hp).1)
    rw[show ops.size-b.length=fuel+1 by omega] at X;exact X
   refine⟨λaY=>?_,λi hi=>?_⟩
   ·exfalso;obtain⟨i,h1,J,K⟩:=qO b.length S;have af:i<b.length:=h1;obtain⟨⟨o,y,_,V,_⟩,_⟩:=kQ ah i b[i] (ε af);simp only[ψ] at y V;have:i∈ζA .any ops listed:=by
     unfold ζA;rw[ξQ];refine⟨by simp;omega,?_⟩;rw[J,y];simp only[ξY,φ,ω,ξ1,ξf];intro e he;cases U:Region.binds .any e with
     |false=>simp
     |true=>
      have D:=V e.on (iX.2 ⟨e,he,U,rfl⟩);have:=K e.on D;have ad:e.on<listed.size:=by omega
      simp only[θ,ξ8 ad,ξ1] at this ⊢;simp[this]
    rw[aY] at this;cases this
   ·unfold ζA at hi;rw[ξQ] at hi;obtain⟨aM,M⟩:=hi;have aN:i<ops.size:=by simpa using aM
    have af:i<b.length:=by
     rcases ζB i b.length with h|az
     ·exact h
     ·exfalso;obtain⟨o,y,A,aG⟩:=yA au i az aN;rw[y] at M;simp only[ξ5,ζv,ω,ξ1,ξf] at M;obtain⟨k,h1,J,_⟩:=qO b.length S;have aE:=lz C 12 (cV o) (λx z=>by
       obtain⟨e,he,U,aW⟩:=iX.1 z;have K:=M.2 e he;rw[U] at K;simp only[ξP,ξp] at K;have a_:=aG x z;have ad:e.on<listed.size:=by omega
       rw[<-aW];simp only[θ,ξ8 ad,ξ1] at K ⊢;exact K) k (A k (by omega))
      rw[aE] at J;cases J
    have aQ:i<Φ.length:=by omega
    have hp:=ε af;have O:=ε aQ;obtain⟨⟨o,y,a8,V,aL⟩,aJ,ax,_⟩:=kQ ah i b[i] hp;simp only[ψ] at y V ax;rw[y] at M;simp only[ξ5,ζv,ω,ξ1,ξf] at M;obtain⟨F,aX⟩:=M;have aw: ∀x∈cV o,listed.getD x true=true:=by
     intro x z;obtain⟨e,he,U,rfl⟩:=iX.1 z;have h1:=aX e he;rw[U] at h1;simp only[ξP,ξp] at h1;have D:=V e.on z;have ad:e.on<listed.size:=by omega
     simp only[θ,ξ8 ad,ξ1] at h1 ⊢;exact h1
    refine a6 i _ _ hp O c a w' ?_ ae L W ?_ ?_ _ ?_
    ·intro Z;rw[Z] at G;refine⟨λe=>by(rw[e,G] at F;cases F),λaO=>?_⟩;have aB:f<ops.size:=by omega
     have aT:=aI _ (ξ8 aB) i aO;have:=lz C 12 (cV ops[f]) (λx z=>C f _ (ξ8 aB) G x z) i aT;rw[this] at F;cases F
    ·intro s aZ v B;have ar:s∈b[i].base:=by simpa using aZ
     refine T s v B λk p aq an=>?_;rcases Nu ax s ar k p aq an with rfl|⟨o',Y,aP⟩
     ·exact F
     ·cases hk:listed.getD k true with
      |false=>rfl
      |true=>rw[C k o' Y hk i aP] at F;cases F
    ·intro j aR q m H R;have ag:j∈b[i].lB:=by simpa using aR
     exact aa j q m H R (aw j (aL j ag))
    ·rintro v cd ⟨B,aF,a7⟩;have aK:b[i].d<a.tmps.size:=by rw[L];exact aJ
     have aD:i<listed.size:=by omega
     have ab: ∀k,(listed.setIfInBounds i true).getD k true=true↔k=i\/listed.getD k true=true:=by
      intro k
      by_cases hk:i=k
      ·subst hk;simp[θ,aD]
      ·simp only[θ,ξ7 hk];constructor
       ·exact λh=>.inr h
       ·rintro (h|h)
        ·exact absurd h.symm hk
        ·exact h
     have aC: ∀s,s≠b[i].d->(a.put (some b[i].d) v).tmps.getD s undef=a.tmps.getD s undef:=by
      intro s ar;simp only[Act.put,θ,ξ7 (Ne.symm ar)]
     have a1:(a.put (some b[i].d) v).tmps.getD b[i].d undef=v:=by
      simp[Act.put,θ,aK]
     have aU:=Ib aD F b.length;simp only[af,if_true] at aU;refine av _ (c||ξI i f) _ cd ?_ (by simpa using ai) (by omega) (λk hk aS=>by
      have:=aj k hk aS;simp only[θ,ξ7 (show i≠k by omega)] at this ⊢;exact this) aF (by simp[Act.put,L]) W ?_ ?_ ?_
     ·cases al:ξI i f with
      |true=>
       have:=ξk al;subst this;rw[η0];exact(ab i).2 (.inl rfl)
      |false=>
       rw[ζp,<-G];have l:i≠f:=λe=>by rw[e,η1] at al;cases al
       simp only[θ,ξ7 l]
     ·intro k o' Y hk x z;rw[ab] at hk ⊢;right;rcases hk with rfl|hk
      ·rw[y] at Y;cases Y;exact aw x z
      ·exact C k o' Y hk x z
     ·intro s u hu l;have h1:s≠b[i].d:=λe=>by
       have:=l i _ hp e.symm;have J:=(ab i).2 (.inl rfl);rw[J] at this;cases this
      rw[aC s h1];refine T s u hu λk p aq an=>?_;have:=l k p aq an;cases hk:listed.getD k true with
      |false=>rfl
      |true=>rw[(ab k).2 (.inr hk)] at this;cases this
     ·intro j q m H R ag;rw[ab] at ag
      by_cases ao:j=i
      ·subst ao;rw[hp] at H;rw[O] at R;cases H;cases R;rw[a1];exact B
      ·have aV:listed.getD j true=true:=ag.resolve_left ao;have l:q.d≠b[i].d:=by
        rcases ζB i j with D|az
        ·exact(kQ ah i _ hp).2.2.2 j q D H
        ·exact λe=>(kQ ah j q H).2.2.2 i _ (by omega) hp e.symm
       rw[aC _ l];exact a7 j m _ ao R (aa j q m H R aV)
 refine key ops.size _ false a _ (by simp[θ,show f<ops.size by omega]) (by simp) ?_ (λk _ hk=>by simp[θ,hk]) hI ak.size ak.defers ?_ ?_ ?_
 ·have: ∀n,n<=ops.size->ep (ζH ops.size false) n=n:=by
   intro n
   induction n with
   |zero=>intro _;rfl
   |succ n av=>
    intro hn;simp only[ep,av (by omega)];have:(ζH ops.size false).getD n true=false:=by simp[θ,show n<ops.size by omega]
    simp[this]
  rw[this _ hle];omega
 ·intro k o y hk;have D:=(Array.getElem?_eq_some_iff.1 y).1;simp[θ,D] at hk
 ·intro s v B _;exact ak.get s v B
 ·intro i p g hp _ hi;have D:i<ops.size:=by have:=(δ.1 hp).1;omega
  simp[θ,D] at hi
def b9 (b:SP) (k:Option Value):Bool->World->Value->Prop:=λa w u=>bif a then ∀v,k=some v->u=v else b.p w u
def mf (w:World) (b:World->World->Value->Prop):Bool->World->Value->Prop:=λa w' u=>a=true-> ∃w1 w2,Fr [] w w1/\b w1 w2 u/\Fr [] w2 w'
def JV (a:List cy) (keep:List (Option Value)) (k:Nat) (F:Nat->cy->Option Value->Prop):Prop:=
 match a,keep with
 |p::ps,v::vs=>F k p v/\JV ps vs (k+1) F
 |_,_=>True
theorem Uj: ∀ {b:List cy} {keep:List (Option Value)} {k:Nat} {F:Nat->cy->Option Value->Prop},JV b keep k F-> ∀(i:Nat) (p:cy) (v:Option Value),b[i]? =some p->keep[i]? =some v->F (k+i) p v
 |[],_,_,_,_,i,p,v,hp,_=>by simp at hp
 |_::_,[],_,_,_,i,p,v,_,a=>by simp at a
 |q::c,u::us,k,F,h,i,p,v,hp,a=>by
  cases i with
  |zero=>
   simp only[ξ9,ξq] at hp a;subst hp;subst a;exact h.1
  |succ i=>
   have:=Uj h.2 i p v (by simpa using hp) (by simpa using a);have e:k+1+i=k+(i+1):=by omega
   rwa [e] at this
def xf:List SP->List (Option Value)->Prop
 |c::b,some v::a=>(∀w u,c.p w u->u=v)/\xf b a
 |_::b,none::a=>xf b a
 |_,_=>True
theorem H0: ∀ {Φ:List SP} {keep:List (Option Value)},xf Φ keep-> ∀(j:Nat) (b:SP) (v:Value),Φ[j]? =some b->keep[j]? =some (some v)-> ∀w u,b.p w u->u=v
 |[],_,_,j,b,v,h1,_=>by simp at h1
 |_::_,[],_,j,b,v,_,a=>by simp at a
 |e::d,some u::c,h,j,b,v,h1,a=>by
  cases j with
  |zero=>
   simp only[ξ9,ξq] at h1 a;subst h1;subst a;exact h.1
  |succ j=>exact H0 h.2 j b v (by simpa using h1) (by simpa using a)
 |e::d,none::c,h,j,b,v,h1,a=>by
  cases j with
  |zero=>simp at a
  |succ j=>exact H0 (Φ:=d) (keep:=c) h j b v (by simpa using h1) (by simpa using a)
theorem ajM {id:Nat} {E:Env} {w:World} (hm:P.follows .mixedOrders=true) (b:List cy) (Φ:List SP) (keep:List (Option Value)) (f:Nat) (g cl:Γ) (l:World->World->Value->Prop)
  (hlen:ηk (b++[cy.mk f g []]).length ops.size=true) (au:rz ops (b++[cy.mk f g []]).length=true) (aa:Φ.length=b.length) (X:keep.length=b.length) (al:nX N ops (b++[cy.mk f g []]) (b++[cy.mk f g []]) 0=true)
  (W:(match ops[b.length]? with|some o=>cl.all λx=>(ly ops 12 (cV o)).contains x|none=>false)=true)
  (ai:xf Φ keep)
  (ao:pf b Φ 0 λi p B=> ∀a w',Fr [] w w'->a.tmps.size=N->a.defers=ds->(∀s,p.base.contains s=true-> ∀v,E.get s=some v->a.tmps.getD s undef=v)->
   (∀(j:Nat),p.lB.contains j=true-> ∀(q:cy) (c:SP),b[j]? =some q->Φ[j]? =some c->c.p w' (a.tmps.getD q.d undef))->eP P r ops Q i p.d a w' (λv cd=>B.p cd v/\Fr [] w' cd))
  (ar: ∀a w',Fr [] w w'->a.tmps.size=N->a.defers=ds->(∀(j:Nat),g.contains j=true-> ∀(q:cy) (c:SP),b[j]? =some q->Φ[j]? =some c->c.p w' (a.tmps.getD q.d undef))->eP P r ops Q b.length f a w' (λv cd=>l w' cd v))
  (aq:JV b keep 0 λi p k=>match k with
   |none=>cl.contains i=true
   |some v=> ∀w1 w2 u,Fr [] w w1->l w1 w2 u-> ∀a w',Fr [] w2 w'->a.tmps.size=N->a.defers=ds->(∀s,p.base.contains s=true-> ∀v,E.get s=some v->a.tmps.getD s undef=v)->eP P r ops Q i p.d a w' (λx cd=>x=v/\Fr [] w' cd))
  (af: ∀w1 w2 u a w',Fr [] w w1->l w1 w2 u->Fr [] w2 w'->a.tmps.size=N->a.defers=ds->(∀s v,E.get s=some v->((b++[cy.mk f g []]).any λp=>ξI p.d s)=false->a.tmps.getD s undef=v)->
   (∀(i:Nat) (p:cy) (v:Value),b[i]? =some p->keep[i]? =some (some v)->a.tmps.getD p.d undef=v)->a.tmps.getD f undef=u->
   wpOpsIn (fw r) 0 P ops Q (ζ4 (b++[cy.mk f g []]).length (ops.size-(b++[cy.mk f g []]).length)) a w'):
  WC P r N (.region id ops true) Q E ds w:=by
 have aB:(b++[cy.mk f g []]:List cy).length=b.length+1:=by simp
 have Z:(ξG b9 Φ keep).length=b.length:=by simp[aa,X]
 have I: ∀(j:Nat) c,(ξG b9 Φ keep++[mf w l])[j]? =some c->(j<b.length/\ ∃B k,Φ[j]? =some B/\keep[j]? =some k/\c=b9 B k)\/(j=b.length/\c=mf w l):=by
  intro j c h;rcases ζB j b.length with n|n
  ·left;rw[ξ (by omega)] at h;have h1:j<Φ.length:=by omega
   have A:j<keep.length:=by omega
   refine⟨n,Φ[j],keep[j],ε h1,ε A,?_⟩;rw[ξl,ε h1,ε A] at h;exact(ζI h).symm
  ·right;rw[ξb (by omega),Z] at h;rcases Nat.eq_or_lt_of_le n with e|aA
   ·subst e;simp only[η2,ξ9,ξq] at h;exact⟨rfl,h.symm⟩
   ·rw[ξH (by simp;omega)] at h;cases h
 have an: ∀(j:Nat) p,(b++[cy.mk f g []])[j]? =some p->j<b.length->b[j]? =some p:=λj p h n=>by rwa [ξ n] at h
 refine ajL hm (b++[cy.mk f g []]) (ξG b9 Φ keep++[mf w l]) b.length cl (λR w'=>bif R then ∃w1 w2 u,Fr [] w w1/\l w1 w2 u/\Fr [] w2 w' else Fr [] w w') hlen au (by simp[aa,X]) al (by omega) ?_ (Fr.drew [] w) ?_ ?_
 ·intro o ak x aw;rw[ak] at W;simpa using ξv.1 W x aw
 ·intro i p B hp ax R a w' Y hI C D J G;rcases I i B ax with⟨hi,az,k0,h1,A,rfl⟩|⟨rfl,rfl⟩
  ·have M:=an i p hp hi;have aj:ξI i b.length=false:=by
    cases ae:ξI i b.length with
    |false=>rfl
    |true=>have:=ξk ae;omega
   rw[aj,ζp];cases R with
   |false=>
    have hI:Fr [] w w':=hI;refine eP.weaken (Ni ao i p az M h1 a w' hI C D J (λj n q c F t=>?_)) λv cd m=>⟨m.1,hI.trans m.2,λj c u _ t hu=>?_⟩
    ·have U:=(δ.1 F).1;have H:(ξG b9 Φ keep++[mf w l])[j]? =some (b9 c (keep[j]'(by omega))):=by
      rw[ξ (by omega),ξl,t,ε (by omega)]
     exact G j n q _ (by rw[ξ U];exact F) H
    ·rcases I j c t with⟨_,S,ab,_,_,rfl⟩|⟨_,rfl⟩
     ·exact S.st m.2 hu
     ·intro m;cases m
   |true=>
    obtain⟨w1,w2,u,K,z,L⟩:=hI;have T:=Uj aq i p k0 M A;rw[ψ] at T;cases k0 with
    |none=>
     have:cl.contains i=true:=T;exact absurd (by simpa using this) (Y rfl).2
    |some v=>
     refine eP.weaken (T w1 w2 u K z a w' L C D J) λx cd m=>⟨?_,⟨w1,w2,u,K,z,L.trans m.2⟩,λj c y _ t O=>?_⟩
     ·intro ad V;cases V;exact m.1
     ·rcases I j c t with⟨_,S,ab,_,_,rfl⟩|⟨_,rfl⟩
      ·exact O
      ·intro _;obtain⟨x1,ay,g1,g2,g3⟩:=O rfl;exact⟨x1,ay,g1,g2,g3.trans m.2⟩
  ·cases R with
   |true=>exact absurd rfl (Y rfl).1
   |false=>
    have M:p=⟨f,g,[]⟩:=by
     rw[ξb (ξa _),η2] at hp;exact(ζI hp).symm
    subst M;have hI:Fr [] w w':=hI;rw[η1,η0];refine eP.weaken (ar a w' hI C D (λj n q c F t=>?_)) λv cd z=>⟨λ_=>⟨w',cd,hI,z,Fr.refl [] _⟩,⟨w',cd,v,hI,z,Fr.refl [] _⟩,λj c y ah t O=>?_⟩
    ·have U:=(δ.1 F).1;have H:(ξG b9 Φ keep++[mf w l])[j]? =some (b9 c (keep[j]'(by omega))):=by
      rw[ξ (by omega),ξl,t,ε (by omega)]
     exact G j n q _ (by rw[ξ U];exact F) H
    ·rcases I j c t with⟨_,S,ab,h1,A,rfl⟩|⟨e,_⟩
     ·intro ad V;subst V;exact H0 ai j S ad h1 A _ _ O
     ·exact absurd e ah
 ·intro a w' hI C D J G;obtain⟨w1,w2,K,z,L⟩:=G b.length ⟨f,g,[]⟩ (mf w l) (by simp) (by rw[ξb (by omega),Z];simp) rfl;refine af w1 w2 _ a w' K z L C D J (λi p v hp av=>?_) rfl;have ag:=(δ.1 hp).1;have H:(ξG b9 Φ keep++[mf w l])[i]? =some (b9 (Φ[i]'(by omega)) (some v)):=by
   rw[ξ (by omega),ξl,av,ε (by omega)]
  exact G i p _ (by rw[ξ ag];exact hp) H v rfl
theorem aeY {Θ:cK} {O:Γ} {w:World} {i d:Nat} {o:Oper} {E:Env} (J:Θ.ok P) {a:Act} (g:Has N E ds a) (z:ops[i]? =some o) (hw:want N ops E o.guard=some true) (q:o.dst=some d) {t:Nat} {x y:Operand} {f c:TI}
  (j:o.op= .call {callee:=.builtin .append,args:= #[x,y],argTypes:= #[t,t]}) (C:Θ.get t=some f) (k:f.tag=5) (D:Θ.get f.e=some c) {α:Type} {T:Ty α} (hn:T.n=c.size) (A:ηl 0 c.size=true) (I:c.zero.cells.size=c.size) (p:ηk 1 c.bytes=true) {e nb:Nat} (he:f.e=e) (s:c.bytes=nb)
  {w0:World} {v u:Value} {xs ys zs:List α} (G:ev E x=some v) (H:ev E y=some u) (l:Fr [] w0 w) (hO:OB O w) (F:Own T e w0.heap.size O w v xs) (hu:T.slice.is O w u ys) (hlen:app nb xs ys=some zs):
  eP P r ops Q i d a w (λh w'=> ∃O',dD T e w0.heap.size O w v zs O' w' h):=by
 subst he s;obtain⟨hle,rfl⟩:=uH hlen;obtain⟨h,w',O',B,m⟩:=Tu (P:=P) (ty:=o.type) J C k D hn (ξF A) I l.size hO F hu hle (ξF p);refine lS z (gW g hw) q (b:=true) (v:=h) (w':=w') ?_ ⟨O',m⟩;simp only[if_true];refine⟨by rw[j];simp,?_⟩;simp only[execOp,j,ξx,resolve,ζe,ξr,invoke,builtin,ζ9,ξz,ξV,g.eval G,g.eval H,B]
end
end Go.Dc
end
section
namespace Go.Proofs.YtoggponeookhbaaGreatDoor
open Go.RowKit Go.Dc Go.Vx
theorem acr:eB η 79:=c9 aT Tryz.func79 rfl
theorem acs:eB η 80:=c9 aT Tryz.func80 rfl
theorem acq:eB η 63:=c9 aT Tryz.func63 rfl
theorem F0:eB η 202:=c9 aT η3 rfl
theorem F1:eB η 203:=c9 aT η4 rfl
theorem acp:eB η 294:=c9 aT η5 rfl
theorem aci:eB η 107:=c9 aT Tryz.func107 rfl
theorem acj:eB η 219:=c9 aT ζb rfl
theorem ack:eB η 261:=c9 aT η6 rfl
theorem acm:eB η 262:=c9 aT η7 rfl
theorem N3:eB η 263:=c9 aT η8 rfl
theorem acn:eB η 291:=c9 aT Tryz.func291 rfl
theorem aco:eB η 293:=c9 aT Tryz.func293 rfl
theorem aiE {O:Γ} {w:World} {v:Value} {x:ar}:jh.is O w v x↔ ∃s1,v= .agg #[.int .u64 x.aa,s1]/\(Ty.slice (Ty.int .u64)).is O w s1 x.bj:=by
 constructor
 ·rintro ⟨cs,⟨_,_,rfl,rfl,c⟩,rfl⟩;obtain⟨a,rfl,b⟩:=JN rfl c;exact⟨a,rfl,b⟩
 ·rintro ⟨a,rfl,b⟩;exact⟨[.int .u64 x.aa,a],⟨[.int .u64 x.aa],[a],rfl,rfl,l3 rfl b⟩,rfl⟩
theorem iv {O:Γ} {w:World} {v:Value} {x:aL}:fU.is O w v x↔ ∃s0 s1,v= .agg #[s0,s1]/\(Ty.slice dX).is O w s0 x.ak/\(Ty.slice jh).is O w s1 x.an:=by
 constructor
 ·rintro ⟨cs,⟨_,_,rfl,d,e⟩,rfl⟩;obtain⟨a,rfl,b⟩:=JN rfl d;obtain⟨z2,rfl,c⟩:=JN rfl e;exact⟨a,z2,rfl,b,c⟩
 ·rintro ⟨a,z2,rfl,b,c⟩;exact⟨[a,z2],⟨[a],[z2],rfl,l3 rfl b,l3 rfl c⟩,rfl⟩
theorem aiF {O:Γ} {w:World} {cs:Γb} {x:au} (h:dX.rep O w cs x):cs=[.int .u64 x.aW,.int .u64 x.aa]:=by
 obtain⟨_,_,rfl,rfl,rfl⟩:=h;exact rfl
noncomputable def xx:Pl:=⟨λ_=>none,none⟩
noncomputable def HF (U:Sh) (x:aL):Option Int:=jI U x
theorem adA {O:Γ} {w:World} (hO:OB O w) (c:cN KK O w) {v0:Value} {x0:aL} (a:fU.is O w v0 x0) {r:Int} (h:HF shut x0=some r):Calls η 63 #[v0] w (gn (oc (Ty.int .i64)) O w r):=by
 have d:ej KK η 63 [KK.bl 58 x0] (.ret (.s (KK.bl 27 r))):=yh (G:=yW) K5 (kf:=λ{R} (k:Rs SS->Option R)=>(λr=>k (.ret (.s (KK.bl 27 r))))) (λk=>Um x0 k) rfl (pY h) λk=>rfl;refine(d.2 xx O w [v0] ⟨v0,[],rfl,hZ dc (t:=58) rfl rfl a,rfl⟩ hO c).mono ?_;rintro e w' ⟨⟨v,rfl,h1,_⟩,b⟩;cases h1;exact⟨_,rfl,du.2 rfl,b⟩
noncomputable def kD (p:Int):Bool:=bif decide (p>=1) then decide (p<4294967296) else false
theorem adU (p:Int):(mM shut p).val=some (kD p):=by
 unfold mM kD;cases h:decide (p>=1)<;>simp
theorem adG {O:Γ} {w:World} (hO:OB O w) (c:cN KK O w) {v0:Value} {x0:Int} (a:(Ty.int .u64).is O w v0 x0):Calls η 107 #[v0] w (gn (oc Ty.bool) O w (kD x0)):=by
 have d:ej KK η 107 [KK.bl 35 x0] (.ret (.s (KK.bl 4 (kD x0)))):=yh (G:=s8 shut) (ag.all BI rfl) (kf:=λ{R} (k:Rs SS->Option R)=>(λr=>k (.ret (.s (KK.bl 4 r))))) (λk=>Ul x0 k) rfl (adU x0) λk=>rfl;refine(d.2 xx O w [v0] ⟨v0,[],rfl,hZ dc (t:=35) rfl rfl a,rfl⟩ hO c).mono ?_;rintro e w' ⟨⟨v,rfl,h1,_⟩,b⟩;cases h1;exact⟨_,rfl,jx.2 rfl,b⟩
noncomputable def HH (U:Sh) (l:List ar) (pid:Int):Option (Int×Bool):=GL U l pid
theorem adF {O:Γ} {w:World} (hO:OB O w) (i:cN KK O w) {v0:Value} {x0:List ar} (c:(Ty.slice jh).is O w v0 x0) {pid:Int} {r:Int×Bool} (h:HH shut x0 pid=some r):Calls η 291 #[v0,.int .u64 pid,.func (.func 292) #[] #[]] w (gn (Tq (Ty.int .i64) Ty.bool) O w r):=by
 refine((abW x0 pid h).2 xx O w [v0,.int .u64 pid,.func (.func 292) #[] #[]] ⟨v0,_,rfl,hZ dc (t:=56) rfl rfl c,_,_,rfl,⟨rfl,rfl⟩,_,_,rfl,⟨rfl,rfl⟩,rfl⟩ hO i).mono ?_;rintro e w' ⟨⟨v,rfl,xs,rfl,a,_,rfl,⟨h1,_⟩,b,_,rfl,⟨d,_⟩,f⟩,g⟩;cases h1;cases d;rw[show _=[] from f];exact⟨_,rfl,⟨_,_,rfl,du.2 rfl,jx.2 rfl⟩,g⟩
noncomputable def JJ (x:Γa):Option (Γa):=app 8 [] x
theorem ah' {O:Γ} {w:World} (hO:OB O w) (_:w.heap.size<=w.heap.size) {v0:Value} {x0:Γa} (a:(Ty.slice (Ty.int .u64)).is O w v0 x0) {r:Γa} (h:JJ x0=some r):Calls η 80 #[v0] w (eN (Ty.int .u64) 35 w.heap.size O w (.slice none 0 0) r):=km.2.2.2.2.1 hO a h
noncomputable def JK (x:List au):Option (List au):=app 16 [] x
theorem ah_ {O:Γ} {w:World} (hO:OB O w) (_:w.heap.size<=w.heap.size) {v0:Value} {x0:List au} (a:(Ty.slice dX).is O w v0 x0) {r:List au} (h:JK x0=some r):Calls η 79 #[v0] w (eN dX 127 w.heap.size O w (.slice none 0 0) r):=km.2.2.2.1 hO a h
abbrev TR:Ty (Int×Value):=kU .u64
abbrev TW:Ty Int:=Ty.int .u64
theorem gX:TW.Flat:=λh=>h
noncomputable def bx (z:ar):Int×Γa:=(z.aa,z.bj)
structure e_ (B:Nat) (O:Γ) (w:World) (b:Nat) (nv rv:Value) (S:Γ) (aD:Γd) (x:aL):Prop where
 mem:b∈O
 ge:B<=b
 bL:bM w b 262 [nv,rv]
 ns:Go.Dc.Own dX 127 B O w nv x.ak
 row:Go.Dc.Own TR 132 B O w rv aD
 fo:c7 TW 35 B w S aD (x.an.map bx)
 nd:S.Nodup
 out: ∀g∈S,g∉O
 nb:nv.ownBlock≠some b
 rb:rv.ownBlock≠some b
 dj:Dj nv rv
noncomputable def j_ (B:Nat) (O:Γ) (w:World) (b:Nat) (x:aL):Prop:= ∃nv rv S aD,e_ B O w b nv rv S aD x
structure bO (B:Nat) (O:Γ) (w:World) (O':Γ) (w':World):Prop where
 tr:Tr O w O' w'
 ob:OB O' w'
 sub:Sub O O'
 below: ∀k,k<B->w'.heap[k]? =w.heap[k]?
theorem bO.refl {B:Nat} {O:Γ} {w:World} (h:OB O w):bO B O w O w:=⟨Tr.refl _ _,h,Sub.refl _,λ_ _=>rfl⟩
theorem bO.trans {B:Nat} {O O' a:Γ} {w w' cd:World} (h:bO B O w O' w') (k:bO B O' w' a cd):bO B O w a cd:=
 ⟨h.tr.trans k.tr,k.ob,h.sub.trans k.sub,λi hi=>(k.below i hi).trans (h.below i hi)⟩
theorem bO.fr {O O':Γ} {w w':World} (h:bO w.heap.size O w O' w'):Fr [] w w':=⟨h.tr.os,h.tr.tape,h.tr.output,h.tr.size,λk hk _=>h.below k hk⟩
theorem bO.nO {B:Nat} {O:Γ} {w w':World} (hO:OB O w) (a:B<=w.heap.size) (h:Fr [] w w'):bO B O w O w':=
 ⟨h.dY,h.ob hO,Sub.refl _,λk hk=>h.block k (ζ hk a) (by simp)⟩
theorem bO.i_ {B:Nat} {O:Γ} {w w':World} {b t:Nat} {cs:Γb} (a:B<=w.heap.size) (h:j' O w b t cs w'):bO B O w (b::O) w':=
 ⟨h.tr,h.ob,Sub.cons (Sub.refl _) _,λk hk=>h.fr.block k (ζ hk a) (by simp)⟩
theorem bO.II {α:Type} {T:Ty α} {e B:Nat} {O O':Γ} {w w':World} {v c:Value} {xs zs:List α} (a:B<=w.heap.size) (b:Go.Dc.Own T e B O w v xs) (h:dD T e B O w v zs O' w' c):bO B O w O' w':=
 ⟨h.tr,h.ob,h.sub,λk hk=>h.fr k (ζ hk a) λe=>by have:=(b.lt k e).1;omega⟩
theorem bO.gk {B b:Nat} {O:Γ} {w w':World} (hO:OB O w) (a:b∈O) (c:B<=b) (h:Fr [b] w w'):bO B O w O w':=
 ⟨h.tr (gM a),h.ob hO,Sub.refl _,λk hk=>h.block k (by have:=hO b a;omega) (by simp;omega)⟩
theorem bO.aeL {α:Type} {T:Ty α} {e B:Nat} {O:Γ} {w w':World} {v:Value} {xs:List α} (hO:OB O w) (b:B<=w.heap.size) (a:c4 T e w.heap.size w' v xs) (h:Fr [] w w'):bO B O w (v.ownBlock.toList++O) w':=
 ⟨⟨h.os,h.tape,h.output,h.size,λk hk c=>⟨λhm=>by
  rcases ξA.1 hm with hm|hm
  ·have:=(a.lt k (by simpa using hm)).1;omega
  ·exact c hm,h.block k hk (by simp)⟩⟩,λk hk=>by
  rcases ξA.1 hk with hk|hk
  ·exact(a.lt k (by simpa using hk)).2
  ·exact ζ (hO k hk) h.size,λk hk=>ξm _ hk,λk hk=>h.block k (ζ hk b) (by simp)⟩
section
variable {B:Nat} {O O':Γ} {w w' cd:World} {b:Nat} {nv rv:Value} {S:Γ} {aD:Γd} {x:aL}
theorem e_.cj (h:e_ B O w b nv rv S aD x) (a:Fr [] w w'):e_ B O w' b nv rv S aD x:=
 ⟨h.mem,h.ge,h.bL.cj a,h.ns.cj a,h.row.cj a,h.fo.cj gX a,h.nd,h.out,h.nb,h.rb,h.dj⟩
theorem e_.new (h:e_ B O w b nv rv S aD x) {a t:Nat} {cs:Γb} (hn:j' O w a t cs w'):e_ B (a::O) w' b nv rv S aD x:=
 ⟨ξ4 _ h.mem,h.ge,h.bL.cj hn.fr,h.ns.new hn,h.row.new hn,h.fo.cj gX hn.fr,h.nd,λg c hm=>by
  rcases ξB.1 hm with rfl|hm
  ·have:=(h.fo.lt g c).2;have:=hn.ge;omega
  ·exact h.out g c hm,h.nb,h.rb,h.dj⟩
theorem e_.st (h:e_ B O w b nv rv S aD x) {a:Nat} (d:a∈O) (c:Fr [a] w w') (h1:a≠b) (i:nv.ownBlock≠some a) (j:rv.ownBlock≠some a):e_ B O w' b nv rv S aD x:=
 ⟨h.mem,h.ge,h.bL.fr c (by simp;exact λe=>h1 e.symm),h.ns.st c d i,h.row.st c d j,h.fo.keep gX λg f=>c.block g (h.fo.lt g f).2 (by simp;rintro rfl;exact h.out _ f d),h.nd,h.out,h.nb,h.rb,h.dj⟩
theorem dD.later {α:Type} {T:Ty α} {e B:Nat} {O O':Γ} {w w2 w3:World} {v a:Value} {zs:List α} (ap:dD T e B O w v zs O' w2 a) (f:Fr [] w2 w3):dD T e B O w v zs O' w3 a:=
 ⟨ap.own.cj f,ap.tr.trans f.dY,f.ob ap.ob,ap.sub,λk hk b=>(f.block k (ζ hk ap.tr.size) (by simp)).trans (ap.fr k hk b),ap.ne⟩
theorem e_.boxes (h:e_ B O w b nv rv S aD x) {i:Value} {S':Γ} {f:Γd} {x':aL} (ap:dD TR 132 B O w rv f O' w' i) (k:bM cd b 262 [nv,i]) (d:Fr [b] w' cd)
  (c:c7 TW 35 B w S' f (x'.an.map bx)) (l:S'.Nodup) (e: ∀g∈S',g∉O) (hn:x'.ak=x.ak):e_ B O' cd b nv i S' f x':=by
 have hm:=ap.sub _ h.mem;have j:=ap.ne _ h.bL.lt h.rb;have m:=ap.other h.ns λg a=>h.dj g a;refine⟨hm,h.ge,k,by rw[hn];exact m.st d hm h.nb,ap.own.st d hm j,?_,l,λg a=>(ap.tr.keep g (c.lt g a).2 (e g a)).1,h.nb,j,λg a=>ap.ne _ (h.ns.lt g a).2 (h.dj g a)⟩;refine c.keep gX λg a=>?_;have h1:=(ap.tr.keep g (c.lt g a).2 (e g a)).2;rw[d.block g (ζ (c.lt g a).2 ap.tr.size) (by simp;rintro rfl;exact e _ a h.mem),h1]
end
noncomputable def nz:List ar->List ar->Option (List ar)
 |[],acc=>some acc
 |z::r,acc=>(JJ z.bj).bind λws=>(app 32 acc [ar.mk z.aa ws]).bind λa=>nz r a
noncomputable def qH (fuel:Sh) (x:aL):Option (aL×Int):=(HF fuel x).bind λe=>bif (!(e==0)) then some (aL.mk [] [],e) else(JK x.ak).bind λns=>(nz x.an []).bind λbs=>some (aL.mk ns bs,0)
noncomputable def YN (O:Γ) (w:World) (r:aL×Int) (c:Ending) (w':World):Prop:= ∃a O',c= .returned (.tuple #[a,.int .i64 r.2])/\bO w.heap.size O w O' w'/\(r.2=0-> ∃b,a= .pointer (some ⟨b,0,none⟩)/\j_ w.heap.size O' w' b r.1)
theorem Nl {aD:Γd} {acc a:List ar} {z:ar} {p:Int×Value} (hl:aD.length=acc.length) (h:app 32 acc [z]=some a):app 32 aD [p]=some (aD++[p])/\a=acc++[z]:=by
 obtain⟨h1,b⟩:=uH h;refine⟨?_,b⟩;unfold app;rw[if_pos (by rw[hl];exact h1)]
noncomputable def SP.agw (p:Int) (B:Nat) (ws:Γa):SP:=⟨λw u=> ∃v,u= .agg #[.int .u64 p,v]/\c4 TW 35 B w v ws,λa ⟨v,h,k⟩=>⟨v,h,k.cj gX a⟩⟩
noncomputable def SP.agr (p:Int) (B:Nat) (O:Γ) (ws:Γa):SP:=⟨λw u=> ∃v,TR.slice.is O w u [(p,v)]/\c4 TW 35 B w v ws,λa ⟨v,h,k⟩=>⟨v,h.tr a.dY,k.cj gX a⟩⟩
theorem acU {O:Γ} {w1 w:World} {v:Value} {ws:Γa} (h:c4 TW 35 w1.heap.size w v ws) (hO:OB O w1): ∀g,v.ownBlock=some g->g∉O:=λg a hm=>by
 have:=(h.lt g a).1;have:=hO g hm;omega
set_option maxRecDepth 100000 in
set_option maxHeartbeats 4000000 in
theorem adH {O:Γ} {w:World} (hO:OB O w) (aO:cN KK [] w) {v0:Value} {x0:aL} (af:fU.is [] w v0 x0) {r:aL×Int} (h:qH shut x0=some r):Calls η 219 #[v0] w (YN O w r):=by
 obtain⟨R,U,rfl,aN,ax⟩:=iv.1 af;have aA:bO w.heap.size O w O w:=bO.refl hO;refine gx (args:=[.agg #[R,U]]) (N:=45) ζb rfl rfl rfl ?_;unfold qH at h;refine aU (bg (l:=[0,1,2]) rfl (mj rfl rfl rfl rfl rfl rfl [R,U] rfl hO (λs w1 n1=>?_)));have x:=n1.bL;have ab:=aA.trans (bO.i_ aA.tr.size n1);refine aK aj [1,2] [(1,.pointer (some ⟨s,0,none⟩))] rfl ⟨rfl,trivial⟩ (a_ (aV (aU (aU (bg (l:=[0,1,2]) rfl (dR aj rfl rfl rfl rfl rfl rfl rfl x [R,U] rfl rfl (.inl rfl) (.agg #[R,U]) rfl ?_))))));obtain⟨e,he,h⟩:=bind_some h;refine yN rfl rfl rfl rfl rfl acq rfl (adA (qV _) (aO.tr ab.fr.dY) (af.tr ab.fr.dY) he) (λv2 w2 g2 f2=>?_);obtain rfl:=du.1 g2;have J:=ab.trans (bO.nO ab.ob ab.tr.size f2);have x:=x.cj f2;refine aK aj [2] [(1,.pointer (some ⟨s,0,none⟩)),(4,.int .i64 e)] rfl ⟨rfl,rfl,trivial⟩ (a_ (aV (aU (bg (l:=[0,1]) rfl (aK aj [0,1] [(1,.pointer (some ⟨s,0,none⟩)),(4,.int .i64 e),(11,.bool (!(e==0)))] rfl ⟨rfl,rfl,rfl,trivial⟩ (a_ (aV ?_)))))));rcases iG h with⟨A,h⟩|⟨A,h⟩
 ·refine fB rfl A (aU (bg (l:=[0,1,2]) rfl (aK aj [0,1,2] [(2,.pointer none),(3,.int .i64 e)] rfl ⟨rfl,rfl,trivial⟩ (a_ (aV (dC ?_))))));cases h;exact fC (eY rfl ⟨_,_,rfl,J,λaf=>by simp at A;exact absurd af A⟩)
 refine fK rfl A (eF (aV (aU (bg (l:=[0,1,2,3,4,5,6]) rfl (aK aj [0] [(1,.pointer (some ⟨s,0,none⟩)),(13,.pointer (some ⟨s,0,none⟩))] rfl ⟨rfl,rfl,trivial⟩ (dR aj rfl rfl rfl rfl rfl rfl rfl x [R] rfl rfl (.inr rfl) R rfl ?_))))));obtain⟨ns,a6,h⟩:=bind_some h;refine jn rfl rfl rfl rfl rfl acr rfl (ah_ (qV _) (ξa _) (aN.tr J.fr.dY) a6) (λ_ w3 n=>?_);obtain⟨nv,rfl,M,f3⟩:=OV rfl n;refine⟨_,rfl,?_⟩;have ah:=J.trans (bO.aeL J.ob J.tr.size M f3);have M:=M.less J.tr.size;obtain⟨al,aq,rfl,bp,bu⟩:=M.form;refine aK aj [3,4] [(1,.pointer (some ⟨s,0,none⟩)),(17,.agg #[.slice al ns.length aq,.slice none 0 0])] rfl ⟨rfl,rfl,trivial⟩ ?_;have x:=x.cj f3;refine mj rfl rfl rfl rfl rfl rfl [.slice al ns.length aq,.slice none 0 0] rfl ah.ob (λb bh Q=>?_);generalize bz:(ηm al ns.length aq)=nv at*
 have hH:e_ w.heap.size (b::(nv.ownBlock.toList++(s::O))) bh b nv (.slice none 0 0) [] [] (aL.mk ns []):=
  ⟨τ,μ ah.tr.size Q.ge,Q.bL,(M.own (λh=>h) λg n=>ξN _ (by rw[n];simp)).new Q,Own.iZ,rfl,List.nodup_nil,λg n=>(by cases n),λe=>by
   have:=(M.lt b e).2;have:=Q.ge;omega,aew _,ab0 _⟩
 have aR:=ah.trans (bO.i_ ah.tr.size Q);have x:=x.cj Q.fr;refine aK aj [6] [(1,.pointer (some ⟨s,0,none⟩)),(5,.pointer (some ⟨b,0,none⟩))] rfl ⟨rfl,rfl,trivial⟩ (a_ (aV (aU (aU (bg (l:=[0,1,2,3]) rfl (aK aj [0] [(5,.pointer (some ⟨b,0,none⟩)),(19,.pointer (some ⟨s,1,none⟩))] rfl ⟨rfl,rfl,trivial⟩ (dR aj rfl rfl rfl rfl rfl rfl rfl x [U] rfl rfl (.inr rfl) U rfl ?_)))))));obtain⟨B,C,rfl,aZ,a1⟩:=eW ax;refine aK aj [2,3] [(5,.pointer (some ⟨b,0,none⟩)),(20,.slice B x0.an.length C),(21,.int .i64 (x0.an.length:Int)),(22,.int .i64 ((0:Nat):Int))] rfl ⟨rfl,rfl,rfl,rfl,trivial⟩ (a_ (aV ?_));obtain⟨bs,y,h⟩:=bind_some h;refine mh ?_;refine Ki (λm E W=> ∃(rest:List ar) (i:Nat) (O':Γ) (acc:List ar) (rv:Value) (S:Γ) (aD:Γd),rest.length=m/\x0.an.drop i=rest/\E=[(5,.pointer (some ⟨b,0,none⟩)),(20,.slice B x0.an.length C),(21,.int .i64 (x0.an.length:Int)),(22,.int .i64 (i:Int))]/\bO w.heap.size O w O' W/\e_ w.heap.size O' W b nv rv S aD (aL.mk ns acc)/\nz rest acc=some bs) _
  [(5,.pointer (some ⟨b,0,none⟩)),(20,.slice B x0.an.length C),(21,.int .i64 (x0.an.length:Int)),(22,.int .i64 ((0:Nat):Int))] ⟨rfl,rfl,rfl,rfl,trivial⟩ ⟨x0.an,0,_,[],_,[],[],rfl,rfl,rfl,aR,hH,y⟩ ?_
 rintro m E W ⟨rest,i,ao,acc,rv,S,aD,rfl,ak,rfl,K,hH,y⟩;rcases rest with _|⟨z,rest⟩
 ·have hl:=drop_nil ak;have A:(decide ((i:Int)<(x0.an.length:Int)))=false:=decide_eq_false (by omega);refine aU (bg (l:=[0]) rfl (aK aj [0] [(5,.pointer (some ⟨b,0,none⟩)),(23,.bool (decide ((i:Int)<(x0.an.length:Int))))] rfl ⟨rfl,rfl,trivial⟩ (a_ (aV (aU (fK rfl A (Kh (ou (ou (Kp (aV ?_)))))))))));refine aU (bg (l:=[0,1,2]) rfl (aK aj [0,1,2] [(2,.pointer (some ⟨b,0,none⟩)),(3,.int .i64 0)] rfl ⟨rfl,rfl,trivial⟩ (a_ (aV (dC ?_)))));cases y;cases h;exact eY rfl ⟨_,_,rfl,K,λ_=>⟨b,rfl,_,_,_,_,hH⟩⟩
 obtain⟨hl,n,ak⟩:=drop_cons ak;have A:(decide ((i:Int)<(x0.an.length:Int)))=true:=decide_eq_true (by omega);refine aU (bg (l:=[0]) rfl (aK aj [0] [(5,.pointer (some ⟨b,0,none⟩)),(20,.slice B x0.an.length C),(21,.int .i64 (x0.an.length:Int)),(22,.int .i64 (i:Int)),(23,.bool (decide ((i:Int)<(x0.an.length:Int))))] rfl ⟨rfl,rfl,rfl,rfl,rfl,trivial⟩ (a_ (aV (aU (fB rfl A (eF (aV (aU (mh (aU (bg (l:=[0,1,2,3]) rfl (Ko aj rfl rfl rfl rfl rfl rfl rfl rfl rfl rfl ax rfl (ζq _) (by rw[ι];exact n) (λbA a8=>?_))))))))))))));refine Vp aj rfl rfl rfl rfl rfl rfl rfl a8 K.fr rfl rfl (λv6 bb=>?_);obtain⟨bC,rfl,aI⟩:=aiE.1 bb;obtain⟨G,H,rfl,br,bx⟩:=eW aI;refine rE aj rfl rfl rfl rfl rfl rfl [.int .u64 0,.slice none 0 0] rfl K.ob (λq bG n7=>?_);have az:=hH.new n7;have au:=K.trans (bO.i_ K.tr.size n7);have bd:q≠b:=by have:=hH.bL.lt;have:=n7.ge;omega
 have a':=hH.ns.RK n7;have ba:=hH.row.RK n7;refine eX aj rfl rfl rfl rfl rfl rfl rfl n7.bL [.int .u64 z.aa,.slice G z.bj.length H] rfl rfl (by simp[υ]) rfl [.int .u64 z.aa,.slice G z.bj.length H] rfl (λF aG f8=>?_);have I:=az.st τ f8 bd a' ba;have L:=au.trans (bO.gk au.ob τ (μ K.tr.size n7.ge) f8);clear az au;refine a_ (aV ?_);rw[nz] at y;obtain⟨ws,bc,y⟩:=bind_some y;obtain⟨bk,aE,y⟩:=bind_some y;obtain⟨X,Z,rfl,bq,bw⟩:=I.row.form;have ag:=L.ob;have hlen:aD.length=acc.length:=by have:=I.fo.len;simpa using this
 refine ajM mixed [⟨26,[],[5]⟩,⟨27,[],[5]⟩,⟨28,[1],[]⟩,⟨29,[2],[]⟩,⟨30,[3],[]⟩,⟨31,[4],[]⟩,⟨32,[],[7]⟩,⟨33,[6],[]⟩,⟨34,[],[7]⟩,⟨35,[8],[]⟩,⟨36,[9],[]⟩,⟨37,[7,10],[]⟩,⟨38,[11],[]⟩]
  [SP.eq (.pointer (some ⟨b,0,none⟩)),SP.eq (.pointer (some ⟨b,0,none⟩)),SP.eq (.pointer (some ⟨b,0,none⟩)),SP.eq (.pointer (some ⟨b,0,none⟩)),SP.eq (.pointer (some ⟨b,1,none⟩)),SP.eq (.slice X aD.length Z),SP.eq (.pointer (some ⟨q,0,none⟩)),SP.eq (.int .u64 z.aa),SP.eq (.pointer (some ⟨q,1,none⟩)),SP.eq (.slice G z.bj.length H),SP.iL TW gX 35 F.heap.size ws,SP.agw z.aa F.heap.size ws,SP.agr z.aa F.heap.size (q::ao) ws] [some (.pointer (some ⟨b,0,none⟩)),none,none,none,none,none,none,none,none,none,none,none,none] 39 [5,12] [1,2,3,4,5,6,7,8,9,10,11,12] (λw1 w2 u=> ∃o O',c4 TW 35 F.heap.size w1 o ws/\dD TR 132 w.heap.size (q::ao) w1 (.slice X aD.length Z) (aD++[(z.aa,o)]) O' w2 u) rfl rfl rfl rfl rfl rfl ⟨λ_ _ h=>h,trivial⟩ ⟨?_,?_,?_,?_,?_,?_,?_,?_,?_,?_,?_,?_,?_,trivial⟩ ?_ ⟨?_,rfl,rfl,rfl,rfl,rfl,rfl,rfl,rfl,rfl,rfl,rfl,rfl,trivial⟩ ?_
 ·intro a w2 j c d k f;exact c3 aj ⟨c,d,b7 (E:=[(5,.pointer (some ⟨b,0,none⟩))]) ⟨k 5 rfl _ rfl,trivial⟩⟩ rfl rfl rfl rfl rfl
 ·intro a w2 j c d k f;exact c3 aj ⟨c,d,b7 (E:=[(5,.pointer (some ⟨b,0,none⟩))]) ⟨k 5 rfl _ rfl,trivial⟩⟩ rfl rfl rfl rfl rfl
 ·intro a w2 j c d k f;exact c3 aj ⟨c,d,b7 (E:=[(27,.pointer (some ⟨b,0,none⟩))]) ⟨f 1 rfl _ _ rfl rfl,trivial⟩⟩ rfl rfl rfl rfl rfl
 ·intro a w2 j c d k f;exact c3 aj ⟨c,d,b7 (E:=[(28,.pointer (some ⟨b,0,none⟩))]) ⟨f 2 rfl _ _ rfl rfl,trivial⟩⟩ rfl rfl rfl rfl rfl
 ·intro a w2 j c d k f;exact c3 aj ⟨c,d,b7 (E:=[(29,.pointer (some ⟨b,0,none⟩))]) ⟨f 3 rfl _ _ rfl rfl,trivial⟩⟩ rfl rfl rfl rfl rfl
 ·intro a w2 j c d k f;exact nR aj ⟨c,d,b7 (E:=[(30,.pointer (some ⟨b,1,none⟩))]) ⟨f 4 rfl _ _ rfl rfl,trivial⟩⟩ rfl rfl rfl rfl rfl rfl (I.bL.cj j) [.slice X aD.length Z] rfl rfl (.inr rfl) (.slice X aD.length Z) rfl
 ·intro a w2 j c d k f;exact c3 aj ⟨c,d,b7 (E:=[(7,.pointer (some ⟨q,0,none⟩))]) ⟨k 7 rfl _ rfl,trivial⟩⟩ rfl rfl rfl rfl rfl
 ·intro a w2 j c d k f;exact nR aj ⟨c,d,b7 (E:=[(32,.pointer (some ⟨q,0,none⟩))]) ⟨f 6 rfl _ _ rfl rfl,trivial⟩⟩ rfl rfl rfl rfl rfl rfl (aG.cj j) [.int .u64 z.aa] rfl rfl (.inr rfl) (.int .u64 z.aa) rfl
 ·intro a w2 j c d k f;exact c3 aj ⟨c,d,b7 (E:=[(7,.pointer (some ⟨q,0,none⟩))]) ⟨k 7 rfl _ rfl,trivial⟩⟩ rfl rfl rfl rfl rfl
 ·intro a w2 j c d k f;exact nR aj ⟨c,d,b7 (E:=[(34,.pointer (some ⟨q,1,none⟩))]) ⟨f 8 rfl _ _ rfl rfl,trivial⟩⟩ rfl rfl rfl rfl rfl rfl (aG.cj j) [.slice G z.bj.length H] rfl rfl (.inr rfl) (.slice G z.bj.length H) rfl
 ·intro a w2 j c d k f;exact(aeZ (O:=[]) ⟨c,d,b7 (E:=[(35,.slice G z.bj.length H)]) ⟨f 9 rfl _ _ rfl rfl,trivial⟩⟩ rfl rfl rfl rfl acs rfl ((ah' (qV _) (ξa _) (aI.tr (L.fr.trans j).dY) bc).mono λ_ _ aX=>OV rfl aX)).weaken (λu w3 ⟨hu,D⟩=>⟨hu.less j.size,D⟩)
 ·intro a w2 j c d k f;have d88:c4 TW 35 F.heap.size w2 (a.tmps.getD 36 undef) ws:=f 10 rfl _ _ rfl rfl;obtain⟨u,aw⟩: ∃v,a.tmps.getD 36 undef=v:=⟨_,rfl⟩;rw[aw] at d88;obtain⟨V,Y,rfl,_,_⟩:=d88.form;exact(c3 aj ⟨c,d,b7 (E:=[(33,.int .u64 z.aa),(36,.slice V ws.length Y)]) ⟨f 7 rfl _ _ rfl rfl,aw,trivial⟩⟩ rfl rfl rfl rfl rfl).weaken (λu w3 ⟨hu,D⟩=>by subst hu;exact⟨⟨_,rfl,d88.cj gX D⟩,D⟩)
 ·intro a w2 j c d k f;have d96: ∃v,(a.tmps.getD 37 undef)= .agg #[.int .u64 z.aa,v]/\c4 TW 35 F.heap.size w2 v ws:=f 11 rfl _ _ rfl rfl;obtain⟨bB,aM,ay⟩:=d96;obtain⟨V,Y,rfl,_,_⟩:=ay.form;exact(ae2 aj ⟨c,d,b7 (E:=[(37,.agg #[.int .u64 z.aa,.slice V ws.length Y])]) ⟨aM,trivial⟩⟩ rfl rfl rfl rfl rfl rfl rfl rfl rfl (T:=TR) (xs:=[(z.aa,.slice V ws.length Y)]) (vs:=[.agg #[.int .u64 z.aa,.slice V ws.length Y]]) rfl ⟨⟨_,⟨rfl,_,_,_,rfl⟩,rfl⟩,trivial⟩ rfl rfl rfl (j.ob ag)).weaken (λu w3 ⟨hu,D⟩=>⟨⟨_,hu,ay.cj gX D⟩,D⟩)
 ·intro a w2 j c d f;obtain⟨o,aH,P⟩: ∃v,TR.slice.is (q::ao) w2 (a.tmps.getD 38 undef) [(z.aa,v)]/\c4 TW 35 F.heap.size w2 v ws:=f 12 rfl _ _ rfl rfl;obtain⟨bf,av⟩: ∃v,a.tmps.getD 38 undef=v:=⟨_,rfl⟩;rw[av] at aH;obtain⟨aF,_⟩:=Nl (p:=(z.aa,o)) hlen aE;exact eP.weaken (aeY aj ⟨c,d,b7 (E:=[(31,.slice X aD.length Z),(38,bf)]) ⟨f 5 rfl _ _ rfl rfl,av,trivial⟩⟩ rfl rfl rfl rfl rfl rfl rfl rfl rfl rfl rfl rfl rfl rfl rfl (L.fr.trans j) (j.ob ag) (I.row.cj j) aH aF) (λ_ _ ⟨O',h⟩=>⟨o,O',P,h⟩)
 ·rintro w1 w2 u bn ⟨o,O',P,ap⟩ a w' j c d k;exact c3 aj ⟨c,d,b7 (E:=[(5,.pointer (some ⟨b,0,none⟩))]) ⟨k 5 rfl _ rfl,trivial⟩⟩ rfl rfl rfl rfl rfl
 rintro w9 bD u a bE f9 ⟨o,aJ,P,ap⟩ f10 c d ai aY hu;have ap:=dD.later ap f10;have t:=I.cj f9;have aC:=L.trans (bO.nO ag L.tr.size f9);obtain⟨aF,rfl⟩:=Nl (p:=(z.aa,o)) hlen aE;have aB:=aC.trans (bO.II aC.tr.size t.row ap);obtain⟨ad,ae,rfl,bo,bt⟩:=ap.own.form;refine rG (E:=[(5,.pointer (some ⟨b,0,none⟩)),(20,.slice B x0.an.length C),(21,.int .i64 (x0.an.length:Int)),(22,.int .i64 (i:Int)),(26,.pointer (some ⟨b,0,none⟩)),(39,.slice ad (aD++[(z.aa,o)]).length ae)]) (l:=[14,15,16,17]) c d ⟨ai 5 _ rfl rfl,ai 20 _ rfl rfl,ai 21 _ rfl rfl,ai 22 _ rfl rfl,aY 0 _ _ rfl rfl,hu,trivial⟩ rfl (aK aj [14,15,16] [(5,.pointer (some ⟨b,0,none⟩)),(20,.slice B x0.an.length C),(21,.int .i64 (x0.an.length:Int)),(22,.int .i64 (i:Int)),(39,.slice ad (aD++[(z.aa,o)]).length ae),(42,.pointer (some ⟨b,1,none⟩))] rfl ⟨rfl,rfl,rfl,rfl,rfl,rfl,trivial⟩ ?_);have aS:=ap.bL t.bL t.rb;refine eX aj rfl rfl rfl rfl rfl rfl rfl aS [.slice ad (aD++[(z.aa,o)]).length ae] rfl rfl (by simp[υ]) rfl [nv,.slice ad (aD++[(z.aa,o)]).length ae] rfl (λbF aT f11=>?_);have aQ:=aB.trans (bO.gk aB.ob (ap.sub _ t.mem) t.ge f11);have a7:=acU P ag;have aP:=t.boxes (x':=aL.mk ns (acc++[ar.mk z.aa ws])) (S':=S++(o.ownBlock.toList++[])) ap aT f11
  (by rw[ξC];exact t.fo.app ⟨[],rfl,rfl,P.less (μ L.tr.size (ξa _)),rfl⟩)
  (by
   rw[ζd];refine ζ1.2 ⟨t.nd,by cases o.ownBlock<;>simp,λg n bl aW e=>?_⟩;subst e;have h1:=(I.fo.lt _ n).2;have bm:=(P.lt g (by simpa using aW)).1;omega)
  (λg n=>by
   rcases ξA.1 n with n|n
   ·exact t.out g n
   ·exact a7 g (by simpa using n)) rfl
 refine a_ (rH (aV ?_));refine bg (l:=[0,1]) rfl (aK aj [0,1] [(5,.pointer (some ⟨b,0,none⟩)),(20,.slice B x0.an.length C),(21,.int .i64 (x0.an.length:Int)),(22,.int .i64 (γ.wrap ((i:Int)+(1:Int))))] rfl ⟨rfl,rfl,rfl,rfl,trivial⟩ (a_ ?_));exact yP rest.length [(5,.pointer (some ⟨b,0,none⟩)),(20,.slice B x0.an.length C),(21,.int .i64 (x0.an.length:Int)),(22,.int .i64 ((i+1:Nat):Int))] (ζa _) ⟨rfl,rfl,rfl,congrArg (λz=>some (ζJ .i64 z)) (ml hl (μ aZ a1)),trivial⟩ ⟨rest,i+1,aJ,_,_,_,_,rfl,ak,rfl,aQ,aP,y⟩
noncomputable def pc (L:List (Value×Value)):Γb:=L.flatMap λp=>[p.1,p.2]
theorem fv: ∀(L:List (Value×Value)),(pc L).length=L.length*2
 |[]=>rfl
 |_::r=>by have:=fv r;unfold pc at this ⊢;simp[this];omega
theorem I1 (L M:List (Value×Value)):pc (L++M)=pc L++pc M:=by simp[pc]
theorem xQ: ∀(L:List (Value×Value)) (k:Nat),(pc L).take (k*2)=pc (L.take k)
 |[],k=>by simp[pc]
 |x::r,0=>by simp[pc]
 |x::r,k+1=>by
  have:=xQ r k;show([x.1,x.2]++pc r).take ((k+1)*2)=[x.1,x.2]++pc (r.take k);rw[show(k+1)*2=2+k*2 by omega,List.take_append,<-this,ξD (by simp)];simp
theorem xP: ∀(L:List (Value×Value)) (k:Nat),(pc L).drop (k*2)=pc (L.drop k)
 |[],k=>by simp[pc]
 |x::r,0=>by simp
 |x::r,k+1=>by
  have:=xP r k;show([x.1,x.2]++pc r).drop ((k+1)*2)=pc (r.drop k);rw[show(k+1)*2=2+k*2 by omega,List.drop_append,<-this];simp
theorem afu {L:List (Value×Value)} {R:Γb} {k:Nat} {x:Value×Value} (h:L[k]? =some x):((pc L++R).drop (k*2)).take 2=[x.1,x.2]:=by
 have hk:=(δ.1 h).1;rw[ξJ (by rw[fv];omega),xP,ξt hk,(δ.1 h).2];rfl
theorem afv {L:List (Value×Value)} {R:Γb} {k:Nat} {x:Value×Value} (hk:k<L.length):putAt (pc L++R) (k*2) [x.1,x.2]=pc (L.set k x)++R:=by
 unfold putAt;have e:L.set k x=L.take k++[x]++L.drop (k+1):=by
  rw[List.set_eq_take_append_cons_drop,if_pos hk];simp
 rw[e,I1,I1,ξg (by rw[fv];omega),xQ,ξJ (by rw[fv];simp;omega)];rw[show k*2+[x.1,x.2].length=(k+1)*2 by simp;omega,xP];simp[pc]
noncomputable def rp (r:Int×Value):Value×Value:=(.int .u64 r.1,r.2)
noncomputable def rc (aD:Γd):Γb:=pc (aD.map rp)
theorem Jd {L:Γd} {R:Γb} {k:Nat} {x:Int×Value} (h:L[k]? =some x):((rc L++R).drop (k*2)).take 2=[.int .u64 x.1,x.2]:=
 afu (x:=rp x) (by simp[h])
theorem SJ {L:Γd} {R:Γb} {k:Nat} {x:Int×Value} (hk:k<L.length):putAt (rc L++R) (k*2) [.int .u64 x.1,x.2]=rc (L.set k x)++R:=by
 have:=afv (L:=L.map rp) (R:=R) (x:=rp x) (k:=k) (by simpa using hk);rw[show[(rp x).1,(rp x).2]=[.int .u64 x.1,x.2] from rfl] at this;rw[rc,this,rc];simp[η9]
theorem Jf {O:Γ} {w:World}: ∀ {L:Γd},(∀r∈L,∃A n c,r.2= .slice A n c)->bY TR O w (rc L) L
 |[],_=>rfl
 |r::L,h=>⟨[.int .u64 r.1,r.2],rc L,rfl,⟨rfl,h r τ⟩,Jf λx a=>h x (ξ4 _ a)⟩
theorem Jx {O:Γ} {w:World}: ∀ {L:Γd} {cs:Γb},bY TR O w cs L->cs=rc L/\ ∀r∈L,∃A n c,r.2= .slice A n c
 |[],_,h=>⟨h,by simp⟩
 |r::L,cs,⟨c1,c2,h1,b,d⟩=>by
  obtain⟨e,f⟩:=Jx d;subst h1;rw[b.1,e];refine⟨rfl,λx a=>?_⟩;rcases ξB.1 a with rfl|a
  ·exact b.2
  ·exact f x a
noncomputable def Ti:Value->Nat
 | .slice _ n _=>n
 |_=>0
noncomputable def emp (r:Int×Value):Bool:=Ti r.2==0
noncomputable def ic:Γd->Nat->Int
 |[],_=> -1
 |r::rest,k=>bif emp r then(k:Int) else ic rest (k+1)
theorem ab_ {n:Nat} {A:Option Addr} {c:Nat} {p:Int}:emp (p,.slice A n c)=((n:Int)==0):=by
 unfold emp Ti;cases h:n==0<;>simp_all
set_option maxRecDepth 100000 in
set_option maxHeartbeats 4000000 in
theorem Pg {O:Γ} {w:World} (hO:OB O w) {p:Int} {A:Option Addr} {n c:Nat}:Calls η 263 #[.agg #[.int .u64 p,.slice A n c]] w (gn (oc Ty.bool) O w (emp (p,.slice A n c))):=by
 refine gx (args:=[.agg #[.int .u64 p,.slice A n c]]) (N:=7) η8 rfl rfl rfl (aU (bg (l:=[0,1]) rfl (mj rfl rfl rfl rfl rfl rfl [.int .u64 p,.slice A n c] rfl hO (λa w1 n1=>?_))));refine aK aj [1] [(1,.pointer (some ⟨a,0,none⟩))] rfl ⟨rfl,trivial⟩ (a_ (aV (aU (bg (l:=[0,1,2,3,4]) rfl (aK aj [0] [(3,.pointer (some ⟨a,1,none⟩))] rfl ⟨rfl,trivial⟩ (dR aj rfl rfl rfl rfl rfl rfl rfl n1.bL [.slice A n c] rfl rfl (.inr rfl) (.slice A n c) rfl (aK aj [2,3,4] [(2,.bool ((n:Int)==0))] rfl ⟨rfl,trivial⟩ (a_ (aV (dC (eY rfl ⟨_,rfl,?_,n1.fr⟩)))))))))));exact jx.2 (by rw[ab_];rfl)
set_option maxRecDepth 100000 in
set_option maxHeartbeats 4000000 in
theorem aic {O:Γ} {w:World} (hO:OB O w) {v:Value} {aD:Γd} (h:TR.slice.is [] w v aD):Calls η 294 #[v,.func (.func 263) #[] #[]] w (gn (oc (Ty.int .i64)) O w (ic aD 0)):=by
 obtain⟨A,c,rfl,n,o⟩:=eW h;refine gx (args:=[.slice A aD.length c,.func (.func 263) #[] #[]]) (N:=19) η5 rfl rfl rfl (aU (bg (l:=[0]) rfl (aK aj [0] [(0,.slice A aD.length c),(1,.func (.func 263) #[] #[])] rfl ⟨rfl,rfl,trivial⟩ (a_ (aV (aU (aU (bg (l:=[0,1,2]) rfl (aK aj [0,1,2] [(0,.slice A aD.length c),(1,.func (.func 263) #[] #[]),(7,.int .i64 (aD.length:Int)),(8,.int .i64 ((0:Nat):Int))] rfl ⟨rfl,rfl,rfl,rfl,trivial⟩ (a_ (aV (mh ?_))))))))))));refine Ki (λm E W=> ∃(rest:Γd) (i:Nat),rest.length=m/\aD.drop i=rest/\E=[(0,.slice A aD.length c),(1,.func (.func 263) #[] #[]),(7,.int .i64 (aD.length:Int)),(8,.int .i64 (i:Int))]/\Fr [] w W/\ic rest i=ic aD 0) _
  [(0,.slice A aD.length c),(1,.func (.func 263) #[] #[]),(7,.int .i64 (aD.length:Int)),(8,.int .i64 ((0:Nat):Int))] ⟨rfl,rfl,rfl,rfl,trivial⟩ ⟨aD,0,rfl,rfl,rfl,Fr.refl _ _,rfl⟩ ?_
 rintro m E W ⟨rest,i,rfl,g,rfl,a,b⟩;rcases rest with _|⟨z,rest⟩
 ·have hl:=drop_nil g;have d:(decide ((i:Int)<(aD.length:Int)))=false:=decide_eq_false (by omega);refine aU (bg (l:=[0]) rfl (aK aj [0] [(9,.bool (decide ((i:Int)<(aD.length:Int))))] rfl ⟨rfl,trivial⟩ (a_ (aV (aU (fK rfl d (Kh (ou (ou (Kp (aV ?_)))))))))));refine aU (bg (l:=[0]) rfl (aK aj [0] [(4,.int .i64 (-1))] rfl ⟨rfl,trivial⟩ (a_ (aV (dC ?_)))));exact eY rfl ⟨_,rfl,du.2 (by rw[<-b];rfl),a⟩
 obtain⟨hl,k,j⟩:=drop_cons g;have d:(decide ((i:Int)<(aD.length:Int)))=true:=decide_eq_true (by omega);refine aU (bg (l:=[0]) rfl (aK aj [0] [(0,.slice A aD.length c),(1,.func (.func 263) #[] #[]),(7,.int .i64 (aD.length:Int)),(8,.int .i64 (i:Int)),(9,.bool (decide ((i:Int)<(aD.length:Int))))] rfl ⟨rfl,rfl,rfl,rfl,rfl,trivial⟩ (a_ (aV (aU (fB rfl d (eF (aV (aU (mh (aU (bg (l:=[0,1]) rfl (aK aj [0,1] [(0,.slice A aD.length c),(1,.func (.func 263) #[] #[]),(5,.int .i64 (i:Int)),(7,.int .i64 (aD.length:Int)),(8,.int .i64 (i:Int))] rfl ⟨rfl,rfl,rfl,rfl,rfl,trivial⟩ (a_ (aV (aU (bg (l:=[0,1,2,3,4,5]) rfl (aK aj [0,1,2] [(0,.slice A aD.length c),(1,.func (.func 263) #[] #[]),(5,.int .i64 (i:Int)),(7,.int .i64 (aD.length:Int)),(8,.int .i64 (i:Int)),(11,.func (.func 263) #[] #[]),(12,.slice A aD.length c),(13,.int .i64 (i:Int))] rfl ⟨rfl,rfl,rfl,rfl,rfl,rfl,rfl,rfl,trivial⟩ (Ko aj rfl rfl rfl rfl rfl rfl rfl rfl rfl rfl h rfl (ζq _) (by rw[ι];exact k) (λt r=>?_))))))))))))))))))));refine Vp aj rfl rfl rfl rfl rfl rfl rfl r a rfl rfl (λv6 s=>?_);obtain⟨cs,⟨rfl,A2,n2,c2,e⟩,rfl⟩:=s;obtain⟨p,q⟩:=z;simp only at e;subst e;refine Vn (O:=O) (first:=[]) (cap:=[]) rfl rfl rfl rfl rfl rfl rfl N3 (Pg (a.ob hO)) (λu x g7 f7=>?_);obtain rfl:=jx.1 g7;have a:=a.trans f7;rw[ic] at b;refine a_ (aV ?_);rcases f:emp (p,.slice A2 n2 c2) with _|_
 ·refine k3 rfl (eF (rH (aV ?_)));refine bg (l:=[0,1]) rfl (aK aj [0,1] [(0,.slice A aD.length c),(1,.func (.func 263) #[] #[]),(7,.int .i64 (aD.length:Int)),(8,.int .i64 (γ.wrap ((i:Int)+(1:Int))))] rfl ⟨rfl,rfl,rfl,rfl,trivial⟩ (a_ ?_));rw[f] at b;exact yP rest.length [(0,.slice A aD.length c),(1,.func (.func 263) #[] #[]),(7,.int .i64 (aD.length:Int)),(8,.int .i64 ((i+1:Nat):Int))] (ζa _) ⟨rfl,rfl,rfl,congrArg (λz=>some (ζJ .i64 z)) (ml hl (μ n o)),trivial⟩ ⟨rest,i+1,rfl,j,rfl,a,b⟩
 ·refine oo rfl (aU (bg (l:=[0,1]) rfl (aK aj [0,1] [(4,.int .i64 (i:Int))] rfl ⟨rfl,trivial⟩ (a_ (aV (dC ?_))))));rw[f] at b;exact yO (fC (fC (yO (fC (eY rfl ⟨_,rfl,du.2 (by rw[<-b];rfl),a⟩)))))
theorem Og: ∀(L:Γd) (k:Nat),(ic L k= -1/\L.filter (λr=>!emp r)=L)\/ ∃i x,ic L k=((k+i:Nat):Int)/\L[i]? =some x/\emp x=true/\(L.take i).filter (λr=>!emp r)=L.take i
 |[],k=>.inl ⟨rfl,rfl⟩
 |r::L,k=>by
  rw[ic];cases b:emp r with
  |true=>exact .inr ⟨0,r,rfl,rfl,b,rfl⟩
  |false=>
   rcases Og L (k+1) with⟨h1,a⟩|⟨i,x,h1,a,c,d⟩
   ·exact .inl ⟨h1,by rw[ξK,b];simp only[ξY,if_true];rw[a]⟩
   ·exact .inr ⟨i+1,x,by rw[show k+(i+1)=k+1+i by omega];exact h1,by simpa using a,c,by
     rw[List.take_succ_cons,ξK,b];simp only[ξY,if_true];rw[d]⟩
theorem Oq {p:Int×Value->Bool} {L:Γd} {j:Nat} {x:Int×Value} (h:L[j]? =some x):(L.take (j+1)).filter p=(L.take j).filter p++bif p x then[x] else[]:=by
 rw[ζw,h,List.filter_append];cases hp:p x<;>simp[hp]
theorem Vm {P:Program} {r:Option Nat} {N:Nat} {Θ:cK} {ops:Array Oper} {Q:Exit->Act->World->Prop} {l:Γ} {E:Env} {ds:List Deferred} {w:World} {i:Nat} {o:Oper} (p:Θ.ok P) (A:ops[i]? =some o) (hw:want N ops E o.guard=some true) (y:o.dst=none) {t:Nat} {x:Operand} {j b:TI}
  (n:o.op= .call {callee:=.builtin .clear,args:= #[x],argTypes:= #[t]}) (C:Θ.get t=some j) (q:j.tag=5) (D:Θ.get j.e=some b) {g of m c e k:Nat} {cur:Array Value} (F:ev E x=some (.slice (some ⟨g,of,none⟩) (m+1) c)) (d:w.heap[g]? =some (.cells cur e (0,0))) (G:b.zero.cells.size=k) (h1: ∀u∈(ξ2 b.zero.cells (m+1)).toList,u.oneCell'=true) (H:of+(m+1)*k<=cur.size)
  (h: ∀(W:World) (new:Array Value),Fr [g] w W->W.heap[g]? =some (.cells new e (0,0))->new=(cur.toList.take of++(ξ2 b.zero.cells (m+1)).toList++cur.toList.drop (of+(m+1)*k)).toArray->WO P r N ops Q l E ds W):WO P r N ops Q (i::l) E ds w:=by
 have hu:=(p.fits C).slice q;have hl:(ξ2 b.zero.cells (m+1)).toList.length=(m+1)*k:=by rw[χ,size_zeroCells,G]
 have f:=run_storeCells_at P g of e (ξ2 b.zero.cells (m+1)).toList 0 cur w d (by rw[hl];omega) h1;rw[hl] at f;simp only[ξy] at f;have B:(ζO #[t] o.type #[.slice (some ⟨g,of,none⟩) (m+1) c]).run P w= .ok (.tuple #[]) (w.setRow g (cur.toList.take of++(ξ2 b.zero.cells (m+1)).toList++cur.toList.drop (of+(m+1)*k)).toArray):=by
  simp only[ζO,ξx,List.getElem?_toArray,ξ9,run_underlying hu,ξr];simp[mm (p.fits D),f]
 have z:=h (w.setRow g (cur.toList.take of++(ξ2 b.zero.cells (m+1)).toList++cur.toList.drop (of+(m+1)*k)).toArray) _ (j1 d) (by simp only[ηa,ζf,d,if_true,ω]) rfl;refine ajU (v:=.tuple #[]) A hw y (by rw[n];simp) (λa s=>?_) z;simp only[execOp,n,ξx,resolve,ζe,ξr,invoke,builtin,ζ9,ξz,ξV,s.eval F,B]
theorem Vt {n:Nat} {a b u:Value} (c:a.oneCell'=true) (d:b.oneCell'=true) (h:u∈(ξ2 (ηb #[a,b]).cells n).toList):u.oneCell'=true:=by
 simp only[ξ2,Value.cells,Array.toList_map,ζC] at h;obtain⟨i,_,rfl⟩:=h;rcases Nat.mod_two_eq_zero_or_one i with h|h<;>simp[h,c,d]
set_option maxRecDepth 100000 in
set_option maxHeartbeats 4000000 in
theorem aia {O:Γ} {w:World} (hO:OB O w) {B:Nat} {v:Value} {aD:Γd} (f:Go.Dc.Own TR 132 B O w v aD):Calls η 262 #[v,.func (.func 263) #[] #[]] w (eN TR 132 B O w v (aD.filter λr=>!emp r)):=by
 obtain⟨A,c,rfl,a7,aX⟩:=f.form;refine gx (args:=[.slice A aD.length c,.func (.func 263) #[] #[]]) (N:=42) η7 rfl rfl rfl (aU (bg (l:=[0]) rfl (aK aj [0] [(0,.slice A aD.length c),(1,.func (.func 263) #[] #[])] rfl ⟨rfl,rfl,trivial⟩ (a_ (aV (aU (bg (l:=[0,1,2,3]) rfl (aK aj [0,1] [(0,.slice A aD.length c),(1,.func (.func 263) #[] #[]),(8,.slice A aD.length c),(9,.func (.func 263) #[] #[])] rfl ⟨rfl,rfl,rfl,rfl,trivial⟩ ?_))))))));refine yN rfl rfl rfl rfl rfl acp rfl (aic hO (f.iL.data (Jc _) (λ_ _ h=>by cases h))) (λv2 w2 g2 f2=>?_);obtain rfl:=du.1 g2;refine aK aj [3] [(0,.slice A aD.length c),(1,.func (.func 263) #[] #[]),(5,.int .i64 (ic aD 0))] rfl ⟨rfl,rfl,rfl,trivial⟩ (a_ (aV (aU (aU (bg (l:=[0,1]) rfl (aK aj [0,1] [(0,.slice A aD.length c),(1,.func (.func 263) #[] #[]),(5,.int .i64 (ic aD 0)),(12,.bool ((ic aD 0)== -1))] rfl ⟨rfl,rfl,rfl,rfl,trivial⟩ (a_ (aV ?_))))))));rcases Og aD 0 with⟨d,az⟩|⟨i0,x0,d,ae,ax,ay⟩
 ·refine fB rfl (by rw[d];rfl) ?_;refine aU (bg (l:=[0,1]) rfl (aK aj [0,1] [(4,.slice A aD.length c)] rfl ⟨rfl,trivial⟩ (a_ (aV (dC (fC (eY rfl ⟨_,O,rfl,?_⟩)))))));rw[az];exact⟨f.cj f2,f2.dY,f2.ob hO,Sub.refl _,λk hk _=>f2.block k hk (by simp),λ_ _ h=>h⟩
 rw[ψ] at d;refine fK rfl (by rw[d];exact beq_eq_false_iff_ne.2 (by omega)) ?_;rw[d];refine eF (aV ?_);obtain⟨cs,⟨aW,F⟩,aI⟩:=f.ex;have aa:=(δ.1 ae).1;rcases F with⟨_,a1⟩|⟨g,cap,cur,F,ah,aB,ab,av,V,X⟩
 ·omega
 injection F with ag a6 au;subst ag;subst au;have aA:=f.mem g rfl;obtain⟨aw,Z⟩:=Jx aI;have al:TR.n=2:=rfl;rw[al] at V X;obtain⟨R,hR⟩: ∃R,R=cur.toList.drop (aD.length*2):=⟨_,rfl⟩;have Y:cur.toList=rc aD++R:=by
  rw[hR,<-aw,<-X];exact(ξd _ _).symm
 have aT:aD.length*2+R.length=c*2:=by
  have:=congrArg ζ5 Y;rw[χ,V] at this;simp only[ν,rc,fv,ρ] at this;omega
 have s:bM w g 132 (rc aD++R):=by
  unfold bM;rw[<-Y,ξO];exact aB
 have ao:=s.cj f2;have aN:γ.wrap ((i0:Int)+1)=((i0+1:Nat):Int):=ml aa (by omega);refine aU (aU (bg (l:=[0,1,2]) rfl (aK aj [0,1,2] [(0,.slice (some ⟨g,0,none⟩) aD.length c),(1,.func (.func 263) #[] #[]),(5,.int .i64 (i0:Int)),(6,.int .i64 (γ.wrap ((i0:Int)+1)))] rfl ⟨rfl,rfl,rfl,rfl,trivial⟩ ?_)));rw[aN];refine a_ (aV (mh ?_));refine Ki (λm E W=> ∃(i j:Nat) (M:Γd),aD.length-j=m/\i<j/\j<=aD.length/\E=[(0,.slice (some ⟨g,0,none⟩) aD.length c),(1,.func (.func 263) #[] #[]),(5,.int .i64 (i:Int)),(6,.int .i64 (j:Int))]/\Fr [g] w W/\bM W g 132 (rc M++R)/\M.length=aD.length/\M.take i=(aD.take j).filter (λr=>!emp r)/\M.drop j=aD.drop j) _
  [(0,.slice (some ⟨g,0,none⟩) aD.length c),(1,.func (.func 263) #[] #[]),(5,.int .i64 (i0:Int)),(6,.int .i64 ((i0+1:Nat):Int))] ⟨rfl,rfl,rfl,rfl,trivial⟩ ⟨i0,i0+1,aD,rfl,ζa _,aa,rfl,f2.more (by simp),ao,rfl,by rw[Oq ae,ay,ax];simp,rfl⟩ ?_
 rintro m E W ⟨i,j,M,hm,aY,aZ,rfl,a,t,Q,b,L⟩;refine aU (aU (bg (l:=[0,1,2,3]) rfl (aK aj [0,1,2,3] [(0,.slice (some ⟨g,0,none⟩) aD.length c),(1,.func (.func 263) #[] #[]),(5,.int .i64 (i:Int)),(6,.int .i64 (j:Int)),(19,.bool (decide ((j:Int)<(aD.length:Int))))] rfl ⟨rfl,rfl,rfl,rfl,rfl,trivial⟩ (a_ (aV ?_)))))
 by_cases D:j<aD.length
 case neg=>
  refine fK rfl (decide_eq_false (by omega)) ?_;refine Kh (ou (ou (Kp (aV ?_))));refine aU (bg (l:=[0,1,2,3]) rfl (aK aj [0,1] [(0,.slice (some ⟨g,0,none⟩) aD.length c),(5,.int .i64 (i:Int)),(36,.slice (some ⟨g,0,none⟩) aD.length c),(37,.int .i64 (i:Int))] rfl ⟨rfl,rfl,rfl,rfl,trivial⟩ (rF aj rfl rfl rfl rfl rfl rfl rfl rfl rfl rfl ab (by omega) ?_)));rw[if_neg (by omega),ω,e',ψ];obtain⟨q,aH⟩: ∃q,aD.length-i=q+1:=⟨aD.length-i-1,by omega⟩;rw[aH];have aM:(rc M++R).length=c*2:=by simp only[ν,rc,fv,ρ];omega
  refine Vm (k:=2) aj rfl rfl rfl rfl rfl rfl rfl rfl t rfl (λu hu=>Vt rfl rfl hu) (by simp only[ζ2,aM];show i*2+(q+1)*2<=c*2;omega) (λaf new aL aJ aF=>?_);have ai:Fr [g] w af:=a.trans aL;have a8:(rc M++R).take (i*2)=rc (M.take i):=by
   unfold rc;rw[ξg (by rw[fv,ρ];omega),xQ,ζ6]
  have ad:new.toList=rc (M.take i)++((ξ2 (ηb #[.int .u64 0,.slice none 0 0]).cells (q+1)).toList++(rc M++R).drop (i*2+(q+1)*2)):=by
   rw[aF];simp only[ξR,ξs]
   congr 1
  have aG:new.size=c*2:=by
   rw[<-χ,ad];simp only[ν,ξL,χ,size_zeroCells,rc,fv,ρ,ξh];show min i M.length*2+((q+1)*2+(M.length*2+R.length-(i*2+(q+1)*2)))=c*2;omega
  refine a_ (aV (aU (bg (l:=[0,1,2,3]) rfl (aK aj [0,1] [(39,.slice (some ⟨g,0,none⟩) aD.length c),(40,.int .i64 (i:Int))] rfl ⟨rfl,rfl,trivial⟩ (Km aj rfl rfl rfl rfl rfl rfl rfl rfl rfl rfl ab (by omega) ?_)))));refine aK aj [3] [(4,.slice (some ⟨g,0,none⟩) i c)] rfl ⟨rfl,trivial⟩ (a_ (aV (dC (eY rfl ⟨_,O,rfl,?_⟩))));have aE:aD.take j=aD:=ξD (by omega);rw[aE] at b;have aC:(aD.filter λr=>!emp r).length=i:=by rw[<-b,ξh];omega
  have:=Kq (T:=TR) (e:=132) (B:=B) (n0:=aD.length) (zs:=aD.filter λr=>!emp r) (cap:=c) hO aA ah ai aJ aG av (by omega) (Jf λx aO=>Z x (ξQ.1 aO).1) (by
   rw[ad,b];refine ξS ?_;rw[rc,fv,ρ];rfl)
  rw[aC] at this;exact this
 refine fB rfl (decide_eq_true (by omega)) ?_;refine eF (aV ?_);obtain⟨z,G⟩: ∃x,aD[j]? =some x:=⟨_,ε D⟩;have ak:M[j]? =some z:=by
  have:=congrArg (·[0]?) L;simp only[ξW,ξy] at this;rw[this,G]
 obtain⟨A2,n2,c2,I⟩:=Z z (ξ3 G);obtain⟨p,q⟩:=z;simp only at I;subst I;have P: ∀(C:Γd),(∀k,j<k->C[k]? =M[k]?)->C.drop (j+1)=aD.drop (j+1):=by
  intro C h;apply ζx;intro k;have:=congrArg (·[k+1]?) L;simp only[ξW] at this ⊢;rw[h _ (by omega),show j+1+k=j+(k+1) by omega,this]
 have H: ∀j:Nat,(j:Int).toNat*({tag:=8,k:=0,e:=0,fs:=[(29,0),(40,1)],size:=2,bytes:=32,zero:=.agg #[.int .u64 0,.slice none 0 0]}:TI).size=j*2:=λj=>by rw[ι]
 refine aU (mh (aU (bg (l:=[0,1,2,3,4,5]) rfl (aK aj [0,1] [(0,.slice (some ⟨g,0,none⟩) aD.length c),(1,.func (.func 263) #[] #[]),(5,.int .i64 (i:Int)),(6,.int .i64 (j:Int)),(22,.slice (some ⟨g,0,none⟩) aD.length c),(23,.int .i64 (j:Int))] rfl ⟨rfl,rfl,rfl,rfl,rfl,rfl,trivial⟩ (ot aj rfl rfl rfl rfl rfl rfl rfl rfl rfl rfl (by omega) (by rw[ι];omega) ?_)))));rw[H,e',ψ];refine dR aj rfl rfl rfl rfl rfl rfl rfl t [.int .u64 p,.slice A2 n2 c2] (Jd ak) rfl (.inl rfl) (.agg #[.int .u64 p,.slice A2 n2 c2]) rfl (rE aj rfl rfl rfl rfl rfl rfl [.int .u64 0,.slice none 0 0] rfl (a.ob hO) (λo ba n7=>?_));refine eX aj rfl rfl rfl rfl rfl rfl rfl n7.bL [.int .u64 p,.slice A2 n2 c2] rfl rfl (by simp[υ]) rfl [.int .u64 p,.slice A2 n2 c2] rfl (λaQ S f8=>?_);have aP:g≠o:=by have:=t.lt;have:=n7.ge;omega
 have ar:=(t.cj n7.fr).fr f8 (by simp;exact aP);have J:Fr [g] w aQ:=by
  refine⟨f8.os.trans (n7.fr.os.trans a.os),f8.tape.trans (n7.fr.tape.trans a.tape),f8.output.trans (n7.fr.output.trans a.output),μ a.size (μ n7.fr.size f8.size),λk hk hn=>?_⟩;have h1:=a.size;have aR:=n7.ge;have aS:=n7.fr.size;rw[f8.block k (by omega) (by simp;omega),n7.fr.block k (by omega) (by simp),a.block k hk hn]
 refine a_ (aV (aU (bg (l:=[0,1,2,3]) rfl (aK aj [0] [(0,.slice (some ⟨g,0,none⟩) aD.length c),(1,.func (.func 263) #[] #[]),(5,.int .i64 (i:Int)),(6,.int .i64 (j:Int)),(7,.pointer (some ⟨o,0,none⟩)),(26,.func (.func 263) #[] #[])] rfl ⟨rfl,rfl,rfl,rfl,rfl,rfl,trivial⟩ (dR aj rfl rfl rfl rfl rfl rfl rfl S [.int .u64 p,.slice A2 n2 c2] rfl rfl (.inl rfl) (.agg #[.int .u64 p,.slice A2 n2 c2]) rfl (Vn (O:=O) (first:=[]) (cap:=[]) rfl rfl rfl rfl rfl rfl rfl N3 (Pg (J.ob hO)) (λv9 w9 g9 f9=>?_)))))));obtain rfl:=jx.1 g9;have K:=J.trans (f9.more (by simp));have U:=ar.cj f9;have aq:=S.cj f9;refine aK aj [3] [(0,.slice (some ⟨g,0,none⟩) aD.length c),(1,.func (.func 263) #[] #[]),(5,.int .i64 (i:Int)),(6,.int .i64 (j:Int)),(7,.pointer (some ⟨o,0,none⟩)),(29,.bool (!emp (p,.slice A2 n2 c2)))] rfl ⟨rfl,rfl,rfl,rfl,rfl,rfl,trivial⟩ (a_ (aV ?_));have y:=Oq (p:=λr=>!emp r) G;rcases s:emp (p,.slice A2 n2 c2) with _|_
 ·rw[s] at y;refine oo rfl (aU (bg (l:=[0,1,2,3,4]) rfl (aK aj [0,1] [(0,.slice (some ⟨g,0,none⟩) aD.length c),(1,.func (.func 263) #[] #[]),(5,.int .i64 (i:Int)),(6,.int .i64 (j:Int)),(7,.pointer (some ⟨o,0,none⟩)),(30,.slice (some ⟨g,0,none⟩) aD.length c),(31,.int .i64 (i:Int))] rfl ⟨rfl,rfl,rfl,rfl,rfl,rfl,rfl,trivial⟩ (dR aj rfl rfl rfl rfl rfl rfl rfl aq [.int .u64 p,.slice A2 n2 c2] rfl rfl (.inl rfl) (.agg #[.int .u64 p,.slice A2 n2 c2]) rfl (ot aj rfl rfl rfl rfl rfl rfl rfl rfl rfl rfl (by omega) (by rw[ι];omega) ?_)))));rw[H,e',ψ];refine eX aj rfl rfl rfl rfl rfl rfl rfl U [.int .u64 p,.slice A2 n2 c2] rfl rfl (by simp[υ]) (ξe (by simp only[ν,rc,fv,ρ];show i*2+2<=_;omega)) (rc (M.set i (p,.slice A2 n2 c2))++R) (SJ (x:=(p,.slice A2 n2 c2)) (by omega)) (λa' an f10=>?_);refine a_ (aV (bg (l:=[0,1,2]) rfl (aK aj [0,1,2] [(0,.slice (some ⟨g,0,none⟩) aD.length c),(1,.func (.func 263) #[] #[]),(5,.int .i64 (γ.wrap ((i:Int)+1))),(6,.int .i64 (j:Int))] rfl ⟨rfl,rfl,rfl,rfl,trivial⟩ ?_)));rw[ml (show i<aD.length by omega) (by omega)];refine a_ (rH (aV ?_));refine bg (l:=[0,1,2]) rfl (aK aj [0,1,2] [(0,.slice (some ⟨g,0,none⟩) aD.length c),(1,.func (.func 263) #[] #[]),(5,.int .i64 ((i+1:Nat):Int)),(6,.int .i64 (γ.wrap ((j:Int)+1)))] rfl ⟨rfl,rfl,rfl,rfl,trivial⟩ ?_);rw[ml D (by omega)];refine a_ ?_;refine yP (aD.length-(j+1)) [(0,.slice (some ⟨g,0,none⟩) aD.length c),(1,.func (.func 263) #[] #[]),(5,.int .i64 ((i+1:Nat):Int)),(6,.int .i64 ((j+1:Nat):Int))] (by omega) ⟨rfl,rfl,rfl,rfl,trivial⟩ ⟨i+1,j+1,M.set i (p,.slice A2 n2 c2),rfl,by omega,by omega,rfl,K.trans f10,an,by rw[ξT];exact Q,?_,P _ (λk hk=>List.getElem?_set_ne (by omega))⟩;rw[y,<-b,ζw,List.take_set_of_le (by omega),List.getElem?_set_self (by omega)];rfl
 ·rw[s] at y;refine k3 rfl (eF (rH (aV ?_)));refine bg (l:=[0,1,2]) rfl (aK aj [0,1,2] [(0,.slice (some ⟨g,0,none⟩) aD.length c),(1,.func (.func 263) #[] #[]),(5,.int .i64 (i:Int)),(6,.int .i64 (γ.wrap ((j:Int)+1)))] rfl ⟨rfl,rfl,rfl,rfl,trivial⟩ ?_);rw[ml D (by omega)];refine a_ ?_;refine yP (aD.length-(j+1)) [(0,.slice (some ⟨g,0,none⟩) aD.length c),(1,.func (.func 263) #[] #[]),(5,.int .i64 (i:Int)),(6,.int .i64 ((j+1:Nat):Int))] (by omega) ⟨rfl,rfl,rfl,rfl,trivial⟩ ⟨i,j+1,M,rfl,by omega,by omega,rfl,K,U,Q,?_,P M (λ_ _=>rfl)⟩;rw[y,<-b];simp
end Go.Proofs.YtoggponeookhbaaGreatDoor
end
section


end
section
namespace Go.Proofs.YtoggponeookhbaaGreatDoor
open Go.RowKit Go.Dc Go.Vx
theorem OC: ∀ {S:Γ} {rs:Γd} {xs:List (Int×Γa)} {B:Nat} {w:World} {k:Nat} {r:Int×Value} {y:Int×Γa},c7 TW 35 B w S rs xs->rs[k]? =some r->xs[k]? =some y->r.1=y.1/\c4 TW 35 B w r.2 y.2/\ ∀g,r.2.ownBlock=some g->g∈S
 |_,x::rs,z::xs,_,_,0,r,y,⟨m,h1,f,j,l⟩,d,e=>by
  simp at d e;subst d;subst e;exact⟨h1,j,λg i=>by rw[f,i];simp⟩
 |_,x::rs,z::xs,_,_,k+1,r,y,⟨m,h1,f,j,l⟩,d,e=>by
  obtain⟨a,b,c⟩:=OC l (by simpa using d) (by simpa using e);exact⟨a,b,λg i=>by rw[f];exact ξm _ (c g i)⟩
 |_,[],_,_,_,_,_,_,_,d,_=>by simp at d
 |_,_::_,[],_,_,_,_,_,h,_,_=>h.elim
theorem aho {B:Nat} {a:Γ} {w:World} {rv:Value} {S:Γ} {aD:Γd} {bs:List ar} (q:c4 TR 132 B w rv aD) (b:c7 TW 35 B w S aD (bs.map bx)) (h1: ∀g,rv.ownBlock=some g->g∉a) (i: ∀g∈S,g∉a):(Ty.slice jh).is a w rv bs:=by
 have hlen:aD.length=bs.length:=by have:=b.len;simpa using this
 obtain⟨cs,⟨A,c,m,hl,t⟩,s⟩:=q.data (Jc _) h1;refine⟨cs,⟨A,c,by rw[<-hlen];exact m,by rw[<-hlen];exact hl,λk z hk=>?_⟩,s⟩;have d:k<aD.length:=by rw[hlen];exact(δ.1 hk).1
 obtain⟨ad,es,j,l,p,r,n⟩:=t k _ (ε d);obtain⟨e,f,h⟩:=OC b (ε d) (show(bs.map bx)[k]? =some (bx z) by simp[hk]);refine⟨ad,es,j,l,p,?_,n⟩;refine⟨[.int .u64 z.aa],[aD[k].2],?_,rfl,l3 rfl (f.data gX λg o=>i g (h g o))⟩;rw[r.1,e];rfl
theorem e_.abi {B:Nat} {O d:Γ} {w:World} {b:Nat} {nv rv:Value} {S:Γ} {aD:Γd} {x:aL} (h:e_ B O w b nv rv S aD x) (hO: ∀g∈d,g<B):(Ty.slice jh).is d w rv x.an:=
 aho h.row.iL h.fo (λg a c=>by have:=(h.row.lt g a).1;have:=hO g c;omega) (λg a c=>by have:=(h.fo.lt g a).1;have:=hO g c;omega)
theorem yx:dX.Flat:=λh=>h
noncomputable def mb (x:aL):aL:=aL.mk x.ak (x.an.filter λz=>!(z.bj.length==0))
noncomputable def w5 (fuel:Sh) (x:aL) (pid:Int):Option (aL×Int):=(HH fuel x.an pid).bind λf=>bif (!f.2) then(hS 32 x.an f.1 [ar.mk pid []]).bind λbs=>some (aL.mk x.ak bs,f.1) else some (x,f.1)
set_option maxRecDepth 100000 in
set_option maxHeartbeats 4000000 in
theorem adE {O:Γ} {w:World} (hO:OB O w) {B b:Nat} {x:aL} (n:cN KK [] w) (e:B<=w.heap.size) (h:j_ B O w b x) {pid:Int} {r:aL×Int} (a:w5 shut x pid=some r):
  Calls η 261 #[.pointer (some ⟨b,0,none⟩),.int .u64 pid] w (λm w'=>m= .returned (.int .i64 r.2)/\ ∃O',bO B O w O' w'/\j_ B O' w' b r.1):=by
 obtain⟨nv,rv,S,aD,h⟩:=h;unfold w5 at a;refine gx (args:=[.pointer (some ⟨b,0,none⟩),.int .u64 pid]) (N:=34) η6 rfl rfl rfl (aU (bg (l:=[0]) rfl (aK aj [0] [(0,.pointer (some ⟨b,0,none⟩)),(1,.int .u64 pid)] rfl ⟨rfl,rfl,trivial⟩ (a_ (aV (aU (bg (l:=[0,1,2,3,4,5,6,7,8,9,10,11]) rfl (aK aj [0,1,2,3] [(0,.pointer (some ⟨b,0,none⟩)),(1,.int .u64 pid),(11,.pointer (some ⟨b,1,none⟩))] rfl ⟨rfl,rfl,rfl,trivial⟩ ?_))))))));obtain⟨A1,c1,rfl,_,_⟩:=h.row.form;refine dR aj rfl rfl rfl rfl rfl rfl rfl h.bL [.slice A1 aD.length c1] rfl rfl (.inr rfl) (.slice A1 aD.length c1) rfl (aK aj [5] [(0,.pointer (some ⟨b,0,none⟩)),(1,.int .u64 pid),(12,.slice A1 aD.length c1),(13,.int .u64 pid)] rfl ⟨rfl,rfl,rfl,rfl,trivial⟩ ?_);obtain⟨f,u,a⟩:=bind_some a;refine yN rfl rfl rfl rfl rfl acn rfl (adF (qV _) n (h.abi (λ_ y=>by cases y)) u) (λv2 w2 g2 f2=>?_);obtain⟨_,_,rfl,F,G⟩:=g2;obtain rfl:=du.1 F;obtain rfl:=jx.1 G;have h:=h.cj f2;have c:bO B O w O w2:=bO.nO hO e f2;refine aK aj [7,8,9,10,11] [(0,.pointer (some ⟨b,0,none⟩)),(1,.int .u64 pid),(5,.int .i64 f.1),(6,.bool f.2)] rfl ⟨rfl,rfl,rfl,rfl,trivial⟩ (a_ (aV (aU (aU (bg (l:=[0,1]) rfl (aK aj [0,1] [(0,.pointer (some ⟨b,0,none⟩)),(1,.int .u64 pid),(5,.int .i64 f.1),(18,.bool (!f.2))] rfl ⟨rfl,rfl,rfl,rfl,trivial⟩ (a_ (aV ?_))))))));rcases iG a with⟨i,a⟩|⟨i,a⟩
 rotate_left
 ·refine fK rfl i (eF (aV (aU (bg (l:=[0,1]) rfl (aK aj [0,1] [(4,.int .i64 f.1)] rfl ⟨rfl,trivial⟩ (a_ (aV (dC ?_))))))));cases a;exact eY rfl ⟨rfl,_,c,_,_,_,_,h⟩
 refine fB rfl i ?_;obtain⟨bs,s,a⟩:=bind_some a;cases a;refine bg (l:=[0,1,2,3,4,5,6,7,8,9,10,11,12,13,14]) rfl (aK aj [0,1,2,3,4] [(1,.int .u64 pid),(5,.int .i64 f.1),(19,.pointer (some ⟨b,0,none⟩)),(23,.pointer (some ⟨b,1,none⟩))] rfl ⟨rfl,rfl,rfl,rfl,trivial⟩ (dR aj rfl rfl rfl rfl rfl rfl rfl h.bL [.slice A1 aD.length c1] rfl rfl (.inr rfl) (.slice A1 aD.length c1) rfl (aK aj [6,7,8] [(5,.int .i64 f.1),(19,.pointer (some ⟨b,0,none⟩)),(24,.slice A1 aD.length c1),(25,.int .i64 f.1),(27,.agg #[.int .u64 pid,.slice none 0 0])] rfl ⟨rfl,rfl,rfl,rfl,rfl,trivial⟩ (Vo aj rfl rfl rfl rfl rfl rfl rfl rfl rfl rfl (T:=TR) (xs:=[(pid,.slice none 0 0)]) (vs:=[.agg #[.int .u64 pid,.slice none 0 0]]) rfl ⟨⟨_,⟨rfl,_,_,_,rfl⟩,rfl⟩,trivial⟩ rfl rfl rfl c.ob (λH w3 d=>?_)))));have h:=h.cj d.fr;have g:=c.trans (bO.nO c.ob (μ e c.tr.size) d.fr);have t:=d.data c.ob;have A:=(d.own (B:=0) (Nat.zero_le _)).plain;have j:B<=w3.heap.size:=μ e g.tr.size;obtain⟨C,D,E,rfl⟩:=Po s;have hlen:aD.length=x.an.length:=by have:=h.fo.len;simpa using this
 have z:yn aD f.1 [(pid,.slice none 0 0)]=some (aD.take f.1.toNat++[(pid,.slice none 0 0)]++aD.drop f.1.toNat):=by
  unfold yn hS;rw[if_pos ⟨C,by rw[hlen];exact D,by rw[hlen];exact E⟩]
 refine Vq rfl rfl rfl rfl rfl aco rfl (aid g.ob j h.row (du.2 rfl) t A z) (λJ w' O' ap=>?_);have k:=g.trans (bO.II j h.row ap);have p:=ap.bL h.bL h.rb;obtain⟨A2,c2,rfl,_,_⟩:=ap.own.form;have v:=h.fo.ins f.1.toNat pid (by rw[hlen];omega);generalize I:(aD.take f.1.toNat++[(pid,.slice none 0 0)]++aD.drop f.1.toNat)=L at*
 refine aK aj [11,12,13] [(5,.int .i64 f.1),(29,.slice A2 L.length c2),(32,.pointer (some ⟨b,1,none⟩))] rfl ⟨rfl,rfl,rfl,trivial⟩ (eX aj rfl rfl rfl rfl rfl rfl rfl p [.slice A2 L.length c2] rfl rfl (by simp[υ]) rfl [nv,.slice A2 L.length c2] rfl (λK q f5=>?_));have o:=k.trans (bO.gk k.ob (ap.sub _ h.mem) h.ge f5);refine a_ (aV (aU (bg (l:=[0,1]) rfl (aK aj [0,1] [(4,.int .i64 f.1)] rfl ⟨rfl,trivial⟩ (a_ (aV (dC (eY rfl ⟨rfl,_,o,_,_,_,_,h.boxes (x':=aL.mk x.ak (x.an.take f.1.toNat++[ar.mk pid []]++x.an.drop f.1.toNat)) ap q f5 ?_ h.nd h.out rfl⟩))))))));simpa[ζ6,ζr,bx] using v
theorem ajY {P:Program} {r:Option Nat} {N:Nat} {ops:Array Oper} {Q:Exit->Act->World->Prop} {l:Γ} {E:Env} {ds:List Deferred} {w:World} {i d:Nat} {o:Oper} (m:ops[i]? =some o) (hw:want N ops E o.guard=some true) (k:o.dst=some d) (c:ηl d N=true) {x:Operand} {args:Array Operand} {q:Array TypeId} (b:o.op= .call {callee:=.value x,args:=args,argTypes:=q})
  {g:FuncId} {first cap vs:Γb} (p:ev E x=some (.func (.func g) first.toArray cap.toArray)) (n:gZ E args.toList=some vs) (he: ∀(vs:Array Value) (u:World),(callFunc g vs).run P u= .ok (.enter g vs) u)
  {R:Ending->World->Prop} (j:Calls P g (first++vs++cap).toArray w R) (h: ∀e w',R e w'-> ∃v,e= .returned v/\WO P r N ops Q l ((d,v)::E) ds w'):WO P r N ops Q (i::l) E ds w:=
 Kn m hw k c (by rw[b];simp) (λa f=>by simpa using TA (w:=w) f b p n he) j h
noncomputable def lO (fuel:Sh) (x:aL) (pid:Int):Option (aL×Int×Int):=(qH fuel x).bind λh=>bif (!(h.2==0)) then some (aL.mk [] [],0,h.2) else bif (!(kD pid)) then some (aL.mk [] [],0,2) else(w5 fuel h.1 pid).bind λq=>some (q.1,q.2,0)
noncomputable def Vy (O:Γ) (w:World) (r:aL×Int×Int) (c:Ending) (w':World):Prop:= ∃a O',c= .returned (.tuple #[a,.int .i64 r.2.1,.int .i64 r.2.2])/\bO w.heap.size O w O' w'/\(r.2.2=0-> ∃b,a= .pointer (some ⟨b,0,none⟩)/\j_ w.heap.size O' w' b r.1)
theorem bO.to {O O1 O':Γ} {w w1 w':World} (h:bO w.heap.size O w O1 w1) (k:bO w1.heap.size O1 w1 O' w'):bO w.heap.size O w O' w':=
 h.trans ⟨k.tr,k.ob,k.sub,λi hi=>k.below i (ζ hi h.tr.size)⟩
theorem j_.less {B a:Nat} {O:Γ} {w:World} {b:Nat} {x:aL} (h:j_ B O w b x) (f:a<=B):j_ a O w b x:=by
 obtain⟨nv,rv,S,aD,h⟩:=h;have less: ∀ {α:Type} {T:Ty α} {e:Nat} {v:Value} {xs:List α},Go.Dc.Own T e B O w v xs->Go.Dc.Own T e a O w v xs:=λh=>by
  obtain⟨⟨cs,⟨k,h1⟩,c⟩,d⟩:=h;refine⟨⟨cs,⟨k,?_⟩,c⟩,d⟩;rcases h1 with h1|⟨g,cap,cur,n,m,r⟩
  ·exact .inl h1
  ·exact .inr ⟨g,cap,cur,n,μ f m,r⟩
 have j: ∀ {S:Γ} {rs:Γd} {xs:List (Int×Γa)},c7 TW 35 B w S rs xs->c7 TW 35 a w S rs xs:=λ{S rs xs} h=>by
  induction rs generalizing S xs with
  |nil=>cases xs with
   |nil=>exact h
   |cons _ _=>exact h.elim
  |cons r rs o=>cases xs with
   |nil=>exact h.elim
   |cons y ys=>obtain⟨i,h1,c,d,l⟩:=h;exact⟨i,h1,c,d.less f,o l⟩
 exact⟨nv,rv,S,aD,h.mem,μ f h.ge,h.bL,less h.ns,less h.row,j h.fo,h.nd,h.out,h.nb,h.rb,h.dj⟩
set_option maxRecDepth 100000 in
set_option maxHeartbeats 4000000 in
theorem HG {O:Γ} {w:World} (hO:OB O w) (m:cN KK [] w) {v0:Value} {x0:aL} (c:fU.is [] w v0 x0) {pid:Int} {r:aL×Int×Int} (h:lO shut x0 pid=some r):Calls η 202 #[v0,.int .u64 pid] w (Vy O w r):=by
 obtain⟨i,j,rfl,E,F⟩:=iv.1 c;have o:bO w.heap.size O w O w:=bO.refl hO;refine gx (args:=[.agg #[i,j],.int .u64 pid]) (N:=29) η3 rfl rfl rfl ?_;unfold lO at h;refine aU (bg (l:=[0,1,2,3]) rfl (mj rfl rfl rfl rfl rfl rfl [i,j] rfl hO (λt w1 n1=>?_)));have z:=n1.bL;have d:=o.trans (bO.i_ o.tr.size n1);refine aK aj [1,2,3] [(1,.int .u64 pid),(2,.pointer (some ⟨t,0,none⟩))] rfl ⟨rfl,rfl,trivial⟩ (a_ (aV (aU (bg (l:=[0,1,2,3,4,5,6]) rfl (dR aj rfl rfl rfl rfl rfl rfl rfl z [i,j] rfl rfl (.inl rfl) (.agg #[i,j]) rfl ?_)))));obtain⟨e,he,h⟩:=bind_some h;refine jn rfl rfl rfl rfl rfl acj rfl (adH d.ob (m.tr d.fr.dY) (c.tr d.fr.dY) he) (λ_ w2 n=>?_);obtain⟨p,s,rfl,x,u⟩:=n;refine⟨_,rfl,?_⟩;have f:=d.to x;refine aK aj [2,3,4,5,6] [(1,.int .u64 pid),(7,p),(8,.int .i64 e.2)] rfl ⟨rfl,rfl,rfl,trivial⟩ (a_ (aV (aU (mh (aU (bg (l:=[0,1,2]) rfl (aK aj [0,1,2] [(1,.int .u64 pid),(7,p),(8,.int .i64 e.2),(15,.bool (!(e.2==0)))] rfl ⟨rfl,rfl,rfl,rfl,trivial⟩ (a_ (aV ?_)))))))));rcases iG h with⟨a,h⟩|⟨a,h⟩
 ·refine fB rfl a (aU (bg (l:=[0,1,2,3]) rfl (aK aj [0,1,2,3] [(4,.pointer none),(5,.int .i64 0),(6,.int .i64 e.2)] rfl ⟨rfl,rfl,rfl,trivial⟩ (a_ (aV (dC ?_))))));cases h;exact yO (fC (eY rfl ⟨_,_,rfl,f,λc=>by simp at a;exact absurd c a⟩))
 refine fK rfl a ?_;have A:e.2=0:=by simpa using a
 obtain⟨b,rfl,hH⟩:=u A;have hH:=hH.less d.tr.size;refine aU (bg (l:=[0,1,2,3]) rfl (aK aj [0] [(1,.int .u64 pid),(7,.pointer (some ⟨b,0,none⟩)),(8,.int .i64 e.2),(20,.int .u64 pid)] rfl ⟨rfl,rfl,rfl,rfl,trivial⟩ (yN rfl rfl rfl rfl rfl aci rfl (adG (qV _) (m.tr f.fr.dY) (du.2 rfl)) (λv4 C g4 f4=>?_))));obtain rfl:=jx.1 g4;have g:=f.trans (bO.nO f.ob f.tr.size f4);have hH:j_ w.heap.size s C b e.1:=let⟨_,_,_,_,k⟩:=hH;⟨_,_,_,_,k.cj f4⟩
 refine aK aj [2,3] [(1,.int .u64 pid),(7,.pointer (some ⟨b,0,none⟩)),(19,.bool (!(kD pid)))] rfl ⟨rfl,rfl,rfl,trivial⟩ (a_ (aV ?_));rcases iG h with⟨a,h⟩|⟨a,h⟩
 ·refine fB rfl a (aU (bg (l:=[0,1,2]) rfl (aK aj [0,1,2] [(4,.pointer none),(5,.int .i64 0),(6,.int .i64 2)] rfl ⟨rfl,rfl,rfl,trivial⟩ (a_ (aV (dC ?_))))));cases h;exact yO (fC (eY rfl ⟨_,_,rfl,g,λc=>by cases c⟩))
 refine fK rfl a (eF (rH (aV ?_)));refine aU (bg (l:=[0,1,2]) rfl (aK aj [0,1,2] [(1,.int .u64 pid),(7,.pointer (some ⟨b,0,none⟩)),(9,.func (.func 261) #[.pointer (some ⟨b,0,none⟩)] #[])] rfl ⟨rfl,rfl,rfl,trivial⟩ (a_ (aV (aU (bg (l:=[0,1,2,3,4,5,6]) rfl (aK aj [0,1,2] [(25,.pointer (some ⟨b,0,none⟩)),(26,.func (.func 261) #[.pointer (some ⟨b,0,none⟩)] #[]),(27,.int .u64 pid)] rfl ⟨rfl,rfl,rfl,trivial⟩ ?_)))))));obtain⟨q,B,h⟩:=bind_some h;cases h;refine ajY (first:=[.pointer (some ⟨b,0,none⟩)]) (cap:=[]) rfl rfl rfl rfl rfl rfl rfl ack (adE g.ob (m.tr g.fr.dY) g.tr.size hH B) (λ_ G n=>?_);obtain⟨rfl,D,y,v⟩:=n;refine⟨_,rfl,?_⟩;refine aK aj [4,5,6] [(4,.pointer (some ⟨b,0,none⟩)),(5,.int .i64 q.2),(6,.int .i64 0)] rfl ⟨rfl,rfl,rfl,trivial⟩ (a_ (aV (dC ?_)));exact eY rfl ⟨_,_,rfl,g.trans y,λ_=>⟨b,rfl,v⟩⟩
noncomputable def Safe (S:Γ) (w:World) (v:Value) (ys:Γa):Prop:= ∀a:Γ,(∀g∈S,g∉a)->TW.slice.is a w v ys
theorem Safe.keep {S:Γ} {w w':World} {O O':Γ} {v:Value} {ys:Γa} (h:Safe S w v ys) (a:Tr O w O' w') (hk: ∀g∈S,w'.heap[g]? =w.heap[g]?):Safe S w' v ys:=λj e=>by
 refine(h ((ξi w.heap.size).filter λk=>!S.contains k) (λg f hm=>?_)).tr ⟨a.os,a.tape,a.output,a.size,λk i d=>?_⟩
 ·simp[f] at hm
 ·have b:k∈S:=by
   rw[ξQ] at d
   by_cases c:k∈S
   ·exact c
   ·exact absurd ⟨by simpa using i,by simpa using c⟩ d
  exact⟨e k b,hk k b⟩
noncomputable def dE (S:Γ) (w:World):Γd->List ar->Prop
 |[],[]=>True
 |r::rs,z::bs=>r.1=z.aa/\Safe S w r.2 z.bj/\dE S w rs bs
 |_,_=>False
theorem dE.imp {S S':Γ} {w w':World} (h: ∀v ys,Safe S w v ys->Safe S' w' v ys): ∀ {rs:Γd} {bs:List ar},dE S w rs bs->dE S' w' rs bs
 |[],[],_=>trivial
 |_::_,_::_,⟨h1,a,b⟩=>⟨h1,h _ _ a,dE.imp h b⟩
 |[],_::_,k=>k.elim
 |_::_,[],k=>k.elim
theorem dE.len {S:Γ} {w:World}: ∀ {rs:Γd} {bs:List ar},dE S w rs bs->rs.length=bs.length
 |[],[],_=>rfl
 |_::_,_::_,⟨_,_,a⟩=>by simp[dE.len a]
 |[],_::_,k=>k.elim
 |_::_,[],k=>k.elim
theorem dE.of {B:Nat} {w:World}: ∀ {S:Γ} {rs:Γd} {bs:List ar} (a:Γ),c7 TW 35 B w S rs (bs.map bx)->(∀g∈S,g∈a)->dE a w rs bs
 |_,[],[],_,_,_=>trivial
 |_,r::rs,z::bs,a,⟨k,h1,c,e,f⟩,d=>by
  refine⟨h1,λj i=>e.data gX λg b=>i g (d g (by rw[c,b];simp)),dE.of a f λg b=>d g (by rw[c];exact ξm _ b)⟩
 |_,[],_::_,_,h,_=>h.elim
 |_,_::_,[],_,h,_=>h.elim
theorem dE.at_ {S:Γ} {w:World}: ∀ {rs:Γd} {bs:List ar} {k:Nat} {z:ar},dE S w rs bs->bs[k]? =some z-> ∃v,rs[k]? =some (z.aa,v)/\Safe S w v z.bj
 |r::rs,y::bs,0,z,⟨h1,c,_⟩,hk=>by
  simp at hk;subst hk;exact⟨r.2,by simp[<-h1],c⟩
 |r::rs,y::bs,k+1,z,⟨_,_,d⟩,hk=>by
  obtain⟨v,a,b⟩:=dE.at_ d (by simpa using hk);exact⟨v,by simpa using a,b⟩
 |[],[],_,_,_,hk=>by simp at hk
 |[],_::_,_,_,h,_=>h.elim
 |_::_,[],_,_,h,_=>h.elim
theorem dE.set {S:Γ} {w:World}: ∀ {rs:Γd} {bs:List ar} (k:Nat) {v:Value} {p:Int} {ys:Γa},dE S w rs bs->Safe S w v ys->dE S w (rs.set k (p,v)) (bs.set k (ar.mk p ys))
 |[],[],_,_,_,_,h,_=>h
 |r::rs,y::bs,0,v,p,ys,⟨_,_,a⟩,b=>⟨rfl,b,a⟩
 |r::rs,y::bs,k+1,v,p,ys,⟨h1,c,a⟩,b=>⟨h1,c,dE.set k a b⟩
 |[],_::_,_,_,_,_,h,_=>h.elim
 |_::_,[],_,_,_,_,h,_=>h.elim
theorem aij {S:Γ} {w:World}:Safe S w (.slice none 0 0) []:=λ_ _=>gT _ _ _
theorem dE.filter {S:Γ} {w:World}: ∀ {rs:Γd} {bs:List ar},dE S w rs bs->dE S w (rs.filter λr=>!emp r) (bs.filter λz=>!(z.bj.length==0))
 |[],[],_=>trivial
 |r::rs,z::bs,⟨h1,a,b⟩=>by
  obtain⟨A,c,e,_,_⟩:=eW (a [] (λ_ _ h=>by cases h));have he:emp r=(z.bj.length==0):=by unfold emp;rw[e];rfl
  rw[ξK,ξK,he];cases d:z.bj.length==0 with
  |true=>exact dE.filter b
  |false=>exact⟨h1,a,dE.filter b⟩
 |[],_::_,k=>k.elim
 |_::_,[],k=>k.elim
structure gp (B:Nat) (O:Γ) (w:World) (b:Nat) (nv rv:Value) (S:Γ) (aD:Γd) (x:aL):Prop where
 mem:b∈O
 ge:B<=b
 bL:bM w b 262 [nv,rv]
 ns:Go.Dc.Own dX 127 B O w nv x.ak
 row:Go.Dc.Own TR 132 B O w rv aD
 fo:dE S w aD x.an
 lt: ∀g∈S,B<=g/\g<w.heap.size
 out: ∀g∈S,g∉O
 nb:nv.ownBlock≠some b
 rb:rv.ownBlock≠some b
 dj:Dj nv rv
noncomputable def MJ (B:Nat) (O:Γ) (w:World) (b:Nat) (x:aL):Prop:= ∃nv rv S aD,gp B O w b nv rv S aD x
theorem e_.Kj {B:Nat} {O:Γ} {w:World} {b:Nat} {nv rv:Value} {S:Γ} {aD:Γd} {x:aL} (h:e_ B O w b nv rv S aD x):gp B O w b nv rv S aD x:=
 ⟨h.mem,h.ge,h.bL,h.ns,h.row,dE.of S h.fo (λ_ h=>h),h.fo.lt,h.out,h.nb,h.rb,h.dj⟩
section
variable {B:Nat} {O O':Γ} {w w' cd:World} {b:Nat} {nv rv:Value} {S:Γ} {aD:Γd} {x:aL}
theorem gp.cj (h:gp B O w b nv rv S aD x) (a:Fr [] w w'):gp B O w' b nv rv S aD x:=
 ⟨h.mem,h.ge,h.bL.cj a,h.ns.cj a,h.row.cj a,h.fo.imp λ_ _ k=>k.keep (O:=[]) (O':=[]) a.dY λg c=>a.block g (h.lt g c).2 (by simp),λg c=>⟨(h.lt g c).1,ζ (h.lt g c).2 a.size⟩,h.out,h.nb,h.rb,h.dj⟩
theorem gp.cell (h:gp B O w b nv rv S aD x) {c:Nat} (f:c∈O) (i:c<B) (a:Fr [c] w w'):gp B O w' b nv rv S aD x:=
 ⟨h.mem,h.ge,h.bL.fr a (by simp;have:=h.ge;omega),h.ns.st a f (λe=>by have:=(h.ns.lt c e).1;omega),h.row.st a f (λe=>by have:=(h.row.lt c e).1;omega),
  h.fo.imp λ_ _ k=>k.keep (a.tr (gM f)) λg d=>a.block g (h.lt g d).2 (by simp;have:=(h.lt g d).1;omega),λg d=>⟨(h.lt g d).1,ζ (h.lt g d).2 a.size⟩,h.out,h.nb,h.rb,h.dj⟩
theorem gp.boxes (h:gp B O w b nv rv S aD x) {e:Value} {d:Γd} {x':aL} (ap:dD TR 132 B O w rv d O' w' e) (i:bM cd b 262 [nv,e]) (c:Fr [b] w' cd)
  (j:dE S w d x'.an) (hn:x'.ak=x.ak):gp B O' cd b nv e S d x':=by
 have hm:=ap.sub _ h.mem;have f:=ap.ne _ h.bL.lt h.rb;have l:=ap.other h.ns λg a=>h.dj g a;refine⟨hm,h.ge,i,by rw[hn];exact l.st c hm h.nb,ap.own.st c hm f,?_,λg a=>⟨(h.lt g a).1,ζ (h.lt g a).2 (μ ap.tr.size c.size)⟩,λg a=>(ap.tr.keep g (h.lt g a).2 (h.out g a)).1,h.nb,f,λg a=>ap.ne _ (h.ns.lt g a).2 (h.dj g a)⟩;refine j.imp λ_ _ k=>k.keep (ap.tr.trans (c.tr (gM hm))) λg a=>?_;rw[c.block g (ζ (h.lt g a).2 ap.tr.size) (by simp;rintro rfl;exact h.out _ a h.mem),(ap.tr.keep g (h.lt g a).2 (h.out g a)).2]
theorem gp.data {e:Γ} (h:gp B O w b nv rv S aD x) (hO: ∀g∈e,g<B):fU.is e w (.agg #[nv,rv]) x:=by
 refine iv.2 ⟨_,_,rfl,h.ns.iL.data yx (λg d a=>by have:=(h.ns.lt g d).1;have:=hO g a;omega),?_⟩;have hlen:=h.fo.len;obtain⟨cs,⟨A,c,j,hl,q⟩,p⟩:=h.row.iL.data (O:=e) (Jc _) (λg d a=>by have:=(h.row.lt g d).1;have:=hO g a;omega);refine⟨cs,⟨A,c,by rw[<-hlen];exact j,by rw[<-hlen];exact hl,λk z hk=>?_⟩,p⟩;obtain⟨v,m,o⟩:=h.fo.at_ hk;obtain⟨ad,es,f,i,a,n,l⟩:=q k _ m;refine⟨ad,es,f,i,a,?_,l⟩;refine⟨[.int .u64 z.aa],[v],?_,rfl,l3 rfl (o e λg d a=>by have:=(h.lt g d).1;have:=hO g a;omega)⟩;rw[n.1];rfl
end
set_option maxRecDepth 100000 in
set_option maxHeartbeats 4000000 in
theorem HI {O:Γ} {w:World} (hO:OB O w) {B b:Nat} {x:aL} (d:B<=w.heap.size) (h:MJ B O w b x):Calls η 203 #[.pointer (some ⟨b,0,none⟩)] w (λc w'=>c= .returned (.tuple #[])/\ ∃O',bO B O w O' w'/\MJ B O' w' b (mb x)):=by
 obtain⟨nv,rv,S,aD,h⟩:=h;refine gx (args:=[.pointer (some ⟨b,0,none⟩)]) (N:=12) η4 rfl rfl rfl (bg (l:=[0,1,2,3,4,5,6,7,8,9,10]) rfl (aK aj [0,1,2,3,4] [(2,.pointer (some ⟨b,0,none⟩)),(6,.pointer (some ⟨b,1,none⟩))] rfl ⟨rfl,rfl,trivial⟩ ?_));obtain⟨A1,c1,rfl,_,_⟩:=h.row.form;refine dR aj rfl rfl rfl rfl rfl rfl rfl h.bL [.slice A1 aD.length c1] rfl rfl (.inr rfl) (.slice A1 aD.length c1) rfl (Vq rfl rfl rfl rfl rfl acm rfl (aia hO h.row) (λk w' O' ap=>?_));have a:=bO.II d h.row ap;have f:=ap.bL h.bL h.rb;obtain⟨A2,c2,rfl,_,_⟩:=ap.own.form;have i:=h.fo.filter;generalize j:(aD.filter λr=>!emp r)=L at*
 refine aK aj [7,8,9] [(8,.slice A2 L.length c2),(11,.pointer (some ⟨b,1,none⟩))] rfl ⟨rfl,rfl,trivial⟩ (eX aj rfl rfl rfl rfl rfl rfl rfl f [.slice A2 L.length c2] rfl rfl (by simp[υ]) rfl [nv,.slice A2 L.length c2] rfl (λw3 g f3=>?_));have e:=a.trans (bO.gk a.ob (ap.sub _ h.mem) h.ge f3);refine a_ ?_;exact aj6 rfl ⟨rfl,_,e,_,_,_,_,h.boxes (x':=mb x) ap g f3 i rfl⟩
theorem JB {B:Nat} {O:Γ} {w:World} {A:Option Addr} {c:Nat} {aD:Γd} (f:Go.Dc.Own TR 132 B O w (.slice A aD.length c) aD) (t:0<aD.length):
  ∃g R,A=some ⟨g,0,none⟩/\g∈O/\B<=g/\bM w g 132 (rc aD++R)/\aD.length*2+R.length=c*2/\aD.length<=c/\c<=maxLen/\ ∀r∈aD,∃A n c,r.2= .slice A n c:=by
 obtain⟨cs,⟨u,b⟩,s⟩:=f.ex;rcases b with⟨_,v⟩|⟨g,cap,cur,b,i,p,q,l,d,a⟩
 ·omega
 injection b with h x k;subst h;subst k;obtain⟨m,o⟩:=Jx s;have j:TR.n=2:=rfl;rw[j] at d a;have e:cur.toList=rc aD++cur.toList.drop (aD.length*2):=by
  rw[<-m,<-a,a]
  conv=>lhs;rw[<-ξd (aD.length*2) cur.toList]
  rw[a]
 refine⟨g,cur.toList.drop (aD.length*2),rfl,f.mem g rfl,i,?_,?_,q,l,o⟩
 ·unfold bM;rw[<-e,ξO];exact p
 ·have:=congrArg ζ5 e;rw[χ,d] at this;simp only[ν,rc,fv,ρ] at this;omega
theorem ahJ {B:Nat} {O:Γ} {w':World} {g c:Nat} {L:Γd} {R:Γb} (f:g∈O) (a:B<=g) (b:bM w' g 132 (rc L++R)) (hl:L.length*2+R.length=c*2) (d:L.length<=c) (hm:c<=maxLen) (e: ∀r∈L,∃A n c,r.2= .slice A n c):
  Go.Dc.Own TR 132 B O w' (.slice (some ⟨g,0,none⟩) L.length c) L:=by
 refine⟨⟨rc L,⟨by rw[rc,fv,ρ];rfl,.inr ⟨g,c,(rc L++R).toArray,rfl,a,b,d,hm,?_,?_⟩⟩,Jf e⟩,λk hk=>by cases hk;exact f⟩
 ·rw[ζ2,ν,rc,fv,ρ];exact hl
 ·exact ξS (by rw[rc,fv,ρ];rfl)
theorem kV {L:Γd} {R:Γb} {k:Nat} {x:Int×Value} (h:L[k]? =some x):((rc L++R).drop (k*2+1)).take 1=[x.2]:=by
 have:=Jd (R:=R) h;have e:=congrArg (List.drop 1) this;rw[List.drop_take,ζP] at e;simpa using e
theorem Je {L:Γd} {R:Γb} {k:Nat} {x:Int×Value} {v:Value} (h:L[k]? =some x):putAt (rc L++R) (k*2+1) [v]=rc (L.set k (x.1,v))++R:=by
 have hk:=(δ.1 h).1;rw[<-SJ (x:=(x.1,v)) hk];have a:=Jd (R:=R) h;have b:((rc L++R).drop (k*2))= .int .u64 x.1::x.2::(rc L++R).drop (k*2+2):=by
  have:=ξd 2 ((rc L++R).drop (k*2));rw[a,ζP] at this;exact this.symm
 unfold putAt;have c:(rc L++R).take (k*2+1)=(rc L++R).take (k*2)++[.int .u64 x.1]:=by
  rw[List.take_add,b];rfl
 rw[c];simp
noncomputable def qE (fuel:Sh) (x:aL) (pid:Int):Option (aL×Int×Int):=(lO fuel x pid).bind λh=>bif (!(h.2.2==0)) then some (aL.mk [] [],0,h.2.2) else(idx h.1.an h.2.1).bind λz=>some (mb (aL.mk h.1.ak (h.1.an.set h.2.1.toNat (ar.mk z.aa []))),(z.bj.length:Int),0)
noncomputable def qF (fuel:Sh) (x:aL) (pid:Int):Option (aL×Int×Int):=(lO fuel x pid).bind λh=>bif (!(h.2.2==0)) then some (aL.mk [] [],0,h.2.2) else(idx h.1.an h.2.1).bind λz=>bif ((z.bj.length:Int)==0) then some (aL.mk [] [],0,4) else(idx z.bj 0).bind λw0=>some (mb (aL.mk h.1.ak (h.1.an.set h.2.1.toNat (ar.mk z.aa (z.bj.drop 1)))),w0,0)
noncomputable def qG (fuel:Sh) (x:aL) (pid:Int) (words:Γa):Option (aL×Int):=(lO fuel x pid).bind λh=>bif (!(h.2.2==0)) then some (aL.mk [] [],h.2.2) else(idx h.1.an h.2.1).bind λz=>bif (decide (γ.wrap ((z.bj.length:Int)+(words.length:Int))>4)) then some (aL.mk [] [],6) else(app 8 z.bj words).bind λws=>some (mb (aL.mk h.1.ak (h.1.an.set h.2.1.toNat (ar.mk z.aa ws))),0)
theorem I7 {B:Nat} {O:Γ} {w w':World} {b g c:Nat} {nv:Value} {S:Γ} {aD L:Γd} {R:Γb} {names:List au} {bs:List ar} (mem:b∈O) (ge:B<=b) (bL:bM w b 262 [nv,.slice (some ⟨g,0,none⟩) aD.length c]) (ns:Go.Dc.Own dX 127 B O w nv names) (nb:nv.ownBlock≠some b) (dj:Dj nv (.slice (some ⟨g,0,none⟩) aD.length c))
  (i:g≠b) (d:g∈O) (l:B<=g) (hl:aD.length*2+R.length=c*2) (p:aD.length<=c) (hm:c<=maxLen) (f:Fr [g] w w') (o:bM w' g 132 (rc L++R)) (h:L.length=aD.length) (m: ∀r∈L,∃A n c,r.2= .slice A n c) (q:dE S w L bs) (lt: ∀j∈S,B<=j/\j<w.heap.size) (out: ∀j∈S,j∉O):
  gp B O w' b nv (.slice (some ⟨g,0,none⟩) aD.length c) S L (aL.mk names bs):=by
 refine⟨mem,ge,bL.fr f (by simp;exact λe=>i e.symm),ns.st f d (λe=>dj g e rfl),?_,q.imp λ_ _ k=>k.keep (f.tr (gM d)) λj a=>f.block j (lt j a).2 (by simp;rintro rfl;exact out _ a d),λj a=>⟨(lt j a).1,ζ (lt j a).2 f.size⟩,out,nb,λe=>i (by injection e),dj⟩;rw[<-h];exact ahJ d l o (by rw[h];exact hl) (by rw[h];exact p) hm m
noncomputable def SP.safe (S:Γ) (ys:Γa):SP:=⟨λw u=>(∀g∈S,g<w.heap.size)/\Safe S w u ys,λa ⟨h1,c⟩=>⟨λg b=>ζ (h1 g b) a.size,c.keep (O:=[]) (O':=[]) a.dY λg b=>a.block g (h1 g b) (by simp)⟩⟩
theorem ae0 {P:Program} {r:Option Nat} {N:Nat} {Θ:cK} {ops:Array Oper} {Q:Exit->Act->World->Prop} {E:Env} {ds:List Deferred} {w:World} {i d:Nat} {o:Oper} {S:Γ} (s:Θ.ok P) {a:Act} (c:Has N E ds a) (I:ops[i]? =some o) (hw:want N ops E o.guard=some true) (D:o.dst=some d) {t:Nat} {x:Operand} {lo hi mx:Option Operand} {f y:TI} (j:o.op= .slice t x lo hi mx) (m:Θ.get t=some f)
  (g:f.tag=5) (p:Θ.get f.e=some y) {v:Value} (L:ev E x=some v) {l' h' m':Option (IntKind×Int)} (G:jE E lo=some l') (F:jE E hi=some h') (H:jE E mx=some m') {xs ys:Γa} (hn:TW.n=y.size) (q:Safe S w v xs)
  (h:dF xs (l'.map (·.2)) (h'.map (·.2)) (m'.map (·.2))=some ys):eP P r ops Q i d a w (λu w'=>Safe S w' u ys/\Fr [] w w'):=by
 obtain⟨z,k,O⟩:=yi (w:=w) s m g p hn (q [] λ_ _ hm=>by cases hm) h;have J:Safe S w z ys:=λA C=>by
  obtain⟨R,l,K⟩:=yi (w:=w) s m g p hn (q A C) h;rw[k] at l;injection l with B M;rw[B];exact K
 refine lS I (gW c hw) D (b:=true) (v:=z) (w':=w) ?_ ⟨J,Fr.refl _ _⟩;simp only[if_true];refine⟨by rw[j];simp,?_⟩;simp only[execOp,j,ξx,c.eval L,m_ c G,m_ c F,m_ c H,k];rfl
set_option maxRecDepth 100000 in
set_option maxHeartbeats 4000000 in
theorem adB {O:Γ} {w:World} (hO:OB O w) (ah:cN KK [] w) {v0:Value} {x0:aL} (K:fU.is [] w v0 x0) {v1:Value} {x1:Int} (h1:(Ty.int .u64).is [] w v1 x1) {r:aL×Int×Int} (h:qE shut x0 x1=some r):Calls η 152 #[v0,v1] w (gn (Ts fU (Ty.int .i64) (Ty.int .i64)) O w r):=by
 obtain rfl:=du.1 h1;obtain⟨s,t,rfl,aQ,aR⟩:=iv.1 K;have M:bO w.heap.size O w O w:=bO.refl hO;refine gx (args:=[.agg #[s,t],.int .u64 x1]) (N:=47) ηc rfl rfl rfl ?_;unfold qE at h;refine aU (bg (l:=[0,1,2,3]) rfl (mj rfl rfl rfl rfl rfl rfl [s,t] rfl hO (λI w1 n1=>?_)));have F:=n1.bL;have v:=M.trans (bO.i_ M.tr.size n1);refine rE aj rfl rfl rfl rfl rfl rfl [.slice none 0 0,.slice none 0 0] rfl v.ob (λa w2 n2=>?_);have F:=F.cj n2.fr;have c:=n2.bL;have U:w.heap.size<=a:=μ v.tr.size n2.ge;have d:=v.trans (bO.i_ v.tr.size n2);have i2:a∈a::I::O:=τ;have H:a<w2.heap.size:=c.lt;have ak: ∀g∈O,g<w2.heap.size:=λg q=>ζ (hO g q) d.tr.size;refine aK aj [2,3] [(1,.int .u64 x1),(2,.pointer (some ⟨I,0,none⟩)),(4,.pointer (some ⟨a,0,none⟩))] rfl ⟨rfl,rfl,rfl,trivial⟩ (a_ (aV (aU (bg (l:=[0,1,2,3,4,5,6,7,8,9]) rfl (dR aj rfl rfl rfl rfl rfl rfl rfl F [s,t] rfl rfl (.inl rfl) (.agg #[s,t]) rfl ?_)))));obtain⟨e,he,h⟩:=bind_some h;refine aK aj [1] [(1,.int .u64 x1),(4,.pointer (some ⟨a,0,none⟩)),(12,.agg #[s,t]),(13,.int .u64 x1)] rfl ⟨rfl,rfl,rfl,rfl,trivial⟩ (jn rfl rfl rfl rfl rfl F0 rfl (HG d.ob (ah.tr d.fr.dY) (K.tr d.fr.dY) he) (λ_ w3 q=>?_));obtain⟨Y,aM,rfl,y,ai⟩:=q;refine⟨_,rfl,?_⟩;have c:bM w3 a 58 [.slice none 0 0,.slice none 0 0]:=(y.below _ H).trans c;have A:=d.to y;have i2:=y.sub _ i2;refine aK aj [3,4,5,6,7,8,9] [(1,.int .u64 x1),(4,.pointer (some ⟨a,0,none⟩)),(7,Y),(8,.int .i64 e.2.1),(9,.int .i64 e.2.2)] rfl ⟨rfl,rfl,rfl,rfl,rfl,trivial⟩ (a_ (aV (aU (aU (bg (l:=[0,1]) rfl (aK aj [0,1] [(1,.int .u64 x1),(4,.pointer (some ⟨a,0,none⟩)),(7,Y),(8,.int .i64 e.2.1),(9,.int .i64 e.2.2),(19,.bool (!(e.2.2==0)))] rfl ⟨rfl,rfl,rfl,rfl,rfl,rfl,trivial⟩ (a_ (aV ?_))))))));rcases iG h with⟨C,h⟩|⟨C,h⟩
 ·refine fB rfl C ?_;cases h;refine aU (bg (l:=[0,1,2,3,4]) rfl (aK aj [0,1] [(4,.pointer (some ⟨a,0,none⟩)),(20,.agg #[.slice none 0 0,.slice none 0 0]),(21,.int .i64 e.2.2)] rfl ⟨rfl,rfl,rfl,trivial⟩ (eX aj rfl rfl rfl rfl rfl rfl rfl c [.slice none 0 0,.slice none 0 0] rfl rfl (by simp[υ]) rfl [.slice none 0 0,.slice none 0 0] rfl (λaG G u=>?_))));refine aK aj [3,4] [(4,.pointer (some ⟨a,0,none⟩)),(5,.int .i64 0),(6,.int .i64 e.2.2)] rfl ⟨rfl,rfl,rfl,trivial⟩ (a_ (aV (dC ?_)));exact fC (k5 aj (vs:=[.agg #[.slice none 0 0,.slice none 0 0],.int .i64 0,.int .i64 e.2.2]) ⟨_,_,rfl,⟨_,_,_,_,rfl,G,rfl,rfl,.inl rfl,rfl⟩,_,_,rfl,rfl,_,_,rfl,rfl,rfl⟩ ⟨_,rfl,⟨_,_,_,rfl,iv.2 ⟨_,_,rfl,gT _ _ _,gT _ _ _⟩,du.2 rfl,du.2 rfl⟩,(A.trans (bO.gk A.ob i2 U u)).fr⟩)
 refine fK rfl C ?_;have au:e.2.2=0:=by simpa using C
 obtain⟨b,rfl,nv,rv,S,aD,hH⟩:=ai au;refine eF (aV ?_);obtain⟨z,aE,h⟩:=bind_some h;obtain⟨aS,W⟩:=kF aE;obtain⟨k,hk⟩: ∃k:Nat,k=e.2.1.toNat:=⟨_,rfl⟩;rw[<-hk] at W;have av:e.2.1=(k:Int):=by omega
 rw[av];rw[<-hk] at h;have B:=hH.Kj;obtain⟨aY,f,aC⟩:=B.fo.at_ W;obtain⟨D,E,rfl,aT,aW⟩:=eW (aC [] λ_ _ hm=>by cases hm);obtain⟨aH,i,rfl,_,_⟩:=hH.row.form;have az:=(δ.1 f).1;obtain⟨g,R,rfl,V,L,T,aA,aq,aB,aw⟩:=JB hH.row (by omega);have ax:g≠b:=λe=>hH.rb (by rw[<-e];rfl);have J:(k:Int).toNat*({tag:=8,k:=0,e:=0,fs:=[(29,0),(40,1)],size:=2,bytes:=32,zero:=.agg #[.int .u64 0,.slice none 0 0]}:TI).size=k*2:=by rw[ι]
 have X:(k:Int).toNat<aD.length:=by rw[ι];exact az
 refine aU (bg (l:=[0,1,2,3,4,5,6,7,8,9,10]) rfl (aK aj [0,1,2,3] [(4,.pointer (some ⟨a,0,none⟩)),(7,.pointer (some ⟨b,0,none⟩)),(8,.int .i64 (k:Int)),(25,.pointer (some ⟨b,1,none⟩))] rfl ⟨rfl,rfl,rfl,rfl,trivial⟩ (dR aj rfl rfl rfl rfl rfl rfl rfl hH.bL [.slice (some ⟨g,0,none⟩) aD.length i] rfl rfl (.inr rfl) (.slice (some ⟨g,0,none⟩) aD.length i) rfl (aK aj [5] [(4,.pointer (some ⟨a,0,none⟩)),(7,.pointer (some ⟨b,0,none⟩)),(8,.int .i64 (k:Int)),(26,.slice (some ⟨g,0,none⟩) aD.length i),(27,.int .i64 (k:Int))] rfl ⟨rfl,rfl,rfl,rfl,rfl,trivial⟩ (ot aj rfl rfl rfl rfl rfl rfl rfl rfl rfl rfl (by omega) X ?_)))));rw[J,e',ψ];refine aK aj [7] [(4,.pointer (some ⟨a,0,none⟩)),(7,.pointer (some ⟨b,0,none⟩)),(8,.int .i64 (k:Int)),(29,.pointer (some ⟨g,k*2+1,none⟩))] rfl ⟨rfl,rfl,rfl,rfl,trivial⟩ (dR aj rfl rfl rfl rfl rfl rfl rfl T [.slice D z.bj.length E] (kV f) rfl (.inr rfl) (.slice D z.bj.length E) rfl (aK aj [9,10] [(4,.pointer (some ⟨a,0,none⟩)),(7,.pointer (some ⟨b,0,none⟩)),(8,.int .i64 (k:Int)),(10,.int .i64 (z.bj.length:Int))] rfl ⟨rfl,rfl,rfl,rfl,trivial⟩ (a_ (aV (aU (bg (l:=[0,1,2,3,4,5,6,7,8]) rfl (aK aj [0,1,2,3] [(4,.pointer (some ⟨a,0,none⟩)),(7,.pointer (some ⟨b,0,none⟩)),(8,.int .i64 (k:Int)),(10,.int .i64 (z.bj.length:Int)),(35,.pointer (some ⟨b,1,none⟩))] rfl ⟨rfl,rfl,rfl,rfl,rfl,trivial⟩ (dR aj rfl rfl rfl rfl rfl rfl rfl hH.bL [.slice (some ⟨g,0,none⟩) aD.length i] rfl rfl (.inr rfl) (.slice (some ⟨g,0,none⟩) aD.length i) rfl (aK aj [5] [(4,.pointer (some ⟨a,0,none⟩)),(7,.pointer (some ⟨b,0,none⟩)),(8,.int .i64 (k:Int)),(10,.int .i64 (z.bj.length:Int)),(36,.slice (some ⟨g,0,none⟩) aD.length i),(37,.int .i64 (k:Int))] rfl ⟨rfl,rfl,rfl,rfl,rfl,rfl,trivial⟩ (ot aj rfl rfl rfl rfl rfl rfl rfl rfl rfl rfl (by omega) X ?_))))))))));rw[J,e',ψ];refine aK aj [7] [(4,.pointer (some ⟨a,0,none⟩)),(7,.pointer (some ⟨b,0,none⟩)),(8,.int .i64 (k:Int)),(10,.int .i64 (z.bj.length:Int)),(39,.pointer (some ⟨g,k*2+1,none⟩))] rfl ⟨rfl,rfl,rfl,rfl,rfl,trivial⟩ (eX aj rfl rfl rfl rfl rfl rfl rfl T [.slice none 0 0] rfl rfl (by simp[υ]) (ξe (by simp only[ν,rc,fv,ρ];show k*2+1+1<=_;omega)) (rc (aD.set k (z.aa,.slice none 0 0))++R) (Je (x:=(z.aa,.slice D z.bj.length E)) f) (λaF ao f5=>?_));have n:=I7 (bs:=e.1.an.set k (ar.mk z.aa [])) hH.mem hH.ge hH.bL hH.ns hH.nb hH.dj ax V L aA aq aB f5 ao (by rw[ξT]) (λr f=>by
  rcases ξu f with f|rfl
  ·exact aw r f
  ·exact⟨_,_,_,rfl⟩) (B.fo.set k aij) B.lt hH.out
 have c:=c.fr f5 (by simp;omega);have P:=A.trans (bO.gk A.ob V (μ d.tr.size L) f5);clear hH B;refine a_ (aV ?_);have af:w2.heap.size<=aF.heap.size:=μ y.tr.size f5.size;refine aU (bg (l:=[0,1]) rfl (aK aj [0] [(10,.int .i64 (z.bj.length:Int)),(4,.pointer (some ⟨a,0,none⟩)),(7,.pointer (some ⟨b,0,none⟩)),(40,.pointer (some ⟨b,0,none⟩))] rfl ⟨rfl,rfl,rfl,rfl,trivial⟩ (jn rfl rfl rfl rfl rfl F1 rfl (HI P.ob af ⟨_,_,_,_,n⟩) (λ_ Z q=>?_))));obtain⟨rfl,ab,m,o,p,aN,aX,n⟩:=q;refine⟨_,rfl,?_⟩;have c:bM Z a 58 [.slice none 0 0,.slice none 0 0]:=(m.below _ H).trans c;have i2:=m.sub _ i2;have Q:bO w.heap.size O w ab Z:=P.trans ⟨m.tr,m.ob,m.sub,λj ay=>m.below j (ζ ay d.tr.size)⟩;refine aK aj [] [(10,.int .i64 (z.bj.length:Int)),(4,.pointer (some ⟨a,0,none⟩)),(7,.pointer (some ⟨b,0,none⟩))] rfl ⟨rfl,rfl,rfl,trivial⟩ (a_ (aV ?_));cases h;refine aU (bg (l:=[0,1,2,3,4,5,6,7]) rfl (aK aj [0,1,2] [(7,.pointer (some ⟨b,0,none⟩)),(10,.int .i64 (z.bj.length:Int)),(4,.pointer (some ⟨a,0,none⟩)),(44,.pointer (some ⟨b,0,none⟩))] rfl ⟨rfl,rfl,rfl,rfl,trivial⟩ (dR aj rfl rfl rfl rfl rfl rfl rfl n.bL [o,p] rfl rfl (.inl rfl) (.agg #[o,p]) rfl ?_)));obtain⟨aI,aO,ad,_,_⟩:=n.ns.form;obtain⟨aJ,aP,ae,_,_⟩:=n.row.form;refine aK aj [4] [(4,.pointer (some ⟨a,0,none⟩)),(45,.agg #[o,p]),(46,.int .i64 (z.bj.length:Int))] rfl ⟨rfl,rfl,rfl,trivial⟩ (eX aj rfl rfl rfl rfl rfl rfl rfl c [o,p] rfl rfl (by rw[ad,ae];simp[υ]) rfl [o,p] rfl (λaG G u=>?_));have al:=n.cell i2 H u;have ag:=(Q.trans (bO.gk Q.ob i2 U u)).fr;refine aK aj [6,7] [(4,.pointer (some ⟨a,0,none⟩)),(5,.int .i64 (z.bj.length:Int)),(6,.int .i64 0)] rfl ⟨rfl,rfl,rfl,trivial⟩ (a_ (aV (dC ?_)));exact(k5 aj (vs:=[.agg #[o,p],.int .i64 (z.bj.length:Int),.int .i64 0]) ⟨_,_,rfl,⟨_,_,_,_,rfl,G,rfl,rfl,.inl rfl,rfl⟩,_,_,rfl,rfl,_,_,rfl,rfl,rfl⟩ ⟨_,rfl,⟨_,_,_,rfl,al.data ak,du.2 rfl,du.2 rfl⟩,ag⟩)
set_option maxRecDepth 100000 in
set_option maxHeartbeats 4000000 in
theorem adC {O:Γ} {w:World} (hO:OB O w) (aN:cN KK [] w) {v0:Value} {x0:aL} (ah:fU.is [] w v0 x0) {v1:Value} {x1:Int} (h1:(Ty.int .u64).is [] w v1 x1) {r:aL×Int×Int} (h:qF shut x0 x1=some r):Calls η 171 #[v0,v1] w (gn (Ts fU (Ty.int .u64) (Ty.int .i64)) O w r):=by
 obtain rfl:=du.1 h1;obtain⟨L,M,rfl,bo,bp⟩:=iv.1 ah;have ak:bO w.heap.size O w O w:=bO.refl hO;refine gx (args:=[.agg #[L,M],.int .u64 x1]) (N:=68) ηd rfl rfl rfl ?_;unfold qF at h;refine aU (bg (l:=[0,1,2,3]) rfl (mj rfl rfl rfl rfl rfl rfl [L,M] rfl hO (λag w1 n1=>?_)));have Y:=n1.bL;have U:=ak.trans (bO.i_ ak.tr.size n1);refine rE aj rfl rfl rfl rfl rfl rfl [.slice none 0 0,.slice none 0 0] rfl U.ob (λi w2 n2=>?_);have Y:=Y.cj n2.fr;have q:=n2.bL;have ab:w.heap.size<=i:=μ U.tr.size n2.ge;have B:=U.trans (bO.i_ U.tr.size n2);have i2:i∈i::ag::O:=τ;have ad:i<w2.heap.size:=q.lt;have aP: ∀g∈O,g<w2.heap.size:=λg s=>ζ (hO g s) B.tr.size;refine aK aj [2,3] [(1,.int .u64 x1),(2,.pointer (some ⟨ag,0,none⟩)),(4,.pointer (some ⟨i,0,none⟩))] rfl ⟨rfl,rfl,rfl,trivial⟩ (a_ (aV (aU (bg (l:=[0,1,2,3,4,5,6,7,8,9]) rfl (dR aj rfl rfl rfl rfl rfl rfl rfl Y [L,M] rfl rfl (.inl rfl) (.agg #[L,M]) rfl ?_)))));obtain⟨e,he,h⟩:=bind_some h;refine aK aj [1] [(1,.int .u64 x1),(4,.pointer (some ⟨i,0,none⟩)),(13,.agg #[L,M]),(14,.int .u64 x1)] rfl ⟨rfl,rfl,rfl,rfl,trivial⟩ (jn rfl rfl rfl rfl rfl F0 rfl (HG B.ob (aN.tr B.fr.dY) (ah.tr B.fr.dY) he) (λ_ w3 s=>?_));obtain⟨aA,bk,rfl,V,aO⟩:=s;refine⟨_,rfl,?_⟩;have q:bM w3 i 58 [.slice none 0 0,.slice none 0 0]:=(V.below _ ad).trans q;have C:=B.to V;have i2:=V.sub _ i2;refine aK aj [3,4,5,6,7,8,9] [(1,.int .u64 x1),(4,.pointer (some ⟨i,0,none⟩)),(7,aA),(8,.int .i64 e.2.1),(9,.int .i64 e.2.2)] rfl ⟨rfl,rfl,rfl,rfl,rfl,trivial⟩ (a_ (aV (aU (aU (bg (l:=[0,1]) rfl (aK aj [0,1] [(1,.int .u64 x1),(4,.pointer (some ⟨i,0,none⟩)),(7,aA),(8,.int .i64 e.2.1),(9,.int .i64 e.2.2),(20,.bool (!(e.2.2==0)))] rfl ⟨rfl,rfl,rfl,rfl,rfl,rfl,trivial⟩ (a_ (aV ?_))))))));rcases iG h with⟨A,h⟩|⟨A,h⟩
 ·refine fB rfl A ?_;cases h;refine aU (bg (l:=[0,1,2,3,4]) rfl (aK aj [0,1] [(4,.pointer (some ⟨i,0,none⟩)),(21,.agg #[.slice none 0 0,.slice none 0 0]),(22,.int .i64 e.2.2)] rfl ⟨rfl,rfl,rfl,trivial⟩ (eX aj rfl rfl rfl rfl rfl rfl rfl q [.slice none 0 0,.slice none 0 0] rfl rfl (by simp[υ]) rfl [.slice none 0 0,.slice none 0 0] rfl (λaE K F=>?_))));refine aK aj [3,4] [(4,.pointer (some ⟨i,0,none⟩)),(5,.int .u64 0),(6,.int .i64 e.2.2)] rfl ⟨rfl,rfl,rfl,trivial⟩ (a_ (aV (dC ?_)));exact fC (k5 aj (vs:=[.agg #[.slice none 0 0,.slice none 0 0],.int .u64 0,.int .i64 e.2.2]) ⟨_,_,rfl,⟨_,_,_,_,rfl,K,rfl,rfl,.inl rfl,rfl⟩,_,_,rfl,rfl,_,_,rfl,rfl,rfl⟩ ⟨_,rfl,⟨_,_,_,rfl,iv.2 ⟨_,_,rfl,gT _ _ _,gT _ _ _⟩,du.2 rfl,du.2 rfl⟩,(C.trans (bO.gk C.ob i2 ab F)).fr⟩)
 refine fK rfl A ?_;have aT:e.2.2=0:=by simpa using A
 obtain⟨b,rfl,nv,rv,S,aD,hH⟩:=aO aT;refine eF (aV ?_);obtain⟨z,bb,h⟩:=bind_some h;obtain⟨br,aw⟩:=kF bb;obtain⟨k,hk⟩: ∃k:Nat,k=e.2.1.toNat:=⟨_,rfl⟩;rw[<-hk] at aw;have aW:e.2.1=(k:Int):=by omega
 rw[aW];rw[<-hk] at h;have D:=hH.Kj;obtain⟨bA,t,ae⟩:=D.fo.at_ aw;obtain⟨o,p,rfl,bt,bu⟩:=eW (ae [] λ_ _ hm=>by cases hm);obtain⟨bd,X,rfl,_,_⟩:=hH.row.form;have a1:=(δ.1 t).1;obtain⟨g,R,rfl,av,ai,y,a6,aS,a8,aX⟩:=JB hH.row (by omega);have aY:g≠b:=λe=>hH.rb (by rw[<-e];rfl);have aG:(k:Int).toNat*({tag:=8,k:=0,e:=0,fs:=[(29,0),(40,1)],size:=2,bytes:=32,zero:=.agg #[.int .u64 0,.slice none 0 0]}:TI).size=k*2:=by rw[ι]
 have a7:(k:Int).toNat<aD.length:=by rw[ι];exact a1
 refine aU (bg (l:=[0,1,2,3,4,5,6,7]) rfl (aK aj [0,1,2,3] [(4,.pointer (some ⟨i,0,none⟩)),(7,.pointer (some ⟨b,0,none⟩)),(8,.int .i64 (k:Int)),(26,.pointer (some ⟨b,1,none⟩))] rfl ⟨rfl,rfl,rfl,rfl,trivial⟩ (dR aj rfl rfl rfl rfl rfl rfl rfl hH.bL [.slice (some ⟨g,0,none⟩) aD.length X] rfl rfl (.inr rfl) (.slice (some ⟨g,0,none⟩) aD.length X) rfl (aK aj [5] [(4,.pointer (some ⟨i,0,none⟩)),(7,.pointer (some ⟨b,0,none⟩)),(8,.int .i64 (k:Int)),(27,.slice (some ⟨g,0,none⟩) aD.length X),(28,.int .i64 (k:Int))] rfl ⟨rfl,rfl,rfl,rfl,rfl,trivial⟩ (ot aj rfl rfl rfl rfl rfl rfl rfl rfl rfl rfl (by omega) a7 ?_)))));rw[aG,e',ψ];refine aK aj [7] [(4,.pointer (some ⟨i,0,none⟩)),(7,.pointer (some ⟨b,0,none⟩)),(10,.pointer (some ⟨g,k*2,none⟩))] rfl ⟨rfl,rfl,rfl,trivial⟩ (a_ (aV (aU (aU (bg (l:=[0,1,2,3,4,5]) rfl (aK aj [0,1,2] [(4,.pointer (some ⟨i,0,none⟩)),(7,.pointer (some ⟨b,0,none⟩)),(10,.pointer (some ⟨g,k*2,none⟩)),(32,.pointer (some ⟨g,k*2+1,none⟩))] rfl ⟨rfl,rfl,rfl,rfl,trivial⟩ (dR aj rfl rfl rfl rfl rfl rfl rfl y [.slice o z.bj.length p] (kV t) rfl (.inr rfl) (.slice o z.bj.length p) rfl (aK aj [4,5] [(4,.pointer (some ⟨i,0,none⟩)),(7,.pointer (some ⟨b,0,none⟩)),(10,.pointer (some ⟨g,k*2,none⟩)),(35,.bool ((z.bj.length:Int)==0))] rfl ⟨rfl,rfl,rfl,rfl,trivial⟩ (a_ (aV ?_))))))))));rcases iG h with⟨A,h⟩|⟨A,h⟩
 ·refine fB rfl A ?_;cases h;refine aU (bg (l:=[0,1,2,3]) rfl (aK aj [0] [(4,.pointer (some ⟨i,0,none⟩)),(36,.agg #[.slice none 0 0,.slice none 0 0])] rfl ⟨rfl,rfl,trivial⟩ (eX aj rfl rfl rfl rfl rfl rfl rfl q [.slice none 0 0,.slice none 0 0] rfl rfl (by simp[υ]) rfl [.slice none 0 0,.slice none 0 0] rfl (λaE K F=>?_))));refine aK aj [2,3] [(4,.pointer (some ⟨i,0,none⟩)),(5,.int .u64 0),(6,.int .i64 4)] rfl ⟨rfl,rfl,rfl,trivial⟩ (a_ (aV (dC ?_)));exact fC (k5 aj (vs:=[.agg #[.slice none 0 0,.slice none 0 0],.int .u64 0,.int .i64 4]) ⟨_,_,rfl,⟨_,_,_,_,rfl,K,rfl,rfl,.inl rfl,rfl⟩,_,_,rfl,rfl,_,_,rfl,rfl,rfl⟩ ⟨_,rfl,⟨_,_,_,rfl,iv.2 ⟨_,_,rfl,gT _ _ _,gT _ _ _⟩,du.2 rfl,du.2 rfl⟩,(C.trans (bO.gk C.ob i2 ab F)).fr⟩)
 refine fK rfl A (eF (aV ?_));obtain⟨w0,W,h⟩:=bind_some h;obtain⟨_,W⟩:=kF W;refine aU (bg (l:=[0,1,2,3,4,5,6]) rfl (aK aj [0,1,2] [(4,.pointer (some ⟨i,0,none⟩)),(7,.pointer (some ⟨b,0,none⟩)),(10,.pointer (some ⟨g,k*2,none⟩)),(39,.pointer (some ⟨g,k*2+1,none⟩))] rfl ⟨rfl,rfl,rfl,rfl,trivial⟩ (dR aj rfl rfl rfl rfl rfl rfl rfl y [.slice o z.bj.length p] (kV t) rfl (.inr rfl) (.slice o z.bj.length p) rfl ?_)));refine Ko aj rfl rfl rfl rfl rfl rfl rfl rfl rfl rfl (ae [] λ_ _ hm=>by cases hm) rfl (Int.le_refl 0) W (λbw a'=>?_);refine ajZ aj rfl rfl rfl rfl rfl rfl rfl a' rfl rfl (λv6 ba=>?_);obtain rfl:=du.1 ba;refine aK aj [6] [(4,.pointer (some ⟨i,0,none⟩)),(7,.pointer (some ⟨b,0,none⟩)),(10,.pointer (some ⟨g,k*2,none⟩)),(11,.int .u64 w0)] rfl ⟨rfl,rfl,rfl,rfl,trivial⟩ (a_ (aV (aU ?_)));have ax: ∀g∈S,g<w3.heap.size:=λg s=>(D.lt g s).2;refine yL mixed [⟨43,[],[10]⟩,⟨44,[],[10]⟩,⟨45,[1],[]⟩,⟨46,[2],[]⟩,⟨47,[3],[]⟩,⟨48,[],[10]⟩,⟨49,[5],[]⟩,⟨50,[6],[]⟩,⟨51,[7],[]⟩,⟨52,[8],[]⟩,⟨53,[],[10]⟩,⟨54,[10],[]⟩,⟨55,[11],[]⟩,⟨56,[12],[]⟩,⟨57,[13],[]⟩,⟨58,[4,9,14],[]⟩] [SP.eq (.pointer (some ⟨g,k*2,none⟩)),SP.eq (.pointer (some ⟨g,k*2,none⟩)),SP.eq (.pointer (some ⟨g,k*2,none⟩)),SP.eq (.pointer (some ⟨g,k*2+1,none⟩)),SP.eq (.slice o z.bj.length p),SP.eq (.pointer (some ⟨g,k*2,none⟩)),SP.eq (.pointer (some ⟨g,k*2,none⟩)),SP.eq (.pointer (some ⟨g,k*2+1,none⟩)),SP.eq (.slice o z.bj.length p),SP.eq (.int .i64 (z.bj.length:Int)),SP.eq (.pointer (some ⟨g,k*2,none⟩)),SP.eq (.pointer (some ⟨g,k*2,none⟩)),SP.eq (.pointer (some ⟨g,k*2+1,none⟩)),SP.eq (.slice o z.bj.length p),SP.eq (.int .i64 (z.bj.length:Int)),SP.safe S (z.bj.drop 1)] rfl rfl rfl rfl ⟨?_,?_,?_,?_,?_,?_,?_,?_,?_,?_,?_,?_,?_,?_,?_,?_,trivial⟩ ?_
 ·intro a w2 m c d n f;exact c3 aj ⟨c,d,b7 (E:=[(10,.pointer (some ⟨g,k*2,none⟩))]) ⟨n 10 rfl _ rfl,trivial⟩⟩ rfl rfl rfl rfl rfl
 ·intro a w2 m c d n f;exact c3 aj ⟨c,d,b7 (E:=[(10,.pointer (some ⟨g,k*2,none⟩))]) ⟨n 10 rfl _ rfl,trivial⟩⟩ rfl rfl rfl rfl rfl
 ·intro a w2 m c d n f;exact c3 aj ⟨c,d,b7 (E:=[(44,.pointer (some ⟨g,k*2,none⟩))]) ⟨f 1 rfl _ _ rfl rfl,trivial⟩⟩ rfl rfl rfl rfl rfl
 ·intro a w2 m c d n f;exact c3 aj ⟨c,d,b7 (E:=[(45,.pointer (some ⟨g,k*2,none⟩))]) ⟨f 2 rfl _ _ rfl rfl,trivial⟩⟩ rfl rfl rfl rfl rfl
 ·intro a w2 m c d n f;exact nR aj ⟨c,d,b7 (E:=[(46,.pointer (some ⟨g,k*2+1,none⟩))]) ⟨f 3 rfl _ _ rfl rfl,trivial⟩⟩ rfl rfl rfl rfl rfl rfl (y.cj m) [.slice o z.bj.length p] (kV t) rfl (.inr rfl) (.slice o z.bj.length p) rfl
 ·intro a w2 m c d n f;exact c3 aj ⟨c,d,b7 (E:=[(10,.pointer (some ⟨g,k*2,none⟩))]) ⟨n 10 rfl _ rfl,trivial⟩⟩ rfl rfl rfl rfl rfl
 ·intro a w2 m c d n f;exact c3 aj ⟨c,d,b7 (E:=[(48,.pointer (some ⟨g,k*2,none⟩))]) ⟨f 5 rfl _ _ rfl rfl,trivial⟩⟩ rfl rfl rfl rfl rfl
 ·intro a w2 m c d n f;exact c3 aj ⟨c,d,b7 (E:=[(49,.pointer (some ⟨g,k*2,none⟩))]) ⟨f 6 rfl _ _ rfl rfl,trivial⟩⟩ rfl rfl rfl rfl rfl
 ·intro a w2 m c d n f;exact nR aj ⟨c,d,b7 (E:=[(50,.pointer (some ⟨g,k*2+1,none⟩))]) ⟨f 7 rfl _ _ rfl rfl,trivial⟩⟩ rfl rfl rfl rfl rfl rfl (y.cj m) [.slice o z.bj.length p] (kV t) rfl (.inr rfl) (.slice o z.bj.length p) rfl
 ·intro a w2 m c d n f;exact c3 aj ⟨c,d,b7 (E:=[(51,.slice o z.bj.length p)]) ⟨f 8 rfl _ _ rfl rfl,trivial⟩⟩ rfl rfl rfl rfl rfl
 ·intro a w2 m c d n f;exact c3 aj ⟨c,d,b7 (E:=[(10,.pointer (some ⟨g,k*2,none⟩))]) ⟨n 10 rfl _ rfl,trivial⟩⟩ rfl rfl rfl rfl rfl
 ·intro a w2 m c d n f;exact c3 aj ⟨c,d,b7 (E:=[(53,.pointer (some ⟨g,k*2,none⟩))]) ⟨f 10 rfl _ _ rfl rfl,trivial⟩⟩ rfl rfl rfl rfl rfl
 ·intro a w2 m c d n f;exact c3 aj ⟨c,d,b7 (E:=[(54,.pointer (some ⟨g,k*2,none⟩))]) ⟨f 11 rfl _ _ rfl rfl,trivial⟩⟩ rfl rfl rfl rfl rfl
 ·intro a w2 m c d n f;exact nR aj ⟨c,d,b7 (E:=[(55,.pointer (some ⟨g,k*2+1,none⟩))]) ⟨f 12 rfl _ _ rfl rfl,trivial⟩⟩ rfl rfl rfl rfl rfl rfl (y.cj m) [.slice o z.bj.length p] (kV t) rfl (.inr rfl) (.slice o z.bj.length p) rfl
 ·intro a w2 m c d n f;exact c3 aj ⟨c,d,b7 (E:=[(56,.slice o z.bj.length p)]) ⟨f 13 rfl _ _ rfl rfl,trivial⟩⟩ rfl rfl rfl rfl rfl
 ·intro a w2 m c d n f;exact(ae0 (S:=S) (l':=some (.i64,1)) (h':=some (.i64,(z.bj.length:Int))) (m':=some (.i64,(z.bj.length:Int))) (ys:=z.bj.drop 1) aj ⟨c,d,b7 (E:=[(47,.slice o z.bj.length p),(52,.int .i64 (z.bj.length:Int)),(57,.int .i64 (z.bj.length:Int))]) ⟨f 4 rfl _ _ rfl rfl,f 9 rfl _ _ rfl rfl,f 14 rfl _ _ rfl rfl,trivial⟩⟩ rfl rfl rfl rfl rfl rfl rfl rfl rfl rfl rfl rfl (ae.keep (O:=[]) (O':=[]) m.dY λg s=>m.block g (ax g s) (by simp)) (by
   simp only[ω];unfold dF;have:=(δ.1 W).1;rw[if_pos (by simp at this ⊢;omega)];simp)).weaken (λu w3 ⟨hu,au⟩=>⟨⟨λg s=>ζ (ax g s) (μ m.size au.size),hu⟩,au⟩)
 intro a aB f4 c d Z ay;have hH:=hH.cj f4;have D:=D.cj f4;have y:=y.cj f4;have q:=q.cj f4;have al:=C.trans (bO.nO C.ob C.tr.size f4);obtain⟨_,af⟩:(∀g∈S,g<aB.heap.size)/\Safe S aB (a.tmps.getD 58 undef) (z.bj.drop 1):=ay 15 _ _ rfl rfl;obtain⟨bz,az⟩: ∃v,a.tmps.getD 58 undef=v:=⟨_,rfl⟩;rw[az] at af;obtain⟨P,T,rfl,_,_⟩:=eW (af [] λ_ _ hm=>by cases hm);refine rG (E:=[(4,.pointer (some ⟨i,0,none⟩)),(7,.pointer (some ⟨b,0,none⟩)),(11,.int .u64 w0),(43,.pointer (some ⟨g,k*2,none⟩)),(58,.slice P (z.bj.drop 1).length T)]) (l:=[16,17,18]) c d ⟨Z 4 _ rfl rfl,Z 7 _ rfl rfl,Z 11 _ rfl rfl,ay 0 _ _ rfl rfl,az,trivial⟩ rfl ?_;generalize bq:z.bj.drop 1=Q at*
 refine aK aj [16,17] [(4,.pointer (some ⟨i,0,none⟩)),(7,.pointer (some ⟨b,0,none⟩)),(11,.int .u64 w0),(58,.slice P Q.length T),(60,.pointer (some ⟨g,k*2+1,none⟩))] rfl ⟨rfl,rfl,rfl,rfl,rfl,trivial⟩ (eX aj rfl rfl rfl rfl rfl rfl rfl y [.slice P Q.length T] rfl rfl (by simp[υ]) (ξe (by simp only[ν,rc,fv,ρ];show k*2+1+1<=_;omega)) (rc (aD.set k (z.aa,.slice P Q.length T))++R) (Je (x:=(z.aa,.slice o z.bj.length p)) t) (λbc aR f5=>?_));have H:=I7 (bs:=e.1.an.set k (ar.mk z.aa Q)) hH.mem hH.ge hH.bL hH.ns hH.nb hH.dj aY av ai a6 aS a8 f5 aR (by rw[ξT]) (λr t=>by
  rcases ξu t with t|rfl
  ·exact aX r t
  ·exact⟨_,_,_,rfl⟩) (D.fo.set k af) D.lt hH.out
 have q:=q.fr f5 (by simp;omega);have ao:=al.trans (bO.gk al.ob av (μ B.tr.size ai) f5);clear hH D;refine a_ (aV ?_);have aJ:w2.heap.size<=bc.heap.size:=μ V.tr.size (μ f4.size f5.size);refine aU (bg (l:=[0,1]) rfl (aK aj [0] [(11,.int .u64 w0),(4,.pointer (some ⟨i,0,none⟩)),(7,.pointer (some ⟨b,0,none⟩)),(61,.pointer (some ⟨b,0,none⟩))] rfl ⟨rfl,rfl,rfl,rfl,trivial⟩ (jn rfl rfl rfl rfl rfl F1 rfl (HI ao.ob aJ ⟨_,_,_,_,H⟩) (λ_ aC s=>?_))));obtain⟨rfl,aF,G,I,J,bl,bx,H⟩:=s;refine⟨_,rfl,?_⟩;have q:bM aC i 58 [.slice none 0 0,.slice none 0 0]:=(G.below _ ad).trans q;have i2:=G.sub _ i2;have aq:bO w.heap.size O w aF aC:=ao.trans ⟨G.tr,G.ob,G.sub,λj aZ=>G.below j (ζ aZ B.tr.size)⟩;refine aK aj [] [(11,.int .u64 w0),(4,.pointer (some ⟨i,0,none⟩)),(7,.pointer (some ⟨b,0,none⟩))] rfl ⟨rfl,rfl,rfl,trivial⟩ (a_ (aV ?_));cases h;refine aU (bg (l:=[0,1,2,3,4,5,6,7]) rfl (aK aj [0,1,2] [(7,.pointer (some ⟨b,0,none⟩)),(11,.int .u64 w0),(4,.pointer (some ⟨i,0,none⟩)),(65,.pointer (some ⟨b,0,none⟩))] rfl ⟨rfl,rfl,rfl,rfl,trivial⟩ (dR aj rfl rfl rfl rfl rfl rfl rfl H.bL [I,J] rfl rfl (.inl rfl) (.agg #[I,J]) rfl ?_)));obtain⟨bf,bm,aH,_,_⟩:=H.ns.form;obtain⟨bh,bn,aI,_,_⟩:=H.row.form;refine aK aj [4] [(4,.pointer (some ⟨i,0,none⟩)),(66,.agg #[I,J]),(67,.int .u64 w0)] rfl ⟨rfl,rfl,rfl,trivial⟩ (eX aj rfl rfl rfl rfl rfl rfl rfl q [I,J] rfl rfl (by rw[aH,aI];simp[υ]) rfl [I,J] rfl (λaE K F=>?_));have aQ:=H.cell i2 ad F;have aM:=(aq.trans (bO.gk aq.ob i2 ab F)).fr;refine aK aj [6,7] [(4,.pointer (some ⟨i,0,none⟩)),(5,.int .u64 w0),(6,.int .i64 0)] rfl ⟨rfl,rfl,rfl,trivial⟩ (a_ (aV (dC ?_)));exact(k5 aj (vs:=[.agg #[I,J],.int .u64 w0,.int .i64 0]) ⟨_,_,rfl,⟨_,_,_,_,rfl,K,rfl,rfl,.inl rfl,rfl⟩,_,_,rfl,rfl,_,_,rfl,rfl,rfl⟩ ⟨_,rfl,⟨_,_,_,rfl,aQ.data aP,du.2 rfl,du.2 rfl⟩,aM⟩)
set_option maxRecDepth 100000 in
set_option maxHeartbeats 4000000 in
theorem adD {O:Γ} {w:World} (hO:OB O w) (aI:cN KK [] w) {v0:Value} {x0:aL} (af:fU.is [] w v0 x0) {v1:Value} {x1:Int} (h1:(Ty.int .u64).is [] w v1 x1) {v2:Value} {f:Γa} (ag:(Ty.slice (Ty.int .u64)).is [] w v2 f) {r:aL×Int} (h:qG shut x0 x1 f=some r):Calls η 170 #[v0,v1,v2] w (gn (Tq fU (Ty.int .i64)) O w r):=by
 obtain rfl:=du.1 h1;obtain⟨A2,c2,rfl,bu,bz⟩:=eW ag;obtain⟨J,K,rfl,bq,br⟩:=iv.1 af;have ak:bO w.heap.size O w O w:=bO.refl hO;refine gx (args:=[.agg #[J,K],.int .u64 x1,.slice A2 f.length c2]) (N:=55) ηe rfl rfl rfl ?_;unfold qG at h;refine aU (bg (l:=[0,1,2]) rfl (mj rfl rfl rfl rfl rfl rfl [J,K] rfl hO (λad w1 n1=>?_)));have V:=n1.bL;have M:=ak.trans (bO.i_ ak.tr.size n1);refine rE aj rfl rfl rfl rfl rfl rfl [.slice none 0 0,.slice none 0 0] rfl M.ob (λc w2 n2=>?_);have V:=V.cj n2.fr;have i:=n2.bL;have X:w.heap.size<=c:=μ M.tr.size n2.ge;have o:=M.trans (bO.i_ M.tr.size n2);have i2:c∈c::ad::O:=τ;have Q:c<w2.heap.size:=i.lt;have aM: ∀g∈O,g<w2.heap.size:=λg G=>ζ (hO g G) o.tr.size;refine aK aj [2] [(1,.int .u64 x1),(2,.slice A2 f.length c2),(3,.pointer (some ⟨ad,0,none⟩)),(6,.pointer (some ⟨c,0,none⟩))] rfl ⟨rfl,rfl,rfl,rfl,trivial⟩ (a_ (aV (aU (bg (l:=[0,1,2,3,4,5,6,7,8,9]) rfl (dR aj rfl rfl rfl rfl rfl rfl rfl V [J,K] rfl rfl (.inl rfl) (.agg #[J,K]) rfl ?_)))));obtain⟨e,he,h⟩:=bind_some h;refine aK aj [1] [(1,.int .u64 x1),(2,.slice A2 f.length c2),(6,.pointer (some ⟨c,0,none⟩)),(13,.agg #[J,K]),(14,.int .u64 x1)] rfl ⟨rfl,rfl,rfl,rfl,rfl,trivial⟩ (jn rfl rfl rfl rfl rfl F0 rfl (HG o.ob (aI.tr o.fr.dY) (af.tr o.fr.dY) he) (λ_ w3 G=>?_));obtain⟨ax,U,rfl,C,aJ⟩:=G;refine⟨_,rfl,?_⟩;have i:bM w3 c 58 [.slice none 0 0,.slice none 0 0]:=(C.below _ Q).trans i;have d:=o.to C;have i2:=C.sub _ i2;refine aK aj [3,4,5,6,7,8,9] [(1,.int .u64 x1),(2,.slice A2 f.length c2),(6,.pointer (some ⟨c,0,none⟩)),(8,ax),(9,.int .i64 e.2.1),(10,.int .i64 e.2.2)] rfl ⟨rfl,rfl,rfl,rfl,rfl,rfl,trivial⟩ (a_ (aV (aU (aU (bg (l:=[0,1]) rfl (aK aj [0,1] [(1,.int .u64 x1),(2,.slice A2 f.length c2),(6,.pointer (some ⟨c,0,none⟩)),(8,ax),(9,.int .i64 e.2.1),(10,.int .i64 e.2.2),(20,.bool (!(e.2.2==0)))] rfl ⟨rfl,rfl,rfl,rfl,rfl,rfl,rfl,trivial⟩ (a_ (aV ?_))))))));rcases iG h with⟨q,h⟩|⟨q,h⟩
 ·refine fB rfl q ?_;cases h;refine aU (bg (l:=[0,1,2,3]) rfl (aK aj [0,1] [(6,.pointer (some ⟨c,0,none⟩)),(21,.agg #[.slice none 0 0,.slice none 0 0]),(22,.int .i64 e.2.2)] rfl ⟨rfl,rfl,rfl,trivial⟩ (eX aj rfl rfl rfl rfl rfl rfl rfl i [.slice none 0 0,.slice none 0 0] rfl rfl (by simp[υ]) rfl [.slice none 0 0,.slice none 0 0] rfl (λaz E t=>?_))));refine aK aj [3] [(6,.pointer (some ⟨c,0,none⟩)),(7,.int .i64 e.2.2)] rfl ⟨rfl,rfl,trivial⟩ (a_ (aV (dC ?_)));exact fC (k5 aj (vs:=[.agg #[.slice none 0 0,.slice none 0 0],.int .i64 e.2.2]) ⟨_,_,rfl,⟨_,_,_,_,rfl,E,rfl,rfl,.inl rfl,rfl⟩,_,_,rfl,rfl,rfl⟩ ⟨_,rfl,⟨_,_,rfl,iv.2 ⟨_,_,rfl,gT _ _ _,gT _ _ _⟩,du.2 rfl⟩,(d.trans (bO.gk d.ob i2 X t)).fr⟩)
 refine fK rfl q ?_;have aQ:e.2.2=0:=by simpa using q
 obtain⟨b,rfl,nv,rv,S,aD,hH⟩:=aJ aQ;refine eF (aV ?_);obtain⟨z,bb,h⟩:=bind_some h;obtain⟨bt,Z⟩:=kF bb;obtain⟨k,hk⟩: ∃k:Nat,k=e.2.1.toNat:=⟨_,rfl⟩;rw[<-hk] at Z;have aR:e.2.1=(k:Int):=by omega
 rw[aR];rw[<-hk] at h;have au:=hH.Kj;obtain⟨bD,p,a'⟩:=au.fo.at_ Z;obtain⟨m,n,rfl,bw,bA⟩:=eW (a' [] λ_ _ hm=>by cases hm);obtain⟨bf,L,rfl,_,_⟩:=hH.row.form;have aX:=(δ.1 p).1;obtain⟨g,R,rfl,Y,ah,y,aY,aP,a1,aS⟩:=JB hH.row (by omega);have aT:g≠b:=λe=>hH.rb (by rw[<-e];rfl);have ae:(k:Int).toNat*({tag:=8,k:=0,e:=0,fs:=[(29,0),(40,1)],size:=2,bytes:=32,zero:=.agg #[.int .u64 0,.slice none 0 0]}:TI).size=k*2:=by rw[ι]
 have aZ:(k:Int).toNat<aD.length:=by rw[ι];exact aX
 refine aU (bg (l:=[0,1,2,3,4,5,6,7]) rfl (aK aj [0,1,2,3] [(6,.pointer (some ⟨c,0,none⟩)),(2,.slice A2 f.length c2),(8,.pointer (some ⟨b,0,none⟩)),(9,.int .i64 (k:Int)),(26,.pointer (some ⟨b,1,none⟩))] rfl ⟨rfl,rfl,rfl,rfl,rfl,trivial⟩ (dR aj rfl rfl rfl rfl rfl rfl rfl hH.bL [.slice (some ⟨g,0,none⟩) aD.length L] rfl rfl (.inr rfl) (.slice (some ⟨g,0,none⟩) aD.length L) rfl (aK aj [5] [(6,.pointer (some ⟨c,0,none⟩)),(2,.slice A2 f.length c2),(8,.pointer (some ⟨b,0,none⟩)),(9,.int .i64 (k:Int)),(27,.slice (some ⟨g,0,none⟩) aD.length L),(28,.int .i64 (k:Int))] rfl ⟨rfl,rfl,rfl,rfl,rfl,rfl,trivial⟩ (ot aj rfl rfl rfl rfl rfl rfl rfl rfl rfl rfl (by omega) aZ ?_)))));rw[ae,e',ψ];refine aK aj [7] [(6,.pointer (some ⟨c,0,none⟩)),(2,.slice A2 f.length c2),(8,.pointer (some ⟨b,0,none⟩)),(11,.pointer (some ⟨g,k*2,none⟩))] rfl ⟨rfl,rfl,rfl,rfl,trivial⟩ (a_ (aV (aU (aU (bg (l:=[0,1,2,3,4,5,6,7,8]) rfl (aK aj [0,1,2] [(6,.pointer (some ⟨c,0,none⟩)),(2,.slice A2 f.length c2),(8,.pointer (some ⟨b,0,none⟩)),(11,.pointer (some ⟨g,k*2,none⟩)),(32,.pointer (some ⟨g,k*2+1,none⟩))] rfl ⟨rfl,rfl,rfl,rfl,rfl,trivial⟩ (dR aj rfl rfl rfl rfl rfl rfl rfl y [.slice m z.bj.length n] (kV p) rfl (.inr rfl) (.slice m z.bj.length n) rfl (aK aj [4,5,6,7,8] [(6,.pointer (some ⟨c,0,none⟩)),(2,.slice A2 f.length c2),(8,.pointer (some ⟨b,0,none⟩)),(11,.pointer (some ⟨g,k*2,none⟩)),(38,.bool (decide (γ.wrap ((z.bj.length:Int)+(f.length:Int))>4)))] rfl ⟨rfl,rfl,rfl,rfl,rfl,trivial⟩ (a_ (aV ?_))))))))));rcases iG h with⟨q,h⟩|⟨q,h⟩
 ·refine fB rfl q ?_;cases h;refine aU (bg (l:=[0,1,2]) rfl (aK aj [0] [(6,.pointer (some ⟨c,0,none⟩)),(39,.agg #[.slice none 0 0,.slice none 0 0])] rfl ⟨rfl,rfl,trivial⟩ (eX aj rfl rfl rfl rfl rfl rfl rfl i [.slice none 0 0,.slice none 0 0] rfl rfl (by simp[υ]) rfl [.slice none 0 0,.slice none 0 0] rfl (λaz E t=>?_))));refine aK aj [2] [(6,.pointer (some ⟨c,0,none⟩)),(7,.int .i64 6)] rfl ⟨rfl,rfl,trivial⟩ (a_ (aV (dC ?_)));exact fC (k5 aj (vs:=[.agg #[.slice none 0 0,.slice none 0 0],.int .i64 6]) ⟨_,_,rfl,⟨_,_,_,_,rfl,E,rfl,rfl,.inl rfl,rfl⟩,_,_,rfl,rfl,rfl⟩ ⟨_,rfl,⟨_,_,rfl,iv.2 ⟨_,_,rfl,gT _ _ _,gT _ _ _⟩,du.2 rfl⟩,(d.trans (bO.gk d.ob i2 X t)).fr⟩)
 refine fK rfl q (eF (aV ?_));obtain⟨ws,ba,h⟩:=bind_some h;cases h;refine aU (bg (l:=[0,1,2,3,4,5,6,7,8,9]) rfl (aK aj [0,1,2,3] [(6,.pointer (some ⟨c,0,none⟩)),(2,.slice A2 f.length c2),(8,.pointer (some ⟨b,0,none⟩)),(11,.pointer (some ⟨g,k*2,none⟩)),(40,.pointer (some ⟨g,k*2,none⟩)),(43,.pointer (some ⟨g,k*2+1,none⟩))] rfl ⟨rfl,rfl,rfl,rfl,rfl,rfl,trivial⟩ (dR aj rfl rfl rfl rfl rfl rfl rfl y [.slice m z.bj.length n] (kV p) rfl (.inr rfl) (.slice m z.bj.length n) rfl (aK aj [5] [(6,.pointer (some ⟨c,0,none⟩)),(8,.pointer (some ⟨b,0,none⟩)),(40,.pointer (some ⟨g,k*2,none⟩)),(44,.slice m z.bj.length n),(45,.slice A2 f.length c2)] rfl ⟨rfl,rfl,rfl,rfl,rfl,trivial⟩ ?_))));obtain⟨bc,aB,aC,aw,D,W,a8⟩:=hH.fo.at_ (show(e.1.an.map bx)[k]? =some (bx z) by simp[Z]);rw[p] at aw;obtain rfl:(.slice m z.bj.length n)=bc:=by injection aw with e;injection e with ae bp
 have aW: ∀j,((.slice m z.bj.length n):Value).ownBlock=some j->j∈S:=λj a=>by rw[D,a];simp
 have T: ∀j,j∈U->((.slice m z.bj.length n):Value).ownBlock≠some j:=λj a e=>hH.out j (aW j e) a;have P: ∀j,j<w2.heap.size->((.slice m z.bj.length n):Value).ownBlock≠some j:=λj a e=>by have:=(W.lt j e).1;omega
 refine Vk (O:=((.slice m z.bj.length n):Value).ownBlock.toList) aj rfl rfl rfl rfl rfl rfl rfl rfl rfl rfl rfl rfl rfl rfl C.fr (λj a=>(W.lt j (by simpa using a)).2) (W.own gX λj a=>by simpa using a) (ag.tr ⟨d.fr.os,d.fr.tape,d.fr.output,d.fr.size,λj a _=>⟨λhm=>P j (ζ a o.tr.size) (by simpa using hm),d.fr.block j a (by simp)⟩⟩) ba (λbC s bl ap=>?_);obtain⟨A,B,rfl,_,_⟩:=ap.own.form;have i:bM s c 58 [.slice none 0 0,.slice none 0 0]:=(ap.fr _ i.lt (P _ Q)).trans i;have y:bM s g 132 (rc aD++R):=(ap.fr _ y.lt (T _ Y)).trans y;have hblk:bM s b 262 [nv,.slice (some ⟨g,0,none⟩) aD.length L]:=(ap.fr _ hH.bL.lt (T _ hH.mem)).trans hH.bL;have a6:=(hH.ns.iL.keep yx (w':=s) λj a=>ap.fr j (hH.ns.lt j a).2 (T _ (hH.ns.mem j a))).own yx hH.ns.mem;have al:bO w.heap.size O w U s:=⟨⟨ap.tr.os.trans d.tr.os,ap.tr.tape.trans d.tr.tape,ap.tr.output.trans d.tr.output,μ d.tr.size ap.tr.size,λj a av=>⟨(d.tr.keep j a av).1,(ap.fr j (ζ a d.tr.size) (P j (ζ a o.tr.size))).trans (d.tr.keep j a av).2⟩⟩,λj a=>ζ (d.ob j a) ap.tr.size,d.sub,λj a=>(ap.fr j (ζ a d.tr.size) (P j (ζ a o.tr.size))).trans (d.below j a)⟩;have ab:=hH.nd;rw[D,ζ1,ζ1] at ab;have F:=a8 (w':=s) (λj a=>ap.fr j (hH.fo.lt j (by rw[D];simp at a ⊢;rcases a with a|a;exact .inl a;exact .inr (.inr a))).2 (λe=>by
  rcases ξA.1 a with a|a
  ·exact ab.1.2.2 j a j (by rw[e];simp) rfl
  ·exact ab.2.2 j (ξm _ (by rw[e];simp)) j a rfl)) gX ap.own.iL
 obtain⟨S',ai⟩: ∃S',S'=aB++(ηm A ws.length B).ownBlock.toList++aC:=⟨_,rfl⟩;rw[<-ai] at F;have F:c7 TW 35 w2.heap.size s S' (aD.set k (z.aa,.slice A ws.length B)) ((e.1.an.set k (ar.mk z.aa ws)).map bx):=by rw[η9];exact F
 have a7: ∀j∈S',j∉U:=λj a hm=>by
  rw[ai] at a;simp only[ξA,Option.mem_toList] at a;rcases a with(a|a)|a
  ·exact hH.out j (by rw[D];simp[a]) hm
  ·exact ap.ne j (d.ob j hm) (T j hm) a
  ·exact hH.out j (by rw[D];simp[a]) hm
 refine aK aj [7,8] [(6,.pointer (some ⟨c,0,none⟩)),(8,.pointer (some ⟨b,0,none⟩)),(46,.slice A ws.length B),(48,.pointer (some ⟨g,k*2+1,none⟩))] rfl ⟨rfl,rfl,rfl,rfl,trivial⟩ (eX aj rfl rfl rfl rfl rfl rfl rfl y [.slice A ws.length B] rfl rfl (by simp[υ]) (ξe (by simp only[ν,rc,fv,ρ];show k*2+1+1<=_;omega)) (rc (aD.set k (z.aa,.slice A ws.length B))++R) (Je (x:=(z.aa,.slice m z.bj.length n)) p) (λbd aO f5=>?_));have v:=I7 (bs:=e.1.an.set k (ar.mk z.aa ws)) hH.mem hH.ge hblk a6 hH.nb hH.dj aT Y ah aY aP a1 f5 aO (by rw[ξT]) (λr p=>by
  rcases ξu p with p|rfl
  ·exact aS r p
  ·exact⟨_,_,_,rfl⟩) (dE.of S' F (λ_ h=>h)) F.lt a7
 have i:=i.fr f5 (by simp;omega);have ao:=al.trans (bO.gk al.ob Y (μ o.tr.size ah) f5);clear hH au;refine a_ (aV ?_);have aG:w2.heap.size<=bd.heap.size:=μ C.tr.size (μ ap.tr.size f5.size);refine aU (bg (l:=[0,1]) rfl (aK aj [0] [(6,.pointer (some ⟨c,0,none⟩)),(8,.pointer (some ⟨b,0,none⟩)),(49,.pointer (some ⟨b,0,none⟩))] rfl ⟨rfl,rfl,rfl,trivial⟩ (jn rfl rfl rfl rfl rfl F1 rfl (HI ao.ob aG ⟨_,_,_,_,v⟩) (λ_ ay G=>?_))));obtain⟨rfl,aA,u,H,I,bm,bB,v⟩:=G;refine⟨_,rfl,?_⟩;have i:bM ay c 58 [.slice none 0 0,.slice none 0 0]:=(u.below _ Q).trans i;have i2:=u.sub _ i2;have aq:bO w.heap.size O w aA ay:=ao.trans ⟨u.tr,u.ob,u.sub,λj a=>u.below j (ζ a o.tr.size)⟩;refine aK aj [] [(6,.pointer (some ⟨c,0,none⟩)),(8,.pointer (some ⟨b,0,none⟩))] rfl ⟨rfl,rfl,trivial⟩ (a_ (aV (aU (bg (l:=[0,1,2,3,4,5]) rfl (aK aj [0,1,2] [(8,.pointer (some ⟨b,0,none⟩)),(6,.pointer (some ⟨c,0,none⟩)),(53,.pointer (some ⟨b,0,none⟩))] rfl ⟨rfl,rfl,rfl,trivial⟩ (dR aj rfl rfl rfl rfl rfl rfl rfl v.bL [H,I] rfl rfl (.inl rfl) (.agg #[H,I]) rfl ?_))))));obtain⟨bh,bn,aE,_,_⟩:=v.ns.form;obtain⟨bk,bo,aF,_,_⟩:=v.row.form;refine eX aj rfl rfl rfl rfl rfl rfl rfl i [H,I] rfl rfl (by rw[aE,aF];simp[υ]) rfl [H,I] rfl (λaz E t=>?_);have aN:=v.cell i2 Q t;have aH:=(aq.trans (bO.gk aq.ob i2 X t)).fr;refine aK aj [5] [(6,.pointer (some ⟨c,0,none⟩)),(7,.int .i64 0)] rfl ⟨rfl,rfl,trivial⟩ (a_ (aV (dC ?_)));exact(k5 aj (vs:=[.agg #[H,I],.int .i64 0]) ⟨_,_,rfl,⟨_,_,_,_,rfl,E,rfl,rfl,.inl rfl,rfl⟩,_,_,rfl,rfl,rfl⟩ ⟨_,rfl,⟨_,_,rfl,aN.data aM,du.2 rfl⟩,aH⟩)
section
variable {P:Program} {r:Option Nat} {N:Nat} {Θ:cK} {ops:Array Oper} {Q:Exit->Act->World->Prop} {l:Γ} {E:Env} {ds:List Deferred} {w:World} {i d:Nat} {o:Oper} {O:Γ}
theorem ae1 (C:Θ.ok P) {a:Act} (f:Has N E ds a) (q:ops[i]? =some o) (hw:want N ops E o.guard=some true) (l:o.dst=some d) {t:Nat} {x y:Operand} {g D:TI} (h:o.op= .slice t x none (some y) none) (s:Θ.get t=some g)
  (j:g.tag=5) (z:Θ.get g.e=some D) {ad:Addr} {n c hi:Nat} {k:IntKind} (A:ev E x=some (.slice (some ad) n c)) (B:ev E y=some (.int k hi)) (p:n<=c) (m:hi<=c):
  eP P r ops Q i d a w (λu w'=>u= .slice (some ad) hi c/\Fr [] w w'):=by
 refine lS q (gW f hw) l (b:=true) (v:=.slice (some ad) hi c) (w':=w) ?_ ⟨rfl,Fr.refl _ _⟩;simp only[if_true];refine⟨by rw[h];simp,?_⟩;simp only[execOp,h,ξx,f.eval A,ω,ζg,f.eval B,Tx C s j z p m];rfl
theorem ajX (p:Θ.ok P) (C:ops[i]? =some o) (hw:want N ops E o.guard=some true) (A:o.dst=some d) (v:ηl d N=true) {t:Nat} {x y z:Operand} {g s:TI} (m:o.op= .slice t x (some y) (some z) none) (D:Θ.get t=some g)
  (u:g.tag=5) (F:Θ.get g.e=some s) {ad:Addr} {n c lo hi:Nat} {k q:IntKind} (G:ev E x=some (.slice (some ad) n c)) (H:ev E y=some (.int k lo)) (I:ev E z=some (.int q hi)) (B:n<=c) (L:lo<=hi) (J:hi<=c) (K:lo<c)
  (h:WO P r N ops Q l ((d,.slice (some (ad.add (lo*s.size))) (hi-lo) (c-lo))::E) ds w):WO P r N ops Q (i::l) E ds w:=by
 have hu:=(p.fits D).slice u;have j:=od (P:=P) (w:=w) (b:=true) (n:=n) (c:=c) (lo:=some (k,(lo:Int))) (hi:=some (q,(hi:Int))) (mx:=none) B (by simp) (by simp;omega) (by simp;omega) (by simp) (by simp);simp only[ω,ζg,ξ1,ξw,gJ,ι] at j;refine eh C hw A v (by rw[m];simp) (λa f=>?_) h;simp only[execOp,m,ξx,f.eval G,ω,ζg,f.eval H,f.eval I,Instr.sliceAt,run_underlying hu,ξr,Instr.slice,j,dW (p.fits F),ζe];rw[if_neg (by omega)]
theorem ajS (z:Θ.ok P) (I:ops[i]? =some o) (hw:want N ops E o.guard=some true) (D:o.dst=some d) (B:ηl d N=true) {t:Nat} {x y:Operand} {n b:TI}
  (q:o.op= .call {callee:=.builtin .append,args:= #[x,y],argTypes:= #[t,t]}) (L:Θ.get t=some n) (A:n.tag=5) (M:Θ.get n.e=some b) {g k c m f e:Nat} {ad:Addr} {cur:Array Value} {us:Γb}
  (S:ev E x=some (.slice (some ⟨g,0,none⟩) k c)) (U:ev E y=some (.slice (some ad) m f)) (j:w.heap[g]? =some (.cells cur e (0,0))) (R:dJ w ad us) (v:us.length=m*b.size) (h1: ∀u∈us,u.oneCell'=true) (G:k+m<=c) (C:(k+m)*b.size<=cur.size)
  (h: ∀(W:World) (new:Array Value),Fr [g] w W->W.heap[g]? =some (.cells new e (0,0))->new=(cur.toList.take (k*b.size)++us++cur.toList.drop (k*b.size+us.length)).toArray->WO P r N ops Q l ((d,.slice (some ⟨g,0,none⟩) (k+m) c)::E) ds W):WO P r N ops Q (i::l) E ds w:=by
 have O:=(z.fits L).slice A;obtain⟨x',T,K,V,X⟩:=(z.fits M).info;have s:=run_storeCells_at P g (k*b.size) e us 0 cur w j (by rw[v];rw[Nat.add_mul] at C;omega) h1;simp only[ξy] at s;have H:=h (w.setRow g (cur.toList.take (k*b.size)++us++cur.toList.drop (k*b.size+us.length)).toArray) _ (j1 j) (by simp only[ηa,ζf,j,if_true,ω]) rfl;refine eh I hw D B (by rw[q];simp) (λa p=>?_) H;have F:=run_firstCells_some (P:=P) (w:=w) b.size m ad m f us v R;have J:(ζK #[t,t] o.type #[.slice (some ⟨g,0,none⟩) k c,.slice (some ad) m f]).run P w= .ok (.slice (some ⟨g,0,none⟩) (k+m) c) (w.setRow g (cur.toList.take (k*b.size)++us++cur.toList.drop (k*b.size+us.length)).toArray):=by
  simp[ζK,run_underlying O,sizeOf,typeInfo,T,Builtin.lenOf,K,F,G,e',s]
 simp only[execOp,q,ξx,resolve,ζe,ξr,invoke,builtin,ζ9,ξz,ξV,p.eval S,p.eval U,J]
end
noncomputable def np (z:au):Value×Value:=(.int .u64 z.aW,.int .u64 z.aa)
noncomputable def nc (L:List au):Γb:=pc (L.map np)
theorem Ih {O:Γ} {w:World}: ∀ {L:List au},bY dX O w (nc L) L
 |[]=>rfl
 |z::L=>⟨[.int .u64 z.aW,.int .u64 z.aa],nc L,rfl,⟨[.int .u64 z.aW],[.int .u64 z.aa],rfl,rfl,rfl⟩,Ih⟩
theorem Ta {O:Γ} {w:World}: ∀ {L:List au} {cs:Γb},bY dX O w cs L->cs=nc L
 |[],_,h=>h
 |z::L,cs,⟨c1,c2,h1,a,b⟩=>by
  rw[h1,Ta b,aiF a];rfl
theorem kJ (L:List au):(nc L).length=L.length*2:=by rw[nc,fv,ρ]
theorem aen (L:List au) (k:Nat):(nc L).take (k*2)=nc (L.take k):=by rw[nc,xQ,nc,ζ6]
theorem ael (L:List au) (k:Nat):(nc L).drop (k*2)=nc (L.drop k):=by rw[nc,xP,nc,ζr]
theorem aek (L M:List au):nc (L++M)=nc L++nc M:=by rw[nc,ξC,I1];rfl
theorem aem: ∀ {L:List au} {u:Value},u∈nc L->u.oneCell'=true:=λ{L u} h=>bY.one (Ih (O:=[]) (w:=default) (L:=L)) u h
noncomputable def ym (xs:List au) (i j:Int):Option (List au):=if 0<=i/\i<=j/\j<=xs.length then some (xs.take i.toNat++xs.drop j.toNat) else none
set_option maxRecDepth 100000 in
set_option maxHeartbeats 4000000 in
theorem aib {O:Γ} {w:World} (hO:OB O w) {B:Nat} {v:Value} {xs:List au} (p:Go.Dc.Own dX 127 B O w v xs) {i j:Int} {zs:List au} (r:ym xs i j=some zs):
  Calls η 223 #[v,.int .i64 i,.int .i64 j] w (eN dX 127 B O w v zs):=by
 unfold ym at r;split at r
 case isFalse=>cases r
 rename_i aA;cases r;obtain⟨i,rfl⟩: ∃k:Nat,i=k:=⟨i.toNat,by omega⟩;obtain⟨j,rfl⟩: ∃k:Nat,j=k:=⟨j.toNat,by omega⟩;simp only[ι] at*
 obtain⟨A,c,rfl,aD,az⟩:=p.form;have ab:(Ty.slice dX).is [] w (.slice A xs.length c) xs:=p.iL.data yx (λ_ _ h=>by cases h);refine gx (args:=[.slice A xs.length c,.int .i64 i,.int .i64 j]) (N:=33) ηf rfl rfl rfl (aU (bg (l:=[0]) rfl (aK aj [0] [(0,.slice A xs.length c),(1,.int .i64 i),(2,.int .i64 j)] rfl ⟨rfl,rfl,rfl,trivial⟩ (a_ (aV (aU (bg (l:=[0,1,2,3,4,5]) rfl (aK aj [0,1,2,3,4] [(0,.slice A xs.length c),(1,.int .i64 i),(2,.int .i64 j),(8,.slice A xs.length c),(9,.int .i64 i),(10,.int .i64 j),(12,.int .i64 (xs.length:Int))] rfl ⟨rfl,rfl,rfl,rfl,rfl,rfl,rfl,trivial⟩ ?_))))))));refine ajW (l':=some (.i64,(i:Int))) (h':=some (.i64,(j:Int))) (m':=some (.i64,(xs.length:Int))) (ys:=(xs.take j).drop i) aj rfl rfl rfl rfl rfl rfl rfl rfl rfl rfl rfl rfl rfl ab (by
  simp only[ω];unfold dF;rw[if_pos (by simp;omega)];simp) (λv1 h1=>?_)
 refine a_ (aV (aU (aU (bg (l:=[0,1,2]) rfl (aK aj [0,1,2] [(0,.slice A xs.length c),(1,.int .i64 i),(2,.int .i64 j),(16,.bool ((i:Int)==j))] rfl ⟨rfl,rfl,rfl,rfl,trivial⟩ (a_ (aV ?_)))))))
 by_cases ak:i=j
 ·subst ak;refine fB rfl (by simp) ?_;refine aU (bg (l:=[0,1]) rfl (aK aj [0,1] [(6,.slice A xs.length c)] rfl ⟨rfl,trivial⟩ (a_ (aV (dC (fC (eY rfl ⟨_,O,rfl,?_⟩)))))));rw[ξd];exact⟨p,Tr.refl _ _,hO,Sub.refl _,λ_ _ _=>rfl,λ_ _ h=>h⟩
 refine fK rfl (beq_eq_false_iff_ne.2 (by omega)) ?_;refine eF (aV ?_);obtain⟨cs,⟨ay,C⟩,av⟩:=p.ex;rcases C with⟨_,aB⟩|⟨g,cap,cur,C,S,x,y,Z,G,H⟩
 ·omega
 injection C with Q aC X;subst Q;subst X;have ag:=p.mem g rfl;have aa:=Ta av;have V:dX.n=2:=rfl;rw[V] at G H;obtain⟨R,hR⟩: ∃R,R=cur.toList.drop (xs.length*2):=⟨_,rfl⟩;have I:cur.toList=nc xs++R:=by
  rw[hR,<-aa,<-H];exact(ξd _ _).symm
 have ax:xs.length*2+R.length=c*2:=by
  have:=congrArg ζ5 I;rw[χ,G] at this;simp only[ν,kJ] at this;omega
 have f:bM w g 127 (nc xs++R):=by
  unfold bM;rw[<-I,ξO];exact x
 refine aU (bg (l:=[0,1,2]) rfl (aK aj [0,1,2] [(0,.slice (some ⟨g,0,none⟩) xs.length c),(1,.int .i64 i),(2,.int .i64 j),(7,.int .i64 (xs.length:Int))] rfl ⟨rfl,rfl,rfl,rfl,trivial⟩ (a_ (aV (aU (yL mixed [⟨20,[],[0]⟩,⟨21,[],[1]⟩,⟨22,[0,1],[]⟩,⟨23,[],[0]⟩,⟨24,[],[2]⟩,⟨25,[3,4],[]⟩] [SP.eq (.slice (some ⟨g,0,none⟩) xs.length c),SP.eq (.int .i64 i),SP.eq (.slice (some ⟨g,0,none⟩) i c),SP.eq (.slice (some ⟨g,0,none⟩) xs.length c),SP.eq (.int .i64 j),SP.eq (.slice (if c=j then some ⟨g,0,none⟩ else(some ⟨g,0,none⟩:Option Addr).map (·.add (j*2))) (xs.length-j) (c-j))] rfl rfl rfl rfl ⟨?_,?_,?_,?_,?_,?_,trivial⟩ ?_))))))
 ·intro a w2 o b d f m;exact c3 aj ⟨b,d,b7 (E:=[(0,.slice (some ⟨g,0,none⟩) xs.length c)]) ⟨f 0 rfl _ rfl,trivial⟩⟩ rfl rfl rfl rfl rfl
 ·intro a w2 o b d f m;exact c3 aj ⟨b,d,b7 (E:=[(1,.int .i64 i)]) ⟨f 1 rfl _ rfl,trivial⟩⟩ rfl rfl rfl rfl rfl
 ·intro a w2 o b d f m;exact ae1 (n:=xs.length) (c:=c) (hi:=i) aj ⟨b,d,b7 (E:=[(20,.slice (some ⟨g,0,none⟩) xs.length c),(21,.int .i64 i)]) ⟨m 0 rfl _ _ rfl rfl,m 1 rfl _ _ rfl rfl,trivial⟩⟩ rfl rfl rfl rfl rfl rfl rfl rfl rfl y (by omega)
 ·intro a w2 o b d f m;exact c3 aj ⟨b,d,b7 (E:=[(0,.slice (some ⟨g,0,none⟩) xs.length c)]) ⟨f 0 rfl _ rfl,trivial⟩⟩ rfl rfl rfl rfl rfl
 ·intro a w2 o b d f m;exact c3 aj ⟨b,d,b7 (E:=[(2,.int .i64 j)]) ⟨f 2 rfl _ rfl,trivial⟩⟩ rfl rfl rfl rfl rfl
 ·intro a w2 o b d f m;refine(qY (A:=some ⟨g,0,none⟩) (n:=xs.length) (c:=c) (lo:=j) aj ⟨b,d,b7 (E:=[(23,.slice (some ⟨g,0,none⟩) xs.length c),(24,.int .i64 j)]) ⟨m 3 rfl _ _ rfl rfl,m 4 rfl _ _ rfl rfl,trivial⟩⟩ rfl rfl rfl rfl rfl rfl rfl rfl rfl y (by omega)).weaken (λu w3 x=>?_);exact x
 intro a w3 f3 b d t z;have D:=f.cj f3;obtain⟨ad,W,Y⟩: ∃ad,(if c=j then some ⟨g,0,none⟩ else(some ⟨g,0,none⟩:Option Addr).map (·.add (j*2)))=some ad/\dJ w3 ad (nc (xs.drop j)):=by
  by_cases F:c=j
  ·refine⟨⟨g,0,none⟩,by rw[if_pos F],?_⟩;rw[List.drop_eq_nil_of_le (by omega)];intro k u hk;simp[nc,pc] at hk
  ·refine⟨⟨g,j*2,none⟩,by rw[if_neg F,ω,e',ψ],?_⟩;intro k u hk;rw[e',D.cell];rw[<-ael,ξW] at hk;have al:=(δ.1 hk).1;rw[ξ al];exact hk
 rw[W] at z;refine rG (E:=[(1,.int .i64 i),(2,.int .i64 j),(7,.int .i64 (xs.length:Int)),(22,.slice (some ⟨g,0,none⟩) i c),(25,.slice (some ad) (xs.length-j) (c-j))]) (l:=[6,7]) b d ⟨t 1 _ rfl rfl,t 2 _ rfl rfl,t 7 _ rfl rfl,z 2 _ _ rfl rfl,z 5 _ _ rfl rfl,trivial⟩ rfl ?_;have J:(nc (xs.drop j)).length=(xs.length-j)*2:=by rw[kJ,ξL]
 refine ajS aj rfl rfl rfl rfl rfl rfl rfl rfl rfl rfl D Y J (λu hu=>aem hu) (by omega) (by simp only[ζ2,ν,kJ];show(i+(xs.length-j))*2<=_;omega) (λaE new ae ah an=>?_);have K:new.toList=nc (xs.take i++xs.drop j)++(nc xs++R).drop (i*2+(xs.length-j)*2):=by
  rw[an];simp only[ξR];rw[J,aek,ξs,ξs]
  congr 1
  show List.take (i*2) (nc xs++R)=_;rw[ξg (by rw[kJ];omega),aen]
 have s:(xs.take i++xs.drop j).length=i+(xs.length-j):=by simp;omega
 refine aK aj [7] [(0,.slice (some ⟨g,0,none⟩) (i+(xs.length-j)) c),(1,.int .i64 i),(2,.int .i64 j),(7,.int .i64 (xs.length:Int))] rfl ⟨rfl,rfl,rfl,rfl,trivial⟩ (a_ (aV (aU (bg (l:=[0,1,2,3,4,5]) rfl (aK aj [0,1,2,3] [(0,.slice (some ⟨g,0,none⟩) (i+(xs.length-j)) c),(27,.slice (some ⟨g,0,none⟩) (i+(xs.length-j)) c),(29,.int .i64 ((i+(xs.length-j):Nat):Int)),(30,.int .i64 (xs.length:Int))] rfl ⟨rfl,rfl,rfl,rfl,trivial⟩ (ajX (n:=i+(xs.length-j)) (c:=c) (lo:=i+(xs.length-j)) (hi:=xs.length) aj rfl rfl rfl rfl rfl rfl rfl rfl rfl rfl rfl (by omega) (by omega) y (by omega) ?_))))));obtain⟨q,ar⟩: ∃q,xs.length-(i+(xs.length-j))=q+1:=⟨xs.length-(i+(xs.length-j))-1,by omega⟩;rw[ar,e',ψ];have M:new.size=c*2:=by
  rw[<-χ,K];simp only[ν,ξL,kJ,ξh];omega
 refine Vm (k:=2) aj rfl rfl rfl rfl rfl rfl rfl rfl ah rfl (λu hu=>Vt rfl rfl hu) (by rw[M];show(i+(xs.length-j))*2+(q+1)*2<=c*2;omega) (λaw P af ai ao=>?_);have L:P.toList=nc (xs.take i++xs.drop j)++((ξ2 (ηb #[.int .u64 0,.int .u64 0]).cells (q+1)).toList++new.toList.drop ((i+(xs.length-j))*2+(q+1)*2)):=by
  rw[ao];simp only[ξR,ξs]
  congr 1
  show List.take ((i+(xs.length-j))*2) new.toList=_;rw[K];exact ξS (by rw[kJ,s])
 have aq:P.size=c*2:=by
  rw[<-χ,L];simp only[ν,ξL,kJ,χ,size_zeroCells,M,ξh];show _+((q+1)*2+_)=_;omega
 refine a_ (aV (aU (bg (l:=[0,1]) rfl (aK aj [0,1] [(6,.slice (some ⟨g,0,none⟩) (i+(xs.length-j)) c)] rfl ⟨rfl,trivial⟩ (a_ (aV (dC (eY rfl ⟨_,O,rfl,?_⟩))))))));have U:Fr [g] w aw:=(f3.more (by simp)).trans (ae.trans af);have:=Kq (T:=dX) (e:=127) (B:=B) (n0:=xs.length) (zs:=xs.take i++xs.drop j) (cap:=c) hO ag S U ai aq Z (by rw[s];omega) Ih (by
  rw[L];exact ξS (by rw[kJ,s];rfl))
 rw[s] at this;exact this
end Go.Proofs.YtoggponeookhbaaGreatDoor
end
section
namespace Go.Vx
open Go.RowKit Go.Dc
section
variable {S:bm} {K:Kit S} {P:Program}
def fA:List (aB S)->Option (Γb)
 |[]=>some []
 | .one (.v u)::r=>(match fA r with|some us=>some (u::us)|none=>none)
 |_=>none
theorem U5 {A:Pl} {O:Γ} {w:World}: ∀ {aka:List (aB S)} {us vs:Γb},fA aka=some us->cI A O w aka vs->vs=us
 |[],us,vs,h,b=>by
  cases h;exact b
 | .one (.v u)::r,us,vs,h,⟨y,ys,e,h1,a⟩=>by
  simp only[fA] at h;split at h
  ·rename_i c hu;cases h;have h1:[y]=[u]/\_:=h1;rw[e,U5 hu a,List.cons.inj h1.1|>.1]
  ·cases h
 | .agg _::_,us,vs,h,_=>by simp[fA] at h
 | .one (.aJ _ _)::_,us,vs,h,_=>by simp[fA] at h
 | .one (.ptr _ _ _)::_,us,vs,h,_=>by simp[fA] at h
 | .one (.aM _ _)::_,us,vs,h,_=>by simp[fA] at h
 | .one (.fa _ _ _ _)::_,us,vs,h,_=>by simp[fA] at h
 | .one (.own _)::_,us,vs,h,_=>by simp[fA] at h
 | .one (.d' _ _ _ _)::_,us,vs,h,_=>by simp[fA] at h
 | .one (.fD _ _ _)::_,us,vs,h,_=>by simp[fA] at h
 | .one (.mp _)::_,us,vs,h,_=>by simp[fA] at h
 | .one (.a7 _)::_,us,vs,h,_=>by simp[fA] at h
 | .one .cW::_,us,vs,h,_=>by simp[fA] at h
 | .one (.cZ _)::_,us,vs,h,_=>by simp[fA] at h
 | .one (.bA _ _ _)::_,us,vs,h,_=>by simp[fA] at h
 | .one (.cA _ _)::_,us,vs,h,_=>by simp[fA] at h
def JZ (K:Kit S) (f e:Nat) (tr:List (S.El e)->Γb->Option (List (S.El e))):eO S:=⟨f,λaka h k=>match aka with
 | .one (.own r)::rest=>(match fA rest,dO K (aE h) e (.own r) with
  |some us,some xs=>(tr xs us).bind λzs=>k (.ret (.s (.one (.own h.length)))) (h.set r none++[some (.row e zs)]) [r]
  |_,_=>none)
 |_=>none⟩
theorem aiQ (aA:b6 K P) {f e:Nat} {tr:List (S.El e)->Γb->Option (List (S.El e))} (ai:eB P f)
  (ah: ∀(O:Γ) (w:World) (v:Value) (us:Γb) (xs zs:List (S.El e)),OB O w->Dc.Own (S.ty e) e 0 O w v xs->tr xs us=some zs->Calls P f (v::us).toArray w (eN (S.ty e) e 0 O w v zs))
  {R:Type} (aka:List (aB S)) (h:AH S) (k:Rs S->AH S->Γ->Option R) (z:R) (x:(JZ K f e tr).out aka h k=some z): ∃r h' dt,k r h' dt=some z/\dk K P f aka h r h' dt:=by
 simp only[JZ] at x;split at x
 rotate_left
 ·cases x
 rename_i r rest;split at x
 rotate_left
 ·cases x
 rename_i us xs aq av;obtain⟨zs,aw,hk⟩:=bind_some x;have F:=FY av;refine⟨_,_,_,hk,ai,λA O w vs N t hO az T W=>?_⟩;obtain⟨v,ax,rfl,ar,ao⟩:=N;obtain rfl:=U5 aq ao;obtain⟨_,G,au,_⟩:=ar;cases au;obtain⟨v0,ae,an,aC⟩:=t.al r _ F;rw[G] at ae;cases ae;refine(ah O w v ax xs zs hO an aw).mono ?_;rintro ay w' ⟨m,Q,rfl,g⟩;obtain⟨A',C⟩: ∃A':Pl,A'=⟨λi=>bif ξI i h.length then some m else A.pl i,A.ls⟩:=⟨_,rfl⟩;have y: ∀i,i≠h.length->A'.pl i=A.pl i:=λi hi=>by
  rw[C];have:ξI i h.length=false:=by
   cases a:ξI i h.length with
   |false=>rfl
   |true=>exact absurd (ξk a) hi
  simp only[this,cond_false]
 have B:A'.pl h.length=some m:=by rw[C];simp
 have hle:A.le A':=⟨λi p hp=>by
  rw[y i (λe=>by subst e;rw[T _ (ξa _)] at hp;cases hp)];exact hp,by rw[C]⟩
 have n: ∀b,b4 v≠some b->v.ownBlock≠some b:=λb a N=>a (gw N);have ad: ∀b,b<w.heap.size->b4 v≠some b->w'.heap[b]? =w.heap[b]? :=λb a hn=>g.fr b a (n b hn);have U: ∀b,b4 m=some b->m.ownBlock=some b/\b∈Q:=by
  intro b a;have n:m.ownBlock=some b:=by
   rcases gO g.own with⟨s,_⟩|⟨af,c,s⟩
   ·rw[s] at a;cases a
   ·rw[s] at a ⊢;cases a;rfl
  exact⟨n,g.own.mem b n⟩
 have M: ∀b,b<w.heap.size->b4 v≠some b->b4 m≠some b:=λb a hn h'=>g.ne b a (n b hn) (U b h').1;have ak:m.oneCell'=true:=by
  rcases gO g.own with⟨s,_⟩|⟨af,c,s⟩<;>rw[s]<;>rfl
 have hlen:(h.set r none).length=h.length:=by simp
 have u: ∀ {i:Nat} {X:Ob S},aE (h.set r none++[some (.row e zs)]) i=some X->(i≠r/\aE h i=some X)\/(i=h.length/\X= .row e zs):=by
  intro i X hi;rcases jP hi with h1|⟨h1,l⟩
  ·exact .inl (IG h1)
  ·exact .inr ⟨h1.trans hlen,l⟩
 have Z: ∀i X,aE (h.set r none++[some (.row e zs)]) i=some X->X.nt=true:=λi X hi=>by
  rcases u hi with⟨_,h1⟩|⟨_,rfl⟩
  ·exact W i X h1
  ·rfl
 refine⟨A',Q,⟨m,rfl,⟨m,B,rfl,ak⟩⟩,⟨bW.xr Z ?_ ?_,g.ob,g.tr,λi hi=>y i (by omega),(λj E=>?_),by rw[C],by simp,?_,?_,λi X _=>Z i X⟩⟩
 ·intro i X hi;rcases u hi with⟨D,h1⟩|⟨rfl,rfl⟩
  ·obtain⟨p,hp,hR,a⟩:=t.al i X h1;have aj:=fc h1;exact⟨p,by rw[y i (by omega)];exact hp,hR.keep g.tr hle λb d=>have d:=eQ (W i X h1) d;⟨ad b (hO b (a b d)) (λn=>t.dj i r _ _ p v b D h1 F hp G d n),g.sub b (a b d)⟩,λb d=>g.sub b (a b d)⟩
  ·exact⟨m,B,g.own,λb a=>(U b a).2⟩
 ·intro i j X Y p q b V hi E hp H d I;have J: ∀ {i:Nat} {X:Ob S} {p:Value},i≠r->aE h i=some X->A'.pl i=some p->b4 p=some b->b<w.heap.size/\A.pl i=some p/\b4 v≠some b:=by
   intro i X p ag h1 l o;have aj:=fc h1;rw[y i (by omega)] at l;obtain⟨aD,ab,_,a⟩:=t.al i X h1;rw[l] at ab;cases ab;exact⟨hO b (a b o),l,λn=>t.dj i r _ _ p v b ag h1 F l G o n⟩
  rcases u hi with⟨D,h1⟩|⟨rfl,rfl⟩
  ·rcases u E with⟨L,l⟩|⟨rfl,rfl⟩
   ·exact t.dj i j X Y p q b V h1 l (J D h1 hp d).2.1 (J L l H I).2.1 d I
   ·rw[B] at H;cases H;have o:=J D h1 hp d;exact M b o.1 o.2.2 I
  ·rcases u E with⟨L,l⟩|⟨rfl,rfl⟩
   ·rw[B] at hp;cases hp;have o:=J L l H I;exact M b o.1 o.2.2 d
   ·exact absurd rfl V
 ·have:j=r:=by simpa using E
  subst this;exact fc F
 ·intro i hi;simp at hi;rw[y i (by omega)];exact T i (by omega)
 ·intro b a hn;have aa:=hn r (by simp) v G;refine⟨ad b (hO b a) aa,g.sub b a,λi X p hi hX hp d=>?_⟩;rcases u hX with⟨_,h1⟩|⟨rfl,rfl⟩
  ·have:=fc h1;omega
  ·rw[B] at hp;cases hp;exact M b (hO b a) aa (eQ rfl d)
end
end Go.Vx
end
section
namespace Go.Proofs.YtoggponeookhbaaGreatDoor
open Go.RowKit Go.Dc Go.Vx
noncomputable def px (xs:List au) (us:Γb):Option (List au):=match us with
 |[.int .i64 i,.int .i64 j]=>ym xs i j
 |_=>none
noncomputable def FW:eO SS:=JZ KK 223 127 px
theorem abY {R:Type} (xs:List (aB SS)) (h:AH SS) (k:Rs SS->AH SS->Γ->Option R) (z:R) (a:FW.out xs h k=some z): ∃r h' dt,k r h' dt=some z/\dk KK η 223 xs h r h' dt:=
 aiQ (e:=127) (tr:=px) dc (c9 aT ηf rfl) (λO w v us xs zs hO b a=>by
  unfold px at a;split at a
  ·exact aib hO b a
  ·cases a) xs h k z a
noncomputable def An (U:Sh):bN SS:= {s6 U with H:=FW::(s6 U).H}
theorem Yt:ag (An shut) η:=ag.hg (c:=FW) Bg abY
noncomputable def vv (U:Sh) (s:aL) (pid:Int) (words:Γa):Option (aL×Int):=U.s _ (qG U s pid words)
noncomputable def vw (U:Sh) (s:aL) (pid:Int):Option (aL×Int×Int):=U.s _ (qF U s pid)
noncomputable def vg (U:Sh) (s:aL) (pid:Int):Option (aL×Int×Int):=U.s _ (qE U s pid)
theorem JM {α:Type} {x:α}:shut.s α x=x:=by rw[j2]
noncomputable def FQ (U:Sh):eM SS:=fE KK 170 [58,35,130] (λ{R} xs (k:Rs SS->Option R)=>match xs with| .cons s (.cons pid (.cons words .nil))=>(vv U s pid words).bind (λr=>k (.ret (.bJ [KK.bl 58 r.1,KK.bl 27 r.2]))))
noncomputable def FR (U:Sh):eM SS:=fE KK 171 [58,35] (λ{R} xs (k:Rs SS->Option R)=>match xs with| .cons s (.cons pid .nil)=>(vw U s pid).bind (λr=>k (.ret (.bJ [KK.bl 58 r.1,KK.bl 35 r.2.1,KK.bl 27 r.2.2]))))
noncomputable def FP (U:Sh):eM SS:=fE KK 152 [58,35] (λ{R} xs (k:Rs SS->Option R)=>match xs with| .cons s (.cons pid .nil)=>(vg U s pid).bind (λr=>k (.ret (.bJ [KK.bl 58 r.1,KK.bl 3 r.2.1,KK.bl 27 r.2.2]))))
theorem g0 {O:Γ} {w:World} (h:cN KK O w):cN KK [] w:=h.tr (Tr.less λ_ hk=>by cases hk)
theorem HS {A:Pl} {O:Γ} {w:World} {s:aL} {v:Value} (h:(KK.bl 58 s).rel A O w v):fU.is [] w v s:=HV (HW dc (t:=58) rfl rfl h)
theorem J' {A:Pl} {O:Γ} {w:World} {s:Int} {v:Value} (h:(KK.bl 35 s).rel A O w v):(Ty.int .u64).is [] w v s:=HV (HW dc (t:=35) rfl rfl h)
theorem aj5 {A:Pl} {O:Γ} {w:World} {s:Γa} {v:Value} (h:(KK.bl 130 s).rel A O w v):(Ty.slice (Ty.int .u64)).is [] w v s:=HV (HW dc (t:=130) rfl rfl h)
theorem abG {R:Type} (ys:List (aB SS)) (k:Rs SS->Option R) (z:R) (hp:ys.all aB.pure=true) (m:(FQ shut).out ys k=some z): ∃r,k r=some z/\ej KK η 170 ys r:=
 pw dc (λ{R} xs k z h=>by
  match xs,h with
  | .cons s (.cons pid (.cons words .nil)),h=>
   obtain⟨r,j,hk⟩:=bind_some h;refine⟨_,hk,c9 aT ηe rfl,λA O w vs l hO i=>?_⟩;obtain⟨v0,_,rfl,c,v1,_,rfl,h1,v2,_,rfl,d,f⟩:=l;rw[show _=[] from f];refine(adD hO (g0 i) (HS c) (J' h1) (aj5 d) (JM.symm.trans j)).mono ?_;rintro e w' ⟨v,rfl,⟨a,b,rfl,n,o⟩,g⟩;exact⟨⟨_,rfl,[a,b],rfl,a,[b],rfl,hZ dc (t:=58) rfl rfl n,b,[],rfl,hZ dc (t:=27) rfl rfl o,rfl⟩,g⟩) ys k z hp m
theorem abH {R:Type} (ys:List (aB SS)) (k:Rs SS->Option R) (z:R) (hp:ys.all aB.pure=true) (m:(FR shut).out ys k=some z): ∃r,k r=some z/\ej KK η 171 ys r:=
 pw dc (λ{R} xs k z h=>by
  match xs,h with
  | .cons s (.cons pid .nil),h=>
   obtain⟨r,j,hk⟩:=bind_some h;refine⟨_,hk,c9 aT ηd rfl,λA O w vs l hO i=>?_⟩;obtain⟨v0,_,rfl,d,v1,_,rfl,h1,f⟩:=l;rw[show _=[] from f];refine(adC hO (g0 i) (HS d) (J' h1) (JM.symm.trans j)).mono ?_;rintro e w' ⟨v,rfl,⟨a,b,c,rfl,n,o,p⟩,g⟩;exact⟨⟨_,rfl,[a,b,c],rfl,a,[b,c],rfl,hZ dc (t:=58) rfl rfl n,b,[c],rfl,hZ dc (t:=35) rfl rfl o,c,[],rfl,hZ dc (t:=27) rfl rfl p,rfl⟩,g⟩) ys k z hp m
theorem abF {R:Type} (ys:List (aB SS)) (k:Rs SS->Option R) (z:R) (hp:ys.all aB.pure=true) (m:(FP shut).out ys k=some z): ∃r,k r=some z/\ej KK η 152 ys r:=
 pw dc (λ{R} xs k z h=>by
  match xs,h with
  | .cons s (.cons pid .nil),h=>
   obtain⟨r,j,hk⟩:=bind_some h;refine⟨_,hk,c9 aT ηc rfl,λA O w vs l hO i=>?_⟩;obtain⟨v0,_,rfl,d,v1,_,rfl,h1,f⟩:=l;rw[show _=[] from f];refine(adB hO (g0 i) (HS d) (J' h1) (JM.symm.trans j)).mono ?_;rintro e w' ⟨v,rfl,⟨a,b,c,rfl,n,o,p⟩,g⟩;exact⟨⟨_,rfl,[a,b,c],rfl,a,[b,c],rfl,hZ dc (t:=58) rfl rfl n,b,[c],rfl,hZ dc (t:=3) rfl rfl o,c,[],rfl,hZ dc (t:=27) rfl rfl p,rfl⟩,g⟩) ys k z hp m
noncomputable def z7 (U:Sh):bN SS:= {An U with C:=FQ U::(An U).C}
theorem Yr:ag (z7 shut) η:=ag.f_ (c:=FQ shut) Yt abG
noncomputable def z8 (U:Sh):bN SS:= {z7 U with C:=FR U::(z7 U).C}
theorem Ys:ag (z8 shut) η:=ag.f_ (c:=FR shut) Yr abH
noncomputable def zJ (U:Sh):bN SS:= {z8 U with C:=FP U::(z8 U).C}
theorem zK:ag (zJ shut) η:=ag.f_ (c:=FP shut) Ys abF
end Go.Proofs.YtoggponeookhbaaGreatDoor
end
section
namespace Go.Proofs.YtoggponeookhbaaGreatDoor
open Go.RowKit Go.Dc Go.Vx
variable (U:Sh)
def wm (a:List ar) (p1:List au) (p2 b:Int) (c:List ar):AS SS:=⟨[(5,va 0 0),(20,vd 56 a),(21,vi p2),(22,vi b)],[bX 262 [.own 1,.own 2],rX 127 p1,rX 132 c],0,none,false,[],[]⟩
def M9 (U:Sh) (b:List ar) (p1:List au) (p2:Int) (a:Int×List ar):T ((Int×List ar)⊕(Bool×Int×List ar)):=.bf (decide (a.1<p2)) (.bd (idx b a.1) λz0=>.bd (app 8 [] z0.bj) λc=>.bd (app 32 a.2 [ar.mk z0.aa c]) λz2=>.ok (.inl (γ.wrap (a.1+1),z2)))<|.ok (.inr (decide (a.1<p2),a.1,a.2))
def Cr (a:List ar) (p1:List au) (p2 b:Int) (c:List ar):=bQ U (M9 U a p1 p2) 1000000 (b,c)
def ZT {R} (k:KX SS R) (a:List ar) (p1:List au) (p2:Int) (x:(Bool×Int×List ar)):Option R:=(λv=>k (.exit 0) {wm a p1 p2 p2 v.2.2 with env:=[(23,vb v.1),(5,va 0 0),(20,vd 56 a),(21,vi p2),(22,vi v.2.1)]}) x
def Qi:aX SS:=hq (λst=>gc (aq 219 7) (et 0 1 132 (st)))<|bh 7 (λst=>(eo 56 (cJ st 20 0)).bind λa=>(dU st 1 127).bind λp1=>(cO (cJ st 21 0)).bind λp2=>(cO (cJ st 22 0)).bind λb=>(dU st 2 132).bind λc=>some (a,p1,p2,b,c)) (u5 wm) (u5 (Cr shut)) (λk p=>ZT k p.1 p.2.1 p.2.2.1)
theorem agf:LS KK η aq ζG 219 7 Qi:=aO.pre (b_.comp (b_.gc (aq 219 7)) (b_.et 0 1 132))<|
 aO.bQ (π:=List ar×List au×Int×Int×List ar) (σ:=Int×List ar) (ag.all zK rfl) (aF.nil) rfl 60 (λp a=>wm p.1 p.2.1 p.2.2.1 a.1 a.2) (λp=>(p.2.2.2.1,p.2.2.2.2)) (St:=λp=>M9 shut p.1 p.2.1 p.2.2.1) (λp=>1000000) (λp=>rfl)
  (λm p a k=>by kernel_rfl)
def wK (a:Int) (p1:List au) (p2 b:Int):AS SS:=⟨[(0,vo 0),(1,vu a),(2,vc 1),(8,vl p1),(9,vi p2),(10,vi b)],[rX 127 p1,some (.a7 270 [] [.one (.aM 2 0)]),bX 284 [.v (.func (.func 221) (.mk []) (.mk []))]],3,none,false,[],[]⟩
def o2 (b:Int) (p1:List au) (a:Int×Int):T ((Int×Int)⊕(Bool×Int×Int)):=.bf (decide (a.1<a.2)) (.bd (idx p1 (γ.wrap ((ο.wrap (γ.wrap (a.1+a.2))).fdiv 2))) λz0=>.bd (p1[(γ.wrap ((ο.wrap (γ.wrap (a.1+a.2))).fdiv 2)).toNat]?) λc=>.bd (ie U c.aW b) λz2=>.bf (decide (z2<0)) (.ok (.inl (γ.wrap (γ.wrap ((ο.wrap (γ.wrap (a.1+a.2))).fdiv 2)+1),a.2)))<|.ok (.inl (a.1,γ.wrap ((ο.wrap (γ.wrap (a.1+a.2))).fdiv 2))))<|.ok (.inr (decide (a.1<a.2),a.2,a.1))
def CT (a:Int) (p1:List au) (p2 b:Int):=bQ U (o2 U a p1) 1000000 (p2,b)
def aao {R} (k:KX SS R) (a:Int) (p1:List au) (x:(Bool×Int×Int)):Option R:=(λv=>k (.exit 0) {wK a p1 a a with env:=[(17,vb v.1),(16,vi v.2.1),(15,vi v.2.2),(0,vo 0),(1,vu a),(2,vc 1),(8,vl p1),(9,vi v.2.2),(10,vi v.2.1)]}) x
def QN:aX SS:=bh 4 (gq (λst=>cG st 1 270) (sq (sI 1) (sq (hR 0 127) (sq (sI 9) (sI 10))))) (u4 wK) (u4 (CT shut)) (λk p=>aao k p.1 p.2.1)
def KP:=bq (zJ shut) aq ζG 219 [Qi]
theorem KQ:aR KP η:=bu (ag.all zK rfl) ζb rfl aT (by kernel_rfl) agf
theorem agN:LS KK η aq ζc 269 4 QN:=
 aO.bQ (π:=Int×List au×Int×Int) (σ:=Int×Int) KQ (aF.nil) rfl 60 (λp a=>wK p.1 p.2.1 a.1 a.2) (λp=>(p.2.2.1,p.2.2.2)) (St:=λp=>o2 shut p.1 p.2.1) (λp=>1000000) (λp=>rfl)
  (λm p a k=>by kernel_rfl)
def Wr:=bq KP aq ζc 269 [QN]
theorem Ws:aR Wr η:=bu KQ ζz rfl aT (by kernel_rfl) agN
def D6 (s:aL) (name:Int):T (aL×Int):=.bd (jI U s) λz0=>.bf (z0 !=0) (.bf (z0 !=0) (.ok (⟨[],[]⟩,z0))<|.bd (jG U name) λa=>.bf (!a) (.ok (⟨[],[]⟩,351))<|.no)<|.bd (app 16 [] s.ak) λa=>.gd (wm s.an a ((↑s.an.length:Int)) 0 [])<|.bd (Cr U s.an a ((↑s.an.length:Int)) 0 []) λc=>.bd (jG U name) λz3=>.bf (!z3) (.ok (⟨[],[]⟩,351))<|.gd (wK name a 0 (↑a.length:Int))<|.bd (CT U name a 0 ((↑a.length:Int))) λb=>.bf (decide (b.2.2<(↑a.length:Int))) (.bd (idx a b.2.2) λz5=>.bd (a[b.2.2.toNat]?) λd=>.bd (ie U d.aW name) λe=>.bf (!e==0) (.ok (⟨[],[]⟩,4))<|.bd (px a [ζJ γ b.2.2,ζJ γ (γ.wrap (b.2.2+1))]) λf=>.ok (⟨f,c.2.2⟩,0))<|.ok (⟨[],[]⟩,4)
def vt (s:aL) (name:Int):=U.s _ (D6 U s name).val
def Ly:=a6 (bU KK 168 58 35 (vt U) (dy KK 58 27)) (zJ U)
theorem Lz:ag (Ly shut) η:=bZ (rs:=[58,27]) zK Ws rfl rfl λs name k=>by kernel_rfl
def E2 (s:aZ) (x:b3):T (aZ×cu):=.bf (decide (x.aQ>=1)) (.bf (!decide (x.aQ<=14)) (.ok (s,⟨361,0⟩))<|.bd (GY U x) λz0=>.bf (z0) (.bf (x.aQ==0) (.no)<|.bf (x.aQ==1) (.bd (u_ U s.ax (ao x.fArgs 0)) λa=>.bf (!a.snd.snd==0) (.ok (s,⟨a.snd.snd,0⟩))<|.ok (⟨a.fst,s.aI,s.aC,s.aw⟩,⟨0,a.snd.fst⟩))<|.bf (x.aQ==2) (.bd (u' U s.ax (ao x.fArgs 0) (ao x.fArgs 1)) λa=>.bf (!a.snd==0) (.ok (s,⟨a.snd,0⟩))<|.bd (ve U s.aw (ao x.fArgs 0)) λz2=>.bf (!(↑z2.length:Int)==0) (.ok (s,⟨341,0⟩))<|.bd (vf U s.aI (ao x.fArgs 0)) λz3=>.bd (vg U s.aw (ao x.fArgs 0)) λz4=>.bf (!z4.snd.snd==0) (.ok (s,⟨z4.snd.snd,0⟩))<|.ok (⟨a.fst,z3.fst,s.aC,z4.fst⟩,⟨0,0⟩))<|.bf (x.aQ==3) (.bd (vh U s.ax (ao x.fArgs 0) (ao x.fArgs 1)) λa=>.bf (!a.snd.snd==0) (.ok (s,⟨a.snd.snd,0⟩))<|.ok (⟨a.fst,s.aI,s.aC,s.aw⟩,⟨0,a.snd.fst⟩))<|.bf (x.aQ==4) (.bd (nf U s.aC (ao x.fArgs 1)) λa=>.bf (!a.snd==0) (.ok (s,⟨a.snd,0⟩))<|.bd (pF U s.aI (ao x.fArgs 0) a.fst) λz2=>.bf (!z2.snd.snd==0) (.ok (s,⟨z2.snd.snd,0⟩))<|.ok (⟨s.ax,z2.fst,s.aC,s.aw⟩,⟨0,ο.wrap z2.snd.fst⟩))<|.bf (x.aQ==5) (.bf (!decide (ao x.fArgs 1<8)) (.ok (s,⟨4,0⟩))<|.bd (ks U s.aI (ao x.fArgs 0) (γ.wrap (ao x.fArgs 1))) λa=>.bf (!a.snd) (.ok (s,⟨4,0⟩))<|.bd (vj U s.aI (ao x.fArgs 0) [γ.wrap (ao x.fArgs 1)]) λz2=>.bf (!z2.snd==0) (.ok (s,⟨z2.snd,0⟩))<|.ok (⟨s.ax,z2.fst,s.aC,s.aw⟩,⟨0,0⟩))<|.bf (x.aQ==6) (.bf (!decide (ao x.fArgs 1<8)) (.ok (s,⟨4,0⟩))<|.bd (ks U s.aI (ao x.fArgs 0) (γ.wrap (ao x.fArgs 1))) λa=>.bf (!a.snd) (.ok (s,⟨4,0⟩))<|.bd (vk U s.aI (ao x.fArgs 0) (γ.wrap (ao x.fArgs 1))) λz2=>.bf (!z2.snd.snd==0) (.ok (s,⟨z2.snd.snd,0⟩))<|.ok (⟨s.ax,z2.fst,s.aC,s.aw⟩,⟨0,ο.wrap z2.snd.fst⟩))<|.bf (x.aQ==7) (.bd (vm U s.aC (ao x.fArgs 1)) λa=>.bf (!a.snd.snd==0) (.ok (s,⟨a.snd.snd,0⟩))<|.ok (⟨s.ax,s.aI,a.fst,s.aw⟩,⟨0,a.snd.fst⟩))<|.bf (x.aQ==8) (.bd (vn U s.aC (ao x.fArgs 1)) λa=>.bf (!a.snd==0) (.ok (s,⟨a.snd,0⟩))<|.bd (vp U s.aI a.fst) λz2=>.bf (!z2==0) (.ok (s,⟨341,0⟩))<|.bd (vq U s.aC (ao x.fArgs 1)) λz3=>.bf (!z3.snd==0) (.ok (s,⟨z3.snd,0⟩))<|.ok (⟨s.ax,s.aI,z3.fst,s.aw⟩,⟨0,0⟩))<|.bf (x.aQ==9) (.bd (nf U s.aC (ao x.fArgs 1)) λa=>.bf (!a.snd==0) (.ok (s,⟨a.snd,0⟩))<|.ok (s,⟨0,a.fst⟩))<|.bf (x.aQ==10) (.bd (vr U s.aw (ao x.fArgs 1) (ao x.fArgs 0)) λa=>.bf (!a.snd==0) (.ok (s,⟨a.snd,0⟩))<|.ok (⟨s.ax,s.aI,s.aC,a.fst⟩,⟨0,0⟩))<|.bf (x.aQ==11) (.bd (ng U s.aw (ao x.fArgs 1)) λa=>.bf (!a.snd==0) (.ok (s,⟨a.snd,0⟩))<|.bf (!a.fst==ao x.fArgs 0) (.ok (s,⟨362,0⟩))<|.bd (vt U s.aw (ao x.fArgs 1)) λb=>.bf (!b.2==0) (.ok (s,⟨b.2,0⟩))<|.ok (⟨s.ax,s.aI,s.aC,b.1⟩,⟨0,0⟩))<|.bf (x.aQ==12) (.bd (ng U s.aw (ao x.fArgs 1)) λa=>.bf (!a.snd==0) (.ok (s,⟨a.snd,0⟩))<|.ok (s,⟨0,a.fst⟩))<|.bf (x.aQ==13) (.bd (pR U s.ax (ao x.fArgs 1)) λa=>.bf (!a) (.ok (s,⟨4,0⟩))<|.bd (vv U s.aw (ao x.fArgs 1) [ao x.fArgs 2]) λz2=>.bf (!z2.snd !=6) (.ok (s,⟨322,0⟩))<|.bf (!z2.snd==0) (.ok (s,⟨z2.snd,0⟩))<|.ok (⟨s.ax,s.aI,s.aC,z2.fst⟩,⟨0,0⟩))<|.bf (x.aQ==14) (.bd (vw U s.aw (ao x.fArgs 0)) λa=>.bf (!a.snd.snd !=4) (.ok (s,⟨322,0⟩))<|.bf (!a.snd.snd==0) (.ok (s,⟨a.snd.snd,0⟩))<|.ok (⟨s.ax,s.aI,s.aC,a.fst⟩,⟨0,a.snd.fst⟩))<|.no)<|.bd (pR U s.ax (ao x.fArgs 0)) λa=>.bf (!a) (.ok (s,⟨321,0⟩))<|.bf (x.aQ==0) (.no)<|.bf (x.aQ==1) (.bd (u_ U s.ax (ao x.fArgs 0)) λz2=>.bf (!z2.snd.snd==0) (.ok (s,⟨z2.snd.snd,0⟩))<|.ok (⟨z2.fst,s.aI,s.aC,s.aw⟩,⟨0,z2.snd.fst⟩))<|.bf (x.aQ==2) (.bd (u' U s.ax (ao x.fArgs 0) (ao x.fArgs 1)) λz2=>.bf (!z2.snd==0) (.ok (s,⟨z2.snd,0⟩))<|.bd (ve U s.aw (ao x.fArgs 0)) λz3=>.bf (!(↑z3.length:Int)==0) (.ok (s,⟨341,0⟩))<|.bd (vf U s.aI (ao x.fArgs 0)) λz4=>.bd (vg U s.aw (ao x.fArgs 0)) λz5=>.bf (!z5.snd.snd==0) (.ok (s,⟨z5.snd.snd,0⟩))<|.ok (⟨z2.fst,z4.fst,s.aC,z5.fst⟩,⟨0,0⟩))<|.bf (x.aQ==3) (.bd (vh U s.ax (ao x.fArgs 0) (ao x.fArgs 1)) λz2=>.bf (!z2.snd.snd==0) (.ok (s,⟨z2.snd.snd,0⟩))<|.ok (⟨z2.fst,s.aI,s.aC,s.aw⟩,⟨0,z2.snd.fst⟩))<|.bf (x.aQ==4) (.bd (nf U s.aC (ao x.fArgs 1)) λz2=>.bf (!z2.snd==0) (.ok (s,⟨z2.snd,0⟩))<|.bd (pF U s.aI (ao x.fArgs 0) z2.fst) λz3=>.bf (!z3.snd.snd==0) (.ok (s,⟨z3.snd.snd,0⟩))<|.ok (⟨s.ax,z3.fst,s.aC,s.aw⟩,⟨0,ο.wrap z3.snd.fst⟩))<|.bf (x.aQ==5) (.bf (!decide (ao x.fArgs 1<8)) (.ok (s,⟨4,0⟩))<|.bd (ks U s.aI (ao x.fArgs 0) (γ.wrap (ao x.fArgs 1))) λz2=>.bf (!z2.snd) (.ok (s,⟨4,0⟩))<|.bd (vj U s.aI (ao x.fArgs 0) [γ.wrap (ao x.fArgs 1)]) λz3=>.bf (!z3.snd==0) (.ok (s,⟨z3.snd,0⟩))<|.ok (⟨s.ax,z3.fst,s.aC,s.aw⟩,⟨0,0⟩))<|.bf (x.aQ==6) (.bf (!decide (ao x.fArgs 1<8)) (.ok (s,⟨4,0⟩))<|.bd (ks U s.aI (ao x.fArgs 0) (γ.wrap (ao x.fArgs 1))) λz2=>.bf (!z2.snd) (.ok (s,⟨4,0⟩))<|.bd (vk U s.aI (ao x.fArgs 0) (γ.wrap (ao x.fArgs 1))) λz3=>.bf (!z3.snd.snd==0) (.ok (s,⟨z3.snd.snd,0⟩))<|.ok (⟨s.ax,z3.fst,s.aC,s.aw⟩,⟨0,ο.wrap z3.snd.fst⟩))<|.bf (x.aQ==7) (.bd (vm U s.aC (ao x.fArgs 1)) λz2=>.bf (!z2.snd.snd==0) (.ok (s,⟨z2.snd.snd,0⟩))<|.ok (⟨s.ax,s.aI,z2.fst,s.aw⟩,⟨0,z2.snd.fst⟩))<|.bf (x.aQ==8) (.bd (vn U s.aC (ao x.fArgs 1)) λz2=>.bf (!z2.snd==0) (.ok (s,⟨z2.snd,0⟩))<|.bd (vp U s.aI z2.fst) λz3=>.bf (!z3==0) (.ok (s,⟨341,0⟩))<|.bd (vq U s.aC (ao x.fArgs 1)) λz4=>.bf (!z4.snd==0) (.ok (s,⟨z4.snd,0⟩))<|.ok (⟨s.ax,s.aI,z4.fst,s.aw⟩,⟨0,0⟩))<|.bf (x.aQ==9) (.bd (nf U s.aC (ao x.fArgs 1)) λz2=>.bf (!z2.snd==0) (.ok (s,⟨z2.snd,0⟩))<|.ok (s,⟨0,z2.fst⟩))<|.bf (x.aQ==10) (.bd (vr U s.aw (ao x.fArgs 1) (ao x.fArgs 0)) λz2=>.bf (!z2.snd==0) (.ok (s,⟨z2.snd,0⟩))<|.ok (⟨s.ax,s.aI,s.aC,z2.fst⟩,⟨0,0⟩))<|.bf (x.aQ==11) (.bd (ng U s.aw (ao x.fArgs 1)) λz2=>.bf (!z2.snd==0) (.ok (s,⟨z2.snd,0⟩))<|.bf (!z2.fst==ao x.fArgs 0) (.ok (s,⟨362,0⟩))<|.bd (vt U s.aw (ao x.fArgs 1)) λc=>.bf (!c.2==0) (.ok (s,⟨c.2,0⟩))<|.ok (⟨s.ax,s.aI,s.aC,c.1⟩,⟨0,0⟩))<|.bf (x.aQ==12) (.bd (ng U s.aw (ao x.fArgs 1)) λz2=>.bf (!z2.snd==0) (.ok (s,⟨z2.snd,0⟩))<|.ok (s,⟨0,z2.fst⟩))<|.bf (x.aQ==13) (.bd (pR U s.ax (ao x.fArgs 1)) λz2=>.bf (!z2) (.ok (s,⟨4,0⟩))<|.bd (vv U s.aw (ao x.fArgs 1) [ao x.fArgs 2]) λz3=>.bf (!z3.snd !=6) (.ok (s,⟨322,0⟩))<|.bf (!z3.snd==0) (.ok (s,⟨z3.snd,0⟩))<|.ok (⟨s.ax,s.aI,s.aC,z3.fst⟩,⟨0,0⟩))<|.bf (x.aQ==14) (.bd (vw U s.aw (ao x.fArgs 0)) λz2=>.bf (!z2.snd.snd !=4) (.ok (s,⟨322,0⟩))<|.bf (!z2.snd.snd==0) (.ok (s,⟨z2.snd.snd,0⟩))<|.ok (⟨s.ax,s.aI,s.aC,z2.fst⟩,⟨0,z2.snd.fst⟩))<|.no)<|.ok (s,⟨361,0⟩)
def GP (s:aZ) (x:b3):=U.s _ (E2 U s x).val
def Ml:=a6 (bU KK 42 60 38 (GP U) (dy KK 60 40)) (Ly U)
theorem Mm:ag (Ml shut) η:=bZ (rs:=[60,40]) Lz (ag.all Lz rfl) rfl rfl λs x k=>by kernel_rfl
end Go.Proofs.YtoggponeookhbaaGreatDoor
end
section
namespace Go.Proofs.YtoggponeookhbaaGreatDoor
open Go.RowKit Go.Dc Go.Vx
variable (U:Sh)
def Eg (s:aZ) (c:b3):T (aZ×cu×Int):=.bd (vI U s) λz0=>.bf (z0 !=0) (.ok (⟨⟨[0,0,0,0,0,0,0,0,0,0,0,0,0,0,0,0],[]⟩,[],⟨[],0⟩,⟨[],[]⟩⟩,⟨0,0⟩,z0))<|.bd (GQ U s) λb=>.bd (GP U b c) λa=>.ok (a.1,a.2,0)
def Gr (s:aZ) (c:b3):=U.s _ (Eg U s c).val
def LP:=a6 (bU KK 19 60 38 (Gr U) (fF KK 60 40 27)) (Ml U)
theorem LQ:ag (LP shut) η:=bZ (rs:=[60,40,27]) Mm (ag.all Mm rfl) rfl rfl λs c k=>by kernel_rfl
end Go.Proofs.YtoggponeookhbaaGreatDoor
end
section
namespace Go.Proofs.YtoggponeookhbaaGreatDoor
open Go.RowKit Go.Dc Go.Vx
theorem cC {x:Int} (a: -9223372036854775808<=x) (h1:x<9223372036854775808):γ.wrap x=x:=by
 simp[ηg,ζQ,ηh];omega
theorem gm {x:Int} (a:0<=x) (h1:x<18446744073709551616):ο.wrap x=x:=by
 simp[ηg,ζQ,ηh];omega
def ix (pid:Int):Int:=γ.wrap (pid.tmod 64)
theorem qK {pid:Int} (h:0<=pid):ix pid=pid%64:=by
 unfold ix;rw[Int.tmod_eq_emod_of_nonneg h];exact cC (by omega) (by omega)
@[simp] theorem v93 (pid:Int):lC ab pid=some (ix pid):=rfl
def eu (l:List ah) (pid:Int):Option ah:=l.find? λz=>z.aa==pid
def b1 (l:List ah) (pid:Int):Bool:=match eu l pid with|some z=>!z.bb|none=>false
def hY (p:br) (x:ah):Bool:=decide (1<=ix x.aa)&&(decide (ix x.aa<=16)&&((x.aa/64+1==ao p.aH (ix x.aa-1).toNat)&&(!(x.aP==x.aa)&&((x.aP==0||b1 p.ae x.aP)&&bif x.bb then x.aP !=0 else x.bV==0))))
def kA (g:Γa):Bool:=(ξi 16).all λi=>decide (0<=ao g i)&&decide (ao g i<=65536)
def hs (l:List ah) (i:Nat) (x:ah):Bool:=i==0||(match l[i-1]? with|some y=>decide (ix y.aa<ix x.aa)|none=>false)
def jc (p:br):Bool:=kA p.aH&&(allI (λi x=>hY p x&&hs p.ae i x) 0 p.ae&&(match p.ae with|z::_=>fl z ⟨1,0,false,0⟩|[]=>false))
structure zl (p:br):Prop where
 pid: ∀x∈p.ae,0<=x.aa/\x.aa<18446744073709551616
 len:p.ae.length<=maxLen
theorem adX {pid:Int} (h:0<=pid):0<=ix pid/\ix pid<64:=by rw[qK h];omega
theorem kE {j:Int} {n:Nat} (a:0<=j) (h1:j<n):c6 j n=some j.toNat:=by
 unfold c6;rw[if_pos ⟨a,h1⟩]
theorem Pk {α:Type} {l:List α} {i:Nat} (h:i<l.length) (hm:l.length<=maxLen) (a:0<i):idx l (γ.wrap ((i:Int)-1))=l[i-1]? :=by
 unfold maxLen at hm;rw[cC (by omega) (by omega)];unfold idx;rw[if_pos (by omega)]
 congr 1
 omega
theorem acZ {S:Int->T (Int⊕Int⊕(Bool×Int))} {g:Γa} (e: ∀a:Int,(S a).val=bif decide (a<16) then(c6 a 16).bind λz0=>bif decide (ao g z0<0) then some (.inr (.inl a)) else bif decide (ao g z0>65536) then some (.inr (.inl a)) else some (.inl (γ.wrap (a+1))) else some (.inr (.inr (decide (a<16),a)))):
  ∃n:Nat,ct (λa=>(S a).val) 1000000 (0:Int)=some (bif kA g then .inr (false,16) else .inl (n:Int)):=by
 have h:=oq (step:=λa=>(S a).val) (q:=λa=>decide (0<=ao g a)&&decide (ao g a<=65536)) (x:=λa=>.inl (a:Int)) (y:=.inr (false,16)) (N:=16) (λa j=>by
  rw[e,decide_eq_true (by omega:(a:Int)<16),cond_true,kE (by omega) (by omega),β,ι]
  by_cases h1:ao g a<0
  ·simp[h1,show ¬(0<=ao g a) by omega]
  by_cases c:ao g a>65536
  ·simp[h1,c,show ¬(ao g a<=65536) by omega]
  ·rw[cC (by omega) (by omega)];simp[h1,c,show(0<=ao g a) by omega,show(ao g a<=65536) by omega]) (by rw[e];rfl) (k:=16) (n:=1000000) (a:=0) rfl (by omega)
 rw[show((0:Nat):Int)=0 from rfl] at h;unfold kA;rw[List.range_eq_range'];cases d:List.find? (λb=>!(decide (0<=ao g b)&&decide (ao g b<=65536))) (ζ4 0 16) with
 |none=>
  have:((ζ4 0 16).all λi=>decide (0<=ao g i)&&decide (ao g i<=65536))=true:=by
   rw[ξv];intro i hi;have:=ζs.1 d i hi;simpa using this
  rw[this];rw[d] at h;exact⟨0,h⟩
 |some b=>
  have:((ζ4 0 16).all λi=>decide (0<=ao g i)&&decide (ao g i<=65536))=false:=by
   rw[Bool.eq_false_iff];intro f;rw[ξv] at f;have h1:=f b (ξZ d);have c:=ζL d;rw[h1] at c;cases c
  rw[this];rw[d] at h;exact⟨b,h⟩
theorem acQ (g:Γa) (l:List ah) (pid:Int):iz ab g l pid=some (match eu l pid with|some z=>.inl z|none=>.inr (false,(l.length:Int))):=by
 show bB (λi z a=>(tD ab g l pid i z a).val) (λi a=>(rV ab g l pid i a).val) 0 l ()=_;unfold eu;rw[jd (p:=λz=>z.aa==pid) (e:=λz=>.inl z)]
 ·cases List.find? (λz=>z.aa==pid) l with
  |none=>unfold rV;simp
  |some z=>rfl
 ·intro i z _;unfold tD;cases z.aa==pid<;>rfl
theorem v46 {p:br} (hp:zl p):kt ab p=some (bif jc p then 0 else 320):=by
 show(Fa ab p).val=_;unfold Fa jc;simp only[T.bw,T.aG,T.ch,T.az,T.av];cases b:p.ae with
 |nil=>
  have:(match([]:List ah) with|z::_=>fl z ⟨1,0,false,0⟩|[]=>false)=false:=rfl;simp
 |cons z0 r=>
  rw[<-b];have o:((p.ae.length:Int)==0)=false:=by rw[b];simp;omega
  have h1:idx p.ae 0=some z0:=by rw[b];rfl
  rw[o,h1];simp only[cond_false,β];cases he:fl z0 ⟨1,0,false,0⟩ with
  |false=>simp[b,he]
  |true=>
   have hm:(match p.ae with|z::_=>fl z ⟨1,0,false,0⟩|[]=>false)=true:=by rw[b];exact he
   rw[hm,ζU];simp only[ξP,cond_false];obtain⟨n,c⟩:=acZ (S:=Dq ab p.aH p.ae) (g:=p.aH) λa=>rfl;have c:B7 ab p.aH p.ae 0=some (bif kA p.aH then .inr (false,16) else .inl (n:Int)):=c;rw[c];cases d:kA p.aH with
   |false=>
    have:decide ((n:Int)>=0)=true:=decide_eq_true (by omega);simp[this]
   |true=>
    simp only[cond_true,β,φ];have hl:te ab p.aH p.ae=bif allI (λi x=>hY p x&&hs p.ae i x) 0 p.ae then some (.inr (false,(p.ae.length:Int))) else some (.inl ()):=by
     show bB (λi z a=>(tC ab p.aH p.ae i z a).val) (λi a=>(rU ab p.aH p.ae i a).val) 0 p.ae ()=_;rw[h2 (q:=λi x=>hY p x&&hs p.ae i x) (x:=.inl ())]
     ·congr 1
      unfold rU;simp
     ·intro i z l;have u:=(δ.1 l).1;have f:=hp.pid z (ξ3 l);have B:=adX f.1;unfold tC hY hs b1;simp only[T.aG,T.az,T.av,T.bw,T.ch,v93,β,acQ]
      by_cases h1:1<=ix z.aa
      rotate_left
      ·simp[show ¬(ix z.aa>=1) from h1,h1]
      by_cases j:ix z.aa<=16
      rotate_left
      ·simp[show(ix z.aa>=1) from h1,h1,j]
      have hw:γ.wrap (ix z.aa-1)=ix z.aa-1:=cC (by omega) (by omega);have hi:c6 (ix z.aa-1) 16=some (ix z.aa-1).toNat:=kE (by omega) (by omega);have A:0<=ao p.aH (ix z.aa-1).toNat/\ao p.aH (ix z.aa-1).toNat<=65536:=by
       unfold kA at d;rw[ξv] at d;have:=d (ix z.aa-1).toNat (by simp;omega);simpa using this
      have t:ο.wrap (z.aa.tdiv 64)=z.aa/64:=by
       rw[Int.tdiv_eq_ediv_of_nonneg f.1];exact gm (by omega) (by omega)
      have s:(ο.wrap (ο.wrap (z.aa.tdiv 64)+1) !=ο.wrap (ao p.aH (ix z.aa-1).toNat))=!(z.aa/64+1==ao p.aH (ix z.aa-1).toNat):=by
       rw[t,gm (by omega) (by omega),gm (by omega) (by omega)];rfl
      rw[hw,hi];simp only[β];rw[s];have w:(z.aP !=0)=!(z.aP==0):=rfl;have v:(z.bV !=0)=!(z.bV==0):=rfl;have k:(z.aP==0)=true->(z.aP==z.aa)=false:=λh=>by
       rw[qK f.1] at h1;simp at h ⊢;omega
      simp only[show(ix z.aa>=1) from h1,h1,j,decide_true,cond_true,φ,w,v];cases i with
      |zero=>
       rw[show(((0:Nat):Int)==0)=true from rfl,show((0:Nat)==0)=true from rfl];simp only[cond_true,ζZ,ζU];cases e:z.aP==0 with
       |true=>rw[k e];cases z.aa/64+1==ao p.aH (ix z.aa-1).toNat<;>cases z.bb<;>cases z.bV==0<;>simp
       |false=>
        cases z.aa/64+1==ao p.aH (ix z.aa-1).toNat<;>cases z.aP==z.aa<;>cases z.bb<;>cases z.bV==0<;>(cases eu p.ae z.aP with|none=>simp|some y=>cases y.bb<;>simp)
      |succ i=>
       have m:((((i+1:Nat):Int))==0)=false:=by simp;omega
       rw[m,show(i+1==0)=false from rfl,Pk u hp.len (by omega)];have hi:i<p.ae.length:=by omega
       simp only[ξX,ε hi,β,v93,cond_false,ξp];cases e:z.aP==0 with
       |true=>rw[k e];cases decide (ix p.ae[i].aa<ix z.aa)<;>cases z.aa/64+1==ao p.aH (ix z.aa-1).toNat<;>cases z.bb<;>cases z.bV==0<;>simp
       |false=>
        cases decide (ix p.ae[i].aa<ix z.aa)<;>cases z.aa/64+1==ao p.aH (ix z.aa-1).toNat<;>cases z.aP==z.aa<;>cases z.bb<;>cases z.bV==0<;>(cases eu p.ae z.aP with|none=>simp|some y=>cases y.bb<;>simp)
    rw[hl];cases allI (λi x=>hY p x&&hs p.ae i x) 0 p.ae<;>rfl
def hj (d:ai):Bool:=decide (d.aa<4294967296)&&(decide (d.bo>=0)&&decide (d.bo<=7))
def cF (a b:ai):Bool:=decide (a.aa<b.aa)||(a.aa==b.aa&&decide (a.bo<b.bo))
def fI {α:Type} (q:α->α->Bool) (l:List α) (i:Nat) (z:α):Bool:=i==0||(match l[i-1]? with|some y=>q y z|none=>false)
def xJ (l:List ai) (i:Nat) (x:ai):Bool:=fI cF l i x
theorem dw {σ X:Type} {step:σ->Option (σ⊕X)} {n:Nat} {a:σ}:ct step (n+1) a=(step a).bind λy=>match y with| .inl a'=>ct step n a'| .inr x=>some x:=rfl
def l4 (l:List ai):Bool:=allI (λi x=>hj x&&xJ l i x) 0 l&&decide (l.length<=64)
@[simp] theorem v94 (d:ai):Gb ab d=some (hj d):=by
 show(DC ab d).val=_;unfold DC hj;have:decide (d.bo<8)=decide (d.bo<=7):=by rw[κ];simp;omega
 simp only[T.az,T.av,this];cases decide (d.aa<4294967296)<;>cases decide (d.bo>=0)<;>rfl
def ha (x y:Int):Int:=if x<y then -1 else if x>y then 1 else 0
@[simp] theorem h4 (x y:Int):ie ab x y=some (ha x y):=by
 show(DP ab x y).val=_;unfold DP ha;simp only[T.az,T.av]
 by_cases h1:x<y
 ·simp[h1]
 ·by_cases a:x>y
  ·simp[h1,a]
  ·simp[h1,a]
@[simp] theorem v130 (x y:Int):GO ab x y=some (ha x y):=h4 x y
def pt (a b:ai):Int:=if ha a.aa b.aa=0 then ha a.bo b.bo else ha a.aa b.aa
@[simp] theorem Ke (a b:ai):pC ab a b=some (pt a b):=by
 show(DD ab a b).val=_;unfold DD pt;simp only[T.aG,h4,v130,β,T.bw,T.ch,T.av];generalize ha a.aa b.aa=c1;generalize ha a.bo b.bo=c2;have h:Ca ab [c1,c2] 0=some (if c1=0 then(if c2=0 then .inr (false,2) else .inl c2) else .inl c1):=by
  show ct (λa=>(kb ab [c1,c2] a).val) 1000000 0=_;have d:(kb ab [c1,c2] 0).val=if c1=0 then some (.inl 1) else some (.inr (.inl c1)):=by
   unfold kb;simp only[T.az,T.aG,T.av]
   by_cases h:c1=0
   ·simp[idx,h];rfl
   ·have:(c1 !=0)=true:=by simp[h]
    simp[idx,h,this]
  have e:(kb ab [c1,c2] 1).val=if c2=0 then some (.inl 2) else some (.inr (.inl c2)):=by
   unfold kb;simp only[T.az,T.aG,T.av]
   by_cases h:c2=0
   ·simp[idx,h];rfl
   ·have:(c2 !=0)=true:=by simp[h]
    simp[idx,h,this]
  have f:(kb ab [c1,c2] 2).val=some (.inr (.inr (false,2))):=rfl;rw[show(1000000:Nat)=999997+1+1+1 from rfl,dw,d]
  by_cases h:c1=0
  ·rw[if_pos h,if_pos h,β];simp only;rw[dw,e]
   by_cases c:c2=0
   ·rw[if_pos c,if_pos c,β];simp only;rw[dw,f,β]
   ·rw[if_neg c,if_neg c,β]
  ·rw[if_neg h,if_neg h,β]
 rw[h]
 by_cases h1:c1=0
 ·by_cases c:c2=0<;>simp[h1,c]
 ·simp[h1]
theorem NI (a b:ai):decide (pt a b>=0)=!cF a b:=by
 unfold pt cF ha;rw[κ]
 by_cases h1:a.aa<b.aa
 ·simp[h1]
 ·by_cases e:a.aa>b.aa
  ·have: ¬a.aa=b.aa:=by omega
   simp[h1,e,this]
  ·have c:a.aa=b.aa:=by omega
   by_cases d:a.bo<b.bo
   ·simp[c,d]
   ·by_cases f:b.bo<a.bo<;>simp[c,d,f]<;>omega
theorem IX {α X:Type} {S:T (Unit⊕Unit⊕X)} {l:List α} {i:Nat} {z:α} {g:α->Bool} {q:α->α->Bool} (hm:l.length<=maxLen) (c:l[i]? =some z)
  (a:S.val=bif !g z then some (.inr (.inl ())) else bif decide ((i:Int)>0) then(idx l (γ.wrap ((i:Int)-1))).bind λy=>bif !q y z then some (.inr (.inl ())) else some (.inl ()) else some (.inl ())):
  S.val=bif g z&&fI q l i z then some (.inl ()) else some (.inr (.inl ())):=by
 have b:=(δ.1 c).1;rw[a];unfold fI;cases g z with
 |false=>rfl
 |true=>
  cases i with
  |zero=>rfl
  |succ i=>
   have h1:decide (((i+1:Nat):Int)>0)=true:=decide_eq_true (by omega);have hi:i<l.length:=by omega
   rw[h1,Pk b hm (by omega)];simp only[ξP,cond_false,cond_true,φ,show(i+1==0)=false from rfl,ξp,ξX,ε hi,β];cases q l[i] z<;>rfl
theorem U1 {l:List ai} (hm:l.length<=maxLen):iK ab l=some (bif l4 l then 0 else 330):=by
 show(Fb ab l).val=_;unfold Fb l4;simp only[T.bw,T.aG,T.ch,T.av,T.az];have hl:Da ab l=bif allI (λi x=>hj x&&xJ l i x) 0 l then some (.inr (false,(l.length:Int))) else some (.inl ()):=by
  show bB (λi z a=>(o7 ab l i z a).val) (λi a=>(sH ab l i a).val) 0 l ()=_;rw[h2 (q:=λi x=>hj x&&xJ l i x) (x:=.inl ())]
  ·congr 1
   unfold sH;simp
  ·intro i z b;exact IX (S:=o7 ab l i z ()) (g:=hj) (q:=cF) hm b (by unfold o7;simp only[T.aG,T.az,T.av,v94,Ke,NI,β])
 rw[hl]
 by_cases h:l.length<=64
 ·have h1:decide ((l.length:Int)>64)=false:=decide_eq_false (by omega);rw[h1,decide_eq_true h];cases allI (λi x=>hj x&&xJ l i x) 0 l<;>rfl
 ·have h1:decide ((l.length:Int)>64)=true:=decide_eq_true (by omega);rw[h1,decide_eq_false h];simp
def dZ (s:ByteArray) (j:Nat):Nat:=((s.data.toList[j]?).map ζM).getD 0
def e7 (c:Nat->Nat):Nat->Nat
 |0=>0
 |i+1=>e7 c i+256^i*c i
def iF (s:ByteArray):Int×Int:=if 8<s.size then(0,111) else if(ξi s.size).any (λj=>dZ s j==0) then(0,2) else((e7 (dZ s) 8:Nat),0)
theorem abm (s:ByteArray) (j:Nat):dZ s j<256:=by
 unfold dZ;cases s.data.toList[j]? with
 |none=>simp
 |some b=>simpa using b.toNat_lt
theorem IU {c:Nat->Nat} (a: ∀j,c j<256): ∀i,e7 c i<256^i
 |0=>by simp[e7]
 |i+1=>by
  have h1:=IU a i;have b:256^i*c i<=256^i*255:=Nat.mul_le_mul_left _ (by have:=a i;omega);simp only[e7,ζh];generalize (256:Nat)^i=q at*
  generalize q*c i=r at*
  omega
theorem ais (c i:Nat) (d:c<256) (hi:i<8):ma .u64 (c:Int) ((8*i:Nat):Int)=some ((256^i*c:Nat):Int):=by
 unfold ma;rw[if_neg (by omega)];have b:ο.bits=64:=rfl;have hm:min ((8*i:Nat):Int).toNat ο.bits=8*i:=by rw[b,ι];omega
 have hp:(2:Nat)^(8*i)=256^i:=by rw[Nat.pow_mul]
 have hle:256^i<=256^7:=ζj (by omega) (by omega);have a:(256:Nat)^7=72057594037927936:=by decide
 have e:(c:Int)*2^(8*i)=((256^i*c:Nat):Int):=by rw[<-hp,Int.natCast_mul,Int.natCast_pow,Int.mul_comm];rfl
 rw[hm,ζE,e];have f:256^i*c<18446744073709551616:=by
  have h1:256^i*c<=256^7*c:=ζk _ hle;rw[a] at h1;omega
 generalize 256^i*c=q at*
 rw[ξq];omega
theorem afk {c:Nat->Nat} (a: ∀j,c j<256) (i:Nat) (hi:i<8):bits .or .u64 (e7 c i:Int) ((256^i*c i:Nat):Int)=(e7 c (i+1):Int):=by
 have h1:=IU a i;have f:=IU a (i+1);have hle:256^(i+1)<=256^8:=ζj (by omega) (by omega);have d:(256:Nat)^8=18446744073709551616:=by decide
 rw[d] at hle;have e:e7 c (i+1)=e7 c i+256^i*c i:=rfl;rw[bits_or_u64_nat _ _ (by omega) (by omega),Nat.or_comm,e];have hp:(2:Nat)^(8*i)=256^i:=by rw[Nat.pow_mul]
 have:=Nat.two_pow_add_eq_or_of_lt (i:=8*i) (b:=e7 c i) (by rw[hp];exact h1) (c i);rw[hp] at this;rw[<-this,Nat.add_comm]
theorem uG {α:Type} {b:Nat} {xs ys:List α} (h:(xs.length+ys.length)*b<=140737488355328):app b xs ys=some (xs++ys):=by
 unfold app;rw[if_pos h]
def dg:Nat->Nat->Γ
 |0,_=>[]
 |k+1,n=>if n%256=0 then[] else n%256::dg k (n/256)
def dB:Nat->Nat->Nat
 |0,n=>n
 |k+1,n=>if n%256=0 then n else dB k (n/256)
def bs (l:Γ):ByteArray:=⟨(l.map ξn).toArray⟩
theorem ko: ∀(k n:Nat),(dg k n).length<=k
 |0,_=>by simp[dg]
 |k+1,n=>by
  simp only[dg];split
  ·simp
  ·have:=ko k (n/256);simp;omega
theorem uU: ∀(k n:Nat),∀x∈dg k n,0<x/\x<256
 |0,_,x,h=>by simp[dg] at h
 |k+1,n,x,h=>by
  simp only[dg] at h;split at h
  ·cases h
  ·rcases ξB.1 h with e|h
   ·omega
   ·exact uU k _ x h
theorem dM (l:Γ):(bs l).size=l.length:=by simp[bs,ByteArray.size]
theorem abl (l m:Γ):bs l++bs m=bs (l++m):=by
 apply ζ7;simp[bs,ByteArray.data_append]
theorem foldl_push: ∀(xs:Γa) (r:ByteArray),(xs.foldl (λr n=>r.push (ξn n.toNat)) r).data.toList=r.data.toList++xs.map (λn=>ξn n.toNat)
 |[],r=>by simp
 |x::xs,r=>by
  rw[ξU,foldl_push xs];simp[ByteArray.data_push]
theorem Uk (l:Γ):strOf (l.map λ(n:Nat)=>(n:Int))=bs l:=by
 apply ζ7;apply ζT;unfold strOf;rw[foldl_push];show[]++_=_;simp[bs]
theorem yo {l m:Γ} (h:l.length+m.length<=1000):jZ (bs l) (bs m)=some (bs (l++m)):=by
 unfold jZ;rw[dM,dM,if_pos (by omega),abl]
theorem aa' {n:Nat} (h:n<18446744073709551616):bits .and .u64 (n:Int) 255=((n%256:Nat):Int):=by
 have e:bits .and .u64 (n:Int) ((255:Nat):Int)=((n&&&255:Nat):Int):=bits_and_u64_nat n 255 h (by omega);have a:n&&&255=n%256:=by
  have:=Nat.and_two_pow_sub_one_eq_mod n 8;simpa using this
 rw[a] at e;exact e
def pk:Γ->Nat
 |[]=>0
 |x::r=>x+256*pk r
theorem IV (c:Nat->Nat): ∀k,e7 c (k+1)=c 0+256*e7 (λi=>c (i+1)) k
 |0=>by simp[e7]
 |k+1=>by
  rw[e7,IV c k];simp only[e7,ζh,Nat.mul_add];rw[ζD (256^k) 256];simp only[ζV,Nat.add_assoc]
theorem IT: ∀(k:Nat) (l:Γ),l.length<=k->e7 (λi=>(l[i]?).getD 0) k=pk l
 |0,l,h=>by
  have:l=[]:=ξM (by omega);subst this;rfl
 |k+1,[],h=>by
  rw[IV];have:=IT k [] (by simp);simp only[List.getElem?_nil,ξw] at this ⊢;rw[this];rfl
 |k+1,x::r,h=>by
  rw[IV];have:=IT k r (by simpa using h);simp only[List.getElem?_cons_succ,ξ9,ξ1] at this ⊢;rw[this];rfl
theorem xT: ∀(k n:Nat),pk (dg k n)+256^(dg k n).length*dB k n=n
 |0,n=>by simp[dg,dB,pk]
 |k+1,n=>by
  simp only[dg,dB];split
  ·simp[pk]
  ·have:=xT k (n/256);simp only[pk,ξc,ζh];rw[ζD (256^_) 256,ζV];omega
theorem Nz {l:Γ} (h: ∀x∈l,x<256) (j:Nat):dZ (bs l) j=(l[j]?).getD 0:=by
 unfold dZ bs;simp only[ζy];cases a:l[j]? with
 |none=>simp
 |some x=>
  have:=h x (ξ3 a);simp;omega
theorem uI {l:Γ} (h: ∀x∈l,0<x/\x<256) (hl:l.length<=8):iF (bs l)=(((pk l:Nat):Int),0):=by
 unfold iF;rw[dM,if_neg (by omega)];have e:(ξi l.length).any (λj=>dZ (bs l) j==0)=false:=by
  rw[ξo];intro j a;have a:j<l.length:=by simpa using a
  rw[Nz (λx b=>(h x b).2),ε a];have:=(h _ (List.getElem_mem a)).1;simp;omega
 rw[e,if_neg (by simp)];rw[show dZ (bs l)=λi=>(l[i]?).getD 0 from funext λj=>Nz (λx b=>(h x b).2) j,IT 8 l hl]
theorem OM {l:Γ} (h: ∀x∈l,x<256) {i x:Nat} (a:l[i]? =some x):((bs l).get! i).toNat=x:=by
 have hl:=(δ.1 a).1;have b:=h x (ξ3 a);have e:(bs l).get! i=ξn x:=by
  unfold ByteArray.get! bs;have:((l.map ξn).toArray)[i]? =some (ξn x):=by simp[a]
  simp[getElem!_def,this]
 rw[e];simp;omega
theorem FV {s:ByteArray} {i:Nat} (h:(s.get! i).toNat<128):ζ0 s i=((s.get! i).toNat,1):=by
 unfold ζ0;simp only[ξy];rw[if_pos h]
theorem decode_high {s:ByteArray} {i:Nat} (h: ¬(s.get! i).toNat<128):128<=(ζ0 s i).1:=by
 unfold ζ0;simp only[ξy];rw[if_neg h];have b:128<=Go.Utf8.runeError:=by decide
 repeat' split
 all_goals first|exact b|skip
 ·assumption
 ·rename_i a;simp only[ξ5,decide_eq_true_eq] at a;have:=a.1;show 128<=_;omega
 ·rename_i a;simp only[ξ5,decide_eq_true_eq] at a;have:=a.1;show 128<=_;omega
def en (c:Nat):Bool:=decide (97<=c/\c<=122\/48<=c/\c<=57)
theorem uM {c:Nat} (h:128<=c):en c=false:=by
 unfold en;simp;omega
theorem mS (n:Nat): ∀x∈dg 8 n,x<256:=λx a=>(uU 8 n x a).2
theorem FZ (l:Γ):((bs l).toList==(⟨#[]⟩:ByteArray).toList)=l.isEmpty:=by
 have a: ∀x:ByteArray,x.toList=x.data.toList:=λx=>ζn x;rw[a,a];cases l<;>simp[bs]
def dv (n:Int):Bool:=(dB 8 n.toNat==0)&&!(dg 8 n.toNat).isEmpty&&(dg 8 n.toNat).all en
theorem aeD {s:ByteArray} (c:s.size<=8) {i:Nat} (hi:i<8):ao (c5 [0,0,0,0,0,0,0,0] (s.data.toList.map λb=>(b.toNat:Int))) i=(dZ s i:Int):=by
 have hl:s.data.toList.length=s.size:=by rw[χ];rfl
 unfold ao c5 dZ;simp only[ρ,ξc,List.length_nil,hl]
 by_cases h:i<s.size
 ·rw[ξ (by rw[ξh,ρ];omega),List.getElem?_take,if_pos (by omega),ζy,ε (by omega)];rfl
 ·have hn:s.data.toList[i]? =none:=ξH (by omega);rw[hn,ξb (by rw[ξh,ρ];omega)];have: ∀(k:Nat) (l:Γa),(∀x∈l,x=0)->(l[k]?).getD 0=0:=λk l hl=>by
   cases hk:l[k]? with
   |none=>rfl
   |some x=>exact hl x (ξ3 hk)
  exact this _ _ λx a=>by
   have:=List.mem_of_mem_drop a;simp only[ξB,List.not_mem_nil,or_false] at this;omega
theorem Pp: ∀l:Γa,iT KK 5 .u8 l=some l
 |[]=>rfl
 |x::l=>by
  have a:=Pp l;show(match iT KK 5 .u8 l with|some zs=>some (x::zs)|none=>none)=_;rw[a]
theorem YZ {s:ByteArray} (f:s.size<=8) {i:Nat} (hi:i<8):(oO ab s (c5 [0,0,0,0,0,0,0,0] (s.data.toList.map λb=>(b.toNat:Int))) (((e7 (dZ s) i:Nat):Int),(i:Int))).val=if dZ s i=0/\i<s.size then some (.inr (.inl ())) else some (.inl (((e7 (dZ s) (i+1):Nat):Int),((i+1:Nat):Int))):=by
 have c:=abm s;unfold oO;simp only[T.az,T.aG,T.av];have h1:decide ((i:Int)<8)=true:=decide_eq_true (by omega);have g:ο.wrap (dZ s i:Int)=(dZ s i:Int):=by have:=c i;rw[ζE];omega
 have j:γ.wrap (8*(i:Int))=((8*i:Nat):Int):=by rw[cC (by omega) (by omega)];omega
 have k:γ.wrap ((i:Int)+1)=((i+1:Nat):Int):=by rw[cC (by omega) (by omega)];omega
 rw[h1,kE (by omega) (by omega)];simp only[cond_true,β,ι];rw[aeD f hi,g,j,k,ais _ i (c i) hi];simp only[β];rw[afk c i hi]
 by_cases a:dZ s i=0
 ·by_cases d:i<s.size
  ·have e:decide ((i:Int)<(s.size:Int))=true:=decide_eq_true (by omega);rw[a,e,if_pos ⟨rfl,d⟩];rfl
  ·have e:decide ((i:Int)<(s.size:Int))=false:=decide_eq_false (by omega);rw[a,e,if_neg (λh=>d h.2)];rfl
 ·have e:((dZ s i:Int)==0)=false:=by simp;omega
  rw[e,if_neg (λh=>a h.1)];rfl
theorem U3 {s:ByteArray} (l:s.size<=8): ∀(k f i:Nat),i+k=8->(∀j,j<i->j<s.size->dZ s j≠0)->
  ct (λa=>(oO ab s (c5 [0,0,0,0,0,0,0,0] (s.data.toList.map λb=>(b.toNat:Int))) a).val) (k+1+f) (((e7 (dZ s) i:Nat):Int),(i:Int))=some (if(ξi s.size).any (λj=>dZ s j==0) then .inl () else .inr (false,((e7 (dZ s) 8:Nat):Int),8))
 |0,f,i,e,h=>by
  obtain rfl:i=8:=by omega
  have m:(ξi s.size).any (λj=>dZ s j==0)=false:=by
   rw[ξo];intro j d;have d:j<s.size:=by simpa using d
   have:=h j (by omega) d;simpa using this
  rw[m,show 0+1+f=f+1 by omega,dw];rfl
 |k+1,f,i,e,h=>by
  rw[show k+1+1+f=(k+1+f)+1 by omega,dw,YZ l (by omega)]
  by_cases c:dZ s i=0/\i<s.size
  ·have n:(ξi s.size).any (λj=>dZ s j==0)=true:=by
    rw[ζF];exact⟨i,by simpa using c.2,by simpa using c.1⟩
   rw[if_pos c,n];rfl
  ·rw[if_neg c,β];simp only;exact U3 l k f (i+1) (by omega) λj d g=>by
    rcases ζ3.1 d with h1|h1
    ·exact h j h1 g
    ·subst h1;exact λo=>c ⟨o,g⟩
theorem v79 (s:ByteArray):vy ab s=some (iF s):=by
 show(Ef ab s).val=_;unfold Ef iF;simp only[T.bw,T.aG,T.ch,T.av,T.az]
 by_cases h:8<s.size
 ·have e:decide ((s.size:Int)>8)=true:=decide_eq_true (by omega);rw[e,if_pos h];rfl
 ·have e:decide ((s.size:Int)>8)=false:=decide_eq_false (by omega);have c:ηk s.size 8=true:=ξe (by omega);rw[e,if_neg h];simp only[cond_false,yu,sameKind,c,φ,cond_true,β];have a:Cf ab s (c5 [0,0,0,0,0,0,0,0] (s.data.toList.map λb=>(b.toNat:Int))) 0 0=_:=U3 (by omega) 8 999991 0 rfl λj d=>by omega
  rw[a];cases (ξi s.size).any (λj=>dZ s j==0)<;>rfl
def ints (l:Γ):Γa:=l.map λ(n:Nat)=>(n:Int)
theorem MY (b:Int) {n:Nat} {l:Γ} (hn:n<18446744073709551616) (hl:l.length<=100):(oM ab b ((n:Int),ints l)).val=if n%256=0 then some (.inr (false,0,(n:Int),ints l)) else some (.inl (((n/256:Nat):Int),ints (l++[n%256]))):=by
 unfold oM;simp only[T.az,T.aG,T.av];rw[aa' hn]
 by_cases hm:n%256=0
 ·have e:(((n%256:Nat):Int) !=0)=false:=by rw[hm];rfl
  rw[e,if_pos hm,hm];rfl
 ·have e:(((n%256:Nat):Int) !=0)=true:=by simp;omega
  rw[e,if_neg hm];simp only[cond_true];have hw:IntKind.u8.wrap (n:Int)=((n%256:Nat):Int):=by rw[IntKind.wrap_u8];omega
  have a:(n:Int).fdiv 256=((n/256:Nat):Int):=by
   rw[Int.fdiv_eq_ediv_of_nonneg _ (by omega)];omega
  rw[hw,a,uG (by simp[ints];omega)];simp only[β];rw[ints,ints,ξC];rfl
theorem UU (b:Int): ∀(k f n:Nat) (l:Γ),n<256^k->n<18446744073709551616->l.length+k<=100->
  ∃m,ct (λa=>(oM ab b a).val) (k+1+f) ((n:Int),ints l)=some (false,0,m,ints (l++dg k n))
 |0,f,n,l,h,_,_=>by
  have:n=0:=by simpa using h
  subst this;rw[show 0+1+f=f+1 by omega,dw,MY b (by omega) (by omega)];exact⟨0,by simp[dg]⟩
 |k+1,f,n,l,h,hn,hl=>by
  rw[show k+1+1+f=(k+1+f)+1 by omega,dw,MY b hn (by omega)]
  by_cases hm:n%256=0
  ·rw[if_pos hm];exact⟨(n:Int),by simp[dg,hm]⟩
  ·rw[if_neg hm,β];simp only;obtain⟨m,c⟩:=UU b k f (n/256) (l++[n%256]) (by rw[ζh] at h;omega) (by omega) (by simp;omega);rw[c];exact⟨m,by simp only[dg,if_neg hm,ξs,List.singleton_append]⟩
theorem UT {n:Nat} (h:n<18446744073709551616):u1 ab (n:Int)=some (if dB 8 n=0 then(bs (dg 8 n),0) else(⟨#[]⟩,2)):=by
 show(DR ab (n:Int)).val=_;unfold DR;simp only[T.bw,T.aG,T.az,T.av];obtain⟨m,hm⟩:=UU (n:Int) 8 999991 n [] (by omega) h (by simp);rw[ζi] at hm;have b:Cb ab (n:Int) (n:Int) []=_:=hm;rw[b];simp only[β,Pp,v79];rw[show strOf (ints (dg 8 n))=bs (dg 8 n) from Uk _,uI (uU 8 n) (ko 8 n)];have:=xT 8 n;simp only[bne_self_eq_false,cond_false]
 by_cases a:dB 8 n=0
 ·rw[a,ηi,ξy] at this;rw[this,if_pos a];simp
 ·have h1:0<256^(dg 8 n).length*dB 8 n:=Nat.mul_pos (Nat.pow_pos (by omega)) (by omega);have e:(((pk (dg 8 n):Nat):Int) !=(n:Int))=true:=by simp;omega
  rw[e,if_neg a];rfl
theorem uN (c:Nat):en c=(bif decide ((c:Int)>=97) then(bif decide ((c:Int)<=122) then true else(bif decide ((c:Int)>=48) then decide ((c:Int)<=57) else false)) else(bif decide ((c:Int)>=48) then decide ((c:Int)<=57) else false)):=by
 unfold en
 by_cases h1:(c:Int)>=97<;>by_cases a:(c:Int)<=122<;>by_cases b:(c:Int)>=48<;>by_cases d:(c:Int)<=57<;>simp[h1,a,b,d]<;>omega
def xL:((Bool×Bool×Int×Bool×Bool×Bool×Bool×Int×Nat)⊕(Bool×Int×Bool×Bool×Bool×Int×Nat)⊕(Bool×Bool×Int×Bool×Bool×Bool×Int×Nat)⊕(Bool×Int×Bool×Bool×Int×Nat)⊕(Bool×Int×Int×Nat)⊕(Bool×Nat))->Bool
 | .inl y=>y.2.1
 | .inr (.inl _)=>false
 | .inr (.inr (.inl y))=>y.2.1
 | .inr (.inr (.inr (.inl _)))=>false
 | .inr (.inr (.inr (.inr (.inl _))))=>false
 | .inr (.inr (.inr (.inr (.inr y))))=>y.1
theorem Y0 {s:ByteArray} {pos:Nat} (ok:Bool) (hp:pos<s.size):(ok&&en (ξ6 s pos).1)=true/\(ka ab s (ok,pos)).val=some (.inl (true,pos+(ξ6 s pos).2))\/(ok&&en (ξ6 s pos).1)=false/\ ∃x,(ka ab s (ok,pos)).val=some (.inr x)/\xL x=false:=by
 unfold ka;simp only[T.az,T.av];rw[decide_eq_true hp,uN];cases ok with
 |false=>exact .inr ⟨rfl,_,rfl,rfl⟩
 |true=>
  simp only[cond_true,φ];cases decide (((ξ6 s pos).1:Int)>=97) with
  |true=>
   cases decide (((ξ6 s pos).1:Int)<=122) with
   |true=>exact .inl ⟨rfl,rfl⟩
   |false=>
    cases decide (((ξ6 s pos).1:Int)>=48) with
    |false=>exact .inr ⟨rfl,_,rfl,rfl⟩
    |true=>
     cases decide (((ξ6 s pos).1:Int)<=57) with
     |true=>exact .inl ⟨rfl,rfl⟩
     |false=>exact .inr ⟨rfl,_,rfl,rfl⟩
  |false=>
   cases decide (((ξ6 s pos).1:Int)>=48) with
   |false=>exact .inr ⟨rfl,_,rfl,rfl⟩
   |true=>
    cases decide (((ξ6 s pos).1:Int)<=57) with
    |true=>exact .inl ⟨rfl,rfl⟩
    |false=>exact .inr ⟨rfl,_,rfl,rfl⟩
theorem Kf {l:Γ} (h: ∀x∈l,x<256): ∀(k f pos:Nat) (ok:Bool),pos+k=l.length-> ∃x,ct (λa=>(ka ab (bs l) a).val) (k+1+f) (ok,pos)=some x/\xL x=(ok&&(l.drop pos).all en)
 |0,f,pos,ok,e=>by
  obtain rfl:pos=l.length:=by omega
  rw[show 0+1+f=f+1 by omega,dw];have:(ka ab (bs l) (ok,l.length)).val=some (.inr (.inr (.inr (.inr (.inr (.inr (ok,l.length))))))):=by
   unfold ka;simp[dM]
  rw[this];exact⟨_,rfl,by simp[xL]⟩
 |k+1,f,pos,ok,e=>by
  have hp:pos<l.length:=by omega
  have m:=ε hp;have g:=OM h m;rw[show k+1+1+f=(k+1+f)+1 by omega,dw,ξt hp,ζt];rcases Y0 (s:=bs l) ok (pos:=pos) (by rw[dM];exact hp) with⟨h1,d⟩|⟨h1,x,d,i⟩
  ·have b:((bs l).get! pos).toNat<128:=by
    apply Classical.byContradiction;intro b;rw[uM (decode_high b)] at h1;simp at h1
   rw[FV b,g] at h1 d;rw[d,β];simp only;obtain⟨x,n,o⟩:=Kf h k f (pos+1) true (by omega);refine⟨x,n,?_⟩;rw[o,<-ζR,h1]
  ·rw[d,β];refine⟨x,rfl,?_⟩;rw[i,<-ζR]
   by_cases b:((bs l).get! pos).toNat<128
   ·rw[FV b,g] at h1;rw[h1];rfl
   ·have j:=uM (c:=l[pos]) (by rw[<-g];omega);rw[j];simp
theorem U4 (x:(Bool×Bool×Int×Bool×Bool×Bool×Bool×Int×Nat)⊕(Bool×Int×Bool×Bool×Bool×Int×Nat)⊕(Bool×Bool×Int×Bool×Bool×Bool×Int×Nat)⊕(Bool×Int×Bool×Bool×Int×Nat)⊕(Bool×Int×Int×Nat)⊕(Bool×Nat)):
  (T.cs x (λa=>.ok a.2.1) λb=>.cs b (λ_=>.ok false) λc=>.cs c (λa=>.ok a.2.1) λd=>.cs d (λ_=>.ok false) λe=>.cs e (λ_=>.ok false) λa=>.ok a.1:T Bool).val=some (xL x):=by
 rcases x with x|x|x|x|x|x<;>rfl
theorem v98 {n:Nat} (h:n<18446744073709551616):jG ab (n:Int)=some (dv (n:Int)):=by
 show(DF ab (n:Int)).val=_;unfold DF dv;simp only[T.bw,T.aG,T.az,UT h,β,ι];have hl:=ko 8 n
 by_cases a:dB 8 n=0
 ·rw[if_pos a,a];obtain⟨x,h1,b⟩:=Kf (mS n) (dg 8 n).length (999999-(dg 8 n).length) 0 (!(dg 8 n).isEmpty) (by omega);rw[show(dg 8 n).length+1+(999999-(dg 8 n).length)=1000000 by omega] at h1;rw[ζm] at b;simp only[FZ];have c:oG ab (!(dg 8 n).isEmpty) (bs (dg 8 n)) 0=some x:=h1;rw[c];simp only[β,beq_self_eq_true,cond_true,φ];exact(U4 x).trans (by rw[b])
 ·rw[if_neg a];have e:(dB 8 n==0)=false:=by simp[a]
  obtain⟨x,h1,b⟩:=Kf (l:=[]) (by simp) 0 999999 0 false rfl;have c:oG ab false (ξ0 #[]) 0=some x:=h1;rw[e];simp only[show((2:Int)==0)=false from rfl,cond_false];rw[c];simp only[β,ζS];exact(U4 x).trans (by rw[b];rfl)
abbrev cz (x:Int):Prop:=0<=x/\x<18446744073709551616
def dI (p:Int):Bool:=decide (p>=1)&&decide (p<4294967296)
@[simp] theorem Kg (p:Int):na ab p=some (dI p):=by
 show(mM ab p).val=_;unfold mM dI;simp only[T.az,T.av];cases decide (p>=1)<;>rfl
theorem yJ {w:Int} (h:cz w):jG ab w=some (dv w):=by
 obtain⟨n,rfl⟩:=ζ8 h.1;exact v98 (by have:=h.2;omega)
def nP (z:au):Bool:=dv z.aW&&dI z.aa
def okB (z:ar):Bool:=dI z.aa&&(decide (1<=z.bj.length)&&decide (z.bj.length<=4))
def nI (l:List au):Bool:=allI (λi z=>nP z&&fI (λy z=>decide (y.aW<z.aW)) l i z) 0 l
def mR (l:List ar):Bool:=allI (λi z=>okB z&&fI (λy z=>decide (y.aa<z.aa)) l i z) 0 l
def l5 (s:aL):Bool:=nI s.ak&&(mR s.an&&decide (s.ak.length<=16))
structure K_ (s:aL):Prop where
 names: ∀z∈s.ak,cz z.aW
 ln:s.ak.length<=maxLen
 lb:s.an.length<=maxLen
theorem OJ (a b:Int):decide (a>=b)=!decide (a<b):=by rw[κ];simp
theorem aej {S:Int->au->Unit->T (Unit⊕Unit⊕(Bool×Int))} {F:Int->Unit->T (Unit⊕(Bool×Int))} {l:List au} (hm:l.length<=maxLen)
  (c:(F (l.length:Int) ()).val=some (.inr (false,(l.length:Int))))
  (d: ∀(i:Int) z,z∈l->(S i z ()).val=bif !dv z.aW then some (.inr (.inl ())) else bif !dI z.aa then some (.inr (.inl ())) else bif decide (i>0) then(idx l (γ.wrap (i-1))).bind λy=>bif decide (y.aW>=z.aW) then some (.inr (.inl ())) else some (.inl ()) else some (.inl ())):
  bB (λi z a=>(S i z a).val) (λi a=>(F i a).val) 0 l ()=bif nI l then some (.inr (false,(l.length:Int))) else some (.inl ()):=by
 unfold nI;rw[h2 (q:=λi z=>nP z&&fI (λy z=>decide (y.aW<z.aW)) l i z) (x:=.inl ()),c];intro i z b;refine IX (S:=S i z ()) (g:=nP) (q:=λy z=>decide (y.aW<z.aW)) hm b ?_;rw[d _ z (ξ3 b)];unfold nP;simp only[OJ];cases dv z.aW<;>cases dI z.aa<;>rfl
theorem abk {S:Int->ar->Unit->T (Unit⊕Unit⊕(Bool×Int))} {F:Int->Unit->T (Unit⊕(Bool×Int))} {l:List ar} (hm:l.length<=maxLen)
  (d:(F (l.length:Int) ()).val=some (.inr (false,(l.length:Int))))
  (e: ∀(i:Int) z,(S i z ()).val=bif !dI z.aa then some (.inr (.inl ())) else bif decide ((z.bj.length:Int)<1) then some (.inr (.inl ())) else bif decide ((z.bj.length:Int)>4) then some (.inr (.inl ())) else bif decide (i>0) then(idx l (γ.wrap (i-1))).bind λy=>bif decide (y.aa>=z.aa) then some (.inr (.inl ())) else some (.inl ()) else some (.inl ())):
  bB (λi z a=>(S i z a).val) (λi a=>(F i a).val) 0 l ()=bif mR l then some (.inr (false,(l.length:Int))) else some (.inl ()):=by
 unfold mR;rw[h2 (q:=λi z=>okB z&&fI (λy z=>decide (y.aa<z.aa)) l i z) (x:=.inl ()),d];intro i z f;refine IX (S:=S i z ()) (g:=okB) (q:=λy z=>decide (y.aa<z.aa)) hm f ?_;rw[e];unfold okB;have b:decide ((z.bj.length:Int)<1)=!decide (1<=z.bj.length):=by
  by_cases h:1<=z.bj.length
  ·rw[decide_eq_true h,decide_eq_false (by omega)];rfl
  ·rw[decide_eq_false h,decide_eq_true (by omega)];rfl
 have c:decide ((z.bj.length:Int)>4)=!decide (z.bj.length<=4):=by
  by_cases h:z.bj.length<=4
  ·rw[decide_eq_true h,decide_eq_false (by omega)];rfl
  ·rw[decide_eq_false h,decide_eq_true (by omega)];rfl
 simp only[OJ,b,c];cases dI z.aa<;>cases decide (1<=z.bj.length)<;>cases decide (z.bj.length<=4)<;>rfl
theorem v49 {s:aL} (h:K_ s):jI ab s=some (bif l5 s then 0 else 350):=by
 show(uD ab s).val=_;unfold uD l5;simp only[T.bw,T.aG,T.ch,T.av,T.az];have h1:Dd ab s.ak s.an=_:=aej (S:=ux ab s.ak s.an) (F:=sL ab s.ak s.an) h.ln (by unfold sL;simp) (λi z b=>by
  unfold ux;simp only[T.aG,T.az,T.av,yJ (h.names z b),Kg,β])
 have a:Db ab s.an s.ak=_:=abk (S:=uw ab s.an s.ak) (F:=sK ab s.an s.ak) h.lb (by unfold sK;simp) (λi z=>by
  unfold uw;simp only[T.aG,T.az,T.av,Kg,β])
 rw[h1,a]
 by_cases hl:s.ak.length<=16
 ·rw[decide_eq_false (by omega: ¬(s.ak.length:Int)>16),decide_eq_true hl];cases nI s.ak<;>cases mR s.an<;>rfl
 ·rw[decide_eq_true (by omega:(s.ak.length:Int)>16),decide_eq_false hl];cases nI s.ak<;>cases mR s.an<;>rfl
theorem hM {α:Type} [DecidableEq α] {S:Int->α->Unit->T (Unit⊕Unit⊕(Bool×Int))} {F:Int->Unit->T (Unit⊕(Bool×Int))} {l m:List α} {e:α->α->Bool} (he: ∀x y,e x y=decide (x=y)) (hl:l.length=m.length)
  (c:(F (l.length:Int) ()).val=some (.inr (false,(l.length:Int))))
  (d: ∀(i:Int) z,(S i z ()).val=(idx m i).bind λy=>bif !e z y then some (.inr (.inl ())) else some (.inl ())):
  bB (λi z a=>(S i z a).val) (λi a=>(F i a).val) 0 l ()=bif decide (l=m) then some (.inr (false,(l.length:Int))) else some (.inl ()):=by
 rw[h2 (q:=λi z=>decide (m[i]? =some z)) (x:=.inl ()),c]
 ·congr 1
  rw[κ,fX];constructor
  ·intro h;refine decide_eq_true (ζx λi=>?_);cases b:l[i]? with
   |none=>rw[List.getElem?_eq_none_iff] at b;rw[ξH (by omega)]
   |some z=>
    have:=h i z b;rw[ψ] at this;exact(of_decide_eq_true this).symm
  ·intro h k z hk;have h:=of_decide_eq_true h;rw[ψ,<-h];exact decide_eq_true hk
 ·intro i z b;have f:=(δ.1 b).1;have hm:m[i]? =some m[i]:=ε (by omega);have hi:idx m (i:Int)=some m[i]:=gH hm;rw[d,hi,hm];simp only[β,he,ξq]
  by_cases h:z=m[i]
  ·rw[decide_eq_true h,decide_eq_true h.symm];rfl
  ·rw[decide_eq_false h,decide_eq_false (λx=>h x.symm)];rfl
theorem ib {L:Option (Unit⊕(Bool×Int))} {p:Bool} {n:Int} (h:L=bif p then some (.inr (false,n)) else some (.inl ())):(T.bd L λx=>.cs x (λ_=>.ok false) λ_=>.ok true:T Bool).val=some p:=by
 rw[h];cases p<;>rfl
theorem ik {α:Type} {l m:List α}:((l.length:Int) !=(m.length:Int))=!decide (l.length=m.length):=by
 by_cases h:l.length=m.length
 ·rw[decide_eq_true h,h];simp
 ·rw[decide_eq_false h];simp;omega
theorem hU {α:Type} [DecidableEq α] {l m:List α} (h:l.length≠m.length):decide (l=m)=false:=decide_eq_false λe=>h (by rw[e])
theorem N9 (x y:ah):fl x y=decide (x=y):=by
 rw[κ];cases x;cases y;simp[fl,and_assoc]
theorem N5 (x y:ai):gB x y=decide (x=y):=by
 rw[κ];cases x;cases y;simp[gB,and_assoc]
theorem N7 (x y:ay):h_ x y=decide (x=y):=by
 rw[κ];cases x;cases y;simp[h_]
theorem N8 (x y:au):ia x y=decide (x=y):=by
 rw[κ];cases x;cases y;simp[ia]
theorem N6 (x y:Int):(x==y)=decide (x=y):=by rw[κ];simp
@[simp] theorem v57 (a b:List ai):GS ab a b=some (decide (a=b)):=by
 show(E5 ab a b).val=_;unfold E5;simp only[T.az,T.av,T.bw,ik]
 by_cases h:a.length=b.length
 ·rw[decide_eq_true h];exact ib (hM (S:=Dw ab a b) (F:=sE ab a b) (e:=gB) N5 h (by unfold sE;simp) (λi z=>rfl))
 ·rw[decide_eq_false h,hU h];rfl
@[simp] theorem ajl (a b:List ah):GZ ab a b=some (decide (a=b)):=by
 show(Fg ab a b).val=_;unfold Fg;simp only[T.az,T.av,T.bw,ik]
 by_cases h:a.length=b.length
 ·rw[decide_eq_true h];exact ib (hM (S:=Dx ab a b) (F:=sM ab a b) (e:=fl) N9 h (by unfold sM;simp) (λi z=>rfl))
 ·rw[decide_eq_false h,hU h];rfl
@[simp] theorem ajm (a b:List ay):G6 ab a b=some (decide (a=b)):=by
 show(Fh ab a b).val=_;unfold Fh;simp only[T.az,T.av,T.bw,ik]
 by_cases h:a.length=b.length
 ·rw[decide_eq_true h];exact ib (hM (S:=Dy ab a b) (F:=sN ab a b) (e:=h_) N7 h (by unfold sN;simp) (λi z=>rfl))
 ·rw[decide_eq_false h,hU h];rfl
@[simp] theorem ajn (a b:List au):G7 ab a b=some (decide (a=b)):=by
 show(Fi ab a b).val=_;unfold Fi;simp only[T.az,T.av,T.bw,ik]
 by_cases h:a.length=b.length
 ·rw[decide_eq_true h];exact ib (hM (S:=Dz ab a b) (F:=sO ab a b) (e:=ia) N8 h (by unfold sO;simp) (λi z=>rfl))
 ·rw[decide_eq_false h,hU h];rfl
@[simp] theorem v105 (a b:Γa):G8 ab a b=some (decide (a=b)):=by
 show(Fj ab a b).val=_;unfold Fj;simp only[T.az,T.av,T.bw,ik]
 by_cases h:a.length=b.length
 ·rw[decide_eq_true h];exact ib (hM (S:=DA ab a b) (F:=sQ ab a b) (e:=(λx y=>x==y)) N6 h (by unfold sQ;simp) (λi z=>rfl))
 ·rw[decide_eq_false h,hU h];rfl
theorem v56 (a b:br):GR ab a b=some (decide (a=b)):=by
 show(E4 ab a b).val=_;unfold E4;simp only[T.az,T.aG,T.av,ajl,β];obtain⟨g,l⟩:=a;obtain⟨d,l'⟩:=b
 by_cases c:g=d
 ·subst c;simp
 ·have e:(g==d)=false:=by simp[c]
  simp[c,e]
theorem v58 (a b:bz):GU ab a b=some (decide (a=b)):=by
 show(E6 ab a b).val=_;unfold E6;simp only[T.az,T.aG,T.av,ajm,β];obtain⟨l,g⟩:=a;obtain⟨l',d⟩:=b
 by_cases c:g=d
 ·subst c;simp
 ·have e:(g==d)=false:=by simp[c]
  simp[c,e]
def mX (x y:ar):Bool:=(x.aa==y.aa)&&decide (x.bj=y.bj)
theorem N4 (x y:ar):mX x y=decide (x=y):=by
 rw[κ];cases x;cases y;simp[mX]
theorem Ps (a b:aL):decide (a=b)=(decide (a.ak=b.ak)&&decide (a.an=b.an)):=by
 rw[κ];cases a;cases b;simp
theorem v59 (a b:aL):GV ab a b=some (decide (a=b)):=by
 show(E7 ab a b).val=_;unfold E7;rw[Ps];simp only[T.az,T.av,T.bw,T.aG,ajn,β,ik];cases decide (a.ak=b.ak) with
 |false=>rfl
 |true=>
  simp only[cond_true,φ]
  by_cases c:a.an.length=b.an.length
  rotate_left
  ·rw[decide_eq_false c,hU c];rfl
  rw[decide_eq_true c];have d:Df ab b.an a.an=_:=hM (S:=uy ab b.an a.an) (F:=sP ab b.an a.an) (l:=a.an) (m:=b.an) (e:=mX) N4 c (by unfold sP;simp) (λi z=>by
   unfold uy mX;simp only[T.aG,T.az,T.av,v105,β];cases idx b.an i with
   |none=>rfl
   |some y=>
    simp only[β];cases h:z.aa==y.aa<;>simp)
  exact ib d
theorem Uf (a b:aZ):decide (a=b)=(decide (a.ax=b.ax)&&(decide (a.aI=b.aI)&&(decide (a.aC=b.aC)&&decide (a.aw=b.aw)))):=by
 rw[κ];cases a;cases b;simp
theorem v12 (a b:aZ):kr ab a b=some (decide (a=b)):=by
 show(Eh ab a b).val=_;unfold Eh;rw[Uf];simp only[T.az,T.av,T.aG,v56,v57,v58,v59,β];cases decide (a.ax=b.ax)<;>cases decide (a.aI=b.aI)<;>cases decide (a.aC=b.aC)<;>rfl
def dA:aZ:=⟨⟨[1,0,0,0,0,0,0,0,0,0,0,0,0,0,0,0],[ah.mk 1 0 false 0]⟩,[],⟨[],1⟩,⟨[],[]⟩⟩
theorem abP {α:Type} (l:List α) (n:Nat) (k:Int) (hk:k=n):dF l none (some (if k<(l.length:Int) then k else(l.length:Int))) none=some (l.take n):=by
 subst hk;unfold dF
 by_cases h:(n:Int)<(l.length:Int)
 ·rw[if_pos h];simp only[ξw,ξ1];rw[if_pos ⟨by omega,by omega,by omega,by omega,by omega,by simp⟩];simp
 ·rw[if_neg h];simp only[ξw,ξ1];rw[if_pos ⟨by omega,by omega,by omega,by omega,by omega,by simp⟩,ι];show some ((l.take l.length).drop 0)=_;rw[ζm,List.take_length,ξD (by omega)]
theorem fY {α:Type} {b n:Nat} {xs ys:List α} (h:xs.length+ys.length<=n) (a:b*n<=140737488355328):app b xs ys=some (xs++ys):=by
 refine uG ?_;have:(xs.length+ys.length)*b<=n*b:=ζk _ h;rw[ζD n b] at this;omega
theorem v18:vx ab=some dA:=rfl
theorem nG (p:Int×Int) (r:Γc) (j:Int):bG (p::r) j=bif j==p.1 then some p.2 else bG r j:=by
 unfold bG;rw[List.find?_cons];cases j==p.1<;>rfl
theorem T_ (p:Int×Int) (r:Γc) (k v:Int):cp (p::r) k v=bif k==p.1 then(k,v)::r else p::cp r k v:=by
 unfold cp;rw[List.findIdx?_cons];cases k==p.1 with
 |true=>rfl
 |false=>
  simp only[cond_false,ζu,if_false];cases List.findIdx? (λp=>k==p.1) r<;>rfl
theorem nH (k v j:Int): ∀m:Γc,bG (cp m k v) j=if j=k then some v else bG m j
 |[]=>by
  show bG [(k,v)] j=_;rw[nG]
  by_cases h:j=k
  ·simp[h]
  ·have e:(j==k)=false:=by simp[h]
   simp[h,e]
 |p::r=>by
  rw[T_];cases hk:k==p.1 with
  |true=>
   have hk:=eq_of_beq hk;simp only[cond_true];rw[nG,nG]
   by_cases h:j=k
   ·simp[h]
   ·have a:(j==p.1)=false:=by rw[<-hk];simp[h]
    have e:(j==k)=false:=by simp[h]
    simp[h,a,e]
  |false=>
   simp only[cond_false];rw[nG,nG,nH k v j r]
   by_cases h:j=k
   ·subst h;rw[hk];simp
   ·simp[h]
theorem Rq {α:Type} (c:α->Bool) (key:α->Int) (j:Int): ∀(l:List α) (m:Γc),bG (l.foldl (λa z=>bif c z then cp a (key z) 1 else a) m) j=if l.any (λz=>c z&&(key z==j)) then some 1 else bG m j
 |[],m=>by simp
 |z::l,m=>by
  rw[ξU,Rq c key j l,ζW];cases c z with
  |false=>simp
  |true=>
   simp only[cond_true,φ,nH]
   by_cases h:j=key z
   ·subst h;simp
   ·have:(key z==j)=false:=by simp;exact λe=>h e.symm
    simp[h,this]
theorem Rr {α:Type} (c:α->Bool) (key:α->Int) (j:Int) (l:List α):((bG (l.foldl (λa z=>bif c z then cp a (key z) 1 else a) []) j).getD 0==1)=l.any (λz=>c z&&(key z==j)):=by
 rw[Rq];cases l.any (λz=>c z&&(key z==j))<;>rfl
theorem IP {l:List ah} (h: ∀i x,l[i]? =some x->hs l i x=true): ∀(j i:Nat) (x y:ah),i<j->l[i]? =some x->l[j]? =some y->ix x.aa<ix y.aa
 |0,i,x,y,d,_,_=>by omega
 |j+1,i,x,y,d,c,e=>by
  have h1:=h (j+1) y e;have f:=(δ.1 e).1;have b:l[j]? =some l[j]:=ε (by omega);unfold hs at h1;rw[show(j+1==0)=false from rfl,ξp,ξX,b] at h1;have h1:ix l[j].aa<ix y.aa:=of_decide_eq_true h1;rcases ζ3.1 d with a|a
  ·have:=IP h j i x l[j] a c b;omega
  ·subst a;rw[b] at c;cases c;exact h1
theorem ah9 {p:br} (h:allI (λi x=>hY p x&&hs p.ae i x) 0 p.ae=true) (pid:Int):b1 p.ae pid=p.ae.any (λz=>!z.bb&&(z.aa==pid)):=by
 have g: ∀i x,p.ae[i]? =some x->hs p.ae i x=true:=λi x m=>by
  have:=fX.1 h i x m;rw[ψ,ξ5] at this;exact this.2
 unfold b1 eu;cases d:p.ae.find? (λz=>z.aa==pid) with
 |none=>
  symm
  rw[ξo];intro z f;have:=ζs.1 d z f;simp only[ξ5,not_and];exact λ_=>this
 |some z0=>
  have l:=ξZ d;have k:(z0.aa==pid)=true:=ζL (p:=λz:ah=>z.aa==pid) d;rw[κ,ζF];constructor
  ·intro c;have c:(!z0.bb)=true:=c;exact⟨z0,l,by rw[c,k];rfl⟩
  ·rintro ⟨z,f,b⟩;rw[ξ5] at b;obtain⟨i,hi⟩:=ζl f;obtain⟨j,a⟩:=ζl l;have e:z.aa=z0.aa:=(eq_of_beq b.2).trans (eq_of_beq k).symm;rcases Nat.lt_trichotomy i j with h1|h1|h1
   ·have:=IP g j i z z0 h1 hi a;rw[e] at this;omega
   ·subst h1;rw[hi] at a;cases a;exact b.1
   ·have:=IP g i j z0 z h1 a hi;rw[e] at this;omega
def xK {A B C D:Type}:(A×Bool×B)⊕(C×Bool×D)->Bool
 | .inl y=>y.2.1
 | .inr y=>y.2.1
theorem yf {α X:Type} {step:Int->α->Bool->Option (Bool⊕X)} {fin:Int->Bool->Option X} {out:X->Bool} {q:α->Bool} (c: ∀i a,∃x,fin i a=some x/\out x=a):
  ∀ {l:List α} {i:Nat},(∀i z a,z∈l->(q z=true/\step i z a=some (.inl true))\/(q z=false/\ ∃x,step i z a=some (.inr x)/\out x=false))-> ∃x,bB step fin i l true=some x/\out x=l.all q
 |[],i,_=>by
  obtain⟨x,h1,b⟩:=c i true;exact⟨x,h1,b⟩
 |z::l,i,h=>by
  rw[hx,ζt];rcases h i z true τ with⟨h1,b⟩|⟨h1,x,b,d⟩
  ·rw[h1,b,β];obtain⟨x,e,f⟩:=yf c (l:=l) (i:=i+1) λi z a g=>h i z a (ξ4 _ g);exact⟨x,e,by simpa using f⟩
  ·rw[h1,b,β];exact⟨x,rfl,by simpa using d⟩
def rh (s:aZ):Bool:=(s.aI.all λd=>b1 s.ax.ae d.aa&&s.aC.ae.any λm=>m.aY==d.b')&&((s.aw.ak.all λn=>b1 s.ax.ae n.aa)&&s.aw.an.all λb=>b1 s.ax.ae b.aa)
structure La (s:aZ):Prop where
 p:zl s.ax
 d:s.aI.length<=maxLen
 i:K_ s.aw
theorem YW (l:List ai) (b M2:Γc) (i:Int) (z:ai) (a:Bool):(mJ ab l b M2 i z a).val=bif ((bG b z.aa).getD 0==1) then(bif !((bG M2 z.b').getD 0==1) then some (.inr (.inl (!((bG M2 z.b').getD 0==1),(bG M2 z.b').getD 0==1,z.aa,z.bo,z.b',z,decide (i<l.length),a,i))) else some (.inl ((bG M2 z.b').getD 0==1))) else some (.inr (.inl (true,false,z.aa,z.bo,z.b',z,decide (i<l.length),a,i))):=by
 unfold mJ;cases bG b z.aa<;>cases bG M2 z.b'<;>rfl
theorem YX (l:List au) (b:Γc) (i:Int) (z:au) (a:Bool):(mK ab l b i z a).val=bif !((bG b z.aa).getD 0==1) then some (.inr (.inl (!((bG b z.aa).getD 0==1),(bG b z.aa).getD 0==1,z.aW,z.aa,z,decide (i<l.length),a,i))) else some (.inl ((bG b z.aa).getD 0==1)):=by
 unfold mK;cases bG b z.aa<;>rfl
theorem YY (l:List ar) (b:Γc) (i:Int) (z:ar) (a:Bool):(mL ab l b i z a).val=bif !((bG b z.aa).getD 0==1) then some (.inr (.inl (!((bG b z.aa).getD 0==1),(bG b z.aa).getD 0==1,z.aa,z.bj,z,decide (i<l.length),a,i))) else some (.inl ((bG b z.aa).getD 0==1)):=by
 unfold mL;cases bG b z.aa<;>rfl
theorem v11 {s:aZ} (h:La s) {m:Bool} (hm:pQ ab s.aC=some (bif m then 0 else 340)):vI ab s=some (bif jc s.ax&&(l4 s.aI&&(m&&(l5 s.aw&&rh s))) then 0 else 360):=by
 show(E1 ab s).val=_;unfold E1;simp only[T.aG,T.az,T.av,T.bw,v46 h.p,U1 h.d,hm,v49 h.i,β];cases hp:jc s.ax
 ·rfl
 cases l4 s.aI
 ·rfl
 cases m
 ·rfl
 cases l5 s.aw
 ·rfl
 have A:allI (λi x=>hY s.ax x&&hs s.ax.ae i x) 0 s.ax.ae=true:=by
  unfold jc at hp;rw[ξ5,ξ5] at hp;exact hp.2.1
 have C:=ah9 A;simp only[cond_true,cond_false,φ,show((0:Int) !=0)=false from rfl];obtain⟨b,n⟩: ∃M,M=s.ax.ae.foldl (λa z=>bif !z.bb then cp a z.aa 1 else a) []:=⟨_,rfl⟩;obtain⟨M2,o⟩: ∃M,M=s.aC.ae.foldl (λa z=>bif (λ_:ay=>true) z then cp a z.aY 1 else a) []:=⟨_,rfl⟩;have h1:tk ab s.ax.ae s.ax.aH s.aI s.aC.ae s.aC.ba s.aw.ak s.aw.an []=some (false,(s.ax.ae.length:Int),b):=by
  have:=l6 (g:=λa (z:ah)=>bif !z.bb then cp a z.aa 1 else a) (l:=s.ax.ae) (i:=0) (a:=[]) (step:=λi z a=>(o6 ab s.ax.ae s.ax.aH s.aI s.aC.ae s.aC.ba s.aw.ak s.aw.an i z a).val) (fin:=λi a=>(sC ab s.ax.ae s.ax.aH s.aI s.aC.ae s.aC.ba s.aw.ak s.aw.an i a).val) (λi z a _=>by
   show(o6 ab s.ax.ae s.ax.aH s.aI s.aC.ae s.aC.ba s.aw.ak s.aw.an i z a).val=_;unfold o6;cases z.bb<;>rfl)
  have c:tk ab s.ax.ae s.ax.aH s.aI s.aC.ae s.aC.ba s.aw.ak s.aw.an []=_:=this;rw[c,n];unfold sC;simp
 have c:tj ab s.aC.ae s.ax.aH s.ax.ae s.aI s.aC.ba s.aw.ak s.aw.an b []=some (false,(s.aC.ae.length:Int),M2):=by
  have:=l6 (g:=λa (z:ay)=>bif (λ_:ay=>true) z then cp a z.aY 1 else a) (l:=s.aC.ae) (i:=0) (a:=[]) (step:=λi z a=>(Dv ab s.aC.ae s.ax.aH s.ax.ae s.aI s.aC.ba s.aw.ak s.aw.an b i z a).val) (fin:=λi a=>(sB ab s.aC.ae s.ax.aH s.ax.ae s.aI s.aC.ba s.aw.ak s.aw.an b i a).val) (λi z a _=>rfl);have c:tj ab s.aC.ae s.ax.aH s.ax.ae s.aI s.aC.ba s.aw.ak s.aw.an b []=_:=this;rw[c,o];unfold sB;simp
 have k: ∀pid,((bG b pid).getD 0==1)=b1 s.ax.ae pid:=λpid=>by rw[n,Rr (λz:ah=>!z.bb) (λz=>z.aa),C pid]
 have B: ∀id,((bG M2 id).getD 0==1)=s.aC.ae.any λm=>m.aY==id:=λid=>by rw[o,Rr (λ_:ay=>true) (λz=>z.aY)];simp
 obtain⟨r,e,D⟩:=yf (out:=xK) (q:=λd:ai=>b1 s.ax.ae d.aa&&s.aC.ae.any λm=>m.aY==d.b') (step:=λi z a=>(mJ ab s.aI b M2 i z a).val) (fin:=λi a=>(y_ ab s.aI b M2 i a).val) (λi a=>⟨_,rfl,rfl⟩) (l:=s.aI) (i:=0) (λi z a _=>by
  show _/\(mJ ab s.aI b M2 i z a).val=_\/_;rw[YW,k,B];cases b1 s.ax.ae z.aa with
  |false=>exact .inr ⟨rfl,_,rfl,rfl⟩
  |true=>
   cases (s.aC.ae.any λm=>m.aY==z.b') with
   |false=>exact .inr ⟨rfl,_,rfl,rfl⟩
   |true=>exact .inl ⟨rfl,rfl⟩)
 obtain⟨t,f,E⟩:=yf (out:=xK) (q:=λd:au=>b1 s.ax.ae d.aa) (step:=λi z a=>(mK ab s.aw.ak b i z a).val) (fin:=λi a=>(y' ab s.aw.ak b i a).val) (λi a=>⟨_,rfl,rfl⟩) (l:=s.aw.ak) (i:=0) (λi z a _=>by
  show _/\(mK ab s.aw.ak b i z a).val=_\/_;rw[YX,k];cases b1 s.ax.ae z.aa with
  |false=>exact .inr ⟨rfl,_,rfl,rfl⟩
  |true=>exact .inl ⟨rfl,rfl⟩)
 obtain⟨u,j,F⟩:=yf (out:=xK) (q:=λd:ar=>b1 s.ax.ae d.aa) (step:=λi z a=>(mL ab s.aw.an b i z a).val) (fin:=λi a=>(za ab s.aw.an b i a).val) (λi a=>⟨_,rfl,rfl⟩) (l:=s.aw.an) (i:=0) (λi z a _=>by
  show _/\(mL ab s.aw.an b i z a).val=_\/_;rw[YY,k];cases b1 s.ax.ae z.aa with
  |false=>exact .inr ⟨rfl,_,rfl,rfl⟩
  |true=>exact .inl ⟨rfl,rfl⟩)
 have e:De ab s.aI b M2 true=some r:=e;have f:tn ab s.aw.ak b true=some t:=f;have j:mz ab s.aw.an b true=some u:=j;unfold rh;rw[h1];simp only[β];rw[c];simp only[β];rw[e,f,j,<-D,<-E,<-F];simp only[β];rcases r with v|v<;>rcases t with w|w<;>rcases u with y|y<;>simp only[T.ch,T.aG,T.bw,T.az,T.av,xK,β]<;>cases v.2.1<;>cases w.2.1<;>cases y.2.1<;>rfl
abbrev Di (w:Int) (b:Bool):Prop:=pD ab w=some (bif b then 0 else 310)
structure K' (P:Int->Bool) (m:bz):Prop where
 path: ∀z∈m.ae,Di z.aN (P z.aN)
 len:m.ae.length<=maxLen
def qW (P:Int->Bool) (next:Int) (z:ay):Bool:=P z.aN&&(decide (1<=z.aY)&&decide (z.aY<next))
def nJ (l:List ay) (i:Nat) (z:ay):Bool:=!(l.take i).any λy=>y.aN==z.aN
def xn (P:Int->Bool) (next:Int) (l:List ay):Bool:=allI (λi z=>(qW P next z&&fI (λy z=>decide (y.aY<z.aY)) l i z)&&nJ l i z) 0 l
def rj (P:Int->Bool) (m:bz):Bool:=xn P m.ba m.ae&&(decide (m.ae.length<=16)&&(decide (m.ba>=1)&&decide (m.ba<=1073741825)))
theorem FT {α:Type} {l:List α} {i:Nat} (h:i<=l.length):dF l none (some (i:Int)) none=some (l.take i):=by
 unfold dF;simp only[ξw,ξ1];rw[if_pos ⟨by omega,by omega,by omega,by omega,by omega,by simp⟩,ι];rfl
def l_ (P:Int->Bool) (next:Int):Int->List ay->Bool
 |_,[]=>true
 |a,z::r=>(P z.aN&&(decide (a<z.aY)&&decide (z.aY<next)))&&l_ P next z.aY r
theorem T9 {P:Int->Bool} {l0:List ay} {next:Int}: ∀(l:List ay) (i:Nat) (a:Int),(∀z∈l,Di z.aN (P z.aN))->(l_ P next a l=true/\ ∃b,bB (λi z a=>(kc ab l0 next i z a).val) (λi a=>(sJ ab l0 next i a).val) i l a=some (.inr b))\/(l_ P next a l=false/\bB (λi z a=>(kc ab l0 next i z a).val) (λi a=>(sJ ab l0 next i a).val) i l a=some (.inl ()))
 |[],i,a,_=>.inl ⟨rfl,_,rfl⟩
 |z::l,i,a,h=>by
  have e:(kc ab l0 next i z a).val=bif P z.aN&&(decide (a<z.aY)&&decide (z.aY<next)) then some (.inl z.aY) else some (.inr (.inl ())):=by
   unfold kc;simp only[T.aG,T.az,T.av,h z τ,β];have c:decide (z.aY<=a)=!decide (a<z.aY):=by rw[κ];simp
   have d:decide (z.aY>=next)=!decide (z.aY<next):=by rw[κ];simp
   rw[c,d];cases P z.aN<;>cases decide (a<z.aY)<;>cases decide (z.aY<next)<;>rfl
  rw[hx];show _/\(∃b,((kc ab l0 next i z a).val.bind _)=_)\/_/\((kc ab l0 next i z a).val.bind _)=_;rw[e];unfold l_;cases P z.aN&&(decide (a<z.aY)&&decide (z.aY<next)) with
  |false=>exact .inr ⟨rfl,rfl⟩
  |true=>
   simp only[cond_true,β,φ];exact T9 l (i+1) z.aY λy f=>h y (ξ4 _ f)
theorem T8 {P:Int->Bool} {next:Int} {l0:List ay}: ∀(r pre:List ay) (a:Int),l0=pre++r->(pre=[]->a=0)->(∀y,pre.getLast? =some y->a=y.aY/\1<=y.aY)->l_ P next a r=allI (λi z=>qW P next z&&fI (λy z=>decide (y.aY<z.aY)) l0 i z) pre.length r
 |[],_,_,_,_,_=>rfl
 |z::r,pre,a,e,d,h1=>by
  unfold l_ allI qW;have k:(P z.aN&&(decide (a<z.aY)&&decide (z.aY<next)))=((P z.aN&&(decide (1<=z.aY)&&decide (z.aY<next)))&&fI (λy z=>decide (y.aY<z.aY)) l0 pre.length z):=by
   unfold fI;rcases List.eq_nil_or_concat pre with hp|⟨p,y,hp⟩
   ·subst hp;rw[d rfl];have:decide ((0:Int)<z.aY)=decide (1<=z.aY):=by rw[κ];simp;omega
    rw[this];simp
   ·subst hp;obtain⟨l,m⟩:=h1 y (by simp);have f:l0[(p++[y]).length-1]? =some y:=by rw[e];simp
    have j:((p++[y]).length==0)=false:=by simp
    have:decide (a<z.aY)=(decide (1<=z.aY)&&decide (y.aY<z.aY)):=by rw[κ];simp;omega
    simp only[List.concat_eq_append] at*
    rw[f,j,this];simp only[ξp];cases P z.aN<;>cases decide (1<=z.aY)<;>cases decide (y.aY<z.aY)<;>cases decide (z.aY<next)<;>rfl
  rw[k];cases b:(P z.aN&&(decide (1<=z.aY)&&decide (z.aY<next)))&&fI (λy z=>decide (y.aY<z.aY)) l0 pre.length z with
  |false=>rfl
  |true=>
   have g:1<=z.aY:=by
    simp only[ξ5,decide_eq_true_eq] at b;exact b.1.2.1
   have:=T8 (P:=P) (next:=next) (l0:=l0) r (pre++[z]) z.aY (by rw[e];simp) (λh=>by simp at h) (λy c=>by simp at c;subst c;exact⟨rfl,g⟩);rw[show(pre++[z]).length=pre.length+1 by simp] at this;rw[this];rfl
def mapM:Γc->List ay->Γc
 |m,[]=>m
 |m,z::r=>mapM (cp m z.aN z.aY) r
def hf:Γc->List ay->Bool
 |_,[]=>true
 |m,z::r=>!(bG m z.aN).isSome&&hf (cp m z.aN z.aY) r
theorem Ro (k v:Int): ∀m:Γc,(cp m k v).length=if(bG m k).isSome then m.length else m.length+1
 |[]=>rfl
 |p::r=>by
  rw[T_,nG];cases k==p.1 with
  |true=>simp
  |false=>
   simp only[cond_false,ξc,Ro k v r];split<;>rfl
theorem RA: ∀(l:List ay) (m:Γc),(mapM m l).length<=m.length+l.length/\(hf m l=true->(mapM m l).length=m.length+l.length)/\(hf m l=false->(mapM m l).length<m.length+l.length)
 |[],m=>by simp[mapM,hf]
 |z::r,m=>by
  obtain⟨h1,b,c⟩:=RA r (cp m z.aN z.aY);have hl:=Ro z.aN z.aY m;simp only[mapM,hf,ξc];cases a:(bG m z.aN).isSome with
  |true=>
   rw[a,if_pos rfl] at hl;simp only[ξP,ζS];refine⟨by omega,λh=>(by cases h),λ_=>by omega⟩
  |false=>
   rw[a,if_neg (by simp)] at hl;simp only[ξY,φ];exact⟨by omega,λh=>by have:=b h;omega,λh=>by have:=c h;omega⟩
theorem RB (j:Int): ∀(l:List ay) (m:Γc),(bG (mapM m l) j).isSome=(l.any (λy=>y.aN==j)||(bG m j).isSome)
 |[],m=>by simp[mapM]
 |z::r,m=>by
  simp only[mapM,ζW];rw[RB j r,nH]
  by_cases h:j=z.aN
  ·subst h;simp
  ·have:(z.aN==j)=false:=by simp;exact λe=>h e.symm
   simp[h,this]
theorem Rz: ∀(l r:List ay) (m:Γc),mapM m (l++r)=mapM (mapM m l) r
 |[],r,m=>rfl
 |z::l,r,m=>Rz l r _
theorem OE {l0:List ay}: ∀(r pre:List ay),l0=pre++r->hf (mapM [] pre) r=allI (λi z=>nJ l0 i z) pre.length r
 |[],_,_=>rfl
 |z::r,pre,e=>by
  unfold hf allI nJ;rw[RB];have a:l0.take pre.length=pre:=by rw[e];simp
  have hn:(bG ([]:Γc) z.aN).isSome=false:=rfl;rw[a,hn,ζp];have:=OE (l0:=l0) r (pre++[z]) (by rw[e];simp);rw[show(pre++[z]).length=pre.length+1 by simp,Rz] at this;have this:hf (cp (mapM [] pre) z.aN z.aY) r=_:=this;rw[this];rfl
theorem Nh {α:Type} {p q:Nat->α->Bool}: ∀ {l:List α} {i:Nat},allI (λi z=>p i z&&q i z) i l=(allI p i l&&allI q i l)
 |[],_=>rfl
 |z::l,i=>by
  simp only[allI];rw[Nh];cases p i z<;>cases q i z<;>cases allI p (i+1) l<;>simp
theorem ad9 {P:Int->Bool} {next:Int} {l:List ay}:xn P next l=(l_ P next 0 l&&hf [] l):=by
 unfold xn;rw[Nh,T8 (l0:=l) l [] 0 rfl (λ_=>rfl) (λy a=>by simp at a)];have:=OE (l0:=l) l [] rfl;have this:hf [] l=_:=this;rw[this];rfl
theorem fold_map: ∀(l:List ay) (m:Γc),l.foldl (λa z=>cp a z.aN z.aY) m=mapM m l
 |[],_=>rfl
 |z::r,m=>fold_map r _
theorem U2 {P:Int->Bool} {m:bz} (h:K' P m):pQ ab m=some (bif rj P m then 0 else 340):=by
 show(Fc ab m).val=_;unfold Fc rj;rw[ad9];simp only[T.bw,T.aG,T.ch,T.az,T.av];have d:ta ab m.ae []=some (false,(m.ae.length:Int),mapM [] m.ae):=by
  have:=l6 (g:=λa (z:ay)=>cp a z.aN z.aY) (l:=m.ae) (i:=0) (a:=[]) (step:=λi z a=>(Dk ab m.ae i z a).val) (fin:=λi a=>(rI ab m.ae i a).val) (λi z a _=>rfl);have d:ta ab m.ae []=_:=this;rw[d,fold_map];unfold rI;simp
 obtain⟨r,p,q⟩:=RA m.ae [];have o:decide (((mapM [] m.ae).length:Int)<(m.ae.length:Int))=!hf [] m.ae:=by
  cases f:hf [] m.ae with
  |true=>have:=p f;simp at this;exact decide_eq_false (by omega)
  |false=>have:=q f;simp at this;exact decide_eq_true (by omega)
 have j:decide ((m.ae.length:Int)>16)=!decide (m.ae.length<=16):=by
  by_cases h:m.ae.length<=16
  ·rw[decide_eq_true h,decide_eq_false (by omega)];rfl
  ·rw[decide_eq_false h,decide_eq_true (by omega)];rfl
 have k:decide (m.ba<1)=!decide (m.ba>=1):=by rw[κ];simp
 have n:decide (m.ba>1073741825)=!decide (m.ba<=1073741825):=by rw[κ];simp
 rcases T9 (P:=P) (l0:=m.ae) (next:=m.ba) m.ae 0 0 h.path with⟨e,b,c⟩|⟨e,c⟩
 ·have c:tl ab m.ae m.ba 0=some (.inr b):=c;rw[c,e,d];simp only[β,φ];rw[o,j,k,n];cases hf [] m.ae<;>cases decide (m.ae.length<=16)<;>cases decide (m.ba>=1)<;>cases decide (m.ba<=1073741825)<;>rfl
 ·have c:tl ab m.ae m.ba 0=some (.inl ()):=c;rw[c,e];rfl
def cY (l:Γ):Bool:=l.all en&&!l.isEmpty
theorem YP {s:ByteArray} {pos:Nat} (hp:pos<s.size):(mC ab s pos).val=bif en (ξ6 s pos).1 then some (.inl (pos+(ξ6 s pos).2)) else some (.inr (.inl ())):=by
 unfold mC;simp only[T.az,T.av];rw[decide_eq_true hp,uN];cases decide (((ξ6 s pos).1:Int)>=97)<;>cases decide (((ξ6 s pos).1:Int)<=122)<;>cases decide (((ξ6 s pos).1:Int)>=48)<;>cases decide (((ξ6 s pos).1:Int)<=57)<;>rfl
theorem UW {l:Γ} (h: ∀x∈l,x<256): ∀(k f pos:Nat),pos+k=l.length->ct (λa=>(mC ab (bs l) a).val) (k+1+f) pos=some (bif (l.drop pos).all en then .inr l.length else .inl ())
 |0,f,pos,e=>by
  obtain rfl:pos=l.length:=by omega
  rw[show 0+1+f=f+1 by omega,dw];unfold mC;simp[dM]
 |k+1,f,pos,e=>by
  have hp:pos<l.length:=by omega
  have d:=OM h (ε hp);rw[show k+1+1+f=(k+1+f)+1 by omega,dw,YP (by rw[dM];exact hp),ξt hp,ζt]
  by_cases b:((bs l).get! pos).toNat<128
  ·rw[FV b,d];cases en l[pos] with
   |false=>rfl
   |true=>
    simp only[cond_true,β,φ];exact UW h k f (pos+1) (by omega)
  ·have g:=uM (c:=l[pos]) (by rw[<-d];omega);rw[uM (decode_high b),g];rfl
theorem v175 {l:Γ} (h: ∀x∈l,x<256) (hl:l.length<=100):pG ab (bs l)=some (cY l):=by
 show(Ed ab (bs l)).val=_;unfold Ed cY;simp only[T.bw,T.aG,T.ch,T.av];have:=UW h l.length (999999-l.length) 0 (by omega);rw[show l.length+1+(999999-l.length)=1000000 by omega,ζm] at this;have a:Ce ab (bs l) 0=some (bif l.all en then .inr l.length else .inl ()):=this;rw[a];cases l.all en with
 |false=>rfl
 |true=>
  simp only[cond_true,β,φ];rw[FZ]
def di (acc:List (Γ)) (x:Nat):List (Γ):=if x=47 then acc++[[]] else match acc[acc.length-1]? with|some y=>acc.set (acc.length-1) (y++[x])|none=>acc
theorem OA: ∀(a:Γ) (acc:List (Γ)) (y:Γ),(∀x∈a,x≠47)->a.foldl di (acc++[y])=acc++[y++a]
 |[],acc,y,_=>by simp
 |x::a,acc,y,h=>by
  have b:di (acc++[y]) x=acc++[y++[x]]:=by
   unfold di;rw[if_neg (h x τ)];simp
  rw[ξU,b,OA a acc (y++[x]) λz c=>h z (ξ4 _ c)];simp
def wd (t:Γ):Γ:=t.takeWhile λx=>x !=47
def rs (t:Γ):Γ:=t.dropWhile λx=>x !=47
theorem Ve: ∀(t:Γ) (x:Nat),x∈wd t->x≠47
 |[],x,h=>by simp[wd] at h
 |z::t,x,h=>by
  unfold wd at h;rw[ζo] at h;cases a:z !=47 with
  |true=>
   rw[a] at h;rcases ξB.1 h with rfl|h
   ·simpa using a
   ·exact Ve t x h
  |false=>rw[a] at h;simp at h
theorem vQ (t:Γ) (acc:List (Γ)):(47::t).foldl di acc=(rs t).foldl di (acc++[wd t]):=by
 rw[ξU];have h1:di acc 47=acc++[[]]:=by unfold di;rw[if_pos rfl]
 rw[h1]
 conv=>lhs;rw[<-ξE (p:=λx=>x !=47) (l:=t)]
 rw[List.foldl_append];show List.foldl di (List.foldl di (acc++[[]]) (wd t)) (rs t)=_;rw[OA _ acc [] λx a=>Ve t x a];rfl
theorem oa (t:Γ):rs t=[]\/ ∃u,rs t=47::u:=by
 unfold rs;cases h:t.dropWhile λx=>x !=47 with
 |nil=>exact .inl rfl
 |cons x u=>
  right;have:=List.head?_dropWhile_not (λx=>x !=47) t;rw[h] at this;simp at this;exact⟨u,by rw[this]⟩
theorem vP: ∀(k:Nat) (r:Γ) (acc:List (Γ)),r.length<=k->(r=[]\/ ∃t,r=47::t)->r.foldl di acc=acc++r.foldl di []
 |0,r,acc,hk,_=>by
  have:r=[]:=ξM (by omega);subst this;simp
 |k+1,r,acc,hk,a=>by
  rcases a with rfl|⟨t,rfl⟩
  ·simp
  ·have hl:(rs t).length<=k:=by
    have:(rs t).length<=t.length:=(ξj _).length_le;simp at hk;omega
   rw[vQ,vQ,vP k (rs t) _ hl (oa t),vP k (rs t) ([]++[wd t]) hl (oa t)];simp
theorem HK: ∀(t:Γ),(∀x∈t,x<256)->ζX (bs t).data.toList (Nat.toUInt8 47)=if rs t=[] then -1 else((wd t).length:Int)
 |[],_=>rfl
 |x::t,h=>by
  have b:=HK t λz g=>h z (ξ4 _ g);have j:=h x τ;have c:(bs (x::t)).data.toList=ξn x::(bs t).data.toList:=by simp[bs]
  rw[c];unfold ζX rs wd;rw[List.dropWhile_cons,ζo]
  by_cases a:x=47
  ·subst a;rfl
  ·have d:(ξn x==Nat.toUInt8 47)=false:=by
    rw[beq_eq_false_iff_ne];intro e;have:=congrArg ζM e;simp at this;omega
   have f:(x !=47)=true:=by simp[a]
   rw[d,f];simp only[ζu,if_false,if_true];unfold rs wd at b;rw[b];split
   ·rfl
   ·rename_i i;rw[if_neg (by simp)];simp
theorem Vf (t:Γ):wd t++rs t=t:=ξE
theorem abM {l:Γ} {i j:Nat} (a:i<=j) (b:j<=l.length):(bs l).extract i j=bs ((l.take j).drop i):=by
 apply ζ7;rw[ByteArray.data_extract];unfold bs;apply ζT;rw[Array.toList_extract];simp[List.extract,ζr,ζ6,List.take_drop,show i+(j-i)=j by omega]
theorem iH {l:Γ} {i j:Nat} (b:i<=j) (c:j<=l.length) {lo hi:Option Int} (h1:lo.getD 0=(i:Int)) (a:hi.getD ((bs l).size:Int)=(j:Int)):eE (bs l) lo hi=some (bs ((l.take j).drop i)):=by
 unfold eE;rw[h1,a,if_pos ⟨by omega,by omega,by rw[dM];omega⟩,ι,ι,abM b c]
theorem YQ {d t:Γ} {w:Int} {acc:List (Γ)} (o:((bs d).toList==(ξ0 #[47]).toList)=false) (h: ∀x∈t,x<256) (hl:t.length<=50) (s:acc.length<=50):
  (gr ab (bs d) w (true,bs (47::t),acc.map bs)).val=bif cY (wd t) then some (.inl (true,bs (rs t),(acc++[wd t]).map bs)) else some (.inr (.inl (false,bs (47::t),acc.map bs))):=by
 have a:=Vf t;have hlen:(wd t).length+(rs t).length=t.length:=by rw[<-ν,a]
 have hw: ∀x∈wd t,x<256:=λx r=>h x (by rw[<-a];exact ξN _ r);have k:decide (((bs (47::t)).size:Int)>=1)=true:=decide_eq_true (by rw[dM];simp;omega);have c1:eE (bs (47::t)) none (some 1)=some (bs [47]):=iH (i:=0) (j:=1) (by omega) (by simp) rfl rfl;have c2:eE (bs (47::t)) (some 1) none=some (bs t):=by
  have:=iH (l:=47::t) (i:=1) (j:=t.length+1) (lo:=some 1) (hi:=none) (by omega) (by simp) rfl (by rw[dM];simp);rw[this];simp
 have m:((bs [47]).toList==(ξ0 #[47]).toList)=true:=by
  have:bs [47]=ξ0 #[47]:=rfl;rw[this];exact beq_self_eq_true _
 have g:app 16 (acc.map bs) [bs (wd t)]=some ((acc++[wd t]).map bs):=by
  rw[fY (n:=200) (by simp;omega) (by omega),ξC];rfl
 unfold gr;simp only[T.az,T.av,T.aG];rw[k,c1];simp only[cond_true,β];rw[m,c2];simp only[cond_true,β];rw[HK t h,o]
 by_cases b:rs t=[]
 ·have q:wd t=t:=by rw[b,ζd] at a;exact a
  rw[if_pos b];have f:(γ.wrap (-1+1)==0)=true:=rfl;have c:eE (bs (47::t)) (some 1) (some ((bs (47::t)).size:Int))=some (bs (wd t)):=by
   have:=iH (l:=47::t) (i:=1) (j:=t.length+1) (lo:=some 1) (hi:=some ((bs (47::t)).size:Int)) (by omega) (by simp) rfl (by rw[dM];simp);rw[this,q];simp
  have e:eE (bs (47::t)) (some ((bs (47::t)).size:Int)) none=some (bs (rs t)):=by
   have:=iH (l:=47::t) (i:=t.length+1) (j:=t.length+1) (lo:=some ((bs (47::t)).size:Int)) (hi:=none) (by omega) (by simp) (by rw[dM];simp) (by rw[dM];simp);rw[this,b];simp
  rw[f];simp only[cond_true];rw[c];simp only[β,cond_false];rw[v175 hw (by omega),g,e];cases cY (wd t)<;>rfl
 ·rw[if_neg b];have u:0<(rs t).length:=List.length_pos_iff.2 b;have p:γ.wrap (((wd t).length:Int)+1)=(((wd t).length+1:Nat):Int):=by rw[cC (by omega) (by omega)];omega
  rw[p];have f:((((wd t).length+1:Nat):Int)==0)=false:=by simp;omega
  have c:eE (bs (47::t)) (some 1) (some (((wd t).length+1:Nat):Int))=some (bs (wd t)):=by
   have:=iH (l:=47::t) (i:=1) (j:=(wd t).length+1) (lo:=some 1) (hi:=some (((wd t).length+1:Nat):Int)) (by omega) (by simp;omega) rfl rfl;rw[this];have:t.take (wd t).length=wd t:=by
    have:=List.take_left (l₁:=wd t) (l₂:=rs t)
    rwa [a] at this
   simp[this]
  have e:eE (bs (47::t)) (some (((wd t).length+1:Nat):Int)) none=some (bs (rs t)):=by
   have:=iH (l:=47::t) (i:=(wd t).length+1) (j:=t.length+1) (lo:=some (((wd t).length+1:Nat):Int)) (hi:=none) (by omega) (by simp) rfl (by rw[dM];simp);rw[this];have:t.drop (wd t).length=rs t:=by
    have:=List.drop_left (l₁:=wd t) (l₂:=rs t)
    rwa [a] at this
   simp[this]
  rw[f];simp only[cond_false];rw[c];simp only[β,cond_false];rw[v175 hw (by omega),g,e];cases cY (wd t)<;>rfl
theorem U0 {d:Γ} {w:Int} (i:((bs d).toList==(ξ0 #[47]).toList)=false): ∀(k f:Nat) (r:Γ) (acc:List (Γ)),r.length<=k->(∀x∈r,x<256)->r.length+acc.length<=50->acc.all cY=true->(r=[]\/ ∃t,r=47::t)->
  ((r.foldl di []).all cY=true/\ ∃b s0,ct (λa=>(gr ab (bs d) w a).val) (k+1+f) (true,bs r,acc.map bs)=some (.inr (b,s0,true,(acc++r.foldl di []).map bs)))\/
  ((r.foldl di []).all cY=false/\ ∃s0 ps,ps.all cY=true/\(∃q,acc++r.foldl di []=ps++q)/\ct (λa=>(gr ab (bs d) w a).val) (k+1+f) (true,bs r,acc.map bs)=some (.inl (false,s0,ps.map bs)))
 |k,f,[],acc,_,_,_,_,_=>by
  left;refine⟨rfl,false,bs [],?_⟩;rw[show k+1+f=(k+f)+1 by omega,dw];have:(gr ab (bs d) w (true,bs [],acc.map bs)).val=some (.inr (.inr (false,bs [],true,acc.map bs))):=by
   unfold gr;rfl
  rw[this];simp
 |0,f,x::r,acc,hk,_,_,_,_=>by simp at hk
 |k+1,f,x::t,acc,hk,h,hl,g,p=>by
  rcases p with n|⟨t',e⟩
  ·cases n
  cases e;have j: ∀x∈t,x<256:=λx c=>h x (ξ4 _ c);simp only[ξc] at hk hl;have hlen:(rs t).length<=t.length:=(ξj _).length_le;rw[show k+1+1+f=(k+1+f)+1 by omega,dw,YQ i j (by omega) (by omega),vQ,ζi,vP (rs t).length (rs t) _ (ξa _) (oa t)];rw[ζN];cases hp:cY (wd t) with
  |false=>
   right;refine⟨by simp[hp],bs (47::t),acc,g,⟨_,rfl⟩,rfl⟩
  |true=>
   simp only[cond_true,β];have o:(acc++[wd t]).all cY=true:=by rw[ζN,g];simp[hp]
   have s: ∀x∈rs t,x<256:=λx c=>j x ((ξj (λx=>x !=47)).subset c);have l:acc++([wd t]++(rs t).foldl di [])=(acc++[wd t])++(rs t).foldl di []:=by simp
   have m:[wd t].all cY=true:=by simp[hp]
   rw[l,m,φ];exact U0 i k f (rs t) (acc++[wd t]) (by omega) s (by simp;omega) o (oa t)
def jt (ps:List (Γ)):Γ:=(ps.map λp=>47::p).flatten
def tx (ps:List (Γ)):Γ:=match ps with|[]=>[47]|_=>jt ps
theorem adY (p:Γ) (ps:List (Γ)):ho ((p::ps).map bs) (ξ0 #[47])=bs (p++jt ps):=by
 unfold ho;apply ζ7;apply ζT;show Lib.join (((p::ps).map bs).map (·.data.toList)) [47]=_;rw[ξz,ξz,Lib.join_cons];unfold Lib.joinTail jt bs;simp only[ξC,ηj]
 congr 1
 rw[List.map_flatten,ηj]
 congr 1
theorem aiu: ∀(ps:List (Γ)),(tx ps).length<=500->jZ (ξ0 #[47]) (ho (ps.map bs) (ξ0 #[47]))=some (bs (tx ps))/\(ho (ps.map bs) (ξ0 #[47])).size<=500
 |[],_=>by
  have e:ho [] (ξ0 #[47])=bs []:=rfl;rw[ξV,e];exact⟨yo (l:=[47]) (m:=[]) (by simp),by rw[dM];simp⟩
 |p::ps,h=>by
  rw[adY];have h:(47::p++jt ps).length<=500:=by simpa[tx,jt] using h
  refine⟨?_,by rw[dM];simp at h ⊢;omega⟩;have:=yo (l:=[47]) (m:=p++jt ps) (by simp at h ⊢;omega);have e:bs [47]=ξ0 #[47]:=rfl;rw[e] at this;rw[this];rfl
theorem yH {ps:List (Γ)} (d:ps.all cY=true) (h: ∀p∈ps,(∀x∈p,x<256)/\p.length<=100) (hl:(tx ps).length<=500) (hn:ps.length<=100):jH ab (ps.map bs)=some ((iF (bs (tx ps))).1,(iF (bs (tx ps))).2==0&&decide (ps.length<=4)):=by
 show(Ee ab (ps.map bs)).val=_;unfold Ee;obtain⟨h1,f⟩:=aiu ps hl;simp only[T.az,T.aG,T.av,T.bw,T.ch];rw[h1,decide_eq_true (by simp;omega:(ps.map bs).length<=140737488355328),decide_eq_true (by omega:(ho (ps.map bs) (ξ0 #[47])).size<=140737488355328)];simp only[Bool.and_self,cond_true,β,v79];have b:decide (((ps.map bs).length:Int)<=4)=decide (ps.length<=4):=by rw[κ];simp;omega
 have c:C4 ab (ps.map bs)=some (.inr (false,((ps.map bs).length:Int))):=by
  show bB (λi z a=>(uj ab (ps.map bs) i z a).val) (λi a=>(sw ab (ps.map bs) i a).val) 0 (ps.map bs) ()=_;rw[l6 (g:=λa _=>a)]
  ·unfold sw;simp
  ·intro i z a e;obtain⟨p,hp,rfl⟩:=ζC.1 e;unfold uj;have:=ξv.1 d p hp;simp only[T.az,T.aG,T.av,v175 (h p hp).1 (h p hp).2,this,β];rfl
 rw[b,c];cases (iF (bs (tx ps))).2==0<;>cases decide (ps.length<=4)<;>rfl
def da (d:Γ):List (Γ):=d.foldl di []
theorem q4 (t:Γ):da (47::t)=wd t::da (rs t):=by
 unfold da;rw[vQ,ζi,vP (rs t).length (rs t) _ (ξa _) (oa t)];rfl
theorem qL: ∀(k:Nat) (r:Γ),r.length<=k->(r=[]\/ ∃t,r=47::t)->jt (da r)=r
 |_,[],_,_=>rfl
 |0,x::r,hk,_=>by simp at hk
 |k+1,x::t,hk,c=>by
  rcases c with b|⟨t',e⟩
  ·cases b
  cases e;have hlen:(rs t).length<=t.length:=(ξj _).length_le;simp only[ξc] at hk;have a:=qL k (rs t) (by omega) (oa t);rw[q4];unfold jt at a ⊢;rw[ξz,List.flatten_cons,a];show 47::(wd t++rs t)=_;rw[Vf]
theorem yr {d:Γ} (h: ∀x∈d,x<256):((bs d).toList==(ξ0 #[47]).toList)=decide (d=[47]):=by
 have a: ∀x:ByteArray,x.toList=x.data.toList:=λx=>ζn x;rw[a,a,κ];simp only[beq_iff_eq,decide_eq_true_eq];constructor
 ·intro e;have e:d.map ξn=[47]:=by simpa[bs] using e
  obtain⟨x,rfl⟩:=List.length_eq_one_iff.1 (by simpa using congrArg ζ5 e);have b:=h x (by simp);simp at e;have:=congrArg ζM e;simp at this;rw[show x=47 by omega]
 ·rintro rfl;rfl
def iV (d:Γ):Bool:=decide (d=[47])||(match d with|47::_=>(da d).all cY&&decide ((da d).length<=4)|_=>false)
def b2 (w:Int):Bool:=(dB 8 w.toNat==0)&&iV (dg 8 w.toNat)
def lV (d:Γ):List (Γ):=if d=[47] then[] else da d
def bE (w:Int):List (Γ):=lV (dg 8 w.toNat)
theorem aeg {ps:List (Γ)} {p:Γ} {x:Nat} (hp:p∈ps) (a:x∈p):x∈jt ps:=by
 unfold jt;rw[List.mem_flatten];exact⟨47::p,ζC.2 ⟨p,hp,rfl⟩,ξ4 _ a⟩
theorem Pu: ∀ {ps:List (Γ)} {p:Γ},p∈ps->p.length+1<=(jt ps).length
 |q::ps,p,h=>by
  have e:(jt (q::ps)).length=q.length+1+(jt ps).length:=by simp[jt];omega
  rcases ξB.1 h with rfl|h
  ·omega
  ·have:=Pu h;omega
theorem HY: ∀(ps:List (Γ)),ps.length<=(jt ps).length
 |[]=>by simp
 |q::ps=>by
  have e:(jt (q::ps)).length=q.length+1+(jt ps).length:=by simp[jt];omega
  have:=HY ps;simp only[ξc];omega
theorem HX (ps q:List (Γ)):jt (ps++q)=jt ps++jt q:=by simp[jt]
theorem RD {d:Γ} (b: ∀x∈d,x<256) (hl:d.length<=8) (c: ∃t,d=47::t) {p:Γ} (hp:p∈da d):(∀x∈p,x<256)/\p.length<=100:=by
 have a:=qL d.length d (ξa _) (.inr c);refine⟨λx e=>b x (by rw[<-a];exact aeg hp e),?_⟩;have:=Pu hp;rw[a] at this;omega
theorem aiN:iF (bs (tx []))=(47,0):=uI (l:=[47]) (by simp) (by simp)
theorem UX:jH ab []=some (47,true):=by
 have:=yH (ps:=[]) rfl (by simp) (by simp[tx]) (by simp);rw[ξV] at this;rw[this,aiN];rfl
theorem yB {α:Type} {w:Int} {ps:List ByteArray} {b:Bool} {s0:α} {r:Int×Bool} (c:jH ab ps=some r):(T.bd (jH ab ps) λa=>.bf (!b) (.ok (jo.mk [] 0,false))<|.bf (!a.2) (.ok (jo.mk [] 0,false))<|.bf (a.1 !=w) (.ok (jo.mk [] 0,false))<|.ok (jo.mk ps w,true):T (jo×Bool)).val=some (bif b&&(r.2&&r.1==w) then⟨ps,w⟩ else⟨[],0⟩,b&&(r.2&&r.1==w)):=by
 rw[T.aG,c,β];simp only[T.az,T.av];have e:(r.1 !=w)=!(r.1==w):=rfl;rw[e];cases b<;>cases r.2<;>cases r.1==w<;>rfl
theorem v131 {n:Nat} (h:n<18446744073709551616):lD ab (n:Int)=some (bif b2 (n:Int) then⟨(bE (n:Int)).map bs,(n:Int)⟩ else⟨[],0⟩,b2 (n:Int)):=by
 show(DQ ab (n:Int)).val=_;unfold DQ b2 bE;simp only[T.aG,T.az,T.av,T.bw,UT h,β,ι]
 by_cases f:dB 8 n=0
 rotate_left
 ·rw[if_neg f];have e:(dB 8 n==0)=false:=by simp[f]
  rw[e];rfl
 rw[if_pos f,f];simp only[show((0:Int) !=0)=false from rfl,cond_false,FZ,beq_self_eq_true,φ];have g:=mS n;have hl:=ko 8 n;have r:=xT 8 n;rw[f,ηi,ξy] at r;have K:=uU 8 n;generalize dg 8 n=d at*
 cases d with
 |nil=>rfl
 |cons x t=>
  simp only[List.isEmpty_cons,cond_false]
  by_cases s:x=47
  ·subst s;cases t with
   |nil=>
    have hn:(n:Int)=47:=by simp[pk] at r;omega
    have c:my ab (bs [47]) (n:Int) true (bs [47]) []=some (.inl (true,bs [47],[])):=by
     show ct (λa=>(gr ab (bs [47]) (n:Int) a).val) 1000000 (true,bs [47],[])=_;rw[show(1000000:Nat)=999999+1 from rfl,dw];have:(gr ab (bs [47]) (n:Int) (true,bs [47],[])).val=some (.inr (.inl (true,bs [47],[]))):=by
      have u:decide (((bs [47]).size:Int)>=1)=true:=decide_eq_true (by rw[dM];simp);have c1:eE (bs [47]) none (some 1)=some (bs [47]):=iH (l:=[47]) (i:=0) (j:=1) (by omega) (by simp) rfl rfl;have c2:eE (bs [47]) (some 1) none=some (bs []):=iH (l:=[47]) (i:=1) (j:=1) (by omega) (by simp) rfl (by rw[dM];simp);have H:eE (bs [47]) (some 1) (some ((bs [47]).size:Int))=some (bs []):=iH (l:=[47]) (i:=1) (j:=1) (by omega) (by simp) rfl (by rw[dM];simp);have v:((bs [47]).toList==(ξ0 #[47]).toList)=true:=by
       have:bs [47]=ξ0 #[47]:=rfl;rw[this];exact beq_self_eq_true _
      unfold gr;simp only[T.az,T.aG,T.av];rw[u,c1];simp only[cond_true,β];rw[v,c2];simp only[cond_true,β];rw[HK [] (by simp),if_pos (show rs []=[] from rfl),show(γ.wrap (-1+1)==0)=true from rfl];simp only[cond_true];rw[H];simp only[β]
     rw[this];rfl
    rw[c];simp only[β,T.ch];refine(yB (s0:=()) (b:=true) (w:=(n:Int)) UX).trans ?_;rw[hn];rfl
   |cons y t=>
    have D:decide (47::y::t=[47])=false:=decide_eq_false (by simp);have F:=yr g;rw[D] at F;have k:=qL _ (47::y::t) (ξa _) (.inr ⟨_,rfl⟩);have B:iV (47::y::t)=((da (47::y::t)).all cY&&decide ((da (47::y::t)).length<=4)):=by
     unfold iV;rw[D];rfl
    rw[B];have C:=U0 (w:=(n:Int)) F (47::y::t).length (999999-(47::y::t).length) (47::y::t) [] (ξa _) g (by simp at hl ⊢;omega) rfl (.inr ⟨_,rfl⟩);rw[show(47::y::t).length+1+(999999-(47::y::t).length)=1000000 by omega] at C;have E: ∀p∈da (47::y::t),(∀x∈p,x<256)/\p.length<=100:=λp hp=>RD g hl ⟨_,rfl⟩ hp;have J:=HY (da (47::y::t));rw[k] at J;rcases C with⟨h1,b,s0,A⟩|⟨h1,s0,ps,I,⟨q,o⟩,A⟩
    ·have c:my ab (bs (47::y::t)) (n:Int) true (bs (47::y::t)) []=some (.inr (b,s0,true,(da (47::y::t)).map bs)):=A;have h1:(da (47::y::t)).all cY=true:=h1;rw[c,h1];simp only[β,T.ch];have G:tx (da (47::y::t))=47::y::t:=by
      rw[q4] at k ⊢;exact k
     have m:=yH h1 E (by rw[G];omega) (by omega);rw[G,uI K hl,r] at m;refine(yB (s0:=()) (b:=true) (w:=(n:Int)) m).trans ?_;rw[show lV (47::y::t)=da (47::y::t) from if_neg (by simp)];simp
    ·have c:my ab (bs (47::y::t)) (n:Int) true (bs (47::y::t)) []=some (.inl (false,s0,ps.map bs)):=A;have h1:(da (47::y::t)).all cY=false:=h1;have o:da (47::y::t)=ps++q:=by simpa[da] using o
     rw[c,h1];simp only[β,T.ch];have M:(jt ps).length<=8:=by
      rw[o,HX] at k;have:=congrArg ζ5 k;rw[ν] at this;omega
     have m:=yH I (λp hp=>E p (by rw[o];exact ξN _ hp)) (by
      cases ps with
      |nil=>simp[tx]
      |cons a b=>show(jt (a::b)).length<=500;omega) (by have:=HY ps;omega)
     exact yB (s0:=()) (b:=false) (w:=(n:Int)) m
  ·have B:iV (x::t)=false:=by
    unfold iV;rw[decide_eq_false (by simp;intro e;exact absurd e s),ξp];split
    ·rename_i h;cases h;exact absurd rfl s
    ·rfl
   have c:my ab (bs (x::t)) (n:Int) true (bs (x::t)) []=some (.inr (false,bs (x::t),true,[])):=by
    show ct (λa=>(gr ab (bs (x::t)) (n:Int) a).val) 1000000 (true,bs (x::t),[])=_;rw[show(1000000:Nat)=999999+1 from rfl,dw];have:(gr ab (bs (x::t)) (n:Int) (true,bs (x::t),[])).val=some (.inr (.inr (false,bs (x::t),true,[]))):=by
     have u:decide (((bs (x::t)).size:Int)>=1)=true:=decide_eq_true (by rw[dM];simp;omega);have c1:eE (bs (x::t)) none (some 1)=some (bs [x]):=iH (i:=0) (j:=1) (by omega) (by simp) rfl rfl;have v:((bs [x]).toList==(ξ0 #[47]).toList)=false:=by
      rw[yr (λz L=>by have:z=x:=by simpa using L
                      subst this;exact g z τ)]
      exact decide_eq_false (by simp;exact s)
     unfold gr;simp only[T.az,T.aG,T.av];rw[u,c1];simp only[cond_true,β];rw[v];rfl
    rw[this];rfl
   rw[c,B];simp only[β,T.ch];refine(yB (s0:=()) (b:=true) (w:=(n:Int)) UX).trans ?_;have hn:((47:Int)==(n:Int))=false:=by
    have N:=g x τ;simp[pk] at r;simp;omega
   rw[hn];rfl
theorem v96 {n:Nat} (h:n<18446744073709551616):pD ab (n:Int)=some (bif b2 (n:Int) then 0 else 310):=by
 show(DE ab (n:Int)).val=_;unfold DE;simp only[T.aG,T.az,T.av,v131 h,β];cases b2 (n:Int)<;>rfl
theorem Sn {w:Int} (h:cz w):Di w (b2 w):=by
 obtain⟨n,rfl⟩:=ζ8 h.1;have hn:n<18446744073709551616:=by have:=h.2;omega
 exact v96 hn
abbrev fj (α:Type):=Except Int α
def b5 {α:Type} (lt:α->Bool) (x:α) (l:List α):List α:=l.takeWhile lt++x::l.dropWhile lt
def gK (p:br):Option Nat:=(ξi 16).find? λi=>!(p.ae.any λx=>ix x.aa==(i:Int)+1)&&decide (ao p.aH i<=65535)
def cE (p:br) (i:Nat):Int:=ao p.aH i*64+i+1
def hz (p:br) (parent:Int):fj (br×Int):=
 bif b1 p.ae parent then match gK p with
  |some i=>.ok (⟨p.aH.set i (ao p.aH i+1),b5 (λy=>decide (ix y.aa<=i+1)) ⟨cE p i,parent,false,0⟩ p.ae⟩,cE p i)
  |none=>.error 322
 else .error 321
def fp (pid code:Int) (y:ah):Option ah:=bif y.aa==pid then bif y.aP==0 then none else some ⟨y.aa,y.aP,true,code⟩ else bif y.aP==pid then bif y.bb then none else some ⟨y.aa,0,y.bb,y.bV⟩ else some y
def hd (p:br) (pid code:Int):fj br:=bif b1 p.ae pid then bif pid==1 then .error 323 else .ok ⟨p.aH,p.ae.filterMap (fp pid code)⟩ else .error 321
def hB (p:br) (pid child:Int):fj (br×Int):=
 bif b1 p.ae pid then match eu p.ae child with
  |some x=>bif x.aP==pid then bif x.bb then .ok (⟨p.aH,p.ae.filter λy=>!(y.aa==child)⟩,x.bV) else .error 322 else .error 324
  |none=>.error 324
 else .error 321
def cB (l:List ai) (pid fd:Int):Option Int:=(l.find? λd=>d.aa==pid&&d.bo==fd).map ai.b'
def gf (l:List ai) (pid:Int):Option Nat:=(ξi 8).find? λ(i:Nat)=>(cB l pid i).isNone
def fG (l:List ai) (pid aS:Int):fj (List ai×Int):=
 match gf l pid with
 |some i=>bif l.length==64 then .error 6 else .ok (b5 (λy=>cF y ⟨pid,i,aS⟩) ⟨pid,i,aS⟩ l,i)
 |none=>.error 6
def fO (l:List ai) (pid fd:Int):fj (List ai×Int):=
 match cB l pid fd with
 |some aS=>fG l pid aS
 |none=>.error 4
def gy (l:List ai) (pid fd:Int):fj (List ai):=
 match cB l pid fd with
 |some _=>.ok (l.filter λd=>!(d.aa==pid&&d.bo==fd))
 |none=>.error 4
def kp (l:List ai) (pid:Int):List ai:=l.filter λd=>!(d.aa==pid)
def hb (l:List ai) (aS:Int):Nat:=(l.filter λd=>d.b'==aS).length
def cr (m:bz) (w:Int):Option Int:=(m.ae.find? λx=>x.aN==w).map ay.aY
def e9 (ps:List (Γ)):Int:=(iF (bs (tx ps))).1
def dx (a b:Int):Bool:=b2 a&&(b2 b&&(bE a).isPrefixOf (bE b))
def gu (m:bz) (w:Int):fj (bz×Int):=
 bif b2 w then match cr m w with
  |some _=>.error 5
  |none=>bif m.ae.length==16||decide (m.ba>1073741824) then .error 6 else .ok (⟨m.ae++[⟨w,m.ba⟩],m.ba+1⟩,m.ba)
 else .error 310
def im (m:bz) (w:Int):fj Int:=
 bif b2 w then match cr m w with
  |some i=>.ok i
  |none=>.error 4
 else .error 310
def hL (m:bz) (w:Int):Bool:=m.ae.any λx=>!(x.aN==w)&&dx w x.aN
def hA (m:bz) (w:Int):fj bz:=
 bif b2 w then match cr m w with
  |some _=>bif hL m w then .error 341 else .ok ⟨m.ae.filter λx=>!(x.aN==w),m.ba⟩
  |none=>.error 4
 else .error 310
def k2 (w:Int):Γa:=(ξi ((bE w).length+1)).reverse.map λk=>e9 ((bE w).take k)
def jl (m:bz) (w:Int):Option Int:=(k2 w).findSome? (cr m)
def fx (m:bz) (w:Int):fj Int:=
 bif b2 w then match jl m w with
  |some i=>.ok i
  |none=>.error 4
 else .error 310
def er (l:List au) (n:Int):Option Int:=(l.find? λz=>z.aW==n).map au.aa
def gQ (s:aL) (n pid:Int):fj aL:=
 bif dv n then bif dI pid then match er s.ak n with
  |some _=>.error 5
  |none=>bif s.ak.length==16 then .error 6 else .ok ⟨b5 (λy=>decide (y.aW<n)) ⟨n,pid⟩ s.ak,s.an⟩
 else .error 2 else .error 351
def fP (s:aL) (n:Int):fj Int:=
 bif dv n then match er s.ak n with
  |some p=>.ok p
  |none=>.error 4
 else .error 351
def mc (s:aL) (n:Int):aL:=⟨s.ak.filter λy=>!(y.aW==n),s.an⟩
def hh (s:aL) (pid:Int):Γa:=(s.ak.filter λy=>y.aa==pid).map au.aW
def cM (s:aL) (pid:Int):Γa:=match s.an.find? λb=>b.aa==pid with|some b=>b.bj|none=>[]
def fi (s:aL) (pid:Int) (ws:Γa):aL:=
 ⟨s.ak,(s.an.filter λb=>decide (b.aa<pid))++((if ws=[] then[] else[⟨pid,ws⟩])++s.an.filter λb=>decide (pid<b.aa))⟩
def j0 (s:aL) (pid w:Int):fj aL:=bif (cM s pid).length==4 then .error 322 else .ok (fi s pid (cM s pid++[w]))
def jS (s:aL) (pid:Int):fj (aL×Int):=
 match cM s pid with
 |w::r=>.ok (fi s pid r,w)
 |[]=>.error 322
def hv (c:b3):Bool:=c.aQ==9||c.aQ==12
def fb (s:aZ) (k p a b:Int):fj (aZ×Int):=
 if k=1 then match hz s.ax p with| .ok (q,v)=>.ok (⟨q,s.aI,s.aC,s.aw⟩,v)| .error e=>.error e
 else if k=2 then match hd s.ax p a with
  | .ok q=>if hh s.aw p=[] then .ok (⟨q,kp s.aI p,s.aC,fi s.aw p []⟩,0) else .error 341
  | .error e=>.error e
 else if k=3 then match hB s.ax p a with| .ok (q,v)=>.ok (⟨q,s.aI,s.aC,s.aw⟩,v)| .error e=>.error e
 else if k=4 then match fx s.aC a with
  | .ok i=>match fG s.aI p i with| .ok (l,v)=>.ok (⟨s.ax,l,s.aC,s.aw⟩,v)| .error e=>.error e
  | .error e=>.error e
 else if k=5 then match gy s.aI p a with| .ok l=>.ok (⟨s.ax,l,s.aC,s.aw⟩,0)| .error e=>.error e
 else if k=6 then match fO s.aI p a with| .ok (l,v)=>.ok (⟨s.ax,l,s.aC,s.aw⟩,v)| .error e=>.error e
 else if k=7 then match gu s.aC a with| .ok (m,v)=>.ok (⟨s.ax,s.aI,m,s.aw⟩,v)| .error e=>.error e
 else if k=8 then match im s.aC a with
  | .ok i=>if hb s.aI i=0 then match hA s.aC a with| .ok m=>.ok (⟨s.ax,s.aI,m,s.aw⟩,0)| .error e=>.error e else .error 341
  | .error e=>.error e
 else if k=9 then match fx s.aC a with| .ok i=>.ok (s,i)| .error e=>.error e
 else if k=10 then match gQ s.aw a p with| .ok i=>.ok (⟨s.ax,s.aI,s.aC,i⟩,0)| .error e=>.error e
 else if k=11 then match fP s.aw a with
  | .ok q=>if q=p then .ok (⟨s.ax,s.aI,s.aC,mc s.aw a⟩,0) else .error 362
  | .error e=>.error e
 else if k=12 then match fP s.aw a with| .ok q=>.ok (s,q)| .error e=>.error e
 else if k=13 then bif b1 s.ax.ae a then match j0 s.aw a b with| .ok i=>.ok (⟨s.ax,s.aI,s.aC,i⟩,0)| .error e=>.error e else .error 4
 else match jS s.aw p with| .ok (i,v)=>.ok (⟨s.ax,s.aI,s.aC,i⟩,v)| .error e=>.error e
def kj (s:aZ) (c:b3):fj (aZ×Int):=
 if 1<=c.aQ/\c.aQ<=14 then bif hv c||b1 s.ax.ae (ao c.fArgs 0) then fb s c.aQ (ao c.fArgs 0) (ao c.fArgs 1) (ao c.fArgs 2) else .error 321
 else .error 361
def gA (s:aZ) (c:b3):aZ×cu:=
 match kj s c with
 | .ok (n,v)=>(n,⟨0,v⟩)
 | .error e=>(s,⟨e,0⟩)
end Go.Proofs.YtoggponeookhbaaGreatDoor
end
