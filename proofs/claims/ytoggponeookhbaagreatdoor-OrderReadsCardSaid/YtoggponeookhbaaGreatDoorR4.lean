/- A part of the proof that OrderReads returns true for every input: the machine of values, its soundness, the program as plain functions, the law. Conditions: those of the given rows. -/
import Derived.Test.YtoggponeookhbaaGreatDoorR3
import Derived.Laws.Bits64b
import Derived.Laws.Strings
set_option linter.unusedVariables false
set_option linter.unusedSimpArgs false
noncomputable section
set_option maxRecDepth 1000000
set_option maxHeartbeats 12000000
open Array renaming getD_eq_getD_getElem?→θ,length_toList→χ,getElem?_setIfInBounds_ne→ξ7,getElem?_eq_getElem→ξ8,all_eq_true_iff_forall_mem→ξf,toArray_toList→ξO,getElem?_modify→ζf,replicate→ζH,ext'→ζT
open Bool renaming eq_iff_iff→κ,true_and→φ,and_eq_true→ξ5,false_or→ξp,not_true→ξP,not_false→ξY,or_false→ζp,false_eq_true→ζu,not_eq_true'→ζv,and_assoc→ζR,false_and→ζS,and_true→ζU,true_or→ζZ,or_true→η0
open ByteArray renaming mk→ξ0,ext→ζ7
open Go.Builtin renaming zeroCells→ξ2,append_→ζK,clear_→ζO
open Go.ByteArray renaming toList_eq→ζn
open Go.IntKind renaming i64→γ,u64→ο,wrap_u64→ζE,signed→ζQ,wrap→ηg,bits→ηh
open Go.Lib renaming indexByte→ζX
open Go.Proofs.Tryz renaming prog→η,func219→ζb,f269→ζc,func269→ζz,f219→ζG,f150→ζY,func202→η3,func203→η4,func294→η5,func261→η6,func262→η7,func263→η8,func152→ηc,func171→ηd,func170→ηe,func223→ηf
open Go.Region renaming ready→ζA
open Go.Result renaming andThen_ok→ξr
open Go.Sem renaming run_bind→ξx,run_pure→ζe
open Go.Utf8 renaming decode→ξ6,decode→ζ0
open Go.Value renaming oneCell'→υ,int→ζJ,agg→ηb,slice→ηm
open Go.World renaming setRow→ηa
open Int renaming toNat_natCast→ι,eq_ofNat_of_zero_le→ζ8,natCast_nonneg→ζq
open List renaming getElem?_eq_some_iff→δ,getElem?_eq_getElem→ε,length_append→ν,getElem?_append_left→ξ,length_map→ρ,mem_cons_self→τ,mem_of_getElem?→ξ3,mem_cons_of_mem→ξ4,getElem?_cons_zero→ξ9,getElem?_append_right→ξb,length_cons→ξc,take_append_drop→ξd,take_append_of_le_length→ξg,length_take→ξh,range→ξi,dropWhile_sublist→ξj,getElem?_zipWith→ξl,mem_append_right→ξm,any_eq_false→ξo,append_assoc→ξs,drop_eq_getElem_cons→ξt,mem_or_eq_of_mem_set→ξu,all_eq_true→ξv,map_cons→ξz,mem_append→ξA,mem_cons→ξB,map_append→ξC,take_of_length_le→ξD,takeWhile_append_dropWhile→ξE,zipWith→ξG,getElem?_eq_none→ξH,drop_append_of_le_length→ξJ,filter_cons→ξK,length_drop→ξL,eq_nil_of_length_eq_zero→ξM,mem_append_left→ξN,mem_filter→ξQ,toList_toArray→ξR,take_left'→ξS,length_set→ξT,foldl_cons→ξU,map_nil→ξV,getElem?_drop→ξW,mem_of_find?_eq_some→ξZ,nodup_append→ζ1,size_toArray→ζ2,range'→ζ4,length→ζ5,map_take→ζ6,map_toArray→ζ9,append_nil→ζd,nil_append→ζi,getElem?_of_mem→ζl,drop_zero→ζm,takeWhile_cons→ζo,map_drop→ζr,find?_eq_none→ζs,all_cons→ζt,take_add_one→ζw,ext_getElem?→ζx,getElem?_map→ζy,mem_map→ζC,any_eq_true→ζF,find?_some→ζL,all_append→ζN,drop_drop→ζP,any_cons→ζW,map_set→η9,map_map→ηj
open Nat renaming lt_of_lt_of_le→ζ,le_trans→μ,zero_add→ψ,le_refl→ξa,ble_eq_true_of_le→ξe,eq_of_beq_eq_true→ξk,add_zero→ξy,le_of_ble_eq_true→ξF,beq→ξI,add_sub_cancel→ξX,lt_succ_iff_lt_or_eq→ζ3,lt_succ_self→ζa,pow_succ→ζh,pow_le_pow_right→ζj,mul_le_mul_right→ζk,lt_or_ge→ζB,mul_comm→ζD,mul_assoc→ζV,beq_refl→η1,sub_self→η2,mul_zero→ηi,ble→ηk,blt→ηl
open Option renaming bind_some→β,map_some→ω,getD_some→ξ1,getD_none→ξw,map_none→ζg
open Option.some renaming injEq→ξq,inj→ζI
open UInt8 renaming ofNat→ξn,toNat→ζM
section
namespace Go.Proofs.YtoggponeookhbaaGreatDoor
open Go.RowKit Go.Dc Go.Vx
variable (sh:Sh)
def ua (p0:List aD) (a:List aw) (p2 b c:Int) (d:Γa):AS SS:=⟨[(0,(vs .c4)),(2,(va 3 0)),(7,(vd 55 p0)),(8,(vi b)),(9,(vi c))],[(bX 130 [(.own 4)]),(some (.aM 260 [] [(.one (.aK 2 0)),(.one (.aK 3 0))])),(bX 58 [(.aH 55 p0),(.aH 56 a)]),(bX 35 [(lu p2)]),(rX 35 d)],4,(some ⟨⟨ζY,aq 150⟩,[13],(eP (cr ζY) 7),(eQ (cr ζY) 7),[(5,(va 0 0)),(12,(vc 1))],none⟩),false,[],[0]⟩
def V_ (p0:List aD) (c:List aw) (p2 a:Int) (a0:Bool) (b:Int) (a2:Γa):AS SS:= {ua p0 c p2 a p2 a2 with env:=[(10,(vb a0)),(0,(vs .c4)),(2,(va 3 0)),(7,(vd 55 p0)),(8,(vi a)),(9,(vi b))]}
def oT (sh:Sh) (p0:List aD) (d:List aw) (p2 b:Int) (a:Int×Γa):T ((Int×Γa)⊕(Bool×Int×Γa)):=.bf (decide (a.1<b)) (.bd (idx p0 a.1) λz0=>.bf (z0.aa==p2) (.bd (app 8 a.2 [z0.a1]) λc=>.ok (.inl ((γ.wrap (a.1+1)),c)))<|.ok (.inl ((γ.wrap (a.1+1)),a.2)))<|.ok (.inr ((decide (a.1<b)),a.1,a.2))
def zj (p0:List aD) (a:List aw) (p2 b c:Int) (d:Γa):=bJ sh (oT sh p0 a p2 b) 1000000 (c,d)
def S1 {R} (k:KX SS R) (p0:List aD) (a:List aw) (p2 b:Int) (x:(Bool×Int×Γa)):Option R:=(λv=>k (.exit 0) (V_ p0 a p2 b v.1 v.2.1 v.2.2)) x
def KN:bc SS:=gU (λst=>gc (aq 260 2) (eu [0] (fK 0 0 35 (st))))<|br 2 (λst=>((cg st 1 260).bind λ_=>gA st 19 7).bind λ_=>(bo 55 (aJ st 7 0)).bind λp0=>(bo 56 (bj st 2 1)).bind λa=>(aU (bj st 3 0)).bind λp2=>(aU (aJ st 8 0)).bind λb=>(aU (aJ st 9 0)).bind λc=>(b3 st 4 35).bind λd=>some (p0,a,p2,b,c,d)) (u6 ua) (u6 (zj shut)) (λk p=>S1 k p.1 p.2.1 p.2.2.1 p.2.2.2.1)
theorem abf:LS KK η aq Tryz.f260 260 2 KN:=aZ.pre (bY.comp (bY.gc (aq 260 2)) (bY.comp (bY.eu [0]) (bY.fK 0 0 35)))<|
 aZ.bJ (π:=List aD×List aw×Int×Int×Int×Γa) (σ:=Int×Γa) (aj.all xI rfl) (aO.nil) rfl 60 (λp a=>ua p.1 p.2.1 p.2.2.1 p.2.2.2.1 a.1 a.2) (λp=>(p.2.2.2.2.1,p.2.2.2.2.2)) (St:=λp=>oT shut p.1 p.2.1 p.2.2.1 p.2.2.2.1) (λp=>1000000) (λp=>rfl)
  (λm p a k=>by kernel_rfl)
def P_:=bL (xH shut) aq Tryz.f260 260 [KN]
theorem P':a7 P_ η:=bO (aj.all xI rfl) Tryz.func260 rfl aY (by kernel_rfl) abf
def z' (s:aL) (pid:Int):T (Γa):=.bd (jr sh s) λa=>.bf (a !=0) (.ok [])<|.gd (ua s.au s.ao pid ((↑s.au.length:Int)) 0 [])<|.bd (zj sh s.au s.ao pid ((↑s.au.length:Int)) 0 []) λb=>.ok b.2.2
def tb (s:aL) (pid:Int):=sh.s _ (z' sh s pid).val
def xz:=bN (c6 KK 150 58 35 (tb sh) (cx KK 130)) (xH sh)
theorem xA:aj (xz shut) η:=de (rs:=[130]) xI P' rfl rfl λs pid k=>by kernel_rfl
def tW (p0:List aw) (a:List aD) (p2 b:Int) (c:List aw):AS SS:=⟨[(5,(va 0 0)),(20,(vd 56 p0)),(21,(vi p2)),(22,(vi b))],[(bX 262 [(.own 1),(.own 2)]),(rX 127 a),(rX 132 c)],0,none,false,[],[]⟩
def V0 (p0:List aw) (b:List aD) (p2:Int) (a0:Bool) (a:Int) (a2:List aw):AS SS:= {tW p0 b p2 p2 a2 with env:=[(23,(vb a0)),(5,(va 0 0)),(20,(vd 56 p0)),(21,(vi p2)),(22,(vi a))]}
def HG (sh:Sh) (p0:List aw) (c:List aD) (p2:Int) (a:Int×List aw):T ((Int×List aw)⊕(Bool×Int×List aw)):=.bf (decide (a.1<p2)) (.bd (idx p0 a.1) λz0=>.bd (app 8 [] z0.a6) λb=>.bd (app 32 a.2 [aw.mk z0.aa b]) λz2=>.ok (.inl ((γ.wrap (a.1+1)),z2)))<|.ok (.inr ((decide (a.1<p2)),a.1,a.2))
def zf (p0:List aw) (a:List aD) (p2 b:Int) (c:List aw):=bJ sh (HG sh p0 a p2) 1000000 (b,c)
def SU {R} (k:KX SS R) (p0:List aw) (a:List aD) (p2:Int) (x:(Bool×Int×List aw)):Option R:=(λv=>k (.exit 0) (V0 p0 a p2 v.1 v.2.1 v.2.2)) x
def KH:bc SS:=gU (λst=>gc (aq 219 7) (fK 0 1 132 (st)))<|br 7 (λst=>(bo 56 (aJ st 20 0)).bind λp0=>(b3 st 1 127).bind λa=>(aU (aJ st 21 0)).bind λp2=>(aU (aJ st 22 0)).bind λb=>(b3 st 2 132).bind λc=>some (p0,a,p2,b,c)) (u5 tW) (u5 (zf shut)) (λk p=>SU k p.1 p.2.1 p.2.2.1)
theorem aba:LS KK η aq ζG 219 7 KH:=aZ.pre (bY.comp (bY.gc (aq 219 7)) (bY.fK 0 1 132))<|
 aZ.bJ (π:=List aw×List aD×Int×Int×List aw) (σ:=Int×List aw) (aj.all xA rfl) (aO.nil) rfl 60 (λp a=>tW p.1 p.2.1 p.2.2.1 a.1 a.2) (λp=>(p.2.2.2.1,p.2.2.2.2)) (St:=λp=>HG shut p.1 p.2.1 p.2.2.1) (λp=>1000000) (λp=>rfl)
  (λm p a k=>by kernel_rfl)
def ub (p0:Int) (a:List aD) (p2 b:Int):AS SS:=⟨[(0,(vo 0)),(1,(vu p0)),(2,(vc 1)),(8,(vl a)),(9,(vi p2)),(10,(vi b))],[(rX 127 a),(some (.aM 270 [] [(.one (.aK 2 0))])),(bX 284 [(.v (.func (.func 221) (.mk []) (.mk [])))])],3,none,false,[],[]⟩
def We (p0:Int) (b:List aD) (a0:Bool) (a a2:Int):AS SS:= {ub p0 b p0 p0 with env:=[(17,(vb a0)),(16,(vi a)),(15,(vi a2)),(0,(vo 0)),(1,(vu p0)),(2,(vc 1)),(8,(vl b)),(9,(vi a2)),(10,(vi a))]}
def oU (p0:Int) (b:List aD) (a:Int×Int):T ((Int×Int)⊕(Bool×Int×Int)):=.bf (decide (a.1<a.2)) (.bd (idx b (γ.wrap ((ο.wrap (γ.wrap (a.1+a.2))).fdiv 2))) λz0=>.bd (b[(γ.wrap ((ο.wrap (γ.wrap (a.1+a.2))).fdiv 2)).toNat]?) λd=>.bd (hP sh d.a1 p0) λc=>.bf (decide (c<0)) (.ok (.inl ((γ.wrap (γ.wrap ((ο.wrap (γ.wrap (a.1+a.2))).fdiv 2)+1)),a.2)))<|.ok (.inl (a.1,(γ.wrap ((ο.wrap (γ.wrap (a.1+a.2))).fdiv 2)))))<|.ok (.inr ((decide (a.1<a.2)),a.2,a.1))
def zn (p0:Int) (a:List aD) (p2 b:Int):=bJ sh (oU sh p0 a) 1000000 (p2,b)
def S5 {R} (k:KX SS R) (p0:Int) (a:List aD) (x:(Bool×Int×Int)):Option R:=(λv=>k (.exit 0) (We p0 a v.1 v.2.1 v.2.2)) x
def KR:bc SS:=br 4 (λst=>(cg st 1 270).bind λ_=>(aU (aJ st 1 0)).bind λp0=>(b3 st 0 127).bind λa=>(aU (aJ st 9 0)).bind λp2=>(aU (aJ st 10 0)).bind λb=>some (p0,a,p2,b)) (u4 ub) (u4 (zn shut)) (λk p=>S5 k p.1 p.2.1)
def F9:=bL (xz shut) aq ζG 219 [KH]
theorem F_:a7 F9 η:=bO (aj.all xA rfl) ζb rfl aY (by kernel_rfl) aba
theorem abj:LS KK η aq ζc 269 4 KR:=
 aZ.bJ (π:=Int×List aD×Int×Int) (σ:=Int×Int) F_ (aO.nil) rfl 60 (λp a=>ub p.1 p.2.1 a.1 a.2) (λp=>(p.2.2.1,p.2.2.2)) (St:=λp=>oU shut p.1 p.2.1) (λp=>1000000) (λp=>rfl)
  (λm p a k=>by kernel_rfl)
def Qs:=bL F9 aq ζc 269 [KR]
theorem Qt:a7 Qs η:=bO F_ ζz rfl aY (by kernel_rfl) abj
def Ak (s:aL) (name pid:Int):T (aL×Int):=.bd (jr sh s) λd=>.bf (d !=0) (.bf (d !=0) (.ok (⟨[],[]⟩,d))<|.bd (jo sh name) λf=>.bf (!f) (.ok (⟨[],[]⟩,351))<|.bd (mN sh pid) λc=>.bf (!c) (.ok (⟨[],[]⟩,2))<|.no)<|.bd (app 16 [] s.au) λa=>.gd (tW s.ao a ((↑s.ao.length:Int)) 0 [])<|.bd (zf sh s.ao a ((↑s.ao.length:Int)) 0 []) λc=>.bd (jo sh name) λg=>.bf (!g) (.ok (⟨[],[]⟩,351))<|.bd (mN sh pid) λh=>.bf (!h) (.ok (⟨[],[]⟩,2))<|.gd (ub name a 0 (↑a.length:Int))<|.bd (zn sh name a 0 ((↑a.length:Int))) λb=>.bf (decide (b.2.2<(↑a.length:Int))) (.bd (idx a b.2.2) λe=>.bd (a[b.2.2.toNat]?) λj=>.bd (hP sh j.a1 name) λi=>.bf (i==0) (.ok (⟨[],[]⟩,5))<|.bf ((↑a.length:Int)==16) (.ok (⟨[],[]⟩,6))<|.bd (m_ a b.2.2 [aD.mk name pid]) λz9=>.ok (⟨z9,c.2.2⟩,0))<|.bf ((↑a.length:Int)==16) (.ok (⟨[],[]⟩,6))<|.bd (m_ a b.2.2 [aD.mk name pid]) λe=>.ok (⟨e,c.2.2⟩,0)
def tl (s:aL) (name pid:Int):=sh.s _ (Ak sh s name pid).val
def xT:=bN (jf KK 167 58 35 35 (tl sh) (eN KK 58 27)) (xz sh)
theorem xU:aj (xT shut) η:=k5 (rs:=[58,27]) xA Qt rfl rfl λs name pid k=>by kernel_rfl
def ud (p0:List aD) (a p2 b:Int):AS SS:=⟨[(0,(vd 55 p0)),(1,(vu a)),(2,(vc 0)),(8,(vl p0)),(9,(vi p2)),(10,(vi b))],[(some (.aM 270 [] [(.one (.aK 1 0))])),(bX 284 [(.v (.func (.func 221) (.mk []) (.mk [])))])],2,none,false,[],[]⟩
def Wg (p0:List aD) (a:Int) (a0:Bool) (b a2:Int):AS SS:= {ud p0 a a a with env:=[(17,(vb a0)),(16,(vi b)),(15,(vi a2)),(0,(vd 55 p0)),(1,(vu a)),(2,(vc 0)),(8,(vl p0)),(9,(vi a2)),(10,(vi b))]}
def oW (p0:List aD) (b:Int) (a:Int×Int):T ((Int×Int)⊕(Bool×Int×Int)):=.bf (decide (a.1<a.2)) (.bd (idx p0 (γ.wrap ((ο.wrap (γ.wrap (a.1+a.2))).fdiv 2))) λz0=>.bd (hP sh z0.a1 b) λc=>.bf (decide (c<0)) (.ok (.inl ((γ.wrap (γ.wrap ((ο.wrap (γ.wrap (a.1+a.2))).fdiv 2)+1)),a.2)))<|.ok (.inl (a.1,(γ.wrap ((ο.wrap (γ.wrap (a.1+a.2))).fdiv 2)))))<|.ok (.inr ((decide (a.1<a.2)),a.2,a.1))
def zp (p0:List aD) (a p2 b:Int):=bJ sh (oW sh p0 a) 1000000 (p2,b)
def S7 {R} (k:KX SS R) (p0:List aD) (a:Int) (x:(Bool×Int×Int)):Option R:=(λv=>k (.exit 0) (Wg p0 a v.1 v.2.1 v.2.2)) x
def KT:bc SS:=br 4 (λst=>(cg st 0 270).bind λ_=>(bo 55 (aJ st 0 0)).bind λp0=>(aU (aJ st 1 0)).bind λa=>(aU (aJ st 9 0)).bind λp2=>(aU (aJ st 10 0)).bind λb=>some (p0,a,p2,b)) (u4 ud) (u4 (zp shut)) (λk p=>S7 k p.1 p.2.1)
theorem abl:LS KK η aq ζc 269 4 KT:=
 aZ.bJ (π:=List aD×Int×Int×Int) (σ:=Int×Int) (aj.all xU rfl) (aO.nil) rfl 60 (λp a=>ud p.1 p.2.1 a.1 a.2) (λp=>(p.2.2.1,p.2.2.2)) (St:=λp=>oW shut p.1 p.2.1) (λp=>1000000) (λp=>rfl)
  (λm p a k=>by kernel_rfl)
def Qw:=bL (xT shut) aq ζc 269 [KT]
theorem Qx:a7 Qw η:=bO (aj.all xU rfl) ζz rfl aY (by kernel_rfl) abl
def Am (s:aL) (name:Int):T (Int×Int):=.bd (jr sh s) λb=>.bf (b !=0) (.ok (0,350))<|.bd (jo sh name) λc=>.bf (!c) (.ok (0,351))<|.gd (ud s.au name 0 (↑s.au.length:Int))<|.bd (zp sh s.au name 0 ((↑s.au.length:Int))) λa=>.bf (decide (a.2.2<(↑s.au.length:Int))) (.bd (idx s.au a.2.2) λz3=>.bd (hP sh z3.a1 name) λd=>.bf (!d==0) (.ok (0,4))<|.bd (idx s.au a.2.2) λz5=>.ok (z5.aa,0))<|.ok (0,4)
def mP (s:aL) (name:Int):=sh.s _ (Am sh s name).val
def GP:=bN (c6 KK 169 58 35 (mP sh) (eN KK 35 27)) (xT sh)
theorem GQ:aj (GP shut) η:=de (rs:=[35,27]) xU Qx rfl rfl λs name k=>by kernel_rfl
end Go.Proofs.YtoggponeookhbaaGreatDoor
end
section
namespace Go.Vx
open Go.RowKit Go.Dc
section
variable {S:bh} {K:Kit S} {P:Program}
theorem tD {X:Type} {t:T X} {x:X} (h:shut.s _ t.val=some x):t.val=some x:=by rw[lV] at h;exact h
theorem vZ {G:bE S} (a:a7 G P) {n f:Nat} {aen:List (an S)} {rs:Γ} {X:Type} {t:T X} {kf: {R:Type}->(Rs S->Option R)->X->Option R}
  (h: ∀ {R:Type} (k:Rs S->Option R),fh G n f aen [] (hW G.K rs k)=t.run (kf k)) (hp:aen.all an.pure=true) {x:X} (m:t.val=some x) {r:Rs S} (l: ∀ {R:Type} (k:Rs S->Option R),kf k x=k r):eA G.K P f aen r:=by
 have h1:fh G n f aen [] (hW G.K rs (λr=>some (ULift.up.{0} r).down))=some r:=by
  rw[h,T.n5,m];exact l _
 obtain⟨p,h',dt,b,c⟩:=A3 a h1;obtain⟨q,d,g⟩:=eA.L3 a.K hp c b;obtain⟨o,i,j⟩:=Ml a.K d g;have e:o=r:=by simpa using i
 rw[<-e];exact j
theorem gX (f:bU K P) {A:Pl} {O:Γ} {w:World} {t:Nat} {x:S.El t} {v:Value} (c:(S.ty t).agg=(match K.a_ t x with| .agg _=>true| .one _=>false)) (h1:(match K.a_ t x with| .agg _=>true| .one l=>ξI l.sz 1)=true) (h:(S.ty t).is O w v x):(K.a_ t x).rel A O w v:=by
 obtain⟨cs,g,a⟩:=h;have b:=f.a_ A O w t x cs g;unfold Ty.mk' at a
 revert b c h1
 cases K.a_ t x with
 |agg ls=>
  intro c h1 b;rw[c] at a;exact⟨cs,a,b⟩
 |one l=>
  intro c h1 b;rw[c] at a;obtain⟨ys,zs,rfl,d,e⟩:=b;rw[show zs=[] from e,ζd] at a;have hl:=d.len;rw[ξk h1] at hl
  match ys,hl with
  |[u],_=>
   have:v=u:=a;rw[this];exact d
theorem Dn (d:bU K P) {A:Pl} {O:Γ} {w:World} {t:Nat} {x:S.El t} {v:Value} (a:K.cls t (K.a_ t x).cells=some x) (b:(S.ty t).agg=(match K.a_ t x with| .agg _=>true| .one _=>false)) (h:(K.a_ t x).rel A O w v):(S.ty t).is O w v x:=by
 revert a b h
 cases K.a_ t x with
 |agg ls=>
  rintro a b ⟨cs,rfl,c⟩;exact⟨cs,d.cls A O w t ls x cs a c,by unfold Ty.mk';rw[b];rfl⟩
 |one l=>
  intro a b c;exact⟨[v],d.cls A O w t [l] x [v] a ⟨[v],[],rfl,c,rfl⟩,by unfold Ty.mk';rw[b];rfl⟩
theorem BC (e:bU K P) {f:Nat} {b:Γ} {spec: {R:Type}->hJ S b->(Rs S->Option R)->Option R}
  (h: ∀ {R:Type} (xs:hJ S b) (k:Rs S->Option R) (z:R),spec xs k=some z-> ∃r,k r=some z/\eA K P f (kq K xs) r) {R:Type} (aen:List (an S)) (k:Rs S->Option R) (z:R) (_:aen.all an.pure=true) (a:(gq K f b spec).out aen k=some z): ∃r,k r=some z/\eA K P f aen r:=by
 simp only[gq] at a;split at a
 rotate_left
 ·cases a
 rename_i xs i;cases hp:(kq K xs).all an.pure<;>rw[hp] at a
 ·cases a
 simp only[cond_true] at a;obtain⟨r,h1,c⟩:=h xs k z a;exact⟨r,h1,c.1,λA O w vs g hO d=>c.2 A O w vs (vJ e i g) hO d⟩
theorem Dm {α:Type} {T:Ty α} {O:Γ} {w:World} {v:Value} {x:α} (h:T.is O w v x):T.is [] w v x:=h.tr (Tr.less λ_ hk=>by cases hk)
end
end Go.Vx
end
section
namespace Go.Proofs.YtoggponeookhbaaGreatDoor
open Go.RowKit Go.Dc Go.Vx
variable (sh:Sh)
def R_ (sh:Sh) (b:aw):T Int:=.ok b.aa
def tt (b:aw):=sh.s _ (R_ sh b).val
def rO:=bN (dR KK 292 132 (tt sh) (cx KK 35)) (GP sh)
theorem yk:aj (rO shut) η:=eh (rs:=[35]) GQ (aj.all GQ rfl) rfl rfl λb k=>by kernel_rfl
def uf (p0:List aw) (a p2 b:Int):AS SS:=⟨[(0,(vd 56 p0)),(1,(vu a)),(2,(vc 0)),(8,(vl p0)),(9,(vi p2)),(10,(vi b))],[(some (.aM 308 [] [(.one (.aK 1 0))])),(bX 330 [(.v (.func (.func 292) (.mk []) (.mk [])))])],2,none,false,[],[]⟩
def Wj (p0:List aw) (a:Int) (a0:Bool) (b a2:Int):AS SS:= {uf p0 a a a with env:=[(17,(vb a0)),(16,(vi b)),(15,(vi a2)),(0,(vd 56 p0)),(1,(vu a)),(2,(vc 0)),(8,(vl p0)),(9,(vi a2)),(10,(vi b))]}
def oX (p0:List aw) (b:Int) (a:Int×Int):T ((Int×Int)⊕(Bool×Int×Int)):=.bf (decide (a.1<a.2)) (.bd (idx p0 (γ.wrap ((ο.wrap (γ.wrap (a.1+a.2))).fdiv 2))) λz0=>.bd (tt sh z0) λc=>.bd (hP sh c b) λd=>.bf (decide (d<0)) (.ok (.inl ((γ.wrap (γ.wrap ((ο.wrap (γ.wrap (a.1+a.2))).fdiv 2)+1)),a.2)))<|.ok (.inl (a.1,(γ.wrap ((ο.wrap (γ.wrap (a.1+a.2))).fdiv 2)))))<|.ok (.inr ((decide (a.1<a.2)),a.2,a.1))
def zr (p0:List aw) (a p2 b:Int):=bJ sh (oX sh p0 a) 1000000 (p2,b)
def S9 {R} (k:KX SS R) (p0:List aw) (a:Int) (x:(Bool×Int×Int)):Option R:=(λv=>k (.exit 0) (Wj p0 a v.1 v.2.1 v.2.2)) x
def KV:bc SS:=br 4 (λst=>(cg st 0 308).bind λ_=>(bo 56 (aJ st 0 0)).bind λp0=>(aU (aJ st 1 0)).bind λa=>(aU (aJ st 9 0)).bind λp2=>(aU (aJ st 10 0)).bind λb=>some (p0,a,p2,b)) (u4 uf) (u4 (zr shut)) (λk p=>S9 k p.1 p.2.1)
theorem abn:LS KK η aq Tryz.f307 307 4 KV:=
 aZ.bJ (π:=List aw×Int×Int×Int) (σ:=Int×Int) (aj.all yk rfl) (aO.nil) rfl 60 (λp a=>uf p.1 p.2.1 a.1 a.2) (λp=>(p.2.2.1,p.2.2.2)) (St:=λp=>oX shut p.1 p.2.1) (λp=>1000000) (λp=>rfl)
  (λm p a k=>by kernel_rfl)
def wS:=bL (rO shut) aq Tryz.f307 307 [KV]
theorem QM:a7 wS η:=bO (aj.all yk rfl) Tryz.func307 rfl aY (by kernel_rfl) abn
def sH (l:List aw) (pid:Int):T (Int×Bool):=.gd (uf l pid 0 (↑l.length:Int))<|.bd (zr sh l pid 0 ((↑l.length:Int))) λa=>.bf (decide (a.2.2<(↑l.length:Int))) (.bd (idx l a.2.2) λd=>.bd (tt sh d) λb=>.bd (hP sh b pid) λc=>.ok (a.2.2,(c==0)))<|.ok (a.2.2,false)
def B5 (l:List aw) (pid:Int):=sh.s _ (sH sh l pid).val
theorem adm {R:Type} (l:List aw) (pid:Int) (k:Rs SS->Option R):fh wS 100 291 [KK.a_ 56 l,KK.a_ 35 pid,(.one (.v (.func (.func 292) #[] #[])):an SS)] [] (hW KK [3,4] k)=(sH shut l pid).run (λr=>k (.ret (.bn [KK.a_ 3 r.1,KK.a_ 4 r.2]))):=by kernel_rfl
theorem UQ (l:List aw) (pid:Int) {x:Int×Bool} (h:B5 shut l pid=some x):eA KK η 291 [KK.a_ 56 l,KK.a_ 35 pid,(.one (.v (.func (.func 292) #[] #[])):an SS)] (.ret (.bn [KK.a_ 3 x.1,KK.a_ 4 x.2])):=vZ (G:=wS) QM (kf:=λ{R} (k:Rs SS->Option R)=>(λr=>k (.ret (.bn [KK.a_ 3 r.1,KK.a_ 4 r.2])))) (λk=>adm l pid k) rfl (tD h) λk=>rfl
end Go.Proofs.YtoggponeookhbaaGreatDoor
end
section
namespace Go.Dc
open Go.RowKit
section
variable {P:Program} {r:Option Nat} {N:Nat} {ops:Array Oper} {Q:Exit->Act->World->Prop} {ds:List Deferred}
theorem ad2 {id:Nat} {E:Env} {w:World} (hm:P.follows .mixedOrders=true) (b:List cm) (Φ:List (Bool->World->Value->Prop)) (f:Nat) (cl:Γ) (I:Bool->World->Prop) (hlen:ηk b.length ops.size=true) (au:qP ops b.length=true) (ba:Φ.length=b.length) (ah:nO N ops b b 0=true)
  (aA:f<b.length) (aJ: ∀o,ops[f]? =some o-> ∀x∈cl,x∈k3 ops 12 (cK o)) (aF:I false w.drew)
  (a7: ∀i p g,b[i]? =some p->Φ[i]? =some g-> ∀c a w',(c=true->i≠f/\i∉cl)->I c w'->a.tmps.size=N->a.defers=ds->(∀s,p.base.contains s=true-> ∀v,E.get s=some v->a.tmps.getD s undef=v)->
   (∀(j:Nat),p.k8.contains j=true-> ∀(q:cm) (m:Bool->World->Value->Prop),b[j]? =some q->Φ[j]? =some m->m c w' (a.tmps.getD q.d undef))->eK P r ops Q i p.d a w' (λv b2=>g (c||ξI i f) b2 v/\I (c||ξI i f) b2/\ ∀(j:Nat) (m:Bool->World->Value->Prop) u,j≠i->Φ[j]? =some m->m c w' u->m (c||ξI i f) b2 u))
  (ay: ∀a w',I true w'->a.tmps.size=N->a.defers=ds->(∀s v,E.get s=some v->(b.any λp=>ξI p.d s)=false->a.tmps.getD s undef=v)->
   (∀(i:Nat) (p:cm) (g:Bool->World->Value->Prop),b[i]? =some p->Φ[i]? =some g->g true w' (a.tmps.getD p.d undef))->wpOpsIn (fw r) 0 P ops Q (ζ4 b.length (ops.size-b.length)) a w'):
  WC P r N (.region id ops true) Q E ds w:=by
 have hle:=ξF hlen;intro a ak;refine wpIn_region_draw λt=>?_;simp only[Region.schedule,hm,ζZ,if_true];refine wpAnyIn_sound ops.size t _ a _ ?_;have key: ∀(fuel:Nat) (listed:Array Bool) (c:Bool) (a:Act) (w':World),listed.getD f true=c->listed.size=ops.size->ej listed b.length+(ops.size-b.length)=fuel->(∀k,b.length<=k->k<ops.size->listed.getD k true=false)->I c w'->a.tmps.size=N->a.defers=ds->
   (∀(k:Nat) (o:Oper),ops[k]? =some o->listed.getD k true=true-> ∀x∈cK o,listed.getD x true=true)->
   (∀s v,E.get s=some v->(∀(k:Nat) (p:cm),b[k]? =some p->p.d=s->listed.getD k true=false)->a.tmps.getD s undef=v)->
   (∀(i:Nat) (p:cm) (g:Bool->World->Value->Prop),b[i]? =some p->Φ[i]? =some g->listed.getD i true=true->g c w' (a.tmps.getD p.d undef))->
   wpAnyIn (fw r) 0 P .any ops Q fuel listed a w':=by
  intro fuel
  induction fuel with
  |zero=>
   intro listed c a w' G ai hl aj ae L W C T aa;have S:ej listed b.length=0:=by omega
   have A:=nj _ S;have Z:c=true:=by rw[<-G];exact A f aA
   subst Z;have aI:ops.size-b.length=0:=by omega
   refine wA au 0 b.length listed a w' (ξa _) (by omega) ai (λk hk=>A k hk) aj C ?_;have X:=ay a w' ae L W (λs v B l=>T s v B λk p hp e=>by
    rw[ξo] at l;have:=l p (ξ3 hp);rw[e] at this;simp at this) λi p g hp O=>aa i p g hp O (A i (δ.1 hp).1)
   rw[aI] at X;exact X
  |succ fuel av=>
   intro listed c a w' G ai hl aj ae L W C T aa
   by_cases S:ej listed b.length=0
   ·have A:=nj _ S;have Z:c=true:=by rw[<-G];exact A f aA
    subst Z;refine wA au (fuel+1) b.length listed a w' (ξa _) (by omega) ai (λk hk=>A k hk) aj C ?_;have X:=ay a w' ae L W (λs v B l=>T s v B λk p hp e=>by
     rw[ξo] at l;have:=l p (ξ3 hp);rw[e] at this;simp at this) λi p g hp O=>aa i p g hp O (A i (δ.1 hp).1)
    rw[show ops.size-b.length=fuel+1 by omega] at X;exact X
   refine⟨λaZ=>?_,λi hi=>?_⟩
   ·exfalso;obtain⟨i,h1,J,K⟩:=p9 b.length S;have af:i<b.length:=h1;obtain⟨⟨o,y,_,V,_⟩,_⟩:=kt ah i b[i] (ε af);simp only[ψ] at y V;have:i∈ζA .any ops listed:=by
     unfold ζA;rw[ξQ];refine⟨by simp;omega,?_⟩;rw[J,y];simp only[ξY,φ,ω,ξ1,ξf];intro e he;cases U:Region.binds .any e with
     |false=>simp
     |true=>
      have D:=V e.on (iC.2 ⟨e,he,U,rfl⟩);have:=K e.on D;have ad:e.on<listed.size:=by omega
      simp only[θ,ξ8 ad,ξ1] at this ⊢;simp[this]
    rw[aZ] at this;cases this
   ·unfold ζA at hi;rw[ξQ] at hi;obtain⟨aN,M⟩:=hi;have aO:i<ops.size:=by simpa using aN
    have af:i<b.length:=by
     rcases ζB i b.length with h|az
     ·exact h
     ·exfalso;obtain⟨o,y,A,aH⟩:=wy au i az aO;rw[y] at M;simp only[ξ5,ζv,ω,ξ1,ξf] at M;obtain⟨k,h1,J,_⟩:=p9 b.length S;have aE:=k4 C 12 (cK o) (λx z=>by
       obtain⟨e,he,U,aX⟩:=iC.1 z;have K:=M.2 e he;rw[U] at K;simp only[ξP,ξp] at K;have a':=aH x z;have ad:e.on<listed.size:=by omega
       rw[<-aX];simp only[θ,ξ8 ad,ξ1] at K ⊢;exact K) k (A k (by omega))
      rw[aE] at J;cases J
    have aR:i<Φ.length:=by omega
    have hp:=ε af;have O:=ε aR;obtain⟨⟨o,y,a_,V,aM⟩,aK,ax,_⟩:=kt ah i b[i] hp;simp only[ψ] at y V ax;rw[y] at M;simp only[ξ5,ζv,ω,ξ1,ξf] at M;obtain⟨F,aY⟩:=M;have aw: ∀x∈cK o,listed.getD x true=true:=by
     intro x z;obtain⟨e,he,U,rfl⟩:=iC.1 z;have h1:=aY e he;rw[U] at h1;simp only[ξP,ξp] at h1;have D:=V e.on z;have ad:e.on<listed.size:=by omega
     simp only[θ,ξ8 ad,ξ1] at h1 ⊢;exact h1
    refine a7 i _ _ hp O c a w' ?_ ae L W ?_ ?_ _ ?_
    ·intro Z;rw[Z] at G;refine⟨λe=>by(rw[e,G] at F;cases F),λaP=>?_⟩;have aB:f<ops.size:=by omega
     have aU:=aJ _ (ξ8 aB) i aP;have:=k4 C 12 (cK ops[f]) (λx z=>C f _ (ξ8 aB) G x z) i aU;rw[this] at F;cases F
    ·intro s a1 v B;have ar:s∈b[i].base:=by simpa using a1
     refine T s v B λk p aq an=>?_;rcases H5 ax s ar k p aq an with rfl|⟨o',Y,aQ⟩
     ·exact F
     ·cases hk:listed.getD k true with
      |false=>rfl
      |true=>rw[C k o' Y hk i aQ] at F;cases F
    ·intro j aS q m H R;have ag:j∈b[i].k8:=by simpa using aS
     exact aa j q m H R (aw j (aM j ag))
    ·rintro v b2 ⟨B,aG,a8⟩;have aL:b[i].d<a.tmps.size:=by rw[L];exact aK
     have aD:i<listed.size:=by omega
     have ab: ∀k,(listed.setIfInBounds i true).getD k true=true↔k=i\/listed.getD k true=true:=by
      intro k
      by_cases hk:i=k
      ·subst hk;simp[θ,aD]
      ·simp only[θ,ξ7 hk];constructor
       ·exact λh=>.inr h
       ·rintro (h|h)
        ·exact absurd h.symm hk
        ·exact h
     have aC: ∀s,s≠b[i].d->(a.put (some b[i].d) v).tmps.getD s undef=a.tmps.getD s undef:=by
      intro s ar;simp only[Act.put,θ,ξ7 (Ne.symm ar)]
     have a6:(a.put (some b[i].d) v).tmps.getD b[i].d undef=v:=by
      simp[Act.put,θ,aL]
     have aV:=DC aD F b.length;simp only[af,if_true] at aV;refine av _ (c||ξI i f) _ b2 ?_ (by simpa using ai) (by omega) (λk hk aT=>by
      have:=aj k hk aT;simp only[θ,ξ7 (show i≠k by omega)] at this ⊢;exact this) aG (by simp[Act.put,L]) W ?_ ?_ ?_
     ·cases al:ξI i f with
      |true=>
       have:=ξk al;subst this;rw[η0];exact(ab i).2 (.inl rfl)
      |false=>
       rw[ζp,<-G];have l:i≠f:=λe=>by rw[e,η1] at al;cases al
       simp only[θ,ξ7 l]
     ·intro k o' Y hk x z;rw[ab] at hk ⊢;right;rcases hk with rfl|hk
      ·rw[y] at Y;cases Y;exact aw x z
      ·exact C k o' Y hk x z
     ·intro s u hu l;have h1:s≠b[i].d:=λe=>by
       have:=l i _ hp e.symm;have J:=(ab i).2 (.inl rfl);rw[J] at this;cases this
      rw[aC s h1];refine T s u hu λk p aq an=>?_;have:=l k p aq an;cases hk:listed.getD k true with
      |false=>rfl
      |true=>rw[(ab k).2 (.inr hk)] at this;cases this
     ·intro j q m H R ag;rw[ab] at ag
      by_cases ao:j=i
      ·subst ao;rw[hp] at H;rw[O] at R;cases H;cases R;rw[a6];exact B
      ·have aW:listed.getD j true=true:=ag.resolve_left ao;have l:q.d≠b[i].d:=by
        rcases ζB i j with D|az
        ·exact(kt ah i _ hp).2.2.2 j q D H
        ·exact λe=>(kt ah j q H).2.2.2 i _ (by omega) hp e.symm
       rw[aC _ l];exact a8 j m _ ao R (aa j q m H R aW)
 refine key ops.size _ false a _ (by simp[θ,show f<ops.size by omega]) (by simp) ?_ (λk _ hk=>by simp[θ,hk]) aF ak.size ak.defers ?_ ?_ ?_
 ·have: ∀n,n<=ops.size->ej (ζH ops.size false) n=n:=by
   intro n
   induction n with
   |zero=>intro _;rfl
   |succ n av=>
    intro hn;simp only[ej,av (by omega)];have:(ζH ops.size false).getD n true=false:=by simp[θ,show n<ops.size by omega]
    simp[this]
  rw[this _ hle];omega
 ·intro k o y hk;have D:=(Array.getElem?_eq_some_iff.1 y).1;simp[θ,D] at hk
 ·intro s v B _;exact ak.get s v B
 ·intro i p g hp _ hi;have D:i<ops.size:=by have:=(δ.1 hp).1;omega
  simp[θ,D] at hi
def bV (b:SP) (k:Option Value):Bool->World->Value->Prop:=λa w u=>bif a then ∀v,k=some v->u=v else b.p w u
def lY (w:World) (b:World->World->Value->Prop):Bool->World->Value->Prop:=λa w' u=>a=true-> ∃w1 w2,Fr [] w w1/\b w1 w2 u/\Fr [] w2 w'
def Fi (a:List cm) (keep:List (Option Value)) (k:Nat) (F:Nat->cm->Option Value->Prop):Prop:=
 match a,keep with
 |p::ps,v::vs=>F k p v/\Fi ps vs (k+1) F
 |_,_=>True
theorem OI: ∀ {b:List cm} {keep:List (Option Value)} {k:Nat} {F:Nat->cm->Option Value->Prop},Fi b keep k F-> ∀(i:Nat) (p:cm) (v:Option Value),b[i]? =some p->keep[i]? =some v->F (k+i) p v
 |[],_,_,_,_,i,p,v,hp,_=>by simp at hp
 |_::_,[],_,_,_,i,p,v,_,a=>by simp at a
 |q::c,u::us,k,F,h,i,p,v,hp,a=>by
  cases i with
  |zero=>
   simp only[ξ9,ξq] at hp a;subst hp;subst a;exact h.1
  |succ i=>
   have:=OI h.2 i p v (by simpa using hp) (by simpa using a);have e:k+1+i=k+(i+1):=by omega
   rwa [e] at this
def uP:List SP->List (Option Value)->Prop
 |c::b,some v::a=>(∀w u,c.p w u->u=v)/\uP b a
 |_::b,none::a=>uP b a
 |_,_=>True
theorem Dr: ∀ {Φ:List SP} {keep:List (Option Value)},uP Φ keep-> ∀(j:Nat) (b:SP) (v:Value),Φ[j]? =some b->keep[j]? =some (some v)-> ∀w u,b.p w u->u=v
 |[],_,_,j,b,v,h1,_=>by simp at h1
 |_::_,[],_,j,b,v,_,a=>by simp at a
 |e::d,some u::c,h,j,b,v,h1,a=>by
  cases j with
  |zero=>
   simp only[ξ9,ξq] at h1 a;subst h1;subst a;exact h.1
  |succ j=>exact Dr h.2 j b v (by simpa using h1) (by simpa using a)
 |e::d,none::c,h,j,b,v,h1,a=>by
  cases j with
  |zero=>simp at a
  |succ j=>exact Dr (Φ:=d) (keep:=c) h j b v (by simpa using h1) (by simpa using a)
theorem ad3 {id:Nat} {E:Env} {w:World} (hm:P.follows .mixedOrders=true) (b:List cm) (Φ:List SP) (keep:List (Option Value)) (f:Nat) (g cl:Γ) (m:World->World->Value->Prop)
  (hlen:ηk (b++[cm.mk f g []]).length ops.size=true) (aw:qP ops (b++[cm.mk f g []]).length=true) (ab:Φ.length=b.length) (Y:keep.length=b.length) (ao:nO N ops (b++[cm.mk f g []]) (b++[cm.mk f g []]) 0=true)
  (X:(match ops[b.length]? with|some o=>cl.all λx=>(k3 ops 12 (cK o)).contains x|none=>false)=true)
  (ak:uP Φ keep)
  (ar:pa b Φ 0 λi p C=> ∀a w',Fr [] w w'->a.tmps.size=N->a.defers=ds->(∀s,p.base.contains s=true-> ∀v,E.get s=some v->a.tmps.getD s undef=v)->
   (∀(j:Nat),p.k8.contains j=true-> ∀(q:cm) (c:SP),b[j]? =some q->Φ[j]? =some c->c.p w' (a.tmps.getD q.d undef))->eK P r ops Q i p.d a w' (λv b2=>C.p b2 v/\Fr [] w' b2))
  (av: ∀a w',Fr [] w w'->a.tmps.size=N->a.defers=ds->(∀(j:Nat),g.contains j=true-> ∀(q:cm) (c:SP),b[j]? =some q->Φ[j]? =some c->c.p w' (a.tmps.getD q.d undef))->eK P r ops Q b.length f a w' (λv b2=>m w' b2 v))
  (au:Fi b keep 0 λi p k=>match k with
   |none=>cl.contains i=true
   |some v=> ∀w1 w2 u,Fr [] w w1->m w1 w2 u-> ∀a w',Fr [] w2 w'->a.tmps.size=N->a.defers=ds->(∀s,p.base.contains s=true-> ∀v,E.get s=some v->a.tmps.getD s undef=v)->eK P r ops Q i p.d a w' (λx b2=>x=v/\Fr [] w' b2))
  (ah: ∀w1 w2 u a w',Fr [] w w1->m w1 w2 u->Fr [] w2 w'->a.tmps.size=N->a.defers=ds->(∀s v,E.get s=some v->((b++[cm.mk f g []]).any λp=>ξI p.d s)=false->a.tmps.getD s undef=v)->
   (∀(i:Nat) (p:cm) (v:Value),b[i]? =some p->keep[i]? =some (some v)->a.tmps.getD p.d undef=v)->a.tmps.getD f undef=u->
   wpOpsIn (fw r) 0 P ops Q (ζ4 (b++[cm.mk f g []]).length (ops.size-(b++[cm.mk f g []]).length)) a w'):
  WC P r N (.region id ops true) Q E ds w:=by
 have aC:(b++[cm.mk f g []]:List cm).length=b.length+1:=by simp
 have aa:(ξG bV Φ keep).length=b.length:=by simp[ab,Y]
 have J: ∀(j:Nat) c,(ξG bV Φ keep++[lY w m])[j]? =some c->(j<b.length/\ ∃C k,Φ[j]? =some C/\keep[j]? =some k/\c=bV C k)\/(j=b.length/\c=lY w m):=by
  intro j c h;rcases ζB j b.length with t|t
  ·left;rw[ξ (by omega)] at h;have h1:j<Φ.length:=by omega
   have B:j<keep.length:=by omega
   refine⟨t,Φ[j],keep[j],ε h1,ε B,?_⟩;rw[ξl,ε h1,ε B] at h;exact(ζI h).symm
  ·right;rw[ξb (by omega),aa] at h;rcases Nat.eq_or_lt_of_le t with e|aB
   ·subst e;simp only[η2,ξ9,ξq] at h;exact⟨rfl,h.symm⟩
   ·rw[ξH (by simp;omega)] at h;cases h
 have aq: ∀(j:Nat) p,(b++[cm.mk f g []])[j]? =some p->j<b.length->b[j]? =some p:=λj p h t=>by rwa [ξ t] at h
 refine ad2 hm (b++[cm.mk f g []]) (ξG bV Φ keep++[lY w m]) b.length cl (λS w'=>bif S then ∃w1 w2 u,Fr [] w w1/\m w1 w2 u/\Fr [] w2 w' else Fr [] w w') hlen aw (by simp[ab,Y]) ao (by omega) ?_ (Fr.drew [] w) ?_ ?_
 ·intro o an x ay;rw[an] at X;simpa using ξv.1 X x ay
 ·intro i p C hp az S a w' Z l D F K H;rcases J i C az with⟨hi,aA,ad,h1,B,rfl⟩|⟨rfl,rfl⟩
  ·have O:=aq i p hp hi;have al:ξI i b.length=false:=by
    cases ag:ξI i b.length with
    |false=>rfl
    |true=>have:=ξk ag;omega
   rw[al,ζp];cases S with
   |false=>
    have l:Fr [] w w':=l;refine eK.weaken (HP ar i p aA O h1 a w' l D F K (λj t q c G z=>?_)) λv b2 n=>⟨n.1,l.trans n.2,λj c u _ z hu=>?_⟩
    ·have V:=(δ.1 G).1;have I:(ξG bV Φ keep++[lY w m])[j]? =some (bV c (keep[j]'(by omega))):=by
      rw[ξ (by omega),ξl,z,ε (by omega)]
     exact H j t q _ (by rw[ξ V];exact G) I
    ·rcases J j c z with⟨_,T,ae,_,_,rfl⟩|⟨_,rfl⟩
     ·exact T.st n.2 hu
     ·intro n;cases n
   |true=>
    obtain⟨w1,w2,u,L,A,M⟩:=l;have U:=OI au i p ad O B;rw[ψ] at U;cases ad with
    |none=>
     have:cl.contains i=true:=U;exact absurd (by simpa using this) (Z rfl).2
    |some v=>
     refine eK.weaken (U w1 w2 u L A a w' M D F K) λx b2 n=>⟨?_,⟨w1,w2,u,L,A,M.trans n.2⟩,λj c y _ z R=>?_⟩
     ·intro af W;cases W;exact n.1
     ·rcases J j c z with⟨_,T,ae,_,_,rfl⟩|⟨_,rfl⟩
      ·exact R
      ·intro _;obtain⟨x1,x2,g1,g2,g3⟩:=R rfl;exact⟨x1,x2,g1,g2,g3.trans n.2⟩
  ·cases S with
   |true=>exact absurd rfl (Z rfl).1
   |false=>
    have O:p=⟨f,g,[]⟩:=by
     rw[ξb (ξa _),η2] at hp;exact(ζI hp).symm
    subst O;have l:Fr [] w w':=l;rw[η1,η0];refine eK.weaken (av a w' l D F (λj t q c G z=>?_)) λv b2 A=>⟨λ_=>⟨w',b2,l,A,Fr.refl [] _⟩,⟨w',b2,v,l,A,Fr.refl [] _⟩,λj c y aj z R=>?_⟩
    ·have V:=(δ.1 G).1;have I:(ξG bV Φ keep++[lY w m])[j]? =some (bV c (keep[j]'(by omega))):=by
      rw[ξ (by omega),ξl,z,ε (by omega)]
     exact H j t q _ (by rw[ξ V];exact G) I
    ·rcases J j c z with⟨_,T,ae,h1,B,rfl⟩|⟨e,_⟩
     ·intro af W;subst W;exact Dr ak j T af h1 B _ _ R
     ·exact absurd e aj
 ·intro a w' l D F K H;obtain⟨w1,w2,L,A,M⟩:=H b.length ⟨f,g,[]⟩ (lY w m) (by simp) (by rw[ξb (by omega),aa];simp) rfl;refine ah w1 w2 _ a w' L A M D F K (λi p v hp ax=>?_) rfl;have ai:=(δ.1 hp).1;have I:(ξG bV Φ keep++[lY w m])[i]? =some (bV (Φ[i]'(by omega)) (some v)):=by
   rw[ξ (by omega),ξl,ax,ε (by omega)]
  exact H i p _ (by rw[ξ ai];exact hp) I v rfl
theorem ZY {Θ:cz} {O:Γ} {w:World} {i d:Nat} {o:Oper} {E:Env} (J:Θ.ok P) {a:Act} (g:Has N E ds a) (z:ops[i]? =some o) (hw:want N ops E o.guard=some true) (q:o.dst=some d) {t:Nat} {x y:Operand} {f c:TI}
  (j:o.op= .call {callee:=.builtin .append,args:= #[x,y],argTypes:= #[t,t]}) (C:Θ.get t=some f) (k:f.tag=5) (D:Θ.get f.e=some c) {α:Type} {T:Ty α} (hn:T.n=c.size) (A:ηl 0 c.size=true) (I:c.zero.cells.size=c.size) (p:ηk 1 c.bytes=true) {e nb:Nat} (he:f.e=e) (s:c.bytes=nb)
  {w0:World} {v u:Value} {xs ys zs:List α} (G:ev E x=some v) (H:ev E y=some u) (l:Fr [] w0 w) (hO:OB O w) (F:Own T e w0.heap.size O w v xs) (hu:T.slice.is O w u ys) (hlen:app nb xs ys=some zs):
  eK P r ops Q i d a w (λh w'=> ∃O',dc T e w0.heap.size O w v zs O' w' h):=by
 subst he s;obtain⟨hle,rfl⟩:=sO hlen;obtain⟨h,w',O',B,m⟩:=EY (P:=P) (ty:=o.type) J C k D hn (ξF A) I l.size hO F hu hle (ξF p);refine lD z (gK g hw) q (b:=true) (v:=h) (w':=w') ?_ ⟨O',m⟩;simp only[if_true];refine⟨by rw[j];simp,?_⟩;simp only[execOp,j,ξx,resolve,ζe,ξr,invoke,builtin,ζ9,ξz,ξV,g.eval G,g.eval H,B]
end
end Go.Dc
end
section
namespace Go.Proofs.YtoggponeookhbaaGreatDoor
open Go.RowKit Go.Dc Go.Vx
theorem Xn:ep η 79:=cG aY Tryz.func79 rfl
theorem Xo:ep η 80:=cG aY Tryz.func80 rfl
theorem Xm:ep η 63:=cG aY Tryz.func63 rfl
theorem BP:ep η 202:=cG aY η3 rfl
theorem BQ:ep η 203:=cG aY η4 rfl
theorem Xl:ep η 294:=cG aY η5 rfl
theorem Xf:ep η 107:=cG aY Tryz.func107 rfl
theorem Xg:ep η 219:=cG aY ζb rfl
theorem Xh:ep η 261:=cG aY η6 rfl
theorem Xi:ep η 262:=cG aY η7 rfl
theorem IE:ep η 263:=cG aY η8 rfl
theorem Xj:ep η 291:=cG aY Tryz.func291 rfl
theorem Xk:ep η 293:=cG aY Tryz.func293 rfl
theorem adi {O:Γ} {w:World} {v:Value} {x:aw}:iO.is O w v x↔ ∃s1,v= .agg #[.int .u64 x.aa,s1]/\(Ty.slice (Ty.int .u64)).is O w s1 x.a6:=by
 constructor
 ·rintro ⟨cs,⟨_,_,rfl,rfl,c⟩,rfl⟩;obtain⟨a,rfl,b⟩:=Fa rfl c;exact⟨a,rfl,b⟩
 ·rintro ⟨a,rfl,b⟩;exact⟨[.int .u64 x.aa,a],⟨[.int .u64 x.aa],[a],rfl,rfl,(lN rfl b)⟩,rfl⟩
theorem h0 {O:Γ} {w:World} {v:Value} {x:aL}:fQ.is O w v x↔ ∃s0 s1,v= .agg #[s0,s1]/\(Ty.slice dT).is O w s0 x.au/\(Ty.slice iO).is O w s1 x.ao:=by
 constructor
 ·rintro ⟨cs,⟨_,_,rfl,d,e⟩,rfl⟩;obtain⟨a,rfl,b⟩:=Fa rfl d;obtain⟨z2,rfl,c⟩:=Fa rfl e;exact⟨a,z2,rfl,b,c⟩
 ·rintro ⟨a,z2,rfl,b,c⟩;exact⟨[a,z2],⟨[a],[z2],rfl,(lN rfl b),(lN rfl c)⟩,rfl⟩
theorem adk {O:Γ} {w:World} {cs:Γb} {x:aD} (h:dT.rep O w cs x):cs=[.int .u64 x.a1,.int .u64 x.aa]:=by
 obtain⟨_,_,rfl,rfl,rfl⟩:=h;exact rfl
noncomputable def ve:Pl:=⟨λ_=>none,none⟩
noncomputable def C4 (sh:Sh) (x:aL):Option Int:=jr sh x
theorem Yw {O:Γ} {w:World} (hO:OB O w) (c:cC KK O w) {v0:Value} {x0:aL} (a:fQ.is O w v0 x0) {r:Int} (h:C4 shut x0=some r):Calls η 63 #[v0] w (gj (n3 (Ty.int .i64)) O w r):=by
 have d:eA KK η 63 [KK.a_ 58 x0] (.ret (.s (KK.a_ 27 r))):=vZ (G:=wV) Gr (kf:=λ{R} (k:Rs SS->Option R)=>(λr=>k (.ret (.s (KK.a_ 27 r))))) (λk=>OL x0 k) rfl (tD h) λk=>rfl;refine(d.2 ve O w [v0] ⟨v0,[],rfl,gX c8 (t:=58) rfl rfl a,rfl⟩ hO c).mono ?_;rintro e w' ⟨⟨v,rfl,h1,_⟩,b⟩;cases h1;exact⟨_,rfl,dr.2 rfl,b⟩
noncomputable def kg (p:Int):Bool:=bif decide (p>=1) then decide (p<4294967296) else false
theorem YW (p:Int):(mq shut p).val=some (kg p):=by
 unfold mq kg;cases h:decide (p>=1)<;>simp
theorem YC {O:Γ} {w:World} (hO:OB O w) (c:cC KK O w) {v0:Value} {x0:Int} (a:(Ty.int .u64).is O w v0 x0):Calls η 107 #[v0] w (gj (n3 Ty.bool) O w (kg x0)):=by
 have d:eA KK η 107 [KK.a_ 35 x0] (.ret (.s (KK.a_ 4 (kg x0)))):=vZ (G:=rR shut) (aj.all yB rfl) (kf:=λ{R} (k:Rs SS->Option R)=>(λr=>k (.ret (.s (KK.a_ 4 r))))) (λk=>OK x0 k) rfl (YW x0) λk=>rfl;refine(d.2 ve O w [v0] ⟨v0,[],rfl,gX c8 (t:=35) rfl rfl a,rfl⟩ hO c).mono ?_;rintro e w' ⟨⟨v,rfl,h1,_⟩,b⟩;cases h1;exact⟨_,rfl,jc.2 rfl,b⟩
noncomputable def C6 (sh:Sh) (l:List aw) (pid:Int):Option (Int×Bool):=B5 sh l pid
theorem YB {O:Γ} {w:World} (hO:OB O w) (i:cC KK O w) {v0:Value} {x0:List aw} (c:(Ty.slice iO).is O w v0 x0) {pid:Int} {r:Int×Bool} (h:C6 shut x0 pid=some r):Calls η 291 #[v0,.int .u64 pid,.func (.func 292) #[] #[]] w (gj (Nq (Ty.int .i64) Ty.bool) O w r):=by
 refine((UQ x0 pid h).2 ve O w [v0,.int .u64 pid,.func (.func 292) #[] #[]] ⟨v0,_,rfl,gX c8 (t:=56) rfl rfl c,_,_,rfl,⟨rfl,rfl⟩,_,_,rfl,⟨rfl,rfl⟩,rfl⟩ hO i).mono ?_;rintro e w' ⟨⟨v,rfl,xs,rfl,a,_,rfl,⟨h1,_⟩,b,_,rfl,⟨d,_⟩,f⟩,g⟩;cases h1;cases d;rw[show _=[] from f];exact⟨_,rfl,⟨_,_,rfl,dr.2 rfl,jc.2 rfl⟩,g⟩
noncomputable def E7 (x:Γa):Option (Γa):=app 8 [] x
theorem acH {O:Γ} {w:World} (hO:OB O w) (_:w.heap.size<=w.heap.size) {v0:Value} {x0:Γa} (a:(Ty.slice (Ty.int .u64)).is O w v0 x0) {r:Γa} (h:E7 x0=some r):Calls η 80 #[v0] w (eB (Ty.int .u64) 35 w.heap.size O w (.slice none 0 0) r):=j5.2.2.2.2.1 hO a h
noncomputable def E8 (x:List aD):Option (List aD):=app 16 [] x
theorem acG {O:Γ} {w:World} (hO:OB O w) (_:w.heap.size<=w.heap.size) {v0:Value} {x0:List aD} (a:(Ty.slice dT).is O w v0 x0) {r:List aD} (h:E8 x0=some r):Calls η 79 #[v0] w (eB dT 127 w.heap.size O w (.slice none 0 0) r):=j5.2.2.2.1 hO a h
abbrev TR:Ty (Int×Value):=ky .u64
abbrev TW:Ty Int:=Ty.int .u64
theorem gL:TW.Flat:=λh=>h
noncomputable def bx (z:aw):Int×Γa:=(z.aa,z.a6)
structure e7 (B:Nat) (O:Γ) (w:World) (b:Nat) (nv rv:Value) (S:Γ) (ar:Γd) (x:aL):Prop where
 mem:b∈O
 ge:B<=b
 bB:bz w b 262 [nv,rv]
 ns:Go.Dc.Own dT 127 B O w nv x.au
 row:Go.Dc.Own TR 132 B O w rv ar
 fo:cV TW 35 B w S ar (x.ao.map bx)
 nd:S.Nodup
 out: ∀g∈S,g∉O
 nb:nv.ownBlock≠some b
 rb:rv.ownBlock≠some b
 dj:Dj nv rv
noncomputable def jT (B:Nat) (O:Γ) (w:World) (b:Nat) (x:aL):Prop:= ∃nv rv S ar,e7 B O w b nv rv S ar x
structure bC (B:Nat) (O:Γ) (w:World) (O':Γ) (w':World):Prop where
 tr:Tr O w O' w'
 ob:OB O' w'
 sub:Sub O O'
 below: ∀k,k<B->w'.heap[k]? =w.heap[k]?
theorem bC.refl {B:Nat} {O:Γ} {w:World} (h:OB O w):bC B O w O w:=⟨Tr.refl _ _,h,Sub.refl _,λ_ _=>rfl⟩
theorem bC.trans {B:Nat} {O O' a:Γ} {w w' b2:World} (h:bC B O w O' w') (k:bC B O' w' a b2):bC B O w a b2:=
 ⟨h.tr.trans k.tr,k.ob,h.sub.trans k.sub,λi hi=>(k.below i hi).trans (h.below i hi)⟩
theorem bC.fr {O O':Γ} {w w':World} (h:bC w.heap.size O w O' w'):Fr [] w w':=⟨h.tr.os,h.tr.tape,h.tr.output,h.tr.size,λk hk _=>h.below k hk⟩
theorem bC.nE {B:Nat} {O:Γ} {w w':World} (hO:OB O w) (a:B<=w.heap.size) (h:Fr [] w w'):bC B O w O w':=
 ⟨h.dU,h.ob hO,Sub.refl _,λk hk=>h.block k (ζ hk a) (by simp)⟩
theorem bC.iH {B:Nat} {O:Γ} {w w':World} {b t:Nat} {cs:Γb} (a:B<=w.heap.size) (h:jV O w b t cs w'):bC B O w (b::O) w':=
 ⟨h.tr,h.ob,Sub.cons (Sub.refl _) _,λk hk=>h.fr.block k (ζ hk a) (by simp)⟩
theorem bC.D2 {α:Type} {T:Ty α} {e B:Nat} {O O':Γ} {w w':World} {v c:Value} {xs zs:List α} (a:B<=w.heap.size) (b:Go.Dc.Own T e B O w v xs) (h:dc T e B O w v zs O' w' c):bC B O w O' w':=
 ⟨h.tr,h.ob,h.sub,λk hk=>h.fr k (ζ hk a) λe=>by have:=(b.lt k e).1;omega⟩
theorem bC.gg {B b:Nat} {O:Γ} {w w':World} (hO:OB O w) (a:b∈O) (c:B<=b) (h:Fr [b] w w'):bC B O w O w':=
 ⟨h.tr (gC a),h.ob hO,Sub.refl _,λk hk=>h.block k (by have:=hO b a;omega) (by simp;omega)⟩
theorem bC.ZK {α:Type} {T:Ty α} {e B:Nat} {O:Γ} {w w':World} {v:Value} {xs:List α} (hO:OB O w) (b:B<=w.heap.size) (a:cR T e w.heap.size w' v xs) (h:Fr [] w w'):bC B O w (v.ownBlock.toList++O) w':=
 ⟨⟨h.os,h.tape,h.output,h.size,λk hk c=>⟨λhm=>by
  rcases ξA.1 hm with hm|hm
  ·have:=(a.lt k (by simpa using hm)).1;omega
  ·exact c hm,h.block k hk (by simp)⟩⟩,λk hk=>by
  rcases ξA.1 hk with hk|hk
  ·exact(a.lt k (by simpa using hk)).2
  ·exact ζ (hO k hk) h.size,λk hk=>ξm _ hk,λk hk=>h.block k (ζ hk b) (by simp)⟩
section
variable {B:Nat} {O O':Γ} {w w' b2:World} {b:Nat} {nv rv:Value} {S:Γ} {ar:Γd} {x:aL}
theorem e7.b7 (h:e7 B O w b nv rv S ar x) (a:Fr [] w w'):e7 B O w' b nv rv S ar x:=
 ⟨h.mem,h.ge,h.bB.b7 a,h.ns.b7 a,h.row.b7 a,h.fo.b7 gL a,h.nd,h.out,h.nb,h.rb,h.dj⟩
theorem e7.new (h:e7 B O w b nv rv S ar x) {a t:Nat} {cs:Γb} (hn:jV O w a t cs w'):e7 B (a::O) w' b nv rv S ar x:=
 ⟨ξ4 _ h.mem,h.ge,h.bB.b7 hn.fr,h.ns.new hn,h.row.new hn,h.fo.b7 gL hn.fr,h.nd,λg c hm=>by
  rcases ξB.1 hm with rfl|hm
  ·have:=(h.fo.lt g c).2;have:=hn.ge;omega
  ·exact h.out g c hm,h.nb,h.rb,h.dj⟩
theorem e7.st (h:e7 B O w b nv rv S ar x) {a:Nat} (d:a∈O) (c:Fr [a] w w') (h1:a≠b) (i:nv.ownBlock≠some a) (j:rv.ownBlock≠some a):e7 B O w' b nv rv S ar x:=
 ⟨h.mem,h.ge,h.bB.fr c (by simp;exact λe=>h1 e.symm),h.ns.st c d i,h.row.st c d j,h.fo.keep gL λg f=>c.block g (h.fo.lt g f).2 (by simp;rintro rfl;exact h.out _ f d),h.nd,h.out,h.nb,h.rb,h.dj⟩
theorem dc.later {α:Type} {T:Ty α} {e B:Nat} {O O':Γ} {w w2 b:World} {v a:Value} {zs:List α} (ap:dc T e B O w v zs O' w2 a) (f:Fr [] w2 b):dc T e B O w v zs O' b a:=
 ⟨ap.own.b7 f,ap.tr.trans f.dU,f.ob ap.ob,ap.sub,λk hk c=>(f.block k (ζ hk ap.tr.size) (by simp)).trans (ap.fr k hk c),ap.ne⟩
theorem e7.boxes (h:e7 B O w b nv rv S ar x) {i:Value} {S':Γ} {f:Γd} {x':aL} (ap:dc TR 132 B O w rv f O' w' i) (k:bz b2 b 262 [nv,i]) (d:Fr [b] w' b2)
  (c:cV TW 35 B w S' f (x'.ao.map bx)) (l:S'.Nodup) (e: ∀g∈S',g∉O) (hn:x'.au=x.au):e7 B O' b2 b nv i S' f x':=by
 have hm:=ap.sub _ h.mem;have j:=ap.ne _ h.bB.lt h.rb;have m:=ap.other h.ns λg a=>h.dj g a;refine⟨hm,h.ge,k,by rw[hn];exact m.st d hm h.nb,ap.own.st d hm j,?_,l,λg a=>(ap.tr.keep g (c.lt g a).2 (e g a)).1,h.nb,j,λg a=>ap.ne _ (h.ns.lt g a).2 (h.dj g a)⟩;refine c.keep gL λg a=>?_;have h1:=(ap.tr.keep g (c.lt g a).2 (e g a)).2;rw[d.block g (ζ (c.lt g a).2 ap.tr.size) (by simp;rintro rfl;exact e _ a h.mem),h1]
end
noncomputable def mY:List aw->List aw->Option (List aw)
 |[],acc=>some acc
 |z::r,acc=>(E7 z.a6).bind λws=>(app 32 acc [aw.mk z.aa ws]).bind λa=>mY r a
noncomputable def p3 (fuel:Sh) (x:aL):Option (aL×Int):=(C4 fuel x).bind λe=>bif (!(e==0)) then some (aL.mk [] [],e) else(E8 x.au).bind λns=>(mY x.ao []).bind λbs=>some (aL.mk ns bs,0)
noncomputable def RO (O:Γ) (w:World) (r:aL×Int) (c:Ending) (w':World):Prop:= ∃a O',c= .returned (.tuple #[a,.int .i64 r.2])/\bC w.heap.size O w O' w'/\(r.2=0-> ∃b,a= .pointer (some ⟨b,0,none⟩)/\jT w.heap.size O' w' b r.1)
theorem HT {ar:Γd} {acc a:List aw} {z:aw} {p:Int×Value} (hl:ar.length=acc.length) (h:app 32 acc [z]=some a):app 32 ar [p]=some (ar++[p])/\a=acc++[z]:=by
 obtain⟨h1,b⟩:=sO h;refine⟨?_,b⟩;unfold app;rw[if_pos (by rw[hl];exact h1)]
noncomputable def SP.TP (p:Int) (B:Nat) (ws:Γa):SP:=⟨λw u=> ∃v,u= .agg #[.int .u64 p,v]/\cR TW 35 B w v ws,λa ⟨v,h,k⟩=>⟨v,h,k.b7 gL a⟩⟩
noncomputable def SP.TM (p:Int) (B:Nat) (O:Γ) (ws:Γa):SP:=⟨λw u=> ∃v,TR.slice.is O w u [(p,v)]/\cR TW 35 B w v ws,λa ⟨v,h,k⟩=>⟨v,h.tr a.dU,k.b7 gL a⟩⟩
theorem XS {O:Γ} {w1 w:World} {v:Value} {ws:Γa} (h:cR TW 35 w1.heap.size w v ws) (hO:OB O w1): ∀g,v.ownBlock=some g->g∉O:=λg a hm=>by
 have:=(h.lt g a).1;have:=hO g hm;omega
set_option maxRecDepth 100000 in
set_option maxHeartbeats 4000000 in
theorem YD {O:Γ} {w:World} (hO:OB O w) (aS:cC KK [] w) {v0:Value} {x0:aL} (af:fQ.is [] w v0 x0) {r:aL×Int} (h:p3 shut x0=some r):Calls η 219 #[v0] w (RO O w r):=by
 obtain⟨R,U,rfl,aR,aA⟩:=h0.1 af;have aD:bC w.heap.size O w O w:=bC.refl hO;refine fV (args:=[(.agg #[R,U])]) (N:=45) ζb rfl rfl rfl ?_;unfold p3 at h;refine aF (aT (l:=[0,1,2]) rfl (l3 rfl rfl rfl rfl rfl rfl [R,U] rfl hO (λs w1 n1=>?_)));have x:=n1.bB;have ab:=aD.trans (bC.iH aD.tr.size n1);refine ax ah [1,2] [(1,(.pointer (some ⟨s,0,none⟩)))] rfl ⟨rfl,trivial⟩ (aQ (aG (aF (aF (aT (l:=[0,1,2]) rfl (dP ah rfl rfl rfl rfl rfl rfl rfl x [R,U] rfl rfl (.inl rfl) (.agg #[R,U]) rfl ?_))))));obtain⟨e,he,h⟩:=bind_some h;refine wM rfl rfl rfl rfl rfl Xm rfl (Yw (qh _) (aS.tr ab.fr.dU) (af.tr ab.fr.dU) he) (λv2 w2 g2 f2=>?_);obtain rfl:=dr.1 g2;have J:=ab.trans (bC.nE ab.ob ab.tr.size f2);have x:=x.b7 f2;refine ax ah [2] [(1,(.pointer (some ⟨s,0,none⟩))),(4,.int .i64 e)] rfl ⟨rfl,rfl,trivial⟩ (aQ (aG (aF (aT (l:=[0,1]) rfl (ax ah [0,1] [(1,(.pointer (some ⟨s,0,none⟩))),(4,.int .i64 e),(11,.bool (!(e==0)))] rfl ⟨rfl,rfl,rfl,trivial⟩ (aQ (aG ?_)))))));rcases ic h with⟨A,h⟩|⟨A,h⟩
 ·refine fe rfl A (aF (aT (l:=[0,1,2]) rfl (ax ah [0,1,2] [(2,(.pointer none)),(3,.int .i64 e)] rfl ⟨rfl,rfl,trivial⟩ (aQ (aG (dk ?_))))));cases h;exact ff (ez rfl ⟨_,_,rfl,J,λaf=>by simp at A;exact absurd af A⟩)
 refine fz rfl A (eo (aG (aF (aT (l:=[0,1,2,3,4,5,6]) rfl (ax ah [0] [(1,(.pointer (some ⟨s,0,none⟩))),(13,(.pointer (some ⟨s,0,none⟩)))] rfl ⟨rfl,rfl,trivial⟩ (dP ah rfl rfl rfl rfl rfl rfl rfl x [R] rfl rfl (.inr rfl) R rfl ?_))))));obtain⟨ns,a',h⟩:=bind_some h;refine iT rfl rfl rfl rfl rfl Xn rfl (acG (qh _) (ξa _) (aR.tr J.fr.dU) a') (λ_ av n=>?_);obtain⟨nv,rfl,M,f3⟩:=Jn rfl n;refine⟨_,rfl,?_⟩;have ai:=J.trans (bC.ZK J.ob J.tr.size M f3);have M:=M.less J.tr.size;obtain⟨al,aq,rfl,bp,bu⟩:=M.form;refine ax ah [3,4] [(1,(.pointer (some ⟨s,0,none⟩))),(17,.agg #[(.slice al ns.length aq),.slice none 0 0])] rfl ⟨rfl,rfl,trivial⟩ ?_;have x:=x.b7 f3;refine l3 rfl rfl rfl rfl rfl rfl [(.slice al ns.length aq),.slice none 0 0] rfl ai.ob (λb w4 Q=>?_);generalize bz:(ηm al ns.length aq)=nv at*
 have hH:e7 w.heap.size (b::(nv.ownBlock.toList++(s::O))) w4 b nv (.slice none 0 0) [] [] (aL.mk ns []):=
  ⟨τ,μ ai.tr.size Q.ge,Q.bB,(M.own (λh=>h) λg n=>ξN _ (by rw[n];simp)).new Q,Own.iE,rfl,List.nodup_nil,λg n=>(by cases n),λe=>by
   have:=(M.lt b e).2;have:=Q.ge;omega,(ZB _),(UY _)⟩
 have aW:=ai.trans (bC.iH ai.tr.size Q);have x:=x.b7 Q.fr;refine ax ah [6] [(1,(.pointer (some ⟨s,0,none⟩))),(5,(.pointer (some ⟨b,0,none⟩)))] rfl ⟨rfl,rfl,trivial⟩ (aQ (aG (aF (aF (aT (l:=[0,1,2,3]) rfl (ax ah [0] [(5,(.pointer (some ⟨b,0,none⟩))),(19,(.pointer (some ⟨s,1,none⟩)))] rfl ⟨rfl,rfl,trivial⟩ (dP ah rfl rfl rfl rfl rfl rfl rfl x [U] rfl rfl (.inr rfl) U rfl ?_)))))));obtain⟨B,C,rfl,a8,a_⟩:=eS aA;refine ax ah [2,3] [(5,(.pointer (some ⟨b,0,none⟩))),(20,.slice B x0.ao.length C),(21,.int .i64 (x0.ao.length:Int)),(22,.int .i64 ((0:Nat):Int))] rfl ⟨rfl,rfl,rfl,rfl,trivial⟩ (aQ (aG ?_));obtain⟨bs,y,h⟩:=bind_some h;refine l2 ?_;refine Fz (λm E W=> ∃(rest:List aw) (i:Nat) (O':Γ) (acc:List aw) (rv:Value) (S:Γ) (ar:Γd),rest.length=m/\x0.ao.drop i=rest/\E=[(5,(.pointer (some ⟨b,0,none⟩))),(20,.slice B x0.ao.length C),(21,.int .i64 (x0.ao.length:Int)),(22,.int .i64 (i:Int))]/\bC w.heap.size O w O' W/\e7 w.heap.size O' W b nv rv S ar (aL.mk ns acc)/\mY rest acc=some bs) _
  [(5,(.pointer (some ⟨b,0,none⟩))),(20,.slice B x0.ao.length C),(21,.int .i64 (x0.ao.length:Int)),(22,.int .i64 ((0:Nat):Int))] ⟨rfl,rfl,rfl,rfl,trivial⟩ ⟨x0.ao,0,_,[],_,[],[],rfl,rfl,rfl,aW,hH,y⟩ ?_
 rintro m E W ⟨rest,i,an,acc,rv,S,ar,rfl,ak,rfl,K,hH,y⟩;rcases rest with _|⟨z,rest⟩
 ·have hl:=drop_nil ak;have A:(decide ((i:Int)<(x0.ao.length:Int)))=false:=decide_eq_false (by omega);refine aF (aT (l:=[0]) rfl (ax ah [0] [(5,(.pointer (some ⟨b,0,none⟩))),(23,.bool (decide ((i:Int)<(x0.ao.length:Int))))] rfl ⟨rfl,rfl,trivial⟩ (aQ (aG (aF (fz rfl A (Fy (om (om (FI (aG ?_)))))))))));refine aF (aT (l:=[0,1,2]) rfl (ax ah [0,1,2] [(2,(.pointer (some ⟨b,0,none⟩))),(3,.int .i64 0)] rfl ⟨rfl,rfl,trivial⟩ (aQ (aG (dk ?_)))));cases y;cases h;exact ez rfl ⟨_,_,rfl,K,λ_=>⟨b,rfl,_,_,_,_,hH⟩⟩
 obtain⟨hl,n,ak⟩:=drop_cons ak;have A:(decide ((i:Int)<(x0.ao.length:Int)))=true:=decide_eq_true (by omega);refine aF (aT (l:=[0]) rfl (ax ah [0] [(5,(.pointer (some ⟨b,0,none⟩))),(20,.slice B x0.ao.length C),(21,.int .i64 (x0.ao.length:Int)),(22,.int .i64 (i:Int)),(23,.bool (decide ((i:Int)<(x0.ao.length:Int))))] rfl ⟨rfl,rfl,rfl,rfl,rfl,trivial⟩ (aQ (aG (aF (fe rfl A (eo (aG (aF (l2 (aF (aT (l:=[0,1,2,3]) rfl (FH ah rfl rfl rfl rfl rfl rfl rfl rfl rfl rfl aA rfl (ζq _) (by rw[ι];exact n) (λbA bb=>?_))))))))))))));refine PA ah rfl rfl rfl rfl rfl rfl rfl bb K.fr rfl rfl (λv6 bf=>?_);obtain⟨bE,rfl,aN⟩:=adi.1 bf;obtain⟨G,H,rfl,br,bx⟩:=eS aN;refine qV ah rfl rfl rfl rfl rfl rfl [(.int .u64 0),(.slice none 0 0)] rfl K.ob (λq bI n7=>?_);have aC:=hH.new n7;have au:=K.trans (bC.iH K.tr.size n7);have bh:q≠b:=by have:=hH.bB.lt;have:=n7.ge;omega
 have bc:=hH.ns.LL n7;have bd:=hH.row.LL n7;refine eT ah rfl rfl rfl rfl rfl rfl rfl n7.bB [(.int .u64 z.aa),(.slice G z.a6.length H)] rfl rfl (by simp[υ]) rfl [(.int .u64 z.aa),(.slice G z.a6.length H)] rfl (λF aK f8=>?_);have I:=aC.st τ f8 bh bc bd;have L:=au.trans (bC.gg au.ob τ (μ K.tr.size n7.ge) f8);clear aC au;refine aQ (aG ?_);rw[mY] at y;obtain⟨ws,bg,y⟩:=bind_some y;obtain⟨bk,aI,y⟩:=bind_some y;obtain⟨X,Z,rfl,bq,bw⟩:=I.row.form;have ag:=L.ob;have hlen:ar.length=acc.length:=by have:=I.fo.len;simpa using this
 refine ad3 mixed [⟨26,[],[5]⟩,⟨27,[],[5]⟩,⟨28,[1],[]⟩,⟨29,[2],[]⟩,⟨30,[3],[]⟩,⟨31,[4],[]⟩,⟨32,[],[7]⟩,⟨33,[6],[]⟩,⟨34,[],[7]⟩,⟨35,[8],[]⟩,⟨36,[9],[]⟩,⟨37,[7,10],[]⟩,⟨38,[11],[]⟩]
  [SP.eq (.pointer (some ⟨b,0,none⟩)),SP.eq (.pointer (some ⟨b,0,none⟩)),SP.eq (.pointer (some ⟨b,0,none⟩)),SP.eq (.pointer (some ⟨b,0,none⟩)),SP.eq (.pointer (some ⟨b,1,none⟩)),SP.eq (.slice X ar.length Z),SP.eq (.pointer (some ⟨q,0,none⟩)),SP.eq (.int .u64 z.aa),SP.eq (.pointer (some ⟨q,1,none⟩)),SP.eq (.slice G z.a6.length H),SP.hQ TW gL 35 F.heap.size ws,SP.TP z.aa F.heap.size ws,SP.TM z.aa F.heap.size (q::an) ws] [some (.pointer (some ⟨b,0,none⟩)),none,none,none,none,none,none,none,none,none,none,none,none] 39 [5,12] [1,2,3,4,5,6,7,8,9,10,11,12] (λw1 w2 u=> ∃o O',cR TW 35 F.heap.size w1 o ws/\dc TR 132 w.heap.size (q::an) w1 (.slice X ar.length Z) (ar++[(z.aa,o)]) O' w2 u) rfl rfl rfl rfl rfl rfl ⟨λ_ _ h=>h,trivial⟩ ⟨?_,?_,?_,?_,?_,?_,?_,?_,?_,?_,?_,?_,?_,trivial⟩ ?_ ⟨?_,rfl,rfl,rfl,rfl,rfl,rfl,rfl,rfl,rfl,rfl,rfl,rfl,trivial⟩ ?_
 ·intro a w2 j c d k f;exact cB ah ⟨c,d,bQ (E:=[(5,(.pointer (some ⟨b,0,none⟩)))]) ⟨k 5 rfl _ rfl,trivial⟩⟩ rfl rfl rfl rfl rfl
 ·intro a w2 j c d k f;exact cB ah ⟨c,d,bQ (E:=[(5,(.pointer (some ⟨b,0,none⟩)))]) ⟨k 5 rfl _ rfl,trivial⟩⟩ rfl rfl rfl rfl rfl
 ·intro a w2 j c d k f;exact cB ah ⟨c,d,bQ (E:=[(27,(.pointer (some ⟨b,0,none⟩)))]) ⟨(f 1 rfl _ _ rfl rfl),trivial⟩⟩ rfl rfl rfl rfl rfl
 ·intro a w2 j c d k f;exact cB ah ⟨c,d,bQ (E:=[(28,(.pointer (some ⟨b,0,none⟩)))]) ⟨(f 2 rfl _ _ rfl rfl),trivial⟩⟩ rfl rfl rfl rfl rfl
 ·intro a w2 j c d k f;exact cB ah ⟨c,d,bQ (E:=[(29,(.pointer (some ⟨b,0,none⟩)))]) ⟨(f 3 rfl _ _ rfl rfl),trivial⟩⟩ rfl rfl rfl rfl rfl
 ·intro a w2 j c d k f;exact nJ ah ⟨c,d,bQ (E:=[(30,(.pointer (some ⟨b,1,none⟩)))]) ⟨(f 4 rfl _ _ rfl rfl),trivial⟩⟩ rfl rfl rfl rfl rfl rfl (I.bB.b7 j) [(.slice X ar.length Z)] rfl rfl (.inr rfl) (.slice X ar.length Z) rfl
 ·intro a w2 j c d k f;exact cB ah ⟨c,d,bQ (E:=[(7,(.pointer (some ⟨q,0,none⟩)))]) ⟨k 7 rfl _ rfl,trivial⟩⟩ rfl rfl rfl rfl rfl
 ·intro a w2 j c d k f;exact nJ ah ⟨c,d,bQ (E:=[(32,(.pointer (some ⟨q,0,none⟩)))]) ⟨(f 6 rfl _ _ rfl rfl),trivial⟩⟩ rfl rfl rfl rfl rfl rfl (aK.b7 j) [(.int .u64 z.aa)] rfl rfl (.inr rfl) (.int .u64 z.aa) rfl
 ·intro a w2 j c d k f;exact cB ah ⟨c,d,bQ (E:=[(7,(.pointer (some ⟨q,0,none⟩)))]) ⟨k 7 rfl _ rfl,trivial⟩⟩ rfl rfl rfl rfl rfl
 ·intro a w2 j c d k f;exact nJ ah ⟨c,d,bQ (E:=[(34,(.pointer (some ⟨q,1,none⟩)))]) ⟨(f 8 rfl _ _ rfl rfl),trivial⟩⟩ rfl rfl rfl rfl rfl rfl (aK.b7 j) [(.slice G z.a6.length H)] rfl rfl (.inr rfl) (.slice G z.a6.length H) rfl
 ·intro a w2 j c d k f;exact(ZZ (O:=[]) ⟨c,d,bQ (E:=[(35,(.slice G z.a6.length H))]) ⟨(f 9 rfl _ _ rfl rfl),trivial⟩⟩ rfl rfl rfl rfl Xo rfl ((acH (qh _) (ξa _) (aN.tr (L.fr.trans j).dU) bg).mono λ_ _ a1=>Jn rfl a1)).weaken (λu av ⟨hu,D⟩=>⟨hu.less j.size,D⟩)
 ·intro a w2 j c d k f;have d88:cR TW 35 F.heap.size w2 (a.tmps.getD 36 undef) ws:=f 10 rfl _ _ rfl rfl;obtain⟨u,az⟩: ∃v,a.tmps.getD 36 undef=v:=⟨_,rfl⟩;rw[az] at d88;obtain⟨V,Y,rfl,_,_⟩:=d88.form;exact(cB ah ⟨c,d,bQ (E:=[(33,(.int .u64 z.aa)),(36,(.slice V ws.length Y))]) ⟨(f 7 rfl _ _ rfl rfl),az,trivial⟩⟩ rfl rfl rfl rfl rfl).weaken (λu av ⟨hu,D⟩=>by subst hu;exact⟨⟨_,rfl,d88.b7 gL D⟩,D⟩)
 ·intro a w2 j c d k f;have d96: ∃v,(a.tmps.getD 37 undef)= .agg #[.int .u64 z.aa,v]/\cR TW 35 F.heap.size w2 v ws:=f 11 rfl _ _ rfl rfl;obtain⟨bD,aP,aB⟩:=d96;obtain⟨V,Y,rfl,_,_⟩:=aB.form;exact(Z1 ah ⟨c,d,bQ (E:=[(37,(.agg #[(.int .u64 z.aa),(.slice V ws.length Y)]))]) ⟨aP,trivial⟩⟩ rfl rfl rfl rfl rfl rfl rfl rfl rfl (T:=TR) (xs:=[(z.aa,(.slice V ws.length Y))]) (vs:=[(.agg #[(.int .u64 z.aa),(.slice V ws.length Y)])]) rfl ⟨⟨_,⟨rfl,_,_,_,rfl⟩,rfl⟩,trivial⟩ rfl rfl rfl (j.ob ag)).weaken (λu av ⟨hu,D⟩=>⟨⟨_,hu,aB.b7 gL D⟩,D⟩)
 ·intro a w2 j c d f;obtain⟨o,aM,P⟩: ∃v,TR.slice.is (q::an) w2 (a.tmps.getD 38 undef) [(z.aa,v)]/\cR TW 35 F.heap.size w2 v ws:=f 12 rfl _ _ rfl rfl;obtain⟨bj,ay⟩: ∃v,a.tmps.getD 38 undef=v:=⟨_,rfl⟩;rw[ay] at aM;obtain⟨aJ,_⟩:=HT (p:=(z.aa,o)) hlen aI;exact eK.weaken (ZY ah ⟨c,d,bQ (E:=[(31,(.slice X ar.length Z)),(38,bj)]) ⟨f 5 rfl _ _ rfl rfl,ay,trivial⟩⟩ rfl rfl rfl rfl rfl rfl rfl rfl rfl rfl rfl rfl rfl rfl rfl (L.fr.trans j) (j.ob ag) (I.row.b7 j) aM aJ) (λ_ _ ⟨O',h⟩=>⟨o,O',P,h⟩)
 ·rintro w1 w2 u bn ⟨o,O',P,ap⟩ a w' j c d k;exact cB ah ⟨c,d,bQ (E:=[(5,(.pointer (some ⟨b,0,none⟩)))]) ⟨k 5 rfl _ rfl,trivial⟩⟩ rfl rfl rfl rfl rfl
 rintro bJ bF u a bG f9 ⟨o,aO,P,ap⟩ f10 c d aj a7 hu;have ap:=dc.later ap f10;have t:=I.b7 f9;have aH:=L.trans (bC.nE ag L.tr.size f9);obtain⟨aJ,rfl⟩:=HT (p:=(z.aa,o)) hlen aI;have aE:=aH.trans (bC.D2 aH.tr.size t.row ap);obtain⟨ad,ae,rfl,bo,bt⟩:=ap.own.form;refine oh (E:=[(5,(.pointer (some ⟨b,0,none⟩))),(20,.slice B x0.ao.length C),(21,.int .i64 (x0.ao.length:Int)),(22,.int .i64 (i:Int)),(26,(.pointer (some ⟨b,0,none⟩))),(39,(.slice ad (ar++[(z.aa,o)]).length ae))]) (l:=[14,15,16,17]) c d ⟨aj 5 _ rfl rfl,aj 20 _ rfl rfl,aj 21 _ rfl rfl,aj 22 _ rfl rfl,(a7 0 _ _ rfl rfl),hu,trivial⟩ rfl (ax ah [14,15,16] [(5,(.pointer (some ⟨b,0,none⟩))),(20,.slice B x0.ao.length C),(21,.int .i64 (x0.ao.length:Int)),(22,.int .i64 (i:Int)),(39,(.slice ad (ar++[(z.aa,o)]).length ae)),(42,(.pointer (some ⟨b,1,none⟩)))] rfl ⟨rfl,rfl,rfl,rfl,rfl,rfl,trivial⟩ ?_);have aX:=ap.bB t.bB t.rb;refine eT ah rfl rfl rfl rfl rfl rfl rfl aX [(.slice ad (ar++[(z.aa,o)]).length ae)] rfl rfl (by simp[υ]) rfl [nv,(.slice ad (ar++[(z.aa,o)]).length ae)] rfl (λbH aY f11=>?_);have aV:=aE.trans (bC.gg aE.ob (ap.sub _ t.mem) t.ge f11);have ba:=XS P ag;have aU:=t.boxes (x':=aL.mk ns (acc++[aw.mk z.aa ws])) (S':=S++(o.ownBlock.toList++[])) ap aY f11
  (by rw[ξC];exact t.fo.app ⟨[],rfl,rfl,P.less (μ L.tr.size (ξa _)),rfl⟩)
  (by
   rw[ζd];refine ζ1.2 ⟨t.nd,by cases o.ownBlock<;>simp,λg n bl aZ e=>?_⟩;subst e;have h1:=(I.fo.lt _ n).2;have bm:=(P.lt g (by simpa using aZ)).1;omega)
  (λg n=>by
   rcases ξA.1 n with n|n
   ·exact t.out g n
   ·exact ba g (by simpa using n)) rfl
 refine aQ (qY (aG ?_));refine aT (l:=[0,1]) rfl (ax ah [0,1] [(5,(.pointer (some ⟨b,0,none⟩))),(20,.slice B x0.ao.length C),(21,.int .i64 (x0.ao.length:Int)),(22,(.int .i64 (γ.wrap ((i:Int)+(1:Int)))))] rfl ⟨rfl,rfl,rfl,rfl,trivial⟩ (aQ ?_));exact wO rest.length [(5,(.pointer (some ⟨b,0,none⟩))),(20,.slice B x0.ao.length C),(21,.int .i64 (x0.ao.length:Int)),(22,(.int .i64 ((i+1:Nat):Int)))] (ζa _) ⟨rfl,rfl,rfl,congrArg (λz=>some (ζJ .i64 z)) (l4 hl (μ a8 a_)),trivial⟩ ⟨rest,i+1,aO,_,_,_,_,rfl,ak,rfl,aV,aU,y⟩
noncomputable def pc (L:List (Value×Value)):Γb:=L.flatMap λp=>[p.1,p.2]
theorem fu: ∀(L:List (Value×Value)),(pc L).length=L.length*2
 |[]=>rfl
 |_::r=>by have:=fu r;unfold pc at this ⊢;simp[this];omega
theorem Ef (L M:List (Value×Value)):pc (L++M)=pc L++pc M:=by simp[pc]
theorem vB: ∀(L:List (Value×Value)) (k:Nat),(pc L).take (k*2)=pc (L.take k)
 |[],k=>by simp[pc]
 |x::r,0=>by simp[pc]
 |x::r,k+1=>by
  have:=vB r k;show([x.1,x.2]++pc r).take ((k+1)*2)=[x.1,x.2]++pc (r.take k);rw[show(k+1)*2=2+k*2 by omega,List.take_append,<-this,ξD (by simp)];simp
theorem vA: ∀(L:List (Value×Value)) (k:Nat),(pc L).drop (k*2)=pc (L.drop k)
 |[],k=>by simp[pc]
 |x::r,0=>by simp
 |x::r,k+1=>by
  have:=vA r k;show([x.1,x.2]++pc r).drop ((k+1)*2)=pc (r.drop k);rw[show(k+1)*2=2+k*2 by omega,List.drop_append,<-this];simp
theorem aas {L:List (Value×Value)} {R:Γb} {k:Nat} {x:Value×Value} (h:L[k]? =some x):((pc L++R).drop (k*2)).take 2=[x.1,x.2]:=by
 have hk:=(δ.1 h).1;rw[ξJ (by rw[fu];omega),vA,ξt hk,(δ.1 h).2];rfl
theorem aat {L:List (Value×Value)} {R:Γb} {k:Nat} {x:Value×Value} (hk:k<L.length):putAt (pc L++R) (k*2) [x.1,x.2]=pc (L.set k x)++R:=by
 unfold putAt;have e:L.set k x=L.take k++[x]++L.drop (k+1):=by
  rw[List.set_eq_take_append_cons_drop,if_pos hk];simp
 rw[e,Ef,Ef,ξg (by rw[fu];omega),vB,ξJ (by rw[fu];simp;omega)];rw[show k*2+[x.1,x.2].length=(k+1)*2 by simp;omega,vA];simp[pc]
noncomputable def rp (r:Int×Value):Value×Value:=(.int .u64 r.1,r.2)
noncomputable def rc (ar:Γd):Γb:=pc (ar.map rp)
theorem Ev {L:Γd} {R:Γb} {k:Nat} {x:Int×Value} (h:L[k]? =some x):((rc L++R).drop (k*2)).take 2=[.int .u64 x.1,x.2]:=
 aas (x:=rp x) (by simp[h])
theorem ML {L:Γd} {R:Γb} {k:Nat} {x:Int×Value} (hk:k<L.length):putAt (rc L++R) (k*2) [.int .u64 x.1,x.2]=rc (L.set k x)++R:=by
 have:=aat (L:=L.map rp) (R:=R) (x:=rp x) (k:=k) (by simpa using hk);rw[show[(rp x).1,(rp x).2]=[.int .u64 x.1,x.2] from rfl] at this;rw[rc,this,rc];simp[η9]
theorem Ex {O:Γ} {w:World}: ∀ {L:Γd},(∀r∈L,∃A n c,r.2= .slice A n c)->bH TR O w (rc L) L
 |[],_=>rfl
 |r::L,h=>⟨[.int .u64 r.1,r.2],rc L,rfl,⟨rfl,h r τ⟩,Ex λx a=>h x (ξ4 _ a)⟩
theorem EO {O:Γ} {w:World}: ∀ {L:Γd} {cs:Γb},bH TR O w cs L->cs=rc L/\ ∀r∈L,∃A n c,r.2= .slice A n c
 |[],_,h=>⟨h,by simp⟩
 |r::L,cs,⟨c1,c2,h1,b,d⟩=>by
  obtain⟨e,f⟩:=EO d;subst h1;rw[b.1,e];refine⟨rfl,λx a=>?_⟩;rcases ξB.1 a with rfl|a
  ·exact b.2
  ·exact f x a
noncomputable def Ni:Value->Nat
 | .slice _ n _=>n
 |_=>0
noncomputable def emp (r:Int×Value):Bool:=Ni r.2==0
noncomputable def hN:Γd->Nat->Int
 |[],_=> -1
 |r::rest,k=>bif emp r then(k:Int) else hN rest (k+1)
theorem W8 {n:Nat} {A:Option Addr} {c:Nat} {p:Int}:emp (p,.slice A n c)=((n:Int)==0):=by
 unfold emp Ni;cases h:n==0<;>simp_all
set_option maxRecDepth 100000 in
set_option maxHeartbeats 4000000 in
theorem JJ {O:Γ} {w:World} (hO:OB O w) {p:Int} {A:Option Addr} {n c:Nat}:Calls η 263 #[.agg #[.int .u64 p,.slice A n c]] w (gj (n3 Ty.bool) O w (emp (p,.slice A n c))):=by
 refine fV (args:=[.agg #[.int .u64 p,.slice A n c]]) (N:=7) η8 rfl rfl rfl (aF (aT (l:=[0,1]) rfl (l3 rfl rfl rfl rfl rfl rfl [.int .u64 p,.slice A n c] rfl hO (λa w1 n1=>?_))));refine ax ah [1] [(1,(.pointer (some ⟨a,0,none⟩)))] rfl ⟨rfl,trivial⟩ (aQ (aG (aF (aT (l:=[0,1,2,3,4]) rfl (ax ah [0] [(3,(.pointer (some ⟨a,1,none⟩)))] rfl ⟨rfl,trivial⟩ (dP ah rfl rfl rfl rfl rfl rfl rfl n1.bB [.slice A n c] rfl rfl (.inr rfl) (.slice A n c) rfl (ax ah [2,3,4] [(2,.bool ((n:Int)==0))] rfl ⟨rfl,trivial⟩ (aQ (aG (dk (ez rfl ⟨_,rfl,?_,n1.fr⟩)))))))))));exact jc.2 (by rw[W8];rfl)
set_option maxRecDepth 100000 in
set_option maxHeartbeats 4000000 in
theorem acL {O:Γ} {w:World} (hO:OB O w) {v:Value} {ar:Γd} (h:TR.slice.is [] w v ar):Calls η 294 #[v,.func (.func 263) #[] #[]] w (gj (n3 (Ty.int .i64)) O w (hN ar 0)):=by
 obtain⟨A,c,rfl,n,o⟩:=eS h;refine fV (args:=[.slice A ar.length c,.func (.func 263) #[] #[]]) (N:=19) η5 rfl rfl rfl (aF (aT (l:=[0]) rfl (ax ah [0] [(0,.slice A ar.length c),(1,.func (.func 263) #[] #[])] rfl ⟨rfl,rfl,trivial⟩ (aQ (aG (aF (aF (aT (l:=[0,1,2]) rfl (ax ah [0,1,2] [(0,.slice A ar.length c),(1,.func (.func 263) #[] #[]),(7,.int .i64 (ar.length:Int)),(8,.int .i64 ((0:Nat):Int))] rfl ⟨rfl,rfl,rfl,rfl,trivial⟩ (aQ (aG (l2 ?_))))))))))));refine Fz (λm E W=> ∃(rest:Γd) (i:Nat),rest.length=m/\ar.drop i=rest/\E=[(0,.slice A ar.length c),(1,.func (.func 263) #[] #[]),(7,.int .i64 (ar.length:Int)),(8,.int .i64 (i:Int))]/\Fr [] w W/\hN rest i=hN ar 0) _
  [(0,.slice A ar.length c),(1,.func (.func 263) #[] #[]),(7,.int .i64 (ar.length:Int)),(8,.int .i64 ((0:Nat):Int))] ⟨rfl,rfl,rfl,rfl,trivial⟩ ⟨ar,0,rfl,rfl,rfl,Fr.refl _ _,rfl⟩ ?_
 rintro m E W ⟨rest,i,rfl,g,rfl,a,b⟩;rcases rest with _|⟨z,rest⟩
 ·have hl:=drop_nil g;have d:(decide ((i:Int)<(ar.length:Int)))=false:=decide_eq_false (by omega);refine aF (aT (l:=[0]) rfl (ax ah [0] [(9,.bool (decide ((i:Int)<(ar.length:Int))))] rfl ⟨rfl,trivial⟩ (aQ (aG (aF (fz rfl d (Fy (om (om (FI (aG ?_)))))))))));refine aF (aT (l:=[0]) rfl (ax ah [0] [(4,.int .i64 (-1))] rfl ⟨rfl,trivial⟩ (aQ (aG (dk ?_)))));exact ez rfl ⟨_,rfl,dr.2 (by rw[<-b];rfl),a⟩
 obtain⟨hl,k,j⟩:=drop_cons g;have d:(decide ((i:Int)<(ar.length:Int)))=true:=decide_eq_true (by omega);refine aF (aT (l:=[0]) rfl (ax ah [0] [(0,.slice A ar.length c),(1,.func (.func 263) #[] #[]),(7,.int .i64 (ar.length:Int)),(8,.int .i64 (i:Int)),(9,.bool (decide ((i:Int)<(ar.length:Int))))] rfl ⟨rfl,rfl,rfl,rfl,rfl,trivial⟩ (aQ (aG (aF (fe rfl d (eo (aG (aF (l2 (aF (aT (l:=[0,1]) rfl (ax ah [0,1] [(0,.slice A ar.length c),(1,.func (.func 263) #[] #[]),(5,.int .i64 (i:Int)),(7,.int .i64 (ar.length:Int)),(8,.int .i64 (i:Int))] rfl ⟨rfl,rfl,rfl,rfl,rfl,trivial⟩ (aQ (aG (aF (aT (l:=[0,1,2,3,4,5]) rfl (ax ah [0,1,2] [(0,.slice A ar.length c),(1,.func (.func 263) #[] #[]),(5,.int .i64 (i:Int)),(7,.int .i64 (ar.length:Int)),(8,.int .i64 (i:Int)),(11,.func (.func 263) #[] #[]),(12,.slice A ar.length c),(13,.int .i64 (i:Int))] rfl ⟨rfl,rfl,rfl,rfl,rfl,rfl,rfl,rfl,trivial⟩ (FH ah rfl rfl rfl rfl rfl rfl rfl rfl rfl rfl h rfl (ζq _) (by rw[ι];exact k) (λt r=>?_))))))))))))))))))));refine PA ah rfl rfl rfl rfl rfl rfl rfl r a rfl rfl (λv6 s=>?_);obtain⟨cs,⟨rfl,A2,n2,c2,e⟩,rfl⟩:=s;obtain⟨p,q⟩:=z;simp only at e;subst e;refine Py (O:=O) (first:=[]) (cap:=[]) rfl rfl rfl rfl rfl rfl rfl IE (JJ (a.ob hO)) (λu x g7 f7=>?_);obtain rfl:=jc.1 g7;have a:=a.trans f7;rw[hN] at b;refine aQ (aG ?_);rcases f:emp (p,.slice A2 n2 c2) with _|_
 ·refine kI rfl (eo (qY (aG ?_)));refine aT (l:=[0,1]) rfl (ax ah [0,1] [(0,.slice A ar.length c),(1,.func (.func 263) #[] #[]),(7,.int .i64 (ar.length:Int)),(8,(.int .i64 (γ.wrap ((i:Int)+(1:Int)))))] rfl ⟨rfl,rfl,rfl,rfl,trivial⟩ (aQ ?_));rw[f] at b;exact wO rest.length [(0,.slice A ar.length c),(1,.func (.func 263) #[] #[]),(7,.int .i64 (ar.length:Int)),(8,(.int .i64 ((i+1:Nat):Int)))] (ζa _) ⟨rfl,rfl,rfl,congrArg (λz=>some (ζJ .i64 z)) (l4 hl (μ n o)),trivial⟩ ⟨rest,i+1,rfl,j,rfl,a,b⟩
 ·refine og rfl (aF (aT (l:=[0,1]) rfl (ax ah [0,1] [(4,.int .i64 (i:Int))] rfl ⟨rfl,trivial⟩ (aQ (aG (dk ?_))))));rw[f] at b;exact wN (ff (ff (wN (ff (ez rfl ⟨_,rfl,dr.2 (by rw[<-b];rfl),a⟩)))))
theorem IQ: ∀(L:Γd) (k:Nat),(hN L k= -1/\L.filter (λr=>!emp r)=L)\/ ∃i x,hN L k=((k+i:Nat):Int)/\L[i]? =some x/\emp x=true/\(L.take i).filter (λr=>!emp r)=L.take i
 |[],k=>.inl ⟨rfl,rfl⟩
 |r::L,k=>by
  rw[hN];cases b:emp r with
  |true=>exact .inr ⟨0,r,rfl,rfl,b,rfl⟩
  |false=>
   rcases IQ L (k+1) with⟨h1,a⟩|⟨i,x,h1,a,c,d⟩
   ·exact .inl ⟨h1,by rw[ξK,b];simp only[ξY,if_true];rw[a]⟩
   ·exact .inr ⟨i+1,x,by rw[show k+(i+1)=k+1+i by omega];exact h1,by simpa using a,c,by
     rw[List.take_succ_cons,ξK,b];simp only[ξY,if_true];rw[d]⟩
theorem IZ {p:Int×Value->Bool} {L:Γd} {j:Nat} {x:Int×Value} (h:L[j]? =some x):(L.take (j+1)).filter p=(L.take j).filter p++bif p x then[x] else[]:=by
 rw[ζw,h,List.filter_append];cases hp:p x<;>simp[hp]
theorem FD {P:Program} {r:Option Nat} {N:Nat} {Θ:cz} {ops:Array Oper} {Q:Exit->Act->World->Prop} {l:Γ} {E:Env} {ds:List Deferred} {w:World} {i:Nat} {o:Oper} (p:Θ.ok P) (A:ops[i]? =some o) (hw:want N ops E o.guard=some true) (y:o.dst=none) {t:Nat} {x:Operand} {j b:TI}
  (n:o.op= .call {callee:=.builtin .clear,args:= #[x],argTypes:= #[t]}) (C:Θ.get t=some j) (q:j.tag=5) (D:Θ.get j.e=some b) {g of m c e k:Nat} {cur:Array Value} (F:ev E x=some (.slice (some ⟨g,of,none⟩) (m+1) c)) (d:w.heap[g]? =some (.cells cur e (0,0))) (G:b.zero.cells.size=k) (h1: ∀u∈(ξ2 b.zero.cells (m+1)).toList,u.oneCell'=true) (H:of+(m+1)*k<=cur.size)
  (h: ∀(W:World) (new:Array Value),Fr [g] w W->W.heap[g]? =some (.cells new e (0,0))->new=(cur.toList.take of++(ξ2 b.zero.cells (m+1)).toList++cur.toList.drop (of+(m+1)*k)).toArray->WO P r N ops Q l E ds W):WO P r N ops Q (i::l) E ds w:=by
 have hu:=(p.fits C).slice q;have hl:(ξ2 b.zero.cells (m+1)).toList.length=(m+1)*k:=by rw[χ,size_zeroCells,G]
 have f:=run_storeCells_at P g of e (ξ2 b.zero.cells (m+1)).toList 0 cur w d (by rw[hl];omega) h1;rw[hl] at f;simp only[ξy] at f;have B:(ζO #[t] o.type #[.slice (some ⟨g,of,none⟩) (m+1) c]).run P w= .ok (.tuple #[]) (w.setRow g (cur.toList.take of++(ξ2 b.zero.cells (m+1)).toList++cur.toList.drop (of+(m+1)*k)).toArray):=by
  simp only[ζO,ξx,List.getElem?_toArray,ξ9,run_underlying hu,ξr];simp[l5 (p.fits D),f]
 have z:=h (w.setRow g (cur.toList.take of++(ξ2 b.zero.cells (m+1)).toList++cur.toList.drop (of+(m+1)*k)).toArray) _ (jJ d) (by simp only[ηa,ζf,d,if_true,ω]) rfl;refine ad9 (v:=.tuple #[]) A hw y (by rw[n];simp) (λa s=>?_) z;simp only[execOp,n,ξx,resolve,ζe,ξr,invoke,builtin,ζ9,ξz,ξV,s.eval F,B]
theorem PD {n:Nat} {a b u:Value} (c:a.oneCell'=true) (d:b.oneCell'=true) (h:u∈(ξ2 (ηb #[a,b]).cells n).toList):u.oneCell'=true:=by
 simp only[ξ2,Value.cells,Array.toList_map,ζC] at h;obtain⟨i,_,rfl⟩:=h;rcases Nat.mod_two_eq_zero_or_one i with h|h<;>simp[h,c,d]
set_option maxRecDepth 100000 in
set_option maxHeartbeats 4000000 in
theorem acI {O:Γ} {w:World} (hO:OB O w) {B:Nat} {v:Value} {ar:Γd} (f:Go.Dc.Own TR 132 B O w v ar):Calls η 262 #[v,.func (.func 263) #[] #[]] w (eB TR 132 B O w v (ar.filter λr=>!emp r)):=by
 obtain⟨A,c,rfl,a',a1⟩:=f.form;refine fV (args:=[.slice A ar.length c,.func (.func 263) #[] #[]]) (N:=42) η7 rfl rfl rfl (aF (aT (l:=[0]) rfl (ax ah [0] [(0,.slice A ar.length c),(1,.func (.func 263) #[] #[])] rfl ⟨rfl,rfl,trivial⟩ (aQ (aG (aF (aT (l:=[0,1,2,3]) rfl (ax ah [0,1] [(0,.slice A ar.length c),(1,.func (.func 263) #[] #[]),(8,.slice A ar.length c),(9,.func (.func 263) #[] #[])] rfl ⟨rfl,rfl,rfl,rfl,trivial⟩ ?_))))))));refine wM rfl rfl rfl rfl rfl Xl rfl (acL hO (f.hQ.data (Eu _) (λ_ _ h=>by cases h))) (λv2 w2 g2 f2=>?_);obtain rfl:=dr.1 g2;refine ax ah [3] [(0,.slice A ar.length c),(1,.func (.func 263) #[] #[]),(5,.int .i64 (hN ar 0))] rfl ⟨rfl,rfl,rfl,trivial⟩ (aQ (aG (aF (aF (aT (l:=[0,1]) rfl (ax ah [0,1] [(0,.slice A ar.length c),(1,.func (.func 263) #[] #[]),(5,.int .i64 (hN ar 0)),(12,.bool ((hN ar 0)== -1))] rfl ⟨rfl,rfl,rfl,rfl,trivial⟩ (aQ (aG ?_))))))));rcases IQ ar 0 with⟨d,aC⟩|⟨i0,x0,d,ae,aA,aB⟩
 ·refine fe rfl (by rw[d];rfl) ?_;refine aF (aT (l:=[0,1]) rfl (ax ah [0,1] [(4,.slice A ar.length c)] rfl ⟨rfl,trivial⟩ (aQ (aG (dk (ff (ez rfl ⟨_,O,rfl,?_⟩)))))));rw[aC];exact⟨f.b7 f2,f2.dU,f2.ob hO,Sub.refl _,λk hk _=>f2.block k hk (by simp),λ_ _ h=>h⟩
 rw[ψ] at d;refine fz rfl (by rw[d];exact beq_eq_false_iff_ne.2 (by omega)) ?_;rw[d];refine eo (aG ?_);obtain⟨cs,⟨aZ,F⟩,aM⟩:=f.ex;have aa:=(δ.1 ae).1;rcases F with⟨_,a8⟩|⟨g,cap,cur,F,ai,aE,ab,ay,V,X⟩
 ·omega
 injection F with ag a_ aw;subst ag;subst aw;have aD:=f.mem g rfl;obtain⟨az,Z⟩:=EO aM;have an:TR.n=2:=rfl;rw[an] at V X;obtain⟨R,al⟩: ∃R,R=cur.toList.drop (ar.length*2):=⟨_,rfl⟩;have Y:cur.toList=rc ar++R:=by
  rw[al,<-az,<-X];exact(ξd _ _).symm
 have aY:ar.length*2+R.length=c*2:=by
  have:=congrArg ζ5 Y;rw[χ,V] at this;simp only[ν,rc,fu,ρ] at this;omega
 have s:bz w g 132 (rc ar++R):=by
  unfold bz;rw[<-Y,ξO];exact aE
 have aq:=s.b7 f2;have aR:γ.wrap ((i0:Int)+1)=((i0+1:Nat):Int):=l4 aa (by omega);refine aF (aF (aT (l:=[0,1,2]) rfl (ax ah [0,1,2] [(0,.slice (some ⟨g,0,none⟩) ar.length c),(1,.func (.func 263) #[] #[]),(5,.int .i64 (i0:Int)),(6,.int .i64 (γ.wrap ((i0:Int)+1)))] rfl ⟨rfl,rfl,rfl,rfl,trivial⟩ ?_)));rw[aR];refine aQ (aG (l2 ?_));refine Fz (λm E W=> ∃(i j:Nat) (M:Γd),ar.length-j=m/\i<j/\j<=ar.length/\E=[(0,.slice (some ⟨g,0,none⟩) ar.length c),(1,.func (.func 263) #[] #[]),(5,.int .i64 (i:Int)),(6,.int .i64 (j:Int))]/\Fr [g] w W/\bz W g 132 (rc M++R)/\M.length=ar.length/\M.take i=(ar.take j).filter (λr=>!emp r)/\M.drop j=ar.drop j) _
  [(0,.slice (some ⟨g,0,none⟩) ar.length c),(1,.func (.func 263) #[] #[]),(5,.int .i64 (i0:Int)),(6,.int .i64 ((i0+1:Nat):Int))] ⟨rfl,rfl,rfl,rfl,trivial⟩ ⟨i0,i0+1,ar,rfl,ζa _,aa,rfl,f2.more (by simp),aq,rfl,by rw[IZ ae,aB,aA];simp,rfl⟩ ?_
 rintro m E W ⟨i,j,M,hm,a6,a7,rfl,a,t,Q,b,L⟩;refine aF (aF (aT (l:=[0,1,2,3]) rfl (ax ah [0,1,2,3] [(0,.slice (some ⟨g,0,none⟩) ar.length c),(1,.func (.func 263) #[] #[]),(5,.int .i64 (i:Int)),(6,.int .i64 (j:Int)),(19,.bool (decide ((j:Int)<(ar.length:Int))))] rfl ⟨rfl,rfl,rfl,rfl,rfl,trivial⟩ (aQ (aG ?_)))))
 by_cases D:j<ar.length
 case neg=>
  refine fz rfl (decide_eq_false (by omega)) ?_;refine Fy (om (om (FI (aG ?_))));refine aF (aT (l:=[0,1,2,3]) rfl (ax ah [0,1] [(0,.slice (some ⟨g,0,none⟩) ar.length c),(5,.int .i64 (i:Int)),(36,.slice (some ⟨g,0,none⟩) ar.length c),(37,.int .i64 (i:Int))] rfl ⟨rfl,rfl,rfl,rfl,trivial⟩ (qW ah rfl rfl rfl rfl rfl rfl rfl rfl rfl rfl ab (by omega) ?_)));rw[if_neg (by omega),ω,eC,ψ];obtain⟨q,aL⟩: ∃q,ar.length-i=q+1:=⟨ar.length-i-1,by omega⟩;rw[aL];have aP:(rc M++R).length=c*2:=by simp only[ν,rc,fu,ρ];omega
  refine FD (k:=2) ah rfl rfl rfl rfl rfl rfl rfl rfl t rfl (λu hu=>PD rfl rfl hu) (by simp only[ζ2,aP];show i*2+(q+1)*2<=c*2;omega) (λaf new aO aN aJ=>?_);have aj:Fr [g] w af:=a.trans aO;have ba:(rc M++R).take (i*2)=rc (M.take i):=by
   unfold rc;rw[ξg (by rw[fu,ρ];omega),vB,ζ6]
  have ad:new.toList=rc (M.take i)++((ξ2 (ηb #[.int .u64 0,.slice none 0 0]).cells (q+1)).toList++(rc M++R).drop (i*2+(q+1)*2)):=by
   rw[aJ];simp only[ξR,ξs]
   congr 1
  have aK:new.size=c*2:=by
   rw[<-χ,ad];simp only[ν,ξL,χ,size_zeroCells,rc,fu,ρ,ξh];show min i M.length*2+((q+1)*2+(M.length*2+R.length-(i*2+(q+1)*2)))=c*2;omega
  refine aQ (aG (aF (aT (l:=[0,1,2,3]) rfl (ax ah [0,1] [(39,.slice (some ⟨g,0,none⟩) ar.length c),(40,.int .i64 (i:Int))] rfl ⟨rfl,rfl,trivial⟩ (FF ah rfl rfl rfl rfl rfl rfl rfl rfl rfl rfl ab (by omega) ?_)))));refine ax ah [3] [(4,.slice (some ⟨g,0,none⟩) i c)] rfl ⟨rfl,trivial⟩ (aQ (aG (dk (ez rfl ⟨_,O,rfl,?_⟩))));have aI:ar.take j=ar:=ξD (by omega);rw[aI] at b;have aH:(ar.filter λr=>!emp r).length=i:=by rw[<-b,ξh];omega
  have:=qZ (T:=TR) (e:=132) (B:=B) (n0:=ar.length) (zs:=ar.filter λr=>!emp r) (cap:=c) hO aD ai aj aN aK ay (by omega) (Ex λx aS=>Z x (ξQ.1 aS).1) (by
   rw[ad,b];refine ξS ?_;rw[rc,fu,ρ];rfl)
  rw[aH] at this;exact this
 refine fe rfl (decide_eq_true (by omega)) ?_;refine eo (aG ?_);obtain⟨z,G⟩: ∃x,ar[j]? =some x:=⟨_,ε D⟩;have ak:M[j]? =some z:=by
  have:=congrArg (·[0]?) L;simp only[ξW,ξy] at this;rw[this,G]
 obtain⟨A2,n2,c2,I⟩:=Z z (ξ3 G);obtain⟨p,q⟩:=z;simp only at I;subst I;have P: ∀(C:Γd),(∀k,j<k->C[k]? =M[k]?)->C.drop (j+1)=ar.drop (j+1):=by
  intro C h;apply ζx;intro k;have:=congrArg (·[k+1]?) L;simp only[ξW] at this ⊢;rw[h _ (by omega),show j+1+k=j+(k+1) by omega,this]
 have H: ∀j:Nat,(j:Int).toNat*({tag:=8,k:=0,e:=0,fs:=[(29,0),(40,1)],size:=2,bytes:=32,zero:=.agg #[.int .u64 0,.slice none 0 0]}:TI).size=j*2:=λj=>by rw[ι]
 refine aF (l2 (aF (aT (l:=[0,1,2,3,4,5]) rfl (ax ah [0,1] [(0,.slice (some ⟨g,0,none⟩) ar.length c),(1,.func (.func 263) #[] #[]),(5,.int .i64 (i:Int)),(6,.int .i64 (j:Int)),(22,.slice (some ⟨g,0,none⟩) ar.length c),(23,.int .i64 (j:Int))] rfl ⟨rfl,rfl,rfl,rfl,rfl,rfl,trivial⟩ (oj ah rfl rfl rfl rfl rfl rfl rfl rfl rfl rfl (by omega) (by rw[ι];omega) ?_)))));rw[H,eC,ψ];refine dP ah rfl rfl rfl rfl rfl rfl rfl t [.int .u64 p,.slice A2 n2 c2] (Ev ak) rfl (.inl rfl) (.agg #[.int .u64 p,.slice A2 n2 c2]) rfl (qV ah rfl rfl rfl rfl rfl rfl [(.int .u64 0),(.slice none 0 0)] rfl (a.ob hO) (λo bc n7=>?_));refine eT ah rfl rfl rfl rfl rfl rfl rfl n7.bB [.int .u64 p,.slice A2 n2 c2] rfl rfl (by simp[υ]) rfl [.int .u64 p,.slice A2 n2 c2] rfl (λaV S f8=>?_);have aU:g≠o:=by have:=t.lt;have:=n7.ge;omega
 have av:=(t.b7 n7.fr).fr f8 (by simp;exact aU);have J:Fr [g] w aV:=by
  refine⟨f8.os.trans (n7.fr.os.trans a.os),f8.tape.trans (n7.fr.tape.trans a.tape),f8.output.trans (n7.fr.output.trans a.output),μ a.size (μ n7.fr.size f8.size),λk hk hn=>?_⟩;have h1:=a.size;have aW:=n7.ge;have aX:=n7.fr.size;rw[f8.block k (by omega) (by simp;omega),n7.fr.block k (by omega) (by simp),a.block k hk hn]
 refine aQ (aG (aF (aT (l:=[0,1,2,3]) rfl (ax ah [0] [(0,.slice (some ⟨g,0,none⟩) ar.length c),(1,.func (.func 263) #[] #[]),(5,.int .i64 (i:Int)),(6,.int .i64 (j:Int)),(7,(.pointer (some ⟨o,0,none⟩))),(26,.func (.func 263) #[] #[])] rfl ⟨rfl,rfl,rfl,rfl,rfl,rfl,trivial⟩ (dP ah rfl rfl rfl rfl rfl rfl rfl S [.int .u64 p,.slice A2 n2 c2] rfl rfl (.inl rfl) (.agg #[.int .u64 p,.slice A2 n2 c2]) rfl (Py (O:=O) (first:=[]) (cap:=[]) rfl rfl rfl rfl rfl rfl rfl IE (JJ (J.ob hO)) (λv9 bd g9 f9=>?_)))))));obtain rfl:=jc.1 g9;have K:=J.trans (f9.more (by simp));have U:=av.b7 f9;have au:=S.b7 f9;refine ax ah [3] [(0,.slice (some ⟨g,0,none⟩) ar.length c),(1,.func (.func 263) #[] #[]),(5,.int .i64 (i:Int)),(6,.int .i64 (j:Int)),(7,(.pointer (some ⟨o,0,none⟩))),(29,.bool (!emp (p,.slice A2 n2 c2)))] rfl ⟨rfl,rfl,rfl,rfl,rfl,rfl,trivial⟩ (aQ (aG ?_));have y:=IZ (p:=λr=>!emp r) G;rcases s:emp (p,.slice A2 n2 c2) with _|_
 ·rw[s] at y;refine og rfl (aF (aT (l:=[0,1,2,3,4]) rfl (ax ah [0,1] [(0,.slice (some ⟨g,0,none⟩) ar.length c),(1,.func (.func 263) #[] #[]),(5,.int .i64 (i:Int)),(6,.int .i64 (j:Int)),(7,(.pointer (some ⟨o,0,none⟩))),(30,.slice (some ⟨g,0,none⟩) ar.length c),(31,.int .i64 (i:Int))] rfl ⟨rfl,rfl,rfl,rfl,rfl,rfl,rfl,trivial⟩ (dP ah rfl rfl rfl rfl rfl rfl rfl au [.int .u64 p,.slice A2 n2 c2] rfl rfl (.inl rfl) (.agg #[.int .u64 p,.slice A2 n2 c2]) rfl (oj ah rfl rfl rfl rfl rfl rfl rfl rfl rfl rfl (by omega) (by rw[ι];omega) ?_)))));rw[H,eC,ψ];refine eT ah rfl rfl rfl rfl rfl rfl rfl U [.int .u64 p,.slice A2 n2 c2] rfl rfl (by simp[υ]) (ξe (by simp only[ν,rc,fu,ρ];show i*2+2<=_;omega)) (rc (M.set i (p,.slice A2 n2 c2))++R) (ML (x:=(p,.slice A2 n2 c2)) (by omega)) (λbb ao f10=>?_);refine aQ (aG (aT (l:=[0,1,2]) rfl (ax ah [0,1,2] [(0,.slice (some ⟨g,0,none⟩) ar.length c),(1,.func (.func 263) #[] #[]),(5,.int .i64 (γ.wrap ((i:Int)+1))),(6,.int .i64 (j:Int))] rfl ⟨rfl,rfl,rfl,rfl,trivial⟩ ?_)));rw[l4 (show i<ar.length by omega) (by omega)];refine aQ (qY (aG ?_));refine aT (l:=[0,1,2]) rfl (ax ah [0,1,2] [(0,.slice (some ⟨g,0,none⟩) ar.length c),(1,.func (.func 263) #[] #[]),(5,.int .i64 ((i+1:Nat):Int)),(6,.int .i64 (γ.wrap ((j:Int)+1)))] rfl ⟨rfl,rfl,rfl,rfl,trivial⟩ ?_);rw[l4 D (by omega)];refine aQ ?_;refine wO (ar.length-(j+1)) [(0,.slice (some ⟨g,0,none⟩) ar.length c),(1,.func (.func 263) #[] #[]),(5,.int .i64 ((i+1:Nat):Int)),(6,.int .i64 ((j+1:Nat):Int))] (by omega) ⟨rfl,rfl,rfl,rfl,trivial⟩ ⟨i+1,j+1,M.set i (p,.slice A2 n2 c2),rfl,by omega,by omega,rfl,K.trans f10,ao,by rw[ξT];exact Q,?_,P _ (λk hk=>List.getElem?_set_ne (by omega))⟩;rw[y,<-b,ζw,List.take_set_of_le (by omega),List.getElem?_set_self (by omega)];rfl
 ·rw[s] at y;refine kI rfl (eo (qY (aG ?_)));refine aT (l:=[0,1,2]) rfl (ax ah [0,1,2] [(0,.slice (some ⟨g,0,none⟩) ar.length c),(1,.func (.func 263) #[] #[]),(5,.int .i64 (i:Int)),(6,.int .i64 (γ.wrap ((j:Int)+1)))] rfl ⟨rfl,rfl,rfl,rfl,trivial⟩ ?_);rw[l4 D (by omega)];refine aQ ?_;refine wO (ar.length-(j+1)) [(0,.slice (some ⟨g,0,none⟩) ar.length c),(1,.func (.func 263) #[] #[]),(5,.int .i64 (i:Int)),(6,.int .i64 ((j+1:Nat):Int))] (by omega) ⟨rfl,rfl,rfl,rfl,trivial⟩ ⟨i,j+1,M,rfl,by omega,by omega,rfl,K,U,Q,?_,P M (λ_ _=>rfl)⟩;rw[y,<-b];simp
end Go.Proofs.YtoggponeookhbaaGreatDoor
end
section


end
section
namespace Go.Proofs.YtoggponeookhbaaGreatDoor
open Go.RowKit Go.Dc Go.Vx
theorem I8: ∀ {S:Γ} {rs:Γd} {xs:List (Int×Γa)} {B:Nat} {w:World} {k:Nat} {r:Int×Value} {y:Int×Γa},cV TW 35 B w S rs xs->rs[k]? =some r->xs[k]? =some y->r.1=y.1/\cR TW 35 B w r.2 y.2/\ ∀g,r.2.ownBlock=some g->g∈S
 |_,x::rs,z::xs,_,_,0,r,y,⟨m,h1,f,j,l⟩,d,e=>by
  simp at d e;subst d;subst e;exact⟨h1,j,λg i=>by rw[f,i];simp⟩
 |_,x::rs,z::xs,_,_,k+1,r,y,⟨m,h1,f,j,l⟩,d,e=>by
  obtain⟨a,b,c⟩:=I8 l (by simpa using d) (by simpa using e);exact⟨a,b,λg i=>by rw[f];exact ξm _ (c g i)⟩
 |_,[],_,_,_,_,_,_,_,d,_=>by simp at d
 |_,_::_,[],_,_,_,_,_,h,_,_=>h.elim
theorem abS {B:Nat} {a:Γ} {w:World} {rv:Value} {S:Γ} {ar:Γd} {bs:List aw} (q:cR TR 132 B w rv ar) (b:cV TW 35 B w S ar (bs.map bx)) (h1: ∀g,rv.ownBlock=some g->g∉a) (i: ∀g∈S,g∉a):(Ty.slice iO).is a w rv bs:=by
 have hlen:ar.length=bs.length:=by have:=b.len;simpa using this
 obtain⟨cs,⟨A,c,m,hl,t⟩,s⟩:=q.data (Eu _) h1;refine⟨cs,⟨A,c,by rw[<-hlen];exact m,by rw[<-hlen];exact hl,λk z hk=>?_⟩,s⟩;have d:k<ar.length:=by rw[hlen];exact(δ.1 hk).1
 obtain⟨ad,es,j,l,p,r,n⟩:=t k _ (ε d);obtain⟨e,f,h⟩:=I8 b (ε d) (show(bs.map bx)[k]? =some (bx z) by simp[hk]);refine⟨ad,es,j,l,p,?_,n⟩;refine⟨[.int .u64 z.aa],[ar[k].2],?_,rfl,lN rfl (f.data gL λg o=>i g (h g o))⟩;rw[r.1,e];rfl
theorem e7.T5 {B:Nat} {O d:Γ} {w:World} {b:Nat} {nv rv:Value} {S:Γ} {ar:Γd} {x:aL} (h:e7 B O w b nv rv S ar x) (hO: ∀g∈d,g<B):(Ty.slice iO).is d w rv x.ao:=
 abS h.row.hQ h.fo (λg a c=>by have:=(h.row.lt g a).1;have:=hO g c;omega) (λg a c=>by have:=(h.fo.lt g a).1;have:=hO g c;omega)
theorem wu:dT.Flat:=λh=>h
noncomputable def lW (x:aL):aL:=aL.mk x.au (x.ao.filter λz=>!(z.a6.length==0))
noncomputable def uD (fuel:Sh) (x:aL) (pid:Int):Option (aL×Int):=(C6 fuel x.ao pid).bind λf=>bif (!f.2) then(hv 32 x.ao f.1 [aw.mk pid []]).bind λbs=>some (aL.mk x.au bs,f.1) else some (x,f.1)
set_option maxRecDepth 100000 in
set_option maxHeartbeats 4000000 in
theorem YA {O:Γ} {w:World} (hO:OB O w) {B b:Nat} {x:aL} (n:cC KK [] w) (e:B<=w.heap.size) (h:jT B O w b x) {pid:Int} {r:aL×Int} (a:uD shut x pid=some r):
  Calls η 261 #[.pointer (some ⟨b,0,none⟩),.int .u64 pid] w (λm w'=>m= .returned (.int .i64 r.2)/\ ∃O',bC B O w O' w'/\jT B O' w' b r.1):=by
 obtain⟨nv,rv,S,ar,h⟩:=h;unfold uD at a;refine fV (args:=[.pointer (some ⟨b,0,none⟩),.int .u64 pid]) (N:=34) η6 rfl rfl rfl (aF (aT (l:=[0]) rfl (ax ah [0] [(0,(.pointer (some ⟨b,0,none⟩))),(1,.int .u64 pid)] rfl ⟨rfl,rfl,trivial⟩ (aQ (aG (aF (aT (l:=[0,1,2,3,4,5,6,7,8,9,10,11]) rfl (ax ah [0,1,2,3] [(0,(.pointer (some ⟨b,0,none⟩))),(1,.int .u64 pid),(11,(.pointer (some ⟨b,1,none⟩)))] rfl ⟨rfl,rfl,rfl,trivial⟩ ?_))))))));obtain⟨A1,c1,rfl,_,_⟩:=h.row.form;refine dP ah rfl rfl rfl rfl rfl rfl rfl h.bB [.slice A1 ar.length c1] rfl rfl (.inr rfl) (.slice A1 ar.length c1) rfl (ax ah [5] [(0,(.pointer (some ⟨b,0,none⟩))),(1,.int .u64 pid),(12,.slice A1 ar.length c1),(13,.int .u64 pid)] rfl ⟨rfl,rfl,rfl,rfl,trivial⟩ ?_);obtain⟨f,u,a⟩:=bind_some a;refine wM rfl rfl rfl rfl rfl Xj rfl (YB (qh _) n (h.T5 (λ_ y=>by cases y)) u) (λv2 w2 g2 f2=>?_);obtain⟨_,_,rfl,F,G⟩:=g2;obtain rfl:=dr.1 F;obtain rfl:=jc.1 G;have h:=h.b7 f2;have c:bC B O w O w2:=bC.nE hO e f2;refine ax ah [7,8,9,10,11] [(0,(.pointer (some ⟨b,0,none⟩))),(1,.int .u64 pid),(5,.int .i64 f.1),(6,.bool f.2)] rfl ⟨rfl,rfl,rfl,rfl,trivial⟩ (aQ (aG (aF (aF (aT (l:=[0,1]) rfl (ax ah [0,1] [(0,(.pointer (some ⟨b,0,none⟩))),(1,.int .u64 pid),(5,.int .i64 f.1),(18,.bool (!f.2))] rfl ⟨rfl,rfl,rfl,rfl,trivial⟩ (aQ (aG ?_))))))));rcases ic a with⟨i,a⟩|⟨i,a⟩
 rotate_left
 ·refine fz rfl i (eo (aG (aF (aT (l:=[0,1]) rfl (ax ah [0,1] [(4,.int .i64 f.1)] rfl ⟨rfl,trivial⟩ (aQ (aG (dk ?_))))))));cases a;exact ez rfl ⟨rfl,_,c,_,_,_,_,h⟩
 refine fe rfl i ?_;obtain⟨bs,s,a⟩:=bind_some a;cases a;refine aT (l:=[0,1,2,3,4,5,6,7,8,9,10,11,12,13,14]) rfl (ax ah [0,1,2,3,4] [(1,.int .u64 pid),(5,.int .i64 f.1),(19,(.pointer (some ⟨b,0,none⟩))),(23,(.pointer (some ⟨b,1,none⟩)))] rfl ⟨rfl,rfl,rfl,rfl,trivial⟩ (dP ah rfl rfl rfl rfl rfl rfl rfl h.bB [.slice A1 ar.length c1] rfl rfl (.inr rfl) (.slice A1 ar.length c1) rfl (ax ah [6,7,8] [(5,.int .i64 f.1),(19,(.pointer (some ⟨b,0,none⟩))),(24,.slice A1 ar.length c1),(25,.int .i64 f.1),(27,.agg #[.int .u64 pid,.slice none 0 0])] rfl ⟨rfl,rfl,rfl,rfl,rfl,trivial⟩ (Pz ah rfl rfl rfl rfl rfl rfl rfl rfl rfl rfl (T:=TR) (xs:=[(pid,.slice none 0 0)]) (vs:=[.agg #[.int .u64 pid,.slice none 0 0]]) rfl ⟨⟨_,⟨rfl,_,_,_,rfl⟩,rfl⟩,trivial⟩ rfl rfl rfl c.ob (λI H d=>?_)))));have h:=h.b7 d.fr;have g:=c.trans (bC.nE c.ob (μ e c.tr.size) d.fr);have t:=d.data c.ob;have A:=(d.own (B:=0) (Nat.zero_le _)).plain;have j:B<=H.heap.size:=μ e g.tr.size;obtain⟨C,D,E,rfl⟩:=JP s;have hlen:ar.length=x.ao.length:=by have:=h.fo.len;simpa using this
 have z:we ar f.1 [(pid,.slice none 0 0)]=some (ar.take f.1.toNat++[(pid,.slice none 0 0)]++ar.drop f.1.toNat):=by
  unfold we hv;rw[if_pos ⟨C,by rw[hlen];exact D,by rw[hlen];exact E⟩]
 refine PB rfl rfl rfl rfl rfl Xk rfl (acM g.ob j h.row (dr.2 rfl) t A z) (λK w' O' ap=>?_);have k:=g.trans (bC.D2 j h.row ap);have p:=ap.bB h.bB h.rb;obtain⟨A2,c2,rfl,_,_⟩:=ap.own.form;have v:=h.fo.ins f.1.toNat pid (by rw[hlen];omega);generalize J:(ar.take f.1.toNat++[(pid,.slice none 0 0)]++ar.drop f.1.toNat)=L at*
 refine ax ah [11,12,13] [(5,.int .i64 f.1),(29,.slice A2 L.length c2),(32,(.pointer (some ⟨b,1,none⟩)))] rfl ⟨rfl,rfl,rfl,trivial⟩ (eT ah rfl rfl rfl rfl rfl rfl rfl p [.slice A2 L.length c2] rfl rfl (by simp[υ]) rfl [nv,.slice A2 L.length c2] rfl (λM q f5=>?_));have o:=k.trans (bC.gg k.ob (ap.sub _ h.mem) h.ge f5);refine aQ (aG (aF (aT (l:=[0,1]) rfl (ax ah [0,1] [(4,.int .i64 f.1)] rfl ⟨rfl,trivial⟩ (aQ (aG (dk (ez rfl ⟨rfl,_,o,_,_,_,_,h.boxes (x':=aL.mk x.au (x.ao.take f.1.toNat++[aw.mk pid []]++x.ao.drop f.1.toNat)) ap q f5 ?_ h.nd h.out rfl⟩))))))));simpa[ζ6,ζr,bx] using v
theorem ad' {P:Program} {r:Option Nat} {N:Nat} {ops:Array Oper} {Q:Exit->Act->World->Prop} {l:Γ} {E:Env} {ds:List Deferred} {w:World} {i d:Nat} {o:Oper} (m:ops[i]? =some o) (hw:want N ops E o.guard=some true) (k:o.dst=some d) (c:ηl d N=true) {x:Operand} {args:Array Operand} {q:Array TypeId} (b:o.op= .call {callee:=.value x,args:=args,argTypes:=q})
  {g:FuncId} {first cap vs:Γb} (p:ev E x=some (.func (.func g) first.toArray cap.toArray)) (n:gM E args.toList=some vs) (he: ∀(vs:Array Value) (u:World),(callFunc g vs).run P u= .ok (.enter g vs) u)
  {R:Ending->World->Prop} (j:Calls P g (first++vs++cap).toArray w R) (h: ∀e w',R e w'-> ∃v,e= .returned v/\WO P r N ops Q l ((d,v)::E) ds w'):WO P r N ops Q (i::l) E ds w:=
 FG m hw k c (by rw[b];simp) (λa f=>by simpa using Nw (w:=w) f b p n he) j h
noncomputable def lx (fuel:Sh) (x:aL) (pid:Int):Option (aL×Int×Int):=(p3 fuel x).bind λh=>bif (!(h.2==0)) then some (aL.mk [] [],0,h.2) else bif (!(kg pid)) then some (aL.mk [] [],0,2) else(uD fuel h.1 pid).bind λq=>some (q.1,q.2,0)
noncomputable def PI (O:Γ) (w:World) (r:aL×Int×Int) (c:Ending) (w':World):Prop:= ∃a O',c= .returned (.tuple #[a,.int .i64 r.2.1,.int .i64 r.2.2])/\bC w.heap.size O w O' w'/\(r.2.2=0-> ∃b,a= .pointer (some ⟨b,0,none⟩)/\jT w.heap.size O' w' b r.1)
theorem bC.to {O O1 O':Γ} {w w1 w':World} (h:bC w.heap.size O w O1 w1) (k:bC w1.heap.size O1 w1 O' w'):bC w.heap.size O w O' w':=
 h.trans ⟨k.tr,k.ob,k.sub,λi hi=>k.below i (ζ hi h.tr.size)⟩
theorem jT.less {B a:Nat} {O:Γ} {w:World} {b:Nat} {x:aL} (h:jT B O w b x) (f:a<=B):jT a O w b x:=by
 obtain⟨nv,rv,S,ar,h⟩:=h;have less: ∀ {α:Type} {T:Ty α} {e:Nat} {v:Value} {xs:List α},Go.Dc.Own T e B O w v xs->Go.Dc.Own T e a O w v xs:=λh=>by
  obtain⟨⟨cs,⟨k,h1⟩,c⟩,d⟩:=h;refine⟨⟨cs,⟨k,?_⟩,c⟩,d⟩;rcases h1 with h1|⟨g,cap,cur,n,m,r⟩
  ·exact .inl h1
  ·exact .inr ⟨g,cap,cur,n,μ f m,r⟩
 have j: ∀ {S:Γ} {rs:Γd} {xs:List (Int×Γa)},cV TW 35 B w S rs xs->cV TW 35 a w S rs xs:=λ{S rs xs} h=>by
  induction rs generalizing S xs with
  |nil=>cases xs with
   |nil=>exact h
   |cons _ _=>exact h.elim
  |cons r rs o=>cases xs with
   |nil=>exact h.elim
   |cons y ys=>obtain⟨i,h1,c,d,l⟩:=h;exact⟨i,h1,c,d.less f,o l⟩
 exact⟨nv,rv,S,ar,h.mem,μ f h.ge,h.bB,less h.ns,less h.row,j h.fo,h.nd,h.out,h.nb,h.rb,h.dj⟩
set_option maxRecDepth 100000 in
set_option maxHeartbeats 4000000 in
theorem C5 {O:Γ} {w:World} (hO:OB O w) (m:cC KK [] w) {v0:Value} {x0:aL} (c:fQ.is [] w v0 x0) {pid:Int} {r:aL×Int×Int} (h:lx shut x0 pid=some r):Calls η 202 #[v0,.int .u64 pid] w (PI O w r):=by
 obtain⟨i,j,rfl,D,E⟩:=h0.1 c;have o:bC w.heap.size O w O w:=bC.refl hO;refine fV (args:=[(.agg #[i,j]),.int .u64 pid]) (N:=29) η3 rfl rfl rfl ?_;unfold lx at h;refine aF (aT (l:=[0,1,2,3]) rfl (l3 rfl rfl rfl rfl rfl rfl [i,j] rfl hO (λt w1 n1=>?_)));have z:=n1.bB;have d:=o.trans (bC.iH o.tr.size n1);refine ax ah [1,2,3] [(1,.int .u64 pid),(2,(.pointer (some ⟨t,0,none⟩)))] rfl ⟨rfl,rfl,trivial⟩ (aQ (aG (aF (aT (l:=[0,1,2,3,4,5,6]) rfl (dP ah rfl rfl rfl rfl rfl rfl rfl z [i,j] rfl rfl (.inl rfl) (.agg #[i,j]) rfl ?_)))));obtain⟨e,he,h⟩:=bind_some h;refine iT rfl rfl rfl rfl rfl Xg rfl (YD d.ob (m.tr d.fr.dU) (c.tr d.fr.dU) he) (λ_ w2 n=>?_);obtain⟨p,s,rfl,x,u⟩:=n;refine⟨_,rfl,?_⟩;have f:=d.to x;refine ax ah [2,3,4,5,6] [(1,.int .u64 pid),(7,p),(8,.int .i64 e.2)] rfl ⟨rfl,rfl,rfl,trivial⟩ (aQ (aG (aF (l2 (aF (aT (l:=[0,1,2]) rfl (ax ah [0,1,2] [(1,.int .u64 pid),(7,p),(8,.int .i64 e.2),(15,.bool (!(e.2==0)))] rfl ⟨rfl,rfl,rfl,rfl,trivial⟩ (aQ (aG ?_)))))))));rcases ic h with⟨a,h⟩|⟨a,h⟩
 ·refine fe rfl a (aF (aT (l:=[0,1,2,3]) rfl (ax ah [0,1,2,3] [(4,(.pointer none)),(5,.int .i64 0),(6,.int .i64 e.2)] rfl ⟨rfl,rfl,rfl,trivial⟩ (aQ (aG (dk ?_))))));cases h;exact wN (ff (ez rfl ⟨_,_,rfl,f,λc=>by simp at a;exact absurd c a⟩))
 refine fz rfl a ?_;have A:e.2=0:=by simpa using a
 obtain⟨b,rfl,hH⟩:=u A;have hH:=hH.less d.tr.size;refine aF (aT (l:=[0,1,2,3]) rfl (ax ah [0] [(1,.int .u64 pid),(7,(.pointer (some ⟨b,0,none⟩))),(8,.int .i64 e.2),(20,.int .u64 pid)] rfl ⟨rfl,rfl,rfl,rfl,trivial⟩ (wM rfl rfl rfl rfl rfl Xf rfl (YC (qh _) (m.tr f.fr.dU) (dr.2 rfl)) (λv4 w4 g4 f4=>?_))));obtain rfl:=jc.1 g4;have g:=f.trans (bC.nE f.ob f.tr.size f4);have hH:jT w.heap.size s w4 b e.1:=let⟨_,_,_,_,k⟩:=hH;⟨_,_,_,_,k.b7 f4⟩
 refine ax ah [2,3] [(1,.int .u64 pid),(7,(.pointer (some ⟨b,0,none⟩))),(19,.bool (!(kg pid)))] rfl ⟨rfl,rfl,rfl,trivial⟩ (aQ (aG ?_));rcases ic h with⟨a,h⟩|⟨a,h⟩
 ·refine fe rfl a (aF (aT (l:=[0,1,2]) rfl (ax ah [0,1,2] [(4,(.pointer none)),(5,.int .i64 0),(6,.int .i64 2)] rfl ⟨rfl,rfl,rfl,trivial⟩ (aQ (aG (dk ?_))))));cases h;exact wN (ff (ez rfl ⟨_,_,rfl,g,λc=>by cases c⟩))
 refine fz rfl a (eo (qY (aG ?_)));refine aF (aT (l:=[0,1,2]) rfl (ax ah [0,1,2] [(1,.int .u64 pid),(7,(.pointer (some ⟨b,0,none⟩))),(9,.func (.func 261) #[.pointer (some ⟨b,0,none⟩)] #[])] rfl ⟨rfl,rfl,rfl,trivial⟩ (aQ (aG (aF (aT (l:=[0,1,2,3,4,5,6]) rfl (ax ah [0,1,2] [(25,(.pointer (some ⟨b,0,none⟩))),(26,.func (.func 261) #[.pointer (some ⟨b,0,none⟩)] #[]),(27,.int .u64 pid)] rfl ⟨rfl,rfl,rfl,trivial⟩ ?_)))))));obtain⟨q,B,h⟩:=bind_some h;cases h;refine ad' (first:=[.pointer (some ⟨b,0,none⟩)]) (cap:=[]) rfl rfl rfl rfl rfl rfl rfl Xh (YA g.ob (m.tr g.fr.dU) g.tr.size hH B) (λ_ F n=>?_);obtain⟨rfl,C,y,v⟩:=n;refine⟨_,rfl,?_⟩;refine ax ah [4,5,6] [(4,(.pointer (some ⟨b,0,none⟩))),(5,.int .i64 q.2),(6,.int .i64 0)] rfl ⟨rfl,rfl,rfl,trivial⟩ (aQ (aG (dk ?_)));exact ez rfl ⟨_,_,rfl,g.trans y,λ_=>⟨b,rfl,v⟩⟩
noncomputable def Safe (S:Γ) (w:World) (v:Value) (ys:Γa):Prop:= ∀a:Γ,(∀g∈S,g∉a)->TW.slice.is a w v ys
theorem Safe.keep {S:Γ} {w w':World} {O O':Γ} {v:Value} {ys:Γa} (h:Safe S w v ys) (a:Tr O w O' w') (hk: ∀g∈S,w'.heap[g]? =w.heap[g]?):Safe S w' v ys:=λj e=>by
 refine(h ((ξi w.heap.size).filter λk=>!S.contains k) (λg f hm=>?_)).tr ⟨a.os,a.tape,a.output,a.size,λk i d=>?_⟩
 ·simp[f] at hm
 ·have b:k∈S:=by
   rw[ξQ] at d
   by_cases c:k∈S
   ·exact c
   ·exact absurd ⟨by simpa using i,by simpa using c⟩ d
  exact⟨e k b,hk k b⟩
noncomputable def dE (S:Γ) (w:World):Γd->List aw->Prop
 |[],[]=>True
 |r::rs,z::bs=>r.1=z.aa/\Safe S w r.2 z.a6/\dE S w rs bs
 |_,_=>False
theorem dE.imp {S S':Γ} {w w':World} (h: ∀v ys,Safe S w v ys->Safe S' w' v ys): ∀ {rs:Γd} {bs:List aw},dE S w rs bs->dE S' w' rs bs
 |[],[],_=>trivial
 |_::_,_::_,⟨h1,a,b⟩=>⟨h1,h _ _ a,dE.imp h b⟩
 |[],_::_,k=>k.elim
 |_::_,[],k=>k.elim
theorem dE.len {S:Γ} {w:World}: ∀ {rs:Γd} {bs:List aw},dE S w rs bs->rs.length=bs.length
 |[],[],_=>rfl
 |_::_,_::_,⟨_,_,a⟩=>by simp[dE.len a]
 |[],_::_,k=>k.elim
 |_::_,[],k=>k.elim
theorem dE.of {B:Nat} {w:World}: ∀ {S:Γ} {rs:Γd} {bs:List aw} (a:Γ),cV TW 35 B w S rs (bs.map bx)->(∀g∈S,g∈a)->dE a w rs bs
 |_,[],[],_,_,_=>trivial
 |_,r::rs,z::bs,a,⟨k,h1,c,e,f⟩,d=>by
  refine⟨h1,λj i=>e.data gL λg b=>i g (d g (by rw[c,b];simp)),dE.of a f λg b=>d g (by rw[c];exact ξm _ b)⟩
 |_,[],_::_,_,h,_=>h.elim
 |_,_::_,[],_,h,_=>h.elim
theorem dE.at_ {S:Γ} {w:World}: ∀ {rs:Γd} {bs:List aw} {k:Nat} {z:aw},dE S w rs bs->bs[k]? =some z-> ∃v,rs[k]? =some (z.aa,v)/\Safe S w v z.a6
 |r::rs,y::bs,0,z,⟨h1,c,_⟩,hk=>by
  simp at hk;subst hk;exact⟨r.2,by simp[<-h1],c⟩
 |r::rs,y::bs,k+1,z,⟨_,_,d⟩,hk=>by
  obtain⟨v,a,b⟩:=dE.at_ d (by simpa using hk);exact⟨v,by simpa using a,b⟩
 |[],[],_,_,_,hk=>by simp at hk
 |[],_::_,_,_,h,_=>h.elim
 |_::_,[],_,_,h,_=>h.elim
theorem dE.set {S:Γ} {w:World}: ∀ {rs:Γd} {bs:List aw} (k:Nat) {v:Value} {p:Int} {ys:Γa},dE S w rs bs->Safe S w v ys->dE S w (rs.set k (p,v)) (bs.set k (aw.mk p ys))
 |[],[],_,_,_,_,h,_=>h
 |r::rs,y::bs,0,v,p,ys,⟨_,_,a⟩,b=>⟨rfl,b,a⟩
 |r::rs,y::bs,k+1,v,p,ys,⟨h1,c,a⟩,b=>⟨h1,c,dE.set k a b⟩
 |[],_::_,_,_,_,_,h,_=>h.elim
 |_::_,[],_,_,_,_,h,_=>h.elim
theorem acN {S:Γ} {w:World}:Safe S w (.slice none 0 0) []:=λ_ _=>gH _ _ _
theorem dE.filter {S:Γ} {w:World}: ∀ {rs:Γd} {bs:List aw},dE S w rs bs->dE S w (rs.filter λr=>!emp r) (bs.filter λz=>!(z.a6.length==0))
 |[],[],_=>trivial
 |r::rs,z::bs,⟨h1,a,b⟩=>by
  obtain⟨A,c,e,_,_⟩:=eS (a [] (λ_ _ h=>by cases h));have he:emp r=(z.a6.length==0):=by unfold emp;rw[e];rfl
  rw[ξK,ξK,he];cases d:z.a6.length==0 with
  |true=>exact dE.filter b
  |false=>exact⟨h1,a,dE.filter b⟩
 |[],_::_,k=>k.elim
 |_::_,[],k=>k.elim
structure gk (B:Nat) (O:Γ) (w:World) (b:Nat) (nv rv:Value) (S:Γ) (ar:Γd) (x:aL):Prop where
 mem:b∈O
 ge:B<=b
 bB:bz w b 262 [nv,rv]
 ns:Go.Dc.Own dT 127 B O w nv x.au
 row:Go.Dc.Own TR 132 B O w rv ar
 fo:dE S w ar x.ao
 lt: ∀g∈S,B<=g/\g<w.heap.size
 out: ∀g∈S,g∉O
 nb:nv.ownBlock≠some b
 rb:rv.ownBlock≠some b
 dj:Dj nv rv
noncomputable def Hp (B:Nat) (O:Γ) (w:World) (b:Nat) (x:aL):Prop:= ∃nv rv S ar,gk B O w b nv rv S ar x
theorem e7.FA {B:Nat} {O:Γ} {w:World} {b:Nat} {nv rv:Value} {S:Γ} {ar:Γd} {x:aL} (h:e7 B O w b nv rv S ar x):gk B O w b nv rv S ar x:=
 ⟨h.mem,h.ge,h.bB,h.ns,h.row,dE.of S h.fo (λ_ h=>h),h.fo.lt,h.out,h.nb,h.rb,h.dj⟩
section
variable {B:Nat} {O O':Γ} {w w' b2:World} {b:Nat} {nv rv:Value} {S:Γ} {ar:Γd} {x:aL}
theorem gk.b7 (h:gk B O w b nv rv S ar x) (a:Fr [] w w'):gk B O w' b nv rv S ar x:=
 ⟨h.mem,h.ge,h.bB.b7 a,h.ns.b7 a,h.row.b7 a,h.fo.imp λ_ _ k=>k.keep (O:=[]) (O':=[]) a.dU λg c=>a.block g (h.lt g c).2 (by simp),λg c=>⟨(h.lt g c).1,ζ (h.lt g c).2 a.size⟩,h.out,h.nb,h.rb,h.dj⟩
theorem gk.cell (h:gk B O w b nv rv S ar x) {c:Nat} (f:c∈O) (i:c<B) (a:Fr [c] w w'):gk B O w' b nv rv S ar x:=
 ⟨h.mem,h.ge,h.bB.fr a (by simp;have:=h.ge;omega),h.ns.st a f (λe=>by have:=(h.ns.lt c e).1;omega),h.row.st a f (λe=>by have:=(h.row.lt c e).1;omega),
  h.fo.imp λ_ _ k=>k.keep (a.tr (gC f)) λg d=>a.block g (h.lt g d).2 (by simp;have:=(h.lt g d).1;omega),λg d=>⟨(h.lt g d).1,ζ (h.lt g d).2 a.size⟩,h.out,h.nb,h.rb,h.dj⟩
theorem gk.boxes (h:gk B O w b nv rv S ar x) {e:Value} {d:Γd} {x':aL} (ap:dc TR 132 B O w rv d O' w' e) (i:bz b2 b 262 [nv,e]) (c:Fr [b] w' b2)
  (j:dE S w d x'.ao) (hn:x'.au=x.au):gk B O' b2 b nv e S d x':=by
 have hm:=ap.sub _ h.mem;have f:=ap.ne _ h.bB.lt h.rb;have l:=ap.other h.ns λg a=>h.dj g a;refine⟨hm,h.ge,i,by rw[hn];exact l.st c hm h.nb,ap.own.st c hm f,?_,λg a=>⟨(h.lt g a).1,ζ (h.lt g a).2 (μ ap.tr.size c.size)⟩,λg a=>(ap.tr.keep g (h.lt g a).2 (h.out g a)).1,h.nb,f,λg a=>ap.ne _ (h.ns.lt g a).2 (h.dj g a)⟩;refine j.imp λ_ _ k=>k.keep (ap.tr.trans (c.tr (gC hm))) λg a=>?_;rw[c.block g (ζ (h.lt g a).2 ap.tr.size) (by simp;rintro rfl;exact h.out _ a h.mem),(ap.tr.keep g (h.lt g a).2 (h.out g a)).2]
theorem gk.data {e:Γ} (h:gk B O w b nv rv S ar x) (hO: ∀g∈e,g<B):fQ.is e w (.agg #[nv,rv]) x:=by
 refine h0.2 ⟨_,_,rfl,h.ns.hQ.data wu (λg d a=>by have:=(h.ns.lt g d).1;have:=hO g a;omega),?_⟩;have hlen:=h.fo.len;obtain⟨cs,⟨A,c,j,hl,q⟩,p⟩:=h.row.hQ.data (O:=e) (Eu _) (λg d a=>by have:=(h.row.lt g d).1;have:=hO g a;omega);refine⟨cs,⟨A,c,by rw[<-hlen];exact j,by rw[<-hlen];exact hl,λk z hk=>?_⟩,p⟩;obtain⟨v,m,o⟩:=h.fo.at_ hk;obtain⟨ad,es,f,i,a,n,l⟩:=q k _ m;refine⟨ad,es,f,i,a,?_,l⟩;refine⟨[.int .u64 z.aa],[v],?_,rfl,lN rfl (o e λg d a=>by have:=(h.lt g d).1;have:=hO g a;omega)⟩;rw[n.1];rfl
end
set_option maxRecDepth 100000 in
set_option maxHeartbeats 4000000 in
theorem C7 {O:Γ} {w:World} (hO:OB O w) {B b:Nat} {x:aL} (d:B<=w.heap.size) (h:Hp B O w b x):Calls η 203 #[.pointer (some ⟨b,0,none⟩)] w (λc w'=>c= .returned (.tuple #[])/\ ∃O',bC B O w O' w'/\Hp B O' w' b (lW x)):=by
 obtain⟨nv,rv,S,ar,h⟩:=h;refine fV (args:=[.pointer (some ⟨b,0,none⟩)]) (N:=12) η4 rfl rfl rfl (aT (l:=[0,1,2,3,4,5,6,7,8,9,10]) rfl (ax ah [0,1,2,3,4] [(2,(.pointer (some ⟨b,0,none⟩))),(6,(.pointer (some ⟨b,1,none⟩)))] rfl ⟨rfl,rfl,trivial⟩ ?_));obtain⟨A1,c1,rfl,_,_⟩:=h.row.form;refine dP ah rfl rfl rfl rfl rfl rfl rfl h.bB [.slice A1 ar.length c1] rfl rfl (.inr rfl) (.slice A1 ar.length c1) rfl (PB rfl rfl rfl rfl rfl Xi rfl (acI hO h.row) (λk w' O' ap=>?_));have a:=bC.D2 d h.row ap;have f:=ap.bB h.bB h.rb;obtain⟨A2,c2,rfl,_,_⟩:=ap.own.form;have i:=h.fo.filter;generalize j:(ar.filter λr=>!emp r)=L at*
 refine ax ah [7,8,9] [(8,.slice A2 L.length c2),(11,(.pointer (some ⟨b,1,none⟩)))] rfl ⟨rfl,rfl,trivial⟩ (eT ah rfl rfl rfl rfl rfl rfl rfl f [.slice A2 L.length c2] rfl rfl (by simp[υ]) rfl [nv,.slice A2 L.length c2] rfl (λm g f3=>?_));have e:=a.trans (bC.gg a.ob (ap.sub _ h.mem) h.ge f3);refine aQ ?_;exact aeg rfl ⟨rfl,_,e,_,_,_,_,h.boxes (x':=lW x) ap g f3 i rfl⟩
theorem EX {B:Nat} {O:Γ} {w:World} {A:Option Addr} {c:Nat} {ar:Γd} (f:Go.Dc.Own TR 132 B O w (.slice A ar.length c) ar) (t:0<ar.length):
  ∃g R,A=some ⟨g,0,none⟩/\g∈O/\B<=g/\bz w g 132 (rc ar++R)/\ar.length*2+R.length=c*2/\ar.length<=c/\c<=maxLen/\ ∀r∈ar,∃A n c,r.2= .slice A n c:=by
 obtain⟨cs,⟨u,b⟩,s⟩:=f.ex;rcases b with⟨_,v⟩|⟨g,cap,cur,b,i,p,q,l,d,a⟩
 ·omega
 injection b with h x k;subst h;subst k;obtain⟨m,o⟩:=EO s;have j:TR.n=2:=rfl;rw[j] at d a;have e:cur.toList=rc ar++cur.toList.drop (ar.length*2):=by
  rw[<-m,<-a,a]
  conv=>lhs;rw[<-ξd (ar.length*2) cur.toList]
  rw[a]
 refine⟨g,cur.toList.drop (ar.length*2),rfl,f.mem g rfl,i,?_,?_,q,l,o⟩
 ·unfold bz;rw[<-e,ξO];exact p
 ·have:=congrArg ζ5 e;rw[χ,d] at this;simp only[ν,rc,fu,ρ] at this;omega
theorem acd {B:Nat} {O:Γ} {w':World} {g c:Nat} {L:Γd} {R:Γb} (f:g∈O) (a:B<=g) (b:bz w' g 132 (rc L++R)) (hl:L.length*2+R.length=c*2) (d:L.length<=c) (hm:c<=maxLen) (e: ∀r∈L,∃A n c,r.2= .slice A n c):
  Go.Dc.Own TR 132 B O w' (.slice (some ⟨g,0,none⟩) L.length c) L:=by
 refine⟨⟨rc L,⟨by rw[rc,fu,ρ];rfl,.inr ⟨g,c,(rc L++R).toArray,rfl,a,b,d,hm,?_,?_⟩⟩,Ex e⟩,λk hk=>by cases hk;exact f⟩
 ·rw[ζ2,ν,rc,fu,ρ];exact hl
 ·exact ξS (by rw[rc,fu,ρ];rfl)
theorem kz {L:Γd} {R:Γb} {k:Nat} {x:Int×Value} (h:L[k]? =some x):((rc L++R).drop (k*2+1)).take 1=[x.2]:=by
 have:=Ev (R:=R) h;have e:=congrArg (List.drop 1) this;rw[List.drop_take,ζP] at e;simpa using e
theorem Ew {L:Γd} {R:Γb} {k:Nat} {x:Int×Value} {v:Value} (h:L[k]? =some x):putAt (rc L++R) (k*2+1) [v]=rc (L.set k (x.1,v))++R:=by
 have hk:=(δ.1 h).1;rw[<-ML (x:=(x.1,v)) hk];have a:=Ev (R:=R) h;have b:((rc L++R).drop (k*2))= .int .u64 x.1::x.2::(rc L++R).drop (k*2+2):=by
  have:=ξd 2 ((rc L++R).drop (k*2));rw[a,ζP] at this;exact this.symm
 unfold putAt;have c:(rc L++R).take (k*2+1)=(rc L++R).take (k*2)++[.int .u64 x.1]:=by
  rw[List.take_add,b];rfl
 rw[c];simp
noncomputable def pY (fuel:Sh) (x:aL) (pid:Int):Option (aL×Int×Int):=(lx fuel x pid).bind λh=>bif (!(h.2.2==0)) then some (aL.mk [] [],0,h.2.2) else(idx h.1.ao h.2.1).bind λz=>some (lW (aL.mk h.1.au (h.1.ao.set h.2.1.toNat (aw.mk z.aa []))),(z.a6.length:Int),0)
noncomputable def pZ (fuel:Sh) (x:aL) (pid:Int):Option (aL×Int×Int):=(lx fuel x pid).bind λh=>bif (!(h.2.2==0)) then some (aL.mk [] [],0,h.2.2) else(idx h.1.ao h.2.1).bind λz=>bif ((z.a6.length:Int)==0) then some (aL.mk [] [],0,4) else(idx z.a6 0).bind λw0=>some (lW (aL.mk h.1.au (h.1.ao.set h.2.1.toNat (aw.mk z.aa (z.a6.drop 1)))),w0,0)
noncomputable def p1 (fuel:Sh) (x:aL) (pid:Int) (words:Γa):Option (aL×Int):=(lx fuel x pid).bind λh=>bif (!(h.2.2==0)) then some (aL.mk [] [],h.2.2) else(idx h.1.ao h.2.1).bind λz=>bif (decide (γ.wrap ((z.a6.length:Int)+(words.length:Int))>4)) then some (aL.mk [] [],6) else(app 8 z.a6 words).bind λws=>some (lW (aL.mk h.1.au (h.1.ao.set h.2.1.toNat (aw.mk z.aa ws))),0)
theorem En {B:Nat} {O:Γ} {w w':World} {b g c:Nat} {nv:Value} {S:Γ} {ar L:Γd} {R:Γb} {names:List aD} {bs:List aw} (mem:b∈O) (ge:B<=b) (bB:bz w b 262 [nv,.slice (some ⟨g,0,none⟩) ar.length c]) (ns:Go.Dc.Own dT 127 B O w nv names) (nb:nv.ownBlock≠some b) (dj:Dj nv (.slice (some ⟨g,0,none⟩) ar.length c))
  (i:g≠b) (d:g∈O) (l:B<=g) (hl:ar.length*2+R.length=c*2) (p:ar.length<=c) (hm:c<=maxLen) (f:Fr [g] w w') (o:bz w' g 132 (rc L++R)) (h:L.length=ar.length) (m: ∀r∈L,∃A n c,r.2= .slice A n c) (q:dE S w L bs) (lt: ∀j∈S,B<=j/\j<w.heap.size) (out: ∀j∈S,j∉O):
  gk B O w' b nv (.slice (some ⟨g,0,none⟩) ar.length c) S L (aL.mk names bs):=by
 refine⟨mem,ge,bB.fr f (by simp;exact λe=>i e.symm),ns.st f d (λe=>dj g e rfl),?_,q.imp λ_ _ k=>k.keep (f.tr (gC d)) λj a=>f.block j (lt j a).2 (by simp;rintro rfl;exact out _ a d),λj a=>⟨(lt j a).1,ζ (lt j a).2 f.size⟩,out,nb,λe=>i (by injection e),dj⟩;rw[<-h];exact acd d l o (by rw[h];exact hl) (by rw[h];exact p) hm m
noncomputable def SP.safe (S:Γ) (ys:Γa):SP:=⟨λw u=>(∀g∈S,g<w.heap.size)/\Safe S w u ys,λa ⟨h1,c⟩=>⟨λg b=>ζ (h1 g b) a.size,c.keep (O:=[]) (O':=[]) a.dU λg b=>a.block g (h1 g b) (by simp)⟩⟩
theorem Z0 {P:Program} {r:Option Nat} {N:Nat} {Θ:cz} {ops:Array Oper} {Q:Exit->Act->World->Prop} {E:Env} {ds:List Deferred} {w:World} {i d:Nat} {o:Oper} {S:Γ} (s:Θ.ok P) {a:Act} (c:Has N E ds a) (I:ops[i]? =some o) (hw:want N ops E o.guard=some true) (D:o.dst=some d) {t:Nat} {x:Operand} {lo hi mx:Option Operand} {f y:TI} (j:o.op= .slice t x lo hi mx) (m:Θ.get t=some f)
  (g:f.tag=5) (p:Θ.get f.e=some y) {v:Value} (L:ev E x=some v) {l' h' m':Option (IntKind×Int)} (G:jn E lo=some l') (F:jn E hi=some h') (H:jn E mx=some m') {xs ys:Γa} (hn:TW.n=y.size) (q:Safe S w v xs)
  (h:dL xs (l'.map (·.2)) (h'.map (·.2)) (m'.map (·.2))=some ys):eK P r ops Q i d a w (λu w'=>Safe S w' u ys/\Fr [] w w'):=by
 obtain⟨z,k,O⟩:=v7 (w:=w) s m g p hn (q [] λ_ _ hm=>by cases hm) h;have J:Safe S w z ys:=λA C=>by
  obtain⟨R,l,K⟩:=v7 (w:=w) s m g p hn (q A C) h;rw[k] at l;injection l with B M;rw[B];exact K
 refine lD I (gK c hw) D (b:=true) (v:=z) (w':=w) ?_ ⟨J,Fr.refl _ _⟩;simp only[if_true];refine⟨by rw[j];simp,?_⟩;simp only[execOp,j,ξx,c.eval L,mM c G,mM c F,mM c H,k];rfl
set_option maxRecDepth 100000 in
set_option maxHeartbeats 4000000 in
theorem Yx {O:Γ} {w:World} (hO:OB O w) (ai:cC KK [] w) {v0:Value} {x0:aL} (K:fQ.is [] w v0 x0) {v1:Value} {x1:Int} (h1:(Ty.int .u64).is [] w v1 x1) {r:aL×Int×Int} (h:pY shut x0 x1=some r):Calls η 152 #[v0,v1] w (gj (Nr fQ (Ty.int .i64) (Ty.int .i64)) O w r):=by
 obtain rfl:=dr.1 h1;obtain⟨s,t,rfl,aV,aW⟩:=h0.1 K;have M:bC w.heap.size O w O w:=bC.refl hO;refine fV (args:=[(.agg #[s,t]),(.int .u64 x1)]) (N:=47) ηc rfl rfl rfl ?_;unfold pY at h;refine aF (aT (l:=[0,1,2,3]) rfl (l3 rfl rfl rfl rfl rfl rfl [s,t] rfl hO (λI w1 n1=>?_)));have F:=n1.bB;have v:=M.trans (bC.iH M.tr.size n1);refine qV ah rfl rfl rfl rfl rfl rfl [(.slice none 0 0),(.slice none 0 0)] rfl v.ob (λa w2 n2=>?_);have F:=F.b7 n2.fr;have c:=n2.bB;have U:w.heap.size<=a:=μ v.tr.size n2.ge;have d:=v.trans (bC.iH v.tr.size n2);have i2:a∈a::I::O:=τ;have H:a<w2.heap.size:=c.lt;have ak: ∀g∈O,g<w2.heap.size:=λg q=>ζ (hO g q) d.tr.size;refine ax ah [2,3] [(1,(.int .u64 x1)),(2,(.pointer (some ⟨I,0,none⟩))),(4,(.pointer (some ⟨a,0,none⟩)))] rfl ⟨rfl,rfl,rfl,trivial⟩ (aQ (aG (aF (aT (l:=[0,1,2,3,4,5,6,7,8,9]) rfl (dP ah rfl rfl rfl rfl rfl rfl rfl F [s,t] rfl rfl (.inl rfl) (.agg #[s,t]) rfl ?_)))));obtain⟨e,he,h⟩:=bind_some h;refine ax ah [1] [(1,(.int .u64 x1)),(4,(.pointer (some ⟨a,0,none⟩))),(12,(.agg #[s,t])),(13,(.int .u64 x1))] rfl ⟨rfl,rfl,rfl,rfl,trivial⟩ (iT rfl rfl rfl rfl rfl BP rfl (C5 d.ob (ai.tr d.fr.dU) (K.tr d.fr.dU) he) (λ_ aI q=>?_));obtain⟨Y,aP,rfl,y,aj⟩:=q;refine⟨_,rfl,?_⟩;have c:bz aI a 58 [(.slice none 0 0),(.slice none 0 0)]:=(y.below _ H).trans c;have A:=d.to y;have i2:=y.sub _ i2;refine ax ah [3,4,5,6,7,8,9] [(1,(.int .u64 x1)),(4,(.pointer (some ⟨a,0,none⟩))),(7,Y),(8,(.int .i64 e.2.1)),(9,(.int .i64 e.2.2))] rfl ⟨rfl,rfl,rfl,rfl,rfl,trivial⟩ (aQ (aG (aF (aF (aT (l:=[0,1]) rfl (ax ah [0,1] [(1,(.int .u64 x1)),(4,(.pointer (some ⟨a,0,none⟩))),(7,Y),(8,(.int .i64 e.2.1)),(9,(.int .i64 e.2.2)),(19,(.bool (!(e.2.2==0))))] rfl ⟨rfl,rfl,rfl,rfl,rfl,rfl,trivial⟩ (aQ (aG ?_))))))));rcases ic h with⟨C,h⟩|⟨C,h⟩
 ·refine fe rfl C ?_;cases h;refine aF (aT (l:=[0,1,2,3,4]) rfl (ax ah [0,1] [(4,(.pointer (some ⟨a,0,none⟩))),(20,(.agg #[(.slice none 0 0),(.slice none 0 0)])),(21,(.int .i64 e.2.2))] rfl ⟨rfl,rfl,rfl,trivial⟩ (eT ah rfl rfl rfl rfl rfl rfl rfl c [(.slice none 0 0),(.slice none 0 0)] rfl rfl (by simp[υ]) rfl [(.slice none 0 0),(.slice none 0 0)] rfl (λaK G u=>?_))));refine ax ah [3,4] [(4,(.pointer (some ⟨a,0,none⟩))),(5,(.int .i64 0)),(6,(.int .i64 e.2.2))] rfl ⟨rfl,rfl,rfl,trivial⟩ (aQ (aG (dk ?_)));exact ff (kK ah (vs:=[.agg #[(.slice none 0 0),(.slice none 0 0)],(.int .i64 0),(.int .i64 e.2.2)]) ⟨_,_,rfl,⟨_,_,_,_,rfl,G,rfl,rfl,.inl rfl,rfl⟩,_,_,rfl,rfl,_,_,rfl,rfl,rfl⟩ ⟨_,rfl,⟨_,_,_,rfl,(h0.2 ⟨_,_,rfl,gH _ _ _,gH _ _ _⟩),dr.2 rfl,dr.2 rfl⟩,(A.trans (bC.gg A.ob i2 U u)).fr⟩)
 refine fz rfl C ?_;have au:e.2.2=0:=by simpa using C
 obtain⟨b,rfl,nv,rv,S,ar,hH⟩:=aj au;refine eo (aG ?_);obtain⟨z,aH,h⟩:=bind_some h;obtain⟨aX,W⟩:=kh aH;obtain⟨k,hk⟩: ∃k:Nat,k=e.2.1.toNat:=⟨_,rfl⟩;rw[<-hk] at W;have av:e.2.1=(k:Int):=by omega
 rw[av];rw[<-hk] at h;have B:=hH.FA;obtain⟨a7,f,aE⟩:=B.fo.at_ W;obtain⟨D,E,rfl,aY,aZ⟩:=eS (aE [] λ_ _ hm=>by cases hm);obtain⟨aM,i,rfl,_,_⟩:=hH.row.form;have aB:=(δ.1 f).1;obtain⟨g,R,rfl,V,L,T,aC,aq,aD,ay⟩:=EX hH.row (by omega);have az:g≠b:=λe=>hH.rb (by rw[<-e];rfl);have J:(k:Int).toNat*({tag:=8,k:=0,e:=0,fs:=[(29,0),(40,1)],size:=2,bytes:=32,zero:=.agg #[.int .u64 0,.slice none 0 0]}:TI).size=k*2:=by rw[ι]
 have X:(k:Int).toNat<ar.length:=by rw[ι];exact aB
 refine aF (aT (l:=[0,1,2,3,4,5,6,7,8,9,10]) rfl (ax ah [0,1,2,3] [(4,(.pointer (some ⟨a,0,none⟩))),(7,(.pointer (some ⟨b,0,none⟩))),(8,(.int .i64 (k:Int))),(25,(.pointer (some ⟨b,1,none⟩)))] rfl ⟨rfl,rfl,rfl,rfl,trivial⟩ (dP ah rfl rfl rfl rfl rfl rfl rfl hH.bB [(.slice (some ⟨g,0,none⟩) ar.length i)] rfl rfl (.inr rfl) (.slice (some ⟨g,0,none⟩) ar.length i) rfl (ax ah [5] [(4,(.pointer (some ⟨a,0,none⟩))),(7,(.pointer (some ⟨b,0,none⟩))),(8,(.int .i64 (k:Int))),(26,(.slice (some ⟨g,0,none⟩) ar.length i)),(27,(.int .i64 (k:Int)))] rfl ⟨rfl,rfl,rfl,rfl,rfl,trivial⟩ (oj ah rfl rfl rfl rfl rfl rfl rfl rfl rfl rfl (by omega) X ?_)))));rw[J,eC,ψ];refine ax ah [7] [(4,(.pointer (some ⟨a,0,none⟩))),(7,(.pointer (some ⟨b,0,none⟩))),(8,(.int .i64 (k:Int))),(29,(.pointer (some ⟨g,k*2+1,none⟩)))] rfl ⟨rfl,rfl,rfl,rfl,trivial⟩ (dP ah rfl rfl rfl rfl rfl rfl rfl T [(.slice D z.a6.length E)] (kz f) rfl (.inr rfl) (.slice D z.a6.length E) rfl (ax ah [9,10] [(4,(.pointer (some ⟨a,0,none⟩))),(7,(.pointer (some ⟨b,0,none⟩))),(8,(.int .i64 (k:Int))),(10,(.int .i64 (z.a6.length:Int)))] rfl ⟨rfl,rfl,rfl,rfl,trivial⟩ (aQ (aG (aF (aT (l:=[0,1,2,3,4,5,6,7,8]) rfl (ax ah [0,1,2,3] [(4,(.pointer (some ⟨a,0,none⟩))),(7,(.pointer (some ⟨b,0,none⟩))),(8,(.int .i64 (k:Int))),(10,(.int .i64 (z.a6.length:Int))),(35,(.pointer (some ⟨b,1,none⟩)))] rfl ⟨rfl,rfl,rfl,rfl,rfl,trivial⟩ (dP ah rfl rfl rfl rfl rfl rfl rfl hH.bB [(.slice (some ⟨g,0,none⟩) ar.length i)] rfl rfl (.inr rfl) (.slice (some ⟨g,0,none⟩) ar.length i) rfl (ax ah [5] [(4,(.pointer (some ⟨a,0,none⟩))),(7,(.pointer (some ⟨b,0,none⟩))),(8,(.int .i64 (k:Int))),(10,(.int .i64 (z.a6.length:Int))),(36,(.slice (some ⟨g,0,none⟩) ar.length i)),(37,(.int .i64 (k:Int)))] rfl ⟨rfl,rfl,rfl,rfl,rfl,rfl,trivial⟩ (oj ah rfl rfl rfl rfl rfl rfl rfl rfl rfl rfl (by omega) X ?_))))))))));rw[J,eC,ψ];refine ax ah [7] [(4,(.pointer (some ⟨a,0,none⟩))),(7,(.pointer (some ⟨b,0,none⟩))),(8,(.int .i64 (k:Int))),(10,(.int .i64 (z.a6.length:Int))),(39,(.pointer (some ⟨g,k*2+1,none⟩)))] rfl ⟨rfl,rfl,rfl,rfl,rfl,trivial⟩ (eT ah rfl rfl rfl rfl rfl rfl rfl T [(.slice none 0 0)] rfl rfl (by simp[υ]) (ξe (by simp only[ν,rc,fu,ρ];show k*2+1+1<=_;omega)) (rc (ar.set k (z.aa,(.slice none 0 0)))++R) (Ew (x:=(z.aa,(.slice D z.a6.length E))) f) (λaJ an f5=>?_));have n:=En (bs:=e.1.ao.set k (aw.mk z.aa [])) hH.mem hH.ge hH.bB hH.ns hH.nb hH.dj az V L aC aq aD f5 an (by rw[ξT]) (λr f=>by
  rcases ξu f with f|rfl
  ·exact ay r f
  ·exact⟨_,_,_,rfl⟩) (B.fo.set k acN) B.lt hH.out
 have c:=c.fr f5 (by simp;omega);have P:=A.trans (bC.gg A.ob V (μ d.tr.size L) f5);clear hH B;refine aQ (aG ?_);have af:w2.heap.size<=aJ.heap.size:=μ y.tr.size f5.size;refine aF (aT (l:=[0,1]) rfl (ax ah [0] [(10,(.int .i64 (z.a6.length:Int))),(4,(.pointer (some ⟨a,0,none⟩))),(7,(.pointer (some ⟨b,0,none⟩))),(40,(.pointer (some ⟨b,0,none⟩)))] rfl ⟨rfl,rfl,rfl,rfl,trivial⟩ (iT rfl rfl rfl rfl rfl BQ rfl (C7 P.ob af ⟨_,_,_,_,n⟩) (λ_ Z q=>?_))));obtain⟨rfl,ab,m,o,p,aR,a1,n⟩:=q;refine⟨_,rfl,?_⟩;have c:bz Z a 58 [(.slice none 0 0),(.slice none 0 0)]:=(m.below _ H).trans c;have i2:=m.sub _ i2;have Q:bC w.heap.size O w ab Z:=P.trans ⟨m.tr,m.ob,m.sub,λj aA=>m.below j (ζ aA d.tr.size)⟩;refine ax ah [] [(10,(.int .i64 (z.a6.length:Int))),(4,(.pointer (some ⟨a,0,none⟩))),(7,(.pointer (some ⟨b,0,none⟩)))] rfl ⟨rfl,rfl,rfl,trivial⟩ (aQ (aG ?_));cases h;refine aF (aT (l:=[0,1,2,3,4,5,6,7]) rfl (ax ah [0,1,2] [(7,(.pointer (some ⟨b,0,none⟩))),(10,(.int .i64 (z.a6.length:Int))),(4,(.pointer (some ⟨a,0,none⟩))),(44,(.pointer (some ⟨b,0,none⟩)))] rfl ⟨rfl,rfl,rfl,rfl,trivial⟩ (dP ah rfl rfl rfl rfl rfl rfl rfl n.bB [o,p] rfl rfl (.inl rfl) (.agg #[o,p]) rfl ?_)));obtain⟨aN,aS,ad,_,_⟩:=n.ns.form;obtain⟨aO,aU,ae,_,_⟩:=n.row.form;refine ax ah [4] [(4,(.pointer (some ⟨a,0,none⟩))),(45,(.agg #[o,p])),(46,(.int .i64 (z.a6.length:Int)))] rfl ⟨rfl,rfl,rfl,trivial⟩ (eT ah rfl rfl rfl rfl rfl rfl rfl c [o,p] rfl rfl (by rw[ad,ae];simp[υ]) rfl [o,p] rfl (λaK G u=>?_));have al:=n.cell i2 H u;have ag:=(Q.trans (bC.gg Q.ob i2 U u)).fr;refine ax ah [6,7] [(4,(.pointer (some ⟨a,0,none⟩))),(5,(.int .i64 (z.a6.length:Int))),(6,(.int .i64 0))] rfl ⟨rfl,rfl,rfl,trivial⟩ (aQ (aG (dk ?_)));exact(kK ah (vs:=[.agg #[o,p],(.int .i64 (z.a6.length:Int)),(.int .i64 0)]) ⟨_,_,rfl,⟨_,_,_,_,rfl,G,rfl,rfl,.inl rfl,rfl⟩,_,_,rfl,rfl,_,_,rfl,rfl,rfl⟩ ⟨_,rfl,⟨_,_,_,rfl,(al.data ak),dr.2 rfl,dr.2 rfl⟩,ag⟩)
set_option maxRecDepth 100000 in
set_option maxHeartbeats 4000000 in
theorem Yy {O:Γ} {w:World} (hO:OB O w) (aP:cC KK [] w) {v0:Value} {x0:aL} (aj:fQ.is [] w v0 x0) {v1:Value} {x1:Int} (h1:(Ty.int .u64).is [] w v1 x1) {r:aL×Int×Int} (h:pZ shut x0 x1=some r):Calls η 171 #[v0,v1] w (gj (Nr fQ (Ty.int .u64) (Ty.int .i64)) O w r):=by
 obtain rfl:=dr.1 h1;obtain⟨L,M,rfl,bo,bp⟩:=h0.1 aj;have al:bC w.heap.size O w O w:=bC.refl hO;refine fV (args:=[(.agg #[L,M]),(.int .u64 x1)]) (N:=68) ηd rfl rfl rfl ?_;unfold pZ at h;refine aF (aT (l:=[0,1,2,3]) rfl (l3 rfl rfl rfl rfl rfl rfl [L,M] rfl hO (λai w1 n1=>?_)));have Y:=n1.bB;have U:=al.trans (bC.iH al.tr.size n1);refine qV ah rfl rfl rfl rfl rfl rfl [(.slice none 0 0),(.slice none 0 0)] rfl U.ob (λi w2 n2=>?_);have Y:=Y.b7 n2.fr;have q:=n2.bB;have ab:w.heap.size<=i:=μ U.tr.size n2.ge;have B:=U.trans (bC.iH U.tr.size n2);have i2:i∈i::ai::O:=τ;have ad:i<w2.heap.size:=q.lt;have aS: ∀g∈O,g<w2.heap.size:=λg s=>ζ (hO g s) B.tr.size;refine ax ah [2,3] [(1,(.int .u64 x1)),(2,(.pointer (some ⟨ai,0,none⟩))),(4,(.pointer (some ⟨i,0,none⟩)))] rfl ⟨rfl,rfl,rfl,trivial⟩ (aQ (aG (aF (aT (l:=[0,1,2,3,4,5,6,7,8,9]) rfl (dP ah rfl rfl rfl rfl rfl rfl rfl Y [L,M] rfl rfl (.inl rfl) (.agg #[L,M]) rfl ?_)))));obtain⟨e,he,h⟩:=bind_some h;refine ax ah [1] [(1,(.int .u64 x1)),(4,(.pointer (some ⟨i,0,none⟩))),(13,(.agg #[L,M])),(14,(.int .u64 x1))] rfl ⟨rfl,rfl,rfl,rfl,trivial⟩ (iT rfl rfl rfl rfl rfl BP rfl (C5 B.ob (aP.tr B.fr.dU) (aj.tr B.fr.dU) he) (λ_ ag s=>?_));obtain⟨aD,bk,rfl,V,aR⟩:=s;refine⟨_,rfl,?_⟩;have q:bz ag i 58 [(.slice none 0 0),(.slice none 0 0)]:=(V.below _ ad).trans q;have C:=B.to V;have i2:=V.sub _ i2;refine ax ah [3,4,5,6,7,8,9] [(1,(.int .u64 x1)),(4,(.pointer (some ⟨i,0,none⟩))),(7,aD),(8,(.int .i64 e.2.1)),(9,(.int .i64 e.2.2))] rfl ⟨rfl,rfl,rfl,rfl,rfl,trivial⟩ (aQ (aG (aF (aF (aT (l:=[0,1]) rfl (ax ah [0,1] [(1,(.int .u64 x1)),(4,(.pointer (some ⟨i,0,none⟩))),(7,aD),(8,(.int .i64 e.2.1)),(9,(.int .i64 e.2.2)),(20,(.bool (!(e.2.2==0))))] rfl ⟨rfl,rfl,rfl,rfl,rfl,rfl,trivial⟩ (aQ (aG ?_))))))));rcases ic h with⟨A,h⟩|⟨A,h⟩
 ·refine fe rfl A ?_;cases h;refine aF (aT (l:=[0,1,2,3,4]) rfl (ax ah [0,1] [(4,(.pointer (some ⟨i,0,none⟩))),(21,(.agg #[(.slice none 0 0),(.slice none 0 0)])),(22,(.int .i64 e.2.2))] rfl ⟨rfl,rfl,rfl,trivial⟩ (eT ah rfl rfl rfl rfl rfl rfl rfl q [(.slice none 0 0),(.slice none 0 0)] rfl rfl (by simp[υ]) rfl [(.slice none 0 0),(.slice none 0 0)] rfl (λaH K F=>?_))));refine ax ah [3,4] [(4,(.pointer (some ⟨i,0,none⟩))),(5,(.int .u64 0)),(6,(.int .i64 e.2.2))] rfl ⟨rfl,rfl,rfl,trivial⟩ (aQ (aG (dk ?_)));exact ff (kK ah (vs:=[.agg #[(.slice none 0 0),(.slice none 0 0)],(.int .u64 0),(.int .i64 e.2.2)]) ⟨_,_,rfl,⟨_,_,_,_,rfl,K,rfl,rfl,.inl rfl,rfl⟩,_,_,rfl,rfl,_,_,rfl,rfl,rfl⟩ ⟨_,rfl,⟨_,_,_,rfl,(h0.2 ⟨_,_,rfl,gH _ _ _,gH _ _ _⟩),dr.2 rfl,dr.2 rfl⟩,(C.trans (bC.gg C.ob i2 ab F)).fr⟩)
 refine fz rfl A ?_;have aX:e.2.2=0:=by simpa using A
 obtain⟨b,rfl,nv,rv,S,ar,hH⟩:=aR aX;refine eo (aG ?_);obtain⟨z,bd,h⟩:=bind_some h;obtain⟨br,az⟩:=kh bd;obtain⟨k,hk⟩: ∃k:Nat,k=e.2.1.toNat:=⟨_,rfl⟩;rw[<-hk] at az;have aY:e.2.1=(k:Int):=by omega
 rw[aY];rw[<-hk] at h;have D:=hH.FA;obtain⟨bD,t,ae⟩:=D.fo.at_ az;obtain⟨o,p,rfl,bt,bu⟩:=eS (ae [] λ_ _ hm=>by cases hm);obtain⟨bg,X,rfl,_,_⟩:=hH.row.form;have a8:=(δ.1 t).1;obtain⟨g,R,rfl,ay,ak,y,a_,aW,ba,aZ⟩:=EX hH.row (by omega);have a1:g≠b:=λe=>hH.rb (by rw[<-e];rfl);have aJ:(k:Int).toNat*({tag:=8,k:=0,e:=0,fs:=[(29,0),(40,1)],size:=2,bytes:=32,zero:=.agg #[.int .u64 0,.slice none 0 0]}:TI).size=k*2:=by rw[ι]
 have a':(k:Int).toNat<ar.length:=by rw[ι];exact a8
 refine aF (aT (l:=[0,1,2,3,4,5,6,7]) rfl (ax ah [0,1,2,3] [(4,(.pointer (some ⟨i,0,none⟩))),(7,(.pointer (some ⟨b,0,none⟩))),(8,(.int .i64 (k:Int))),(26,(.pointer (some ⟨b,1,none⟩)))] rfl ⟨rfl,rfl,rfl,rfl,trivial⟩ (dP ah rfl rfl rfl rfl rfl rfl rfl hH.bB [(.slice (some ⟨g,0,none⟩) ar.length X)] rfl rfl (.inr rfl) (.slice (some ⟨g,0,none⟩) ar.length X) rfl (ax ah [5] [(4,(.pointer (some ⟨i,0,none⟩))),(7,(.pointer (some ⟨b,0,none⟩))),(8,(.int .i64 (k:Int))),(27,(.slice (some ⟨g,0,none⟩) ar.length X)),(28,(.int .i64 (k:Int)))] rfl ⟨rfl,rfl,rfl,rfl,rfl,trivial⟩ (oj ah rfl rfl rfl rfl rfl rfl rfl rfl rfl rfl (by omega) a' ?_)))));rw[aJ,eC,ψ];refine ax ah [7] [(4,(.pointer (some ⟨i,0,none⟩))),(7,(.pointer (some ⟨b,0,none⟩))),(10,(.pointer (some ⟨g,k*2,none⟩)))] rfl ⟨rfl,rfl,rfl,trivial⟩ (aQ (aG (aF (aF (aT (l:=[0,1,2,3,4,5]) rfl (ax ah [0,1,2] [(4,(.pointer (some ⟨i,0,none⟩))),(7,(.pointer (some ⟨b,0,none⟩))),(10,(.pointer (some ⟨g,k*2,none⟩))),(32,(.pointer (some ⟨g,k*2+1,none⟩)))] rfl ⟨rfl,rfl,rfl,rfl,trivial⟩ (dP ah rfl rfl rfl rfl rfl rfl rfl y [(.slice o z.a6.length p)] (kz t) rfl (.inr rfl) (.slice o z.a6.length p) rfl (ax ah [4,5] [(4,(.pointer (some ⟨i,0,none⟩))),(7,(.pointer (some ⟨b,0,none⟩))),(10,(.pointer (some ⟨g,k*2,none⟩))),(35,(.bool ((z.a6.length:Int)==0)))] rfl ⟨rfl,rfl,rfl,rfl,trivial⟩ (aQ (aG ?_))))))))));rcases ic h with⟨A,h⟩|⟨A,h⟩
 ·refine fe rfl A ?_;cases h;refine aF (aT (l:=[0,1,2,3]) rfl (ax ah [0] [(4,(.pointer (some ⟨i,0,none⟩))),(36,(.agg #[(.slice none 0 0),(.slice none 0 0)]))] rfl ⟨rfl,rfl,trivial⟩ (eT ah rfl rfl rfl rfl rfl rfl rfl q [(.slice none 0 0),(.slice none 0 0)] rfl rfl (by simp[υ]) rfl [(.slice none 0 0),(.slice none 0 0)] rfl (λaH K F=>?_))));refine ax ah [2,3] [(4,(.pointer (some ⟨i,0,none⟩))),(5,(.int .u64 0)),(6,(.int .i64 4))] rfl ⟨rfl,rfl,rfl,trivial⟩ (aQ (aG (dk ?_)));exact ff (kK ah (vs:=[.agg #[(.slice none 0 0),(.slice none 0 0)],(.int .u64 0),(.int .i64 4)]) ⟨_,_,rfl,⟨_,_,_,_,rfl,K,rfl,rfl,.inl rfl,rfl⟩,_,_,rfl,rfl,_,_,rfl,rfl,rfl⟩ ⟨_,rfl,⟨_,_,_,rfl,(h0.2 ⟨_,_,rfl,gH _ _ _,gH _ _ _⟩),dr.2 rfl,dr.2 rfl⟩,(C.trans (bC.gg C.ob i2 ab F)).fr⟩)
 refine fz rfl A (eo (aG ?_));obtain⟨w0,W,h⟩:=bind_some h;obtain⟨_,W⟩:=kh W;refine aF (aT (l:=[0,1,2,3,4,5,6]) rfl (ax ah [0,1,2] [(4,(.pointer (some ⟨i,0,none⟩))),(7,(.pointer (some ⟨b,0,none⟩))),(10,(.pointer (some ⟨g,k*2,none⟩))),(39,(.pointer (some ⟨g,k*2+1,none⟩)))] rfl ⟨rfl,rfl,rfl,rfl,trivial⟩ (dP ah rfl rfl rfl rfl rfl rfl rfl y [(.slice o z.a6.length p)] (kz t) rfl (.inr rfl) (.slice o z.a6.length p) rfl ?_)));refine FH ah rfl rfl rfl rfl rfl rfl rfl rfl rfl rfl (ae [] λ_ _ hm=>by cases hm) rfl (Int.le_refl 0) W (λbw bb=>?_);refine aea ah rfl rfl rfl rfl rfl rfl rfl bb rfl rfl (λv6 bc=>?_);obtain rfl:=dr.1 bc;refine ax ah [6] [(4,(.pointer (some ⟨i,0,none⟩))),(7,(.pointer (some ⟨b,0,none⟩))),(10,(.pointer (some ⟨g,k*2,none⟩))),(11,(.int .u64 w0))] rfl ⟨rfl,rfl,rfl,rfl,trivial⟩ (aQ (aG (aF ?_)));have aA: ∀g∈S,g<ag.heap.size:=λg s=>(D.lt g s).2;refine qU mixed [⟨43,[],[10]⟩,⟨44,[],[10]⟩,⟨45,[1],[]⟩,⟨46,[2],[]⟩,⟨47,[3],[]⟩,⟨48,[],[10]⟩,⟨49,[5],[]⟩,⟨50,[6],[]⟩,⟨51,[7],[]⟩,⟨52,[8],[]⟩,⟨53,[],[10]⟩,⟨54,[10],[]⟩,⟨55,[11],[]⟩,⟨56,[12],[]⟩,⟨57,[13],[]⟩,⟨58,[4,9,14],[]⟩] [SP.eq (.pointer (some ⟨g,k*2,none⟩)),SP.eq (.pointer (some ⟨g,k*2,none⟩)),SP.eq (.pointer (some ⟨g,k*2,none⟩)),SP.eq (.pointer (some ⟨g,k*2+1,none⟩)),SP.eq (.slice o z.a6.length p),SP.eq (.pointer (some ⟨g,k*2,none⟩)),SP.eq (.pointer (some ⟨g,k*2,none⟩)),SP.eq (.pointer (some ⟨g,k*2+1,none⟩)),SP.eq (.slice o z.a6.length p),SP.eq (.int .i64 (z.a6.length:Int)),SP.eq (.pointer (some ⟨g,k*2,none⟩)),SP.eq (.pointer (some ⟨g,k*2,none⟩)),SP.eq (.pointer (some ⟨g,k*2+1,none⟩)),SP.eq (.slice o z.a6.length p),SP.eq (.int .i64 (z.a6.length:Int)),SP.safe S (z.a6.drop 1)] rfl rfl rfl rfl ⟨?_,?_,?_,?_,?_,?_,?_,?_,?_,?_,?_,?_,?_,?_,?_,?_,trivial⟩ ?_
 ·intro a w2 m c d n f;exact cB ah ⟨c,d,bQ (E:=[(10,(.pointer (some ⟨g,k*2,none⟩)))]) ⟨n 10 rfl _ rfl,trivial⟩⟩ rfl rfl rfl rfl rfl
 ·intro a w2 m c d n f;exact cB ah ⟨c,d,bQ (E:=[(10,(.pointer (some ⟨g,k*2,none⟩)))]) ⟨n 10 rfl _ rfl,trivial⟩⟩ rfl rfl rfl rfl rfl
 ·intro a w2 m c d n f;exact cB ah ⟨c,d,bQ (E:=[(44,(.pointer (some ⟨g,k*2,none⟩)))]) ⟨(f 1 rfl _ _ rfl rfl),trivial⟩⟩ rfl rfl rfl rfl rfl
 ·intro a w2 m c d n f;exact cB ah ⟨c,d,bQ (E:=[(45,(.pointer (some ⟨g,k*2,none⟩)))]) ⟨(f 2 rfl _ _ rfl rfl),trivial⟩⟩ rfl rfl rfl rfl rfl
 ·intro a w2 m c d n f;exact nJ ah ⟨c,d,bQ (E:=[(46,(.pointer (some ⟨g,k*2+1,none⟩)))]) ⟨(f 3 rfl _ _ rfl rfl),trivial⟩⟩ rfl rfl rfl rfl rfl rfl (y.b7 m) [(.slice o z.a6.length p)] (kz t) rfl (.inr rfl) (.slice o z.a6.length p) rfl
 ·intro a w2 m c d n f;exact cB ah ⟨c,d,bQ (E:=[(10,(.pointer (some ⟨g,k*2,none⟩)))]) ⟨n 10 rfl _ rfl,trivial⟩⟩ rfl rfl rfl rfl rfl
 ·intro a w2 m c d n f;exact cB ah ⟨c,d,bQ (E:=[(48,(.pointer (some ⟨g,k*2,none⟩)))]) ⟨(f 5 rfl _ _ rfl rfl),trivial⟩⟩ rfl rfl rfl rfl rfl
 ·intro a w2 m c d n f;exact cB ah ⟨c,d,bQ (E:=[(49,(.pointer (some ⟨g,k*2,none⟩)))]) ⟨(f 6 rfl _ _ rfl rfl),trivial⟩⟩ rfl rfl rfl rfl rfl
 ·intro a w2 m c d n f;exact nJ ah ⟨c,d,bQ (E:=[(50,(.pointer (some ⟨g,k*2+1,none⟩)))]) ⟨(f 7 rfl _ _ rfl rfl),trivial⟩⟩ rfl rfl rfl rfl rfl rfl (y.b7 m) [(.slice o z.a6.length p)] (kz t) rfl (.inr rfl) (.slice o z.a6.length p) rfl
 ·intro a w2 m c d n f;exact cB ah ⟨c,d,bQ (E:=[(51,(.slice o z.a6.length p))]) ⟨(f 8 rfl _ _ rfl rfl),trivial⟩⟩ rfl rfl rfl rfl rfl
 ·intro a w2 m c d n f;exact cB ah ⟨c,d,bQ (E:=[(10,(.pointer (some ⟨g,k*2,none⟩)))]) ⟨n 10 rfl _ rfl,trivial⟩⟩ rfl rfl rfl rfl rfl
 ·intro a w2 m c d n f;exact cB ah ⟨c,d,bQ (E:=[(53,(.pointer (some ⟨g,k*2,none⟩)))]) ⟨(f 10 rfl _ _ rfl rfl),trivial⟩⟩ rfl rfl rfl rfl rfl
 ·intro a w2 m c d n f;exact cB ah ⟨c,d,bQ (E:=[(54,(.pointer (some ⟨g,k*2,none⟩)))]) ⟨(f 11 rfl _ _ rfl rfl),trivial⟩⟩ rfl rfl rfl rfl rfl
 ·intro a w2 m c d n f;exact nJ ah ⟨c,d,bQ (E:=[(55,(.pointer (some ⟨g,k*2+1,none⟩)))]) ⟨(f 12 rfl _ _ rfl rfl),trivial⟩⟩ rfl rfl rfl rfl rfl rfl (y.b7 m) [(.slice o z.a6.length p)] (kz t) rfl (.inr rfl) (.slice o z.a6.length p) rfl
 ·intro a w2 m c d n f;exact cB ah ⟨c,d,bQ (E:=[(56,(.slice o z.a6.length p))]) ⟨(f 13 rfl _ _ rfl rfl),trivial⟩⟩ rfl rfl rfl rfl rfl
 ·intro a w2 m c d n f;exact(Z0 (S:=S) (l':=some (.i64,1)) (h':=some (.i64,(z.a6.length:Int))) (m':=some (.i64,(z.a6.length:Int))) (ys:=z.a6.drop 1) ah ⟨c,d,bQ (E:=[(47,(.slice o z.a6.length p)),(52,(.int .i64 (z.a6.length:Int))),(57,(.int .i64 (z.a6.length:Int)))]) ⟨(f 4 rfl _ _ rfl rfl),(f 9 rfl _ _ rfl rfl),(f 14 rfl _ _ rfl rfl),trivial⟩⟩ rfl rfl rfl rfl rfl rfl rfl rfl rfl rfl rfl rfl (ae.keep (O:=[]) (O':=[]) m.dU λg s=>m.block g (aA g s) (by simp)) (by
   simp only[ω];unfold dL;have:=(δ.1 W).1;rw[if_pos (by simp at this ⊢;omega)];simp)).weaken (λu ag ⟨hu,av⟩=>⟨⟨λg s=>ζ (aA g s) (μ m.size av.size),hu⟩,av⟩)
 intro a w4 f4 c d Z aB;have hH:=hH.b7 f4;have D:=D.b7 f4;have y:=y.b7 f4;have q:=q.b7 f4;have an:=C.trans (bC.nE C.ob C.tr.size f4);obtain⟨_,af⟩:(∀g∈S,g<w4.heap.size)/\Safe S w4 (a.tmps.getD 58 undef) (z.a6.drop 1):=aB 15 _ _ rfl rfl;obtain⟨bA,aC⟩: ∃v,a.tmps.getD 58 undef=v:=⟨_,rfl⟩;rw[aC] at af;obtain⟨P,T,rfl,_,_⟩:=eS (af [] λ_ _ hm=>by cases hm);refine oh (E:=[(4,(.pointer (some ⟨i,0,none⟩))),(7,(.pointer (some ⟨b,0,none⟩))),(11,(.int .u64 w0)),(43,(.pointer (some ⟨g,k*2,none⟩))),(58,(.slice P (z.a6.drop 1).length T))]) (l:=[16,17,18]) c d ⟨Z 4 _ rfl rfl,Z 7 _ rfl rfl,Z 11 _ rfl rfl,(aB 0 _ _ rfl rfl),aC,trivial⟩ rfl ?_;generalize bq:z.a6.drop 1=Q at*
 refine ax ah [16,17] [(4,(.pointer (some ⟨i,0,none⟩))),(7,(.pointer (some ⟨b,0,none⟩))),(11,(.int .u64 w0)),(58,(.slice P Q.length T)),(60,(.pointer (some ⟨g,k*2+1,none⟩)))] rfl ⟨rfl,rfl,rfl,rfl,rfl,trivial⟩ (eT ah rfl rfl rfl rfl rfl rfl rfl y [(.slice P Q.length T)] rfl rfl (by simp[υ]) (ξe (by simp only[ν,rc,fu,ρ];show k*2+1+1<=_;omega)) (rc (ar.set k (z.aa,(.slice P Q.length T)))++R) (Ew (x:=(z.aa,(.slice o z.a6.length p))) t) (λbf aV f5=>?_));have H:=En (bs:=e.1.ao.set k (aw.mk z.aa Q)) hH.mem hH.ge hH.bB hH.ns hH.nb hH.dj a1 ay ak a_ aW ba f5 aV (by rw[ξT]) (λr t=>by
  rcases ξu t with t|rfl
  ·exact aZ r t
  ·exact⟨_,_,_,rfl⟩) (D.fo.set k af) D.lt hH.out
 have q:=q.fr f5 (by simp;omega);have aq:=an.trans (bC.gg an.ob ay (μ B.tr.size ak) f5);clear hH D;refine aQ (aG ?_);have aN:w2.heap.size<=bf.heap.size:=μ V.tr.size (μ f4.size f5.size);refine aF (aT (l:=[0,1]) rfl (ax ah [0] [(11,(.int .u64 w0)),(4,(.pointer (some ⟨i,0,none⟩))),(7,(.pointer (some ⟨b,0,none⟩))),(61,(.pointer (some ⟨b,0,none⟩)))] rfl ⟨rfl,rfl,rfl,rfl,trivial⟩ (iT rfl rfl rfl rfl rfl BQ rfl (C7 aq.ob aN ⟨_,_,_,_,H⟩) (λ_ aE s=>?_))));obtain⟨rfl,aI,G,I,J,bl,bx,H⟩:=s;refine⟨_,rfl,?_⟩;have q:bz aE i 58 [(.slice none 0 0),(.slice none 0 0)]:=(G.below _ ad).trans q;have i2:=G.sub _ i2;have au:bC w.heap.size O w aI aE:=aq.trans ⟨G.tr,G.ob,G.sub,λj a7=>G.below j (ζ a7 B.tr.size)⟩;refine ax ah [] [(11,(.int .u64 w0)),(4,(.pointer (some ⟨i,0,none⟩))),(7,(.pointer (some ⟨b,0,none⟩)))] rfl ⟨rfl,rfl,rfl,trivial⟩ (aQ (aG ?_));cases h;refine aF (aT (l:=[0,1,2,3,4,5,6,7]) rfl (ax ah [0,1,2] [(7,(.pointer (some ⟨b,0,none⟩))),(11,(.int .u64 w0)),(4,(.pointer (some ⟨i,0,none⟩))),(65,(.pointer (some ⟨b,0,none⟩)))] rfl ⟨rfl,rfl,rfl,rfl,trivial⟩ (dP ah rfl rfl rfl rfl rfl rfl rfl H.bB [I,J] rfl rfl (.inl rfl) (.agg #[I,J]) rfl ?_)));obtain⟨bh,bm,aK,_,_⟩:=H.ns.form;obtain⟨bj,bn,aM,_,_⟩:=H.row.form;refine ax ah [4] [(4,(.pointer (some ⟨i,0,none⟩))),(66,(.agg #[I,J])),(67,(.int .u64 w0))] rfl ⟨rfl,rfl,rfl,trivial⟩ (eT ah rfl rfl rfl rfl rfl rfl rfl q [I,J] rfl rfl (by rw[aK,aM];simp[υ]) rfl [I,J] rfl (λaH K F=>?_));have aU:=H.cell i2 ad F;have aO:=(au.trans (bC.gg au.ob i2 ab F)).fr;refine ax ah [6,7] [(4,(.pointer (some ⟨i,0,none⟩))),(5,(.int .u64 w0)),(6,(.int .i64 0))] rfl ⟨rfl,rfl,rfl,trivial⟩ (aQ (aG (dk ?_)));exact(kK ah (vs:=[.agg #[I,J],(.int .u64 w0),(.int .i64 0)]) ⟨_,_,rfl,⟨_,_,_,_,rfl,K,rfl,rfl,.inl rfl,rfl⟩,_,_,rfl,rfl,_,_,rfl,rfl,rfl⟩ ⟨_,rfl,⟨_,_,_,rfl,(aU.data aS),dr.2 rfl,dr.2 rfl⟩,aO⟩)
set_option maxRecDepth 100000 in
set_option maxHeartbeats 4000000 in
theorem Yz {O:Γ} {w:World} (hO:OB O w) (aJ:cC KK [] w) {v0:Value} {x0:aL} (ad:fQ.is [] w v0 x0) {v1:Value} {x1:Int} (h1:(Ty.int .u64).is [] w v1 x1) {v2:Value} {x2:Γa} (ae:(Ty.slice (Ty.int .u64)).is [] w v2 x2) {r:aL×Int} (h:p1 shut x0 x1 x2=some r):Calls η 170 #[v0,v1,v2] w (gj (Nq fQ (Ty.int .i64)) O w r):=by
 obtain rfl:=dr.1 h1;obtain⟨A2,c2,rfl,bt,bw⟩:=eS ae;obtain⟨H,I,rfl,bp,bq⟩:=h0.1 ad;have ai:bC w.heap.size O w O w:=bC.refl hO;refine fV (args:=[(.agg #[H,I]),(.int .u64 x1),(.slice A2 x2.length c2)]) (N:=55) ηe rfl rfl rfl ?_;unfold p1 at h;refine aF (aT (l:=[0,1,2]) rfl (l3 rfl rfl rfl rfl rfl rfl [H,I] rfl hO (λZ w1 n1=>?_)));have T:=n1.bB;have K:=ai.trans (bC.iH ai.tr.size n1);refine qV ah rfl rfl rfl rfl rfl rfl [(.slice none 0 0),(.slice none 0 0)] rfl K.ob (λc w2 n2=>?_);have T:=T.b7 n2.fr;have f:=n2.bB;have V:w.heap.size<=c:=μ K.tr.size n2.ge;have n:=K.trans (bC.iH K.tr.size n2);have i2:c∈c::Z::O:=τ;have M:c<w2.heap.size:=f.lt;have aM: ∀g∈O,g<w2.heap.size:=λg E=>ζ (hO g E) n.tr.size;refine ax ah [2] [(1,(.int .u64 x1)),(2,(.slice A2 x2.length c2)),(3,(.pointer (some ⟨Z,0,none⟩))),(6,(.pointer (some ⟨c,0,none⟩)))] rfl ⟨rfl,rfl,rfl,rfl,trivial⟩ (aQ (aG (aF (aT (l:=[0,1,2,3,4,5,6,7,8,9]) rfl (dP ah rfl rfl rfl rfl rfl rfl rfl T [H,I] rfl rfl (.inl rfl) (.agg #[H,I]) rfl ?_)))));obtain⟨e,he,h⟩:=bind_some h;refine ax ah [1] [(1,(.int .u64 x1)),(2,(.slice A2 x2.length c2)),(6,(.pointer (some ⟨c,0,none⟩))),(13,(.agg #[H,I])),(14,(.int .u64 x1))] rfl ⟨rfl,rfl,rfl,rfl,rfl,trivial⟩ (iT rfl rfl rfl rfl rfl BP rfl (C5 n.ob (aJ.tr n.fr.dU) (ad.tr n.fr.dU) he) (λ_ bd E=>?_));obtain⟨av,Q,rfl,A,aK⟩:=E;refine⟨_,rfl,?_⟩;have f:bz bd c 58 [(.slice none 0 0),(.slice none 0 0)]:=(A.below _ M).trans f;have d:=n.to A;have i2:=A.sub _ i2;refine ax ah [3,4,5,6,7,8,9] [(1,(.int .u64 x1)),(2,(.slice A2 x2.length c2)),(6,(.pointer (some ⟨c,0,none⟩))),(8,av),(9,(.int .i64 e.2.1)),(10,(.int .i64 e.2.2))] rfl ⟨rfl,rfl,rfl,rfl,rfl,rfl,trivial⟩ (aQ (aG (aF (aF (aT (l:=[0,1]) rfl (ax ah [0,1] [(1,(.int .u64 x1)),(2,(.slice A2 x2.length c2)),(6,(.pointer (some ⟨c,0,none⟩))),(8,av),(9,(.int .i64 e.2.1)),(10,(.int .i64 e.2.2)),(20,(.bool (!(e.2.2==0))))] rfl ⟨rfl,rfl,rfl,rfl,rfl,rfl,rfl,trivial⟩ (aQ (aG ?_))))))));rcases ic h with⟨p,h⟩|⟨p,h⟩
 ·refine fe rfl p ?_;cases h;refine aF (aT (l:=[0,1,2,3]) rfl (ax ah [0,1] [(6,(.pointer (some ⟨c,0,none⟩))),(21,(.agg #[(.slice none 0 0),(.slice none 0 0)])),(22,(.int .i64 e.2.2))] rfl ⟨rfl,rfl,rfl,trivial⟩ (eT ah rfl rfl rfl rfl rfl rfl rfl f [(.slice none 0 0),(.slice none 0 0)] rfl rfl (by simp[υ]) rfl [(.slice none 0 0),(.slice none 0 0)] rfl (λaz C q=>?_))));refine ax ah [3] [(6,(.pointer (some ⟨c,0,none⟩))),(7,(.int .i64 e.2.2))] rfl ⟨rfl,rfl,trivial⟩ (aQ (aG (dk ?_)));exact ff (kK ah (vs:=[.agg #[(.slice none 0 0),(.slice none 0 0)],(.int .i64 e.2.2)]) ⟨_,_,rfl,⟨_,_,_,_,rfl,C,rfl,rfl,.inl rfl,rfl⟩,_,_,rfl,rfl,rfl⟩ ⟨_,rfl,⟨_,_,rfl,(h0.2 ⟨_,_,rfl,gH _ _ _,gH _ _ _⟩),dr.2 rfl⟩,(d.trans (bC.gg d.ob i2 V q)).fr⟩)
 refine fz rfl p ?_;have aR:e.2.2=0:=by simpa using p
 obtain⟨b,rfl,nv,rv,S,ar,hH⟩:=aK aR;refine eo (aG ?_);obtain⟨z,bb,h⟩:=bind_some h;obtain⟨br,X⟩:=kh bb;obtain⟨k,hk⟩: ∃k:Nat,k=e.2.1.toNat:=⟨_,rfl⟩;rw[<-hk] at X;have aS:e.2.1=(k:Int):=by omega
 rw[aS];rw[<-hk] at h;have an:=hH.FA;obtain⟨bF,o,a'⟩:=an.fo.at_ X;obtain⟨i,m,rfl,bu,bA⟩:=eS (a' [] λ_ _ hm=>by cases hm);obtain⟨bg,J,rfl,_,_⟩:=hH.row.form;have aX:=(δ.1 o).1;obtain⟨g,R,rfl,W,af,u,aY,aP,a1,aU⟩:=EX hH.row (by omega);have aV:g≠b:=λe=>hH.rb (by rw[<-e];rfl);have ab:(k:Int).toNat*({tag:=8,k:=0,e:=0,fs:=[(29,0),(40,1)],size:=2,bytes:=32,zero:=.agg #[.int .u64 0,.slice none 0 0]}:TI).size=k*2:=by rw[ι]
 have aZ:(k:Int).toNat<ar.length:=by rw[ι];exact aX
 refine aF (aT (l:=[0,1,2,3,4,5,6,7]) rfl (ax ah [0,1,2,3] [(6,(.pointer (some ⟨c,0,none⟩))),(2,(.slice A2 x2.length c2)),(8,(.pointer (some ⟨b,0,none⟩))),(9,(.int .i64 (k:Int))),(26,(.pointer (some ⟨b,1,none⟩)))] rfl ⟨rfl,rfl,rfl,rfl,rfl,trivial⟩ (dP ah rfl rfl rfl rfl rfl rfl rfl hH.bB [(.slice (some ⟨g,0,none⟩) ar.length J)] rfl rfl (.inr rfl) (.slice (some ⟨g,0,none⟩) ar.length J) rfl (ax ah [5] [(6,(.pointer (some ⟨c,0,none⟩))),(2,(.slice A2 x2.length c2)),(8,(.pointer (some ⟨b,0,none⟩))),(9,(.int .i64 (k:Int))),(27,(.slice (some ⟨g,0,none⟩) ar.length J)),(28,(.int .i64 (k:Int)))] rfl ⟨rfl,rfl,rfl,rfl,rfl,rfl,trivial⟩ (oj ah rfl rfl rfl rfl rfl rfl rfl rfl rfl rfl (by omega) aZ ?_)))));rw[ab,eC,ψ];refine ax ah [7] [(6,(.pointer (some ⟨c,0,none⟩))),(2,(.slice A2 x2.length c2)),(8,(.pointer (some ⟨b,0,none⟩))),(11,(.pointer (some ⟨g,k*2,none⟩)))] rfl ⟨rfl,rfl,rfl,rfl,trivial⟩ (aQ (aG (aF (aF (aT (l:=[0,1,2,3,4,5,6,7,8]) rfl (ax ah [0,1,2] [(6,(.pointer (some ⟨c,0,none⟩))),(2,(.slice A2 x2.length c2)),(8,(.pointer (some ⟨b,0,none⟩))),(11,(.pointer (some ⟨g,k*2,none⟩))),(32,(.pointer (some ⟨g,k*2+1,none⟩)))] rfl ⟨rfl,rfl,rfl,rfl,rfl,trivial⟩ (dP ah rfl rfl rfl rfl rfl rfl rfl u [(.slice i z.a6.length m)] (kz o) rfl (.inr rfl) (.slice i z.a6.length m) rfl (ax ah [4,5,6,7,8] [(6,(.pointer (some ⟨c,0,none⟩))),(2,(.slice A2 x2.length c2)),(8,(.pointer (some ⟨b,0,none⟩))),(11,(.pointer (some ⟨g,k*2,none⟩))),(38,(.bool (decide (γ.wrap ((z.a6.length:Int)+(x2.length:Int))>4))))] rfl ⟨rfl,rfl,rfl,rfl,rfl,trivial⟩ (aQ (aG ?_))))))))));rcases ic h with⟨p,h⟩|⟨p,h⟩
 ·refine fe rfl p ?_;cases h;refine aF (aT (l:=[0,1,2]) rfl (ax ah [0] [(6,(.pointer (some ⟨c,0,none⟩))),(39,(.agg #[(.slice none 0 0),(.slice none 0 0)]))] rfl ⟨rfl,rfl,trivial⟩ (eT ah rfl rfl rfl rfl rfl rfl rfl f [(.slice none 0 0),(.slice none 0 0)] rfl rfl (by simp[υ]) rfl [(.slice none 0 0),(.slice none 0 0)] rfl (λaz C q=>?_))));refine ax ah [2] [(6,(.pointer (some ⟨c,0,none⟩))),(7,(.int .i64 6))] rfl ⟨rfl,rfl,trivial⟩ (aQ (aG (dk ?_)));exact ff (kK ah (vs:=[.agg #[(.slice none 0 0),(.slice none 0 0)],(.int .i64 6)]) ⟨_,_,rfl,⟨_,_,_,_,rfl,C,rfl,rfl,.inl rfl,rfl⟩,_,_,rfl,rfl,rfl⟩ ⟨_,rfl,⟨_,_,rfl,(h0.2 ⟨_,_,rfl,gH _ _ _,gH _ _ _⟩),dr.2 rfl⟩,(d.trans (bC.gg d.ob i2 V q)).fr⟩)
 refine fz rfl p (eo (aG ?_));obtain⟨ws,ba,h⟩:=bind_some h;cases h;refine aF (aT (l:=[0,1,2,3,4,5,6,7,8,9]) rfl (ax ah [0,1,2,3] [(6,(.pointer (some ⟨c,0,none⟩))),(2,(.slice A2 x2.length c2)),(8,(.pointer (some ⟨b,0,none⟩))),(11,(.pointer (some ⟨g,k*2,none⟩))),(40,(.pointer (some ⟨g,k*2,none⟩))),(43,(.pointer (some ⟨g,k*2+1,none⟩)))] rfl ⟨rfl,rfl,rfl,rfl,rfl,rfl,trivial⟩ (dP ah rfl rfl rfl rfl rfl rfl rfl u [(.slice i z.a6.length m)] (kz o) rfl (.inr rfl) (.slice i z.a6.length m) rfl (ax ah [5] [(6,(.pointer (some ⟨c,0,none⟩))),(8,(.pointer (some ⟨b,0,none⟩))),(40,(.pointer (some ⟨g,k*2,none⟩))),(44,(.slice i z.a6.length m)),(45,(.slice A2 x2.length c2))] rfl ⟨rfl,rfl,rfl,rfl,rfl,trivial⟩ ?_))));obtain⟨bc,aB,aC,au,B,U,a_⟩:=hH.fo.at_ (show(e.1.ao.map bx)[k]? =some (bx z) by simp[X]);rw[o] at au;obtain rfl:(.slice i z.a6.length m)=bc:=by injection au with e;injection e with ab bo
 have aW: ∀j,((.slice i z.a6.length m):Value).ownBlock=some j->j∈S:=λj a=>by rw[B,a];simp
 have P: ∀j,j∈Q->((.slice i z.a6.length m):Value).ownBlock≠some j:=λj a e=>hH.out j (aW j e) a;have L: ∀j,j<w2.heap.size->((.slice i z.a6.length m):Value).ownBlock≠some j:=λj a e=>by have:=(U.lt j e).1;omega
 refine Pt (O:=((.slice i z.a6.length m):Value).ownBlock.toList) ah rfl rfl rfl rfl rfl rfl rfl rfl rfl rfl rfl rfl rfl rfl A.fr (λj a=>(U.lt j (by simpa using a)).2) (U.own gL λj a=>by simpa using a) (ae.tr ⟨d.fr.os,d.fr.tape,d.fr.output,d.fr.size,λj a _=>⟨λhm=>L j (ζ a n.tr.size) (by simpa using hm),d.fr.block j a (by simp)⟩⟩) ba (λbE w4 bk ap=>?_);obtain⟨v,y,rfl,_,_⟩:=ap.own.form;have f:bz w4 c 58 [(.slice none 0 0),(.slice none 0 0)]:=(ap.fr _ f.lt (L _ M)).trans f;have u:bz w4 g 132 (rc ar++R):=(ap.fr _ u.lt (P _ W)).trans u;have hblk:bz w4 b 262 [nv,(.slice (some ⟨g,0,none⟩) ar.length J)]:=(ap.fr _ hH.bB.lt (P _ hH.mem)).trans hH.bB;have a7:=(hH.ns.hQ.keep wu (w':=w4) λj a=>ap.fr j (hH.ns.lt j a).2 (P _ (hH.ns.mem j a))).own wu hH.ns.mem;have aj:bC w.heap.size O w Q w4:=⟨⟨ap.tr.os.trans d.tr.os,ap.tr.tape.trans d.tr.tape,ap.tr.output.trans d.tr.output,μ d.tr.size ap.tr.size,λj a aq=>⟨(d.tr.keep j a aq).1,(ap.fr j (ζ a d.tr.size) (L j (ζ a n.tr.size))).trans (d.tr.keep j a aq).2⟩⟩,λj a=>ζ (d.ob j a) ap.tr.size,d.sub,λj a=>(ap.fr j (ζ a d.tr.size) (L j (ζ a n.tr.size))).trans (d.below j a)⟩;have Y:=hH.nd;rw[B,ζ1,ζ1] at Y;have D:=a_ (w':=w4) (λj a=>ap.fr j (hH.fo.lt j (by rw[B];simp at a ⊢;rcases a with a|a;exact .inl a;exact .inr (.inr a))).2 (λe=>by
  rcases ξA.1 a with a|a
  ·exact Y.1.2.2 j a j (by rw[e];simp) rfl
  ·exact Y.2.2 j (ξm _ (by rw[e];simp)) j a rfl)) gL ap.own.hQ
 obtain⟨S',ag⟩: ∃S',S'=aB++(ηm v ws.length y).ownBlock.toList++aC:=⟨_,rfl⟩;rw[<-ag] at D;have D:cV TW 35 w2.heap.size w4 S' (ar.set k (z.aa,.slice v ws.length y)) ((e.1.ao.set k (aw.mk z.aa ws)).map bx):=by rw[η9];exact D
 have a8: ∀j∈S',j∉Q:=λj a hm=>by
  rw[ag] at a;simp only[ξA,Option.mem_toList] at a;rcases a with(a|a)|a
  ·exact hH.out j (by rw[B];simp[a]) hm
  ·exact ap.ne j (d.ob j hm) (P j hm) a
  ·exact hH.out j (by rw[B];simp[a]) hm
 refine ax ah [7,8] [(6,(.pointer (some ⟨c,0,none⟩))),(8,(.pointer (some ⟨b,0,none⟩))),(46,(.slice v ws.length y)),(48,(.pointer (some ⟨g,k*2+1,none⟩)))] rfl ⟨rfl,rfl,rfl,rfl,trivial⟩ (eT ah rfl rfl rfl rfl rfl rfl rfl u [(.slice v ws.length y)] rfl rfl (by simp[υ]) (ξe (by simp only[ν,rc,fu,ρ];show k*2+1+1<=_;omega)) (rc (ar.set k (z.aa,(.slice v ws.length y)))++R) (Ew (x:=(z.aa,(.slice i z.a6.length m))) o) (λbf aO f5=>?_));have t:=En (bs:=e.1.ao.set k (aw.mk z.aa ws)) hH.mem hH.ge hblk a7 hH.nb hH.dj aV W af aY aP a1 f5 aO (by rw[ξT]) (λr o=>by
  rcases ξu o with o|rfl
  ·exact aU r o
  ·exact⟨_,_,_,rfl⟩) (dE.of S' D (λ_ h=>h)) D.lt a8
 have f:=f.fr f5 (by simp;omega);have ak:=aj.trans (bC.gg aj.ob W (μ n.tr.size af) f5);clear hH an;refine aQ (aG ?_);have aH:w2.heap.size<=bf.heap.size:=μ A.tr.size (μ ap.tr.size f5.size);refine aF (aT (l:=[0,1]) rfl (ax ah [0] [(6,(.pointer (some ⟨c,0,none⟩))),(8,(.pointer (some ⟨b,0,none⟩))),(49,(.pointer (some ⟨b,0,none⟩)))] rfl ⟨rfl,rfl,rfl,trivial⟩ (iT rfl rfl rfl rfl rfl BQ rfl (C7 ak.ob aH ⟨_,_,_,_,t⟩) (λ_ ay E=>?_))));obtain⟨rfl,aA,s,F,G,bl,bD,t⟩:=E;refine⟨_,rfl,?_⟩;have f:bz ay c 58 [(.slice none 0 0),(.slice none 0 0)]:=(s.below _ M).trans f;have i2:=s.sub _ i2;have al:bC w.heap.size O w aA ay:=ak.trans ⟨s.tr,s.ob,s.sub,λj a=>s.below j (ζ a n.tr.size)⟩;refine ax ah [] [(6,(.pointer (some ⟨c,0,none⟩))),(8,(.pointer (some ⟨b,0,none⟩)))] rfl ⟨rfl,rfl,trivial⟩ (aQ (aG (aF (aT (l:=[0,1,2,3,4,5]) rfl (ax ah [0,1,2] [(8,(.pointer (some ⟨b,0,none⟩))),(6,(.pointer (some ⟨c,0,none⟩))),(53,(.pointer (some ⟨b,0,none⟩)))] rfl ⟨rfl,rfl,rfl,trivial⟩ (dP ah rfl rfl rfl rfl rfl rfl rfl t.bB [F,G] rfl rfl (.inl rfl) (.agg #[F,G]) rfl ?_))))));obtain⟨bh,bm,aD,_,_⟩:=t.ns.form;obtain⟨bj,bn,aE,_,_⟩:=t.row.form;refine eT ah rfl rfl rfl rfl rfl rfl rfl f [F,G] rfl rfl (by rw[aD,aE];simp[υ]) rfl [F,G] rfl (λaz C q=>?_);have aN:=t.cell i2 M q;have aI:=(al.trans (bC.gg al.ob i2 V q)).fr;refine ax ah [5] [(6,(.pointer (some ⟨c,0,none⟩))),(7,(.int .i64 0))] rfl ⟨rfl,rfl,trivial⟩ (aQ (aG (dk ?_)));exact(kK ah (vs:=[.agg #[F,G],(.int .i64 0)]) ⟨_,_,rfl,⟨_,_,_,_,rfl,C,rfl,rfl,.inl rfl,rfl⟩,_,_,rfl,rfl,rfl⟩ ⟨_,rfl,⟨_,_,rfl,(aN.data aM),dr.2 rfl⟩,aI⟩)
section
variable {P:Program} {r:Option Nat} {N:Nat} {Θ:cz} {ops:Array Oper} {Q:Exit->Act->World->Prop} {l:Γ} {E:Env} {ds:List Deferred} {w:World} {i d:Nat} {o:Oper} {O:Γ}
theorem Me (C:Θ.ok P) {a:Act} (f:Has N E ds a) (q:ops[i]? =some o) (hw:want N ops E o.guard=some true) (l:o.dst=some d) {t:Nat} {x y:Operand} {g D:TI} (h:o.op= .slice t x none (some y) none) (s:Θ.get t=some g)
  (j:g.tag=5) (z:Θ.get g.e=some D) {ad:Addr} {n c hi:Nat} {k:IntKind} (A:ev E x=some (.slice (some ad) n c)) (B:ev E y=some (.int k hi)) (p:n<=c) (m:hi<=c):
  eK P r ops Q i d a w (λu w'=>u= .slice (some ad) hi c/\Fr [] w w'):=by
 refine lD q (gK f hw) l (b:=true) (v:=.slice (some ad) hi c) (w':=w) ?_ ⟨rfl,Fr.refl _ _⟩;simp only[if_true];refine⟨by rw[h];simp,?_⟩;simp only[execOp,h,ξx,f.eval A,ω,ζg,f.eval B,Nu C s j z p m];rfl
theorem Px (p:Θ.ok P) (C:ops[i]? =some o) (hw:want N ops E o.guard=some true) (A:o.dst=some d) (v:ηl d N=true) {t:Nat} {x y z:Operand} {g s:TI} (m:o.op= .slice t x (some y) (some z) none) (D:Θ.get t=some g)
  (u:g.tag=5) (F:Θ.get g.e=some s) {ad:Addr} {n c lo hi:Nat} {k q:IntKind} (G:ev E x=some (.slice (some ad) n c)) (H:ev E y=some (.int k lo)) (I:ev E z=some (.int q hi)) (B:n<=c) (L:lo<=hi) (J:hi<=c) (K:lo<c)
  (h:WO P r N ops Q l ((d,.slice (some (ad.add (lo*s.size))) (hi-lo) (c-lo))::E) ds w):WO P r N ops Q (i::l) E ds w:=by
 have hu:=(p.fits D).slice u;have j:=n4 (P:=P) (w:=w) (b:=true) (n:=n) (c:=c) (lo:=some (k,(lo:Int))) (hi:=some (q,(hi:Int))) (mx:=none) B (by simp) (by simp;omega) (by simp;omega) (by simp) (by simp);simp only[ω,ζg,ξ1,ξw,gy,ι] at j;refine ee C hw A v (by rw[m];simp) (λa f=>?_) h;simp only[execOp,m,ξx,f.eval G,ω,ζg,f.eval H,f.eval I,Instr.sliceAt,run_underlying hu,ξr,Instr.slice,j,dS (p.fits F),ζe];rw[if_neg (by omega)]
theorem Pu (z:Θ.ok P) (I:ops[i]? =some o) (hw:want N ops E o.guard=some true) (D:o.dst=some d) (B:ηl d N=true) {t:Nat} {x y:Operand} {n b:TI}
  (q:o.op= .call {callee:=.builtin .append,args:= #[x,y],argTypes:= #[t,t]}) (L:Θ.get t=some n) (A:n.tag=5) (M:Θ.get n.e=some b) {g k c m f e:Nat} {ad:Addr} {cur:Array Value} {us:Γb}
  (S:ev E x=some (.slice (some ⟨g,0,none⟩) k c)) (U:ev E y=some (.slice (some ad) m f)) (j:w.heap[g]? =some (.cells cur e (0,0))) (R:dB w ad us) (v:us.length=m*b.size) (h1: ∀u∈us,u.oneCell'=true) (G:k+m<=c) (C:(k+m)*b.size<=cur.size)
  (h: ∀(W:World) (new:Array Value),Fr [g] w W->W.heap[g]? =some (.cells new e (0,0))->new=(cur.toList.take (k*b.size)++us++cur.toList.drop (k*b.size+us.length)).toArray->WO P r N ops Q l ((d,.slice (some ⟨g,0,none⟩) (k+m) c)::E) ds W):WO P r N ops Q (i::l) E ds w:=by
 have O:=(z.fits L).slice A;obtain⟨x',T,K,V,X⟩:=(z.fits M).info;have s:=run_storeCells_at P g (k*b.size) e us 0 cur w j (by rw[v];rw[Nat.add_mul] at C;omega) h1;simp only[ξy] at s;have H:=h (w.setRow g (cur.toList.take (k*b.size)++us++cur.toList.drop (k*b.size+us.length)).toArray) _ (jJ j) (by simp only[ηa,ζf,j,if_true,ω]) rfl;refine ee I hw D B (by rw[q];simp) (λa p=>?_) H;have F:=run_firstCells_some (P:=P) (w:=w) b.size m ad m f us v R;have J:(ζK #[t,t] o.type #[.slice (some ⟨g,0,none⟩) k c,.slice (some ad) m f]).run P w= .ok (.slice (some ⟨g,0,none⟩) (k+m) c) (w.setRow g (cur.toList.take (k*b.size)++us++cur.toList.drop (k*b.size+us.length)).toArray):=by
  simp[ζK,run_underlying O,sizeOf,typeInfo,T,Builtin.lenOf,K,F,G,eC,s]
 simp only[execOp,q,ξx,resolve,ζe,ξr,invoke,builtin,ζ9,ξz,ξV,p.eval S,p.eval U,J]
end
noncomputable def np (z:aD):Value×Value:=(.int .u64 z.a1,.int .u64 z.aa)
noncomputable def nc (L:List aD):Γb:=pc (L.map np)
theorem DG {O:Γ} {w:World}: ∀ {L:List aD},bH dT O w (nc L) L
 |[]=>rfl
 |z::L=>⟨[.int .u64 z.a1,.int .u64 z.aa],nc L,rfl,⟨[.int .u64 z.a1],[.int .u64 z.aa],rfl,rfl,rfl⟩,DG⟩
theorem M_ {O:Γ} {w:World}: ∀ {L:List aD} {cs:Γb},bH dT O w cs L->cs=nc L
 |[],_,h=>h
 |z::L,cs,⟨c1,c2,h1,a,b⟩=>by
  rw[h1,M_ b,adk a];rfl
theorem kn (L:List aD):(nc L).length=L.length*2:=by rw[nc,fu,ρ]
theorem Zt (L:List aD) (k:Nat):(nc L).take (k*2)=nc (L.take k):=by rw[nc,vB,nc,ζ6]
theorem Zr (L:List aD) (k:Nat):(nc L).drop (k*2)=nc (L.drop k):=by rw[nc,vA,nc,ζr]
theorem Zq (L M:List aD):nc (L++M)=nc L++nc M:=by rw[nc,ξC,Ef];rfl
theorem Zs: ∀ {L:List aD} {u:Value},u∈nc L->u.oneCell'=true:=λ{L u} h=>bH.one (DG (O:=[]) (w:=default) (L:=L)) u h
noncomputable def wc (xs:List aD) (i j:Int):Option (List aD):=if 0<=i/\i<=j/\j<=xs.length then some (xs.take i.toNat++xs.drop j.toNat) else none
set_option maxRecDepth 100000 in
set_option maxHeartbeats 4000000 in
theorem acK {O:Γ} {w:World} (hO:OB O w) {B:Nat} {v:Value} {xs:List aD} (p:Go.Dc.Own dT 127 B O w v xs) {i j:Int} {zs:List aD} (r:wc xs i j=some zs):
  Calls η 223 #[v,.int .i64 i,.int .i64 j] w (eB dT 127 B O w v zs):=by
 unfold wc at r;split at r
 case isFalse=>cases r
 rename_i aC;cases r;obtain⟨i,rfl⟩: ∃k:Nat,i=k:=⟨i.toNat,by omega⟩;obtain⟨j,rfl⟩: ∃k:Nat,j=k:=⟨j.toNat,by omega⟩;simp only[ι] at*
 obtain⟨A,c,rfl,aI,aB⟩:=p.form;have af:(Ty.slice dT).is [] w (.slice A xs.length c) xs:=p.hQ.data wu (λ_ _ h=>by cases h);refine fV (args:=[.slice A xs.length c,.int .i64 i,.int .i64 j]) (N:=33) ηf rfl rfl rfl (aF (aT (l:=[0]) rfl (ax ah [0] [(0,.slice A xs.length c),(1,.int .i64 i),(2,.int .i64 j)] rfl ⟨rfl,rfl,rfl,trivial⟩ (aQ (aG (aF (aT (l:=[0,1,2,3,4,5]) rfl (ax ah [0,1,2,3,4] [(0,.slice A xs.length c),(1,.int .i64 i),(2,.int .i64 j),(8,.slice A xs.length c),(9,.int .i64 i),(10,.int .i64 j),(12,.int .i64 (xs.length:Int))] rfl ⟨rfl,rfl,rfl,rfl,rfl,rfl,rfl,trivial⟩ ?_))))))));refine Pw (l':=some (.i64,(i:Int))) (h':=some (.i64,(j:Int))) (m':=some (.i64,(xs.length:Int))) (ys:=(xs.take j).drop i) ah rfl rfl rfl rfl rfl rfl rfl rfl rfl rfl rfl rfl rfl af (by
  simp only[ω];unfold dL;rw[if_pos (by simp;omega)];simp) (λv1 h1=>?_)
 refine aQ (aG (aF (aF (aT (l:=[0,1,2]) rfl (ax ah [0,1,2] [(0,.slice A xs.length c),(1,.int .i64 i),(2,.int .i64 j),(16,.bool ((i:Int)==j))] rfl ⟨rfl,rfl,rfl,rfl,trivial⟩ (aQ (aG ?_)))))))
 by_cases an:i=j
 ·subst an;refine fe rfl (by simp) ?_;refine aF (aT (l:=[0,1]) rfl (ax ah [0,1] [(6,.slice A xs.length c)] rfl ⟨rfl,trivial⟩ (aQ (aG (dk (ff (ez rfl ⟨_,O,rfl,?_⟩)))))));rw[ξd];exact⟨p,Tr.refl _ _,hO,Sub.refl _,λ_ _ _=>rfl,λ_ _ h=>h⟩
 refine fz rfl (beq_eq_false_iff_ne.2 (by omega)) ?_;refine eo (aG ?_);obtain⟨cs,⟨aA,C⟩,aw⟩:=p.ex;rcases C with⟨_,aE⟩|⟨g,cap,cur,C,U,x,y,ab,G,H⟩
 ·omega
 injection C with S aH Z;subst S;subst Z;have aj:=p.mem g rfl;have ae:=M_ aw;have X:dT.n=2:=rfl;rw[X] at G H;obtain⟨R,W⟩: ∃R,R=cur.toList.drop (xs.length*2):=⟨_,rfl⟩;have I:cur.toList=nc xs++R:=by
  rw[W,<-ae,<-H];exact(ξd _ _).symm
 have az:xs.length*2+R.length=c*2:=by
  have:=congrArg ζ5 I;rw[χ,G] at this;simp only[ν,kn] at this;omega
 have f:bz w g 127 (nc xs++R):=by
  unfold bz;rw[<-I,ξO];exact x
 refine aF (aT (l:=[0,1,2]) rfl (ax ah [0,1,2] [(0,.slice (some ⟨g,0,none⟩) xs.length c),(1,.int .i64 i),(2,.int .i64 j),(7,.int .i64 (xs.length:Int))] rfl ⟨rfl,rfl,rfl,rfl,trivial⟩ (aQ (aG (aF (qU mixed [⟨20,[],[0]⟩,⟨21,[],[1]⟩,⟨22,[0,1],[]⟩,⟨23,[],[0]⟩,⟨24,[],[2]⟩,⟨25,[3,4],[]⟩] [SP.eq (.slice (some ⟨g,0,none⟩) xs.length c),SP.eq (.int .i64 i),SP.eq (.slice (some ⟨g,0,none⟩) i c),SP.eq (.slice (some ⟨g,0,none⟩) xs.length c),SP.eq (.int .i64 j),SP.eq (.slice (if c=j then some ⟨g,0,none⟩ else(some ⟨g,0,none⟩:Option Addr).map (·.add (j*2))) (xs.length-j) (c-j))] rfl rfl rfl rfl ⟨?_,?_,?_,?_,?_,?_,trivial⟩ ?_))))))
 ·intro a w2 o b d f m;exact cB ah ⟨b,d,bQ (E:=[(0,.slice (some ⟨g,0,none⟩) xs.length c)]) ⟨f 0 rfl _ rfl,trivial⟩⟩ rfl rfl rfl rfl rfl
 ·intro a w2 o b d f m;exact cB ah ⟨b,d,bQ (E:=[(1,.int .i64 i)]) ⟨f 1 rfl _ rfl,trivial⟩⟩ rfl rfl rfl rfl rfl
 ·intro a w2 o b d f m;exact Me (n:=xs.length) (c:=c) (hi:=i) ah ⟨b,d,bQ (E:=[(20,.slice (some ⟨g,0,none⟩) xs.length c),(21,.int .i64 i)]) ⟨(m 0 rfl _ _ rfl rfl),(m 1 rfl _ _ rfl rfl),trivial⟩⟩ rfl rfl rfl rfl rfl rfl rfl rfl rfl y (by omega)
 ·intro a w2 o b d f m;exact cB ah ⟨b,d,bQ (E:=[(0,.slice (some ⟨g,0,none⟩) xs.length c)]) ⟨f 0 rfl _ rfl,trivial⟩⟩ rfl rfl rfl rfl rfl
 ·intro a w2 o b d f m;exact cB ah ⟨b,d,bQ (E:=[(2,.int .i64 j)]) ⟨f 2 rfl _ rfl,trivial⟩⟩ rfl rfl rfl rfl rfl
 ·intro a w2 o b d f m;refine(nI (A:=some ⟨g,0,none⟩) (n:=xs.length) (c:=c) (lo:=j) ah ⟨b,d,bQ (E:=[(23,.slice (some ⟨g,0,none⟩) xs.length c),(24,.int .i64 j)]) ⟨(m 3 rfl _ _ rfl rfl),(m 4 rfl _ _ rfl rfl),trivial⟩⟩ rfl rfl rfl rfl rfl rfl rfl rfl rfl y (by omega)).weaken (λu Q x=>?_);exact x
 intro a Q f3 b d t z;have D:=f.b7 f3;obtain⟨ad,Y,aa⟩: ∃ad,(if c=j then some ⟨g,0,none⟩ else(some ⟨g,0,none⟩:Option Addr).map (·.add (j*2)))=some ad/\dB Q ad (nc (xs.drop j)):=by
  by_cases F:c=j
  ·refine⟨⟨g,0,none⟩,by rw[if_pos F],?_⟩;rw[List.drop_eq_nil_of_le (by omega)];intro k u hk;simp[nc,pc] at hk
  ·refine⟨⟨g,j*2,none⟩,by rw[if_neg F,ω,eC,ψ],?_⟩;intro k u hk;rw[eC,D.cell];rw[<-Zr,ξW] at hk;have ao:=(δ.1 hk).1;rw[ξ ao];exact hk
 rw[Y] at z;refine oh (E:=[(1,.int .i64 i),(2,.int .i64 j),(7,.int .i64 (xs.length:Int)),(22,.slice (some ⟨g,0,none⟩) i c),(25,.slice (some ad) (xs.length-j) (c-j))]) (l:=[6,7]) b d ⟨t 1 _ rfl rfl,t 2 _ rfl rfl,t 7 _ rfl rfl,(z 2 _ _ rfl rfl),(z 5 _ _ rfl rfl),trivial⟩ rfl ?_;have J:(nc (xs.drop j)).length=(xs.length-j)*2:=by rw[kn,ξL]
 refine Pu ah rfl rfl rfl rfl rfl rfl rfl rfl rfl rfl D aa J (λu hu=>Zs hu) (by omega) (by simp only[ζ2,ν,kn];show(i+(xs.length-j))*2<=_;omega) (λw4 new ag ak aq=>?_);have K:new.toList=nc (xs.take i++xs.drop j)++(nc xs++R).drop (i*2+(xs.length-j)*2):=by
  rw[aq];simp only[ξR];rw[J,Zq,ξs,ξs]
  congr 1
  show List.take (i*2) (nc xs++R)=_;rw[ξg (by rw[kn];omega),Zt]
 have s:(xs.take i++xs.drop j).length=i+(xs.length-j):=by simp;omega
 refine ax ah [7] [(0,.slice (some ⟨g,0,none⟩) (i+(xs.length-j)) c),(1,.int .i64 i),(2,.int .i64 j),(7,.int .i64 (xs.length:Int))] rfl ⟨rfl,rfl,rfl,rfl,trivial⟩ (aQ (aG (aF (aT (l:=[0,1,2,3,4,5]) rfl (ax ah [0,1,2,3] [(0,.slice (some ⟨g,0,none⟩) (i+(xs.length-j)) c),(27,.slice (some ⟨g,0,none⟩) (i+(xs.length-j)) c),(29,.int .i64 ((i+(xs.length-j):Nat):Int)),(30,.int .i64 (xs.length:Int))] rfl ⟨rfl,rfl,rfl,rfl,trivial⟩ (Px (n:=i+(xs.length-j)) (c:=c) (lo:=i+(xs.length-j)) (hi:=xs.length) ah rfl rfl rfl rfl rfl rfl rfl rfl rfl rfl rfl (by omega) (by omega) y (by omega) ?_))))));obtain⟨q,av⟩: ∃q,xs.length-(i+(xs.length-j))=q+1:=⟨xs.length-(i+(xs.length-j))-1,by omega⟩;rw[av,eC,ψ];have M:new.size=c*2:=by
  rw[<-χ,K];simp only[ν,ξL,kn,ξh];omega
 refine FD (k:=2) ah rfl rfl rfl rfl rfl rfl rfl rfl ak rfl (λu hu=>PD rfl rfl hu) (by rw[M];show(i+(xs.length-j))*2+(q+1)*2<=c*2;omega) (λay P ai al ar=>?_);have L:P.toList=nc (xs.take i++xs.drop j)++((ξ2 (ηb #[.int .u64 0,.int .u64 0]).cells (q+1)).toList++new.toList.drop ((i+(xs.length-j))*2+(q+1)*2)):=by
  rw[ar];simp only[ξR,ξs]
  congr 1
  show List.take ((i+(xs.length-j))*2) new.toList=_;rw[K];exact ξS (by rw[kn,s])
 have au:P.size=c*2:=by
  rw[<-χ,L];simp only[ν,ξL,kn,χ,size_zeroCells,M,ξh];show _+((q+1)*2+_)=_;omega
 refine aQ (aG (aF (aT (l:=[0,1]) rfl (ax ah [0,1] [(6,.slice (some ⟨g,0,none⟩) (i+(xs.length-j)) c)] rfl ⟨rfl,trivial⟩ (aQ (aG (dk (ez rfl ⟨_,O,rfl,?_⟩))))))));have V:Fr [g] w ay:=(f3.more (by simp)).trans (ag.trans ai);have:=qZ (T:=dT) (e:=127) (B:=B) (n0:=xs.length) (zs:=xs.take i++xs.drop j) (cap:=c) hO aj U V al au ab (by rw[s];omega) DG (by
  rw[L];exact ξS (by rw[kn,s];rfl))
 rw[s] at this;exact this
end Go.Proofs.YtoggponeookhbaaGreatDoor
end
section
namespace Go.Vx
open Go.RowKit Go.Dc
section
variable {S:bh} {K:Kit S} {P:Program}
def fy:List (an S)->Option (Γb)
 |[]=>some []
 | .one (.v u)::r=>(match fy r with|some us=>some (u::us)|none=>none)
 |_=>none
theorem Pd {A:Pl} {O:Γ} {w:World}: ∀ {aen:List (an S)} {us vs:Γb},fy aen=some us->cy A O w aen vs->vs=us
 |[],us,vs,h,b=>by
  cases h;exact b
 | .one (.v u)::r,us,vs,h,⟨y,ys,e,h1,a⟩=>by
  simp only[fy] at h;split at h
  ·rename_i c hu;cases h;have h1:[y]=[u]/\_:=h1;rw[e,Pd hu a,List.cons.inj h1.1|>.1]
  ·cases h
 | .agg _::_,us,vs,h,_=>by simp[fy] at h
 | .one (.aH _ _)::_,us,vs,h,_=>by simp[fy] at h
 | .one (.ptr _ _ _)::_,us,vs,h,_=>by simp[fy] at h
 | .one (.aK _ _)::_,us,vs,h,_=>by simp[fy] at h
 | .one (.e8 _ _ _ _)::_,us,vs,h,_=>by simp[fy] at h
 | .one (.own _)::_,us,vs,h,_=>by simp[fy] at h
 | .one (.dY _ _ _ _)::_,us,vs,h,_=>by simp[fy] at h
 | .one (.fB _ _ _)::_,us,vs,h,_=>by simp[fy] at h
 | .one (.mp _)::_,us,vs,h,_=>by simp[fy] at h
 | .one (.aM _)::_,us,vs,h,_=>by simp[fy] at h
 | .one .c4::_,us,vs,h,_=>by simp[fy] at h
 | .one (.cP _)::_,us,vs,h,_=>by simp[fy] at h
 | .one (.bG _ _ _)::_,us,vs,h,_=>by simp[fy] at h
 | .one (.cS _ _)::_,us,vs,h,_=>by simp[fy] at h
def wD (K:Kit S) (f e:Nat) (tr:List (S.El e)->Γb->Option (List (S.El e))):dI S:=⟨f,λaen h k=>match aen with
 | .one (.own r)::rest=>(match fy rest,dX K (av h) e (.own r) with
  |some us,some xs=>(tr xs us).bind λzs=>k (.ret (.s (.one (.own h.length)))) (h.set r none++[some (.row e zs)]) [r]
  |_,_=>none)
 |_=>none⟩
theorem OV (aE:bU K P) {f e:Nat} {tr:List (S.El e)->Γb->Option (List (S.El e))} (ak:ep P f)
  (ah: ∀(O:Γ) (w:World) (v:Value) (us:Γb) (xs zs:List (S.El e)),OB O w->Dc.Own (S.ty e) e 0 O w v xs->tr xs us=some zs->Calls P f (v::us).toArray w (eB (S.ty e) e 0 O w v zs))
  {R:Type} (aen:List (an S)) (h:AH S) (k:Rs S->AH S->Γ->Option R) (z:R) (x:(wD K f e tr).out aen h k=some z): ∃r h' dt,k r h' dt=some z/\dv K P f aen h r h' dt:=by
 simp only[wD] at x;split at x
 rotate_left
 ·cases x
 rename_i r rest;split at x
 rotate_left
 ·cases x
 rename_i us xs aw az;obtain⟨zs,aA,hk⟩:=bind_some x;have F:=BN az;refine⟨_,_,_,hk,ak,λA O w vs N t hO aD T W=>?_⟩;obtain⟨v,aB,rfl,ax,au⟩:=N;obtain rfl:=Pd aw au;obtain⟨_,G,ay,_⟩:=ax;cases ay;obtain⟨v0,ae,ar,aF⟩:=t.al r _ F;rw[G] at ae;cases ae;refine(ah O w v aB xs zs hO ar aA).mono ?_;rintro aC w' ⟨m,Q,rfl,g⟩;obtain⟨A',C⟩: ∃A':Pl,A'=⟨λi=>bif ξI i h.length then some m else A.pl i,A.ls⟩:=⟨_,rfl⟩;have y: ∀i,i≠h.length->A'.pl i=A.pl i:=λi hi=>by
  rw[C];have:ξI i h.length=false:=by
   cases a:ξI i h.length with
   |false=>rfl
   |true=>exact absurd (ξk a) hi
  simp only[this,cond_false]
 have B:A'.pl h.length=some m:=by rw[C];simp
 have hle:A.le A':=⟨λi p hp=>by
  rw[y i (λe=>by subst e;rw[T _ (ξa _)] at hp;cases hp)];exact hp,by rw[C]⟩
 have n: ∀b,bR v≠some b->v.ownBlock≠some b:=λb a N=>a (fA N);have ad: ∀b,b<w.heap.size->bR v≠some b->w'.heap[b]? =w.heap[b]? :=λb a hn=>g.fr b a (n b hn);have U: ∀b,bR m=some b->m.ownBlock=some b/\b∈Q:=by
  intro b a;have n:m.ownBlock=some b:=by
   rcases gZ g.own with⟨s,_⟩|⟨af,c,s⟩
   ·rw[s] at a;cases a
   ·rw[s] at a ⊢;cases a;rfl
  exact⟨n,g.own.mem b n⟩
 have M: ∀b,b<w.heap.size->bR v≠some b->bR m≠some b:=λb a hn h'=>g.ne b a (n b hn) (U b h').1;have aq:m.oneCell'=true:=by
  rcases gZ g.own with⟨s,_⟩|⟨af,c,s⟩<;>rw[s]<;>rfl
 have hlen:(h.set r none).length=h.length:=by simp
 have u: ∀ {i:Nat} {X:Ob S},av (h.set r none++[some (.row e zs)]) i=some X->(i≠r/\av h i=some X)\/(i=h.length/\X= .row e zs):=by
  intro i X hi;rcases jy hi with h1|⟨h1,l⟩
  ·exact .inl (D1 h1)
  ·exact .inr ⟨h1.trans hlen,l⟩
 have Z: ∀i X,av (h.set r none++[some (.row e zs)]) i=some X->X.nt=true:=λi X hi=>by
  rcases u hi with⟨_,h1⟩|⟨_,rfl⟩
  ·exact W i X h1
  ·rfl
 refine⟨A',Q,⟨m,rfl,⟨m,B,rfl,aq⟩⟩,⟨bI.qc Z ?_ ?_,g.ob,g.tr,λi hi=>y i (by omega),(λj E=>?_),by rw[C],by simp,?_,?_,λi X _=>Z i X⟩⟩
 ·intro i X hi;rcases u hi with⟨D,h1⟩|⟨rfl,rfl⟩
  ·obtain⟨p,hp,ai,a⟩:=t.al i X h1;have ao:=e_ h1;exact⟨p,by rw[y i (by omega)];exact hp,ai.keep g.tr hle λb d=>have d:=e0 (W i X h1) d;⟨ad b (hO b (a b d)) (λn=>t.dj i r _ _ p v b D h1 F hp G d n),g.sub b (a b d)⟩,λb d=>g.sub b (a b d)⟩
  ·exact⟨m,B,g.own,λb a=>(U b a).2⟩
 ·intro i j X Y p q b V hi E hp H d I;have J: ∀ {i:Nat} {X:Ob S} {p:Value},i≠r->av h i=some X->A'.pl i=some p->bR p=some b->b<w.heap.size/\A.pl i=some p/\bR v≠some b:=by
   intro i X p ag h1 l o;have ao:=e_ h1;rw[y i (by omega)] at l;obtain⟨aG,ab,_,a⟩:=t.al i X h1;rw[l] at ab;cases ab;exact⟨hO b (a b o),l,λn=>t.dj i r _ _ p v b ag h1 F l G o n⟩
  rcases u hi with⟨D,h1⟩|⟨rfl,rfl⟩
  ·rcases u E with⟨L,l⟩|⟨rfl,rfl⟩
   ·exact t.dj i j X Y p q b V h1 l (J D h1 hp d).2.1 (J L l H I).2.1 d I
   ·rw[B] at H;cases H;have o:=J D h1 hp d;exact M b o.1 o.2.2 I
  ·rcases u E with⟨L,l⟩|⟨rfl,rfl⟩
   ·rw[B] at hp;cases hp;have o:=J L l H I;exact M b o.1 o.2.2 d
   ·exact absurd rfl V
 ·have:j=r:=by simpa using E
  subst this;exact e_ F
 ·intro i hi;simp at hi;rw[y i (by omega)];exact T i (by omega)
 ·intro b a hn;have aa:=hn r (by simp) v G;refine⟨ad b (hO b a) aa,g.sub b a,λi X p hi aj hp d=>?_⟩;rcases u aj with⟨_,h1⟩|⟨rfl,rfl⟩
  ·have:=e_ h1;omega
  ·rw[B] at hp;cases hp;exact M b (hO b a) aa (e0 rfl d)
end
end Go.Vx
end
section
namespace Go.Proofs.YtoggponeookhbaaGreatDoor
open Go.RowKit Go.Dc Go.Vx
noncomputable def pt (xs:List aD) (us:Γb):Option (List aD):=match us with
 |[.int .i64 i,.int .i64 j]=>wc xs i j
 |_=>none
noncomputable def BK:dI SS:=wD KK 223 127 pt
theorem UU {R:Type} (xs:List (an SS)) (h:AH SS) (k:Rs SS->AH SS->Γ->Option R) (z:R) (a:BK.out xs h k=some z): ∃r h' dt,k r h' dt=some z/\dv KK η 223 xs h r h' dt:=
 OV (e:=127) (tr:=pt) c8 (cG aY ηf rfl) (λO w v us xs zs hO b a=>by
  unfold pt at a;split at a
  ·exact acK hO b a
  ·cases a) xs h k z a
noncomputable def ye (sh:Sh):bE SS:= {rO sh with H:=BK::(rO sh).H}
theorem RB:aj (ye shut) η:=aj.dw (c:=BK) yk UU
noncomputable def tp (sh:Sh) (s:aL) (pid:Int) (words:Γa):Option (aL×Int):=sh.s _ (p1 sh s pid words)
noncomputable def tq (sh:Sh) (s:aL) (pid:Int):Option (aL×Int×Int):=sh.s _ (pZ sh s pid)
noncomputable def td (sh:Sh) (s:aL) (pid:Int):Option (aL×Int×Int):=sh.s _ (pY sh s pid)
theorem E_ {α:Type} {x:α}:shut.s α x=x:=by rw[lV]
noncomputable def BE (sh:Sh):fg SS:=gq KK 170 [58,35,130] (λ{R} xs (k:Rs SS->Option R)=>match xs with| .cons s (.cons pid (.cons words .nil))=>(tp sh s pid words).bind (λr=>k (.ret (.bn [KK.a_ 58 r.1,KK.a_ 27 r.2]))))
noncomputable def BF (sh:Sh):fg SS:=gq KK 171 [58,35] (λ{R} xs (k:Rs SS->Option R)=>match xs with| .cons s (.cons pid .nil)=>(tq sh s pid).bind (λr=>k (.ret (.bn [KK.a_ 58 r.1,KK.a_ 35 r.2.1,KK.a_ 27 r.2.2]))))
noncomputable def BD (sh:Sh):fg SS:=gq KK 152 [58,35] (λ{R} xs (k:Rs SS->Option R)=>match xs with| .cons s (.cons pid .nil)=>(td sh s pid).bind (λr=>k (.ret (.bn [KK.a_ 58 r.1,KK.a_ 3 r.2.1,KK.a_ 27 r.2.2]))))
theorem g0 {O:Γ} {w:World} (h:cC KK O w):cC KK [] w:=h.tr (Tr.less λ_ hk=>by cases hk)
theorem Dh {A:Pl} {O:Γ} {w:World} {s:aL} {v:Value} (h:(KK.a_ 58 s).rel A O w v):fQ.is [] w v s:=Dm (Dn c8 (t:=58) rfl rfl h)
theorem Fo {A:Pl} {O:Γ} {w:World} {s:Int} {v:Value} (h:(KK.a_ 35 s).rel A O w v):(Ty.int .u64).is [] w v s:=Dm (Dn c8 (t:=35) rfl rfl h)
theorem aef {A:Pl} {O:Γ} {w:World} {s:Γa} {v:Value} (h:(KK.a_ 130 s).rel A O w v):(Ty.slice (Ty.int .u64)).is [] w v s:=Dm (Dn c8 (t:=130) rfl rfl h)
theorem Uy {R:Type} (ys:List (an SS)) (k:Rs SS->Option R) (z:R) (hp:ys.all an.pure=true) (m:(BE shut).out ys k=some z): ∃r,k r=some z/\eA KK η 170 ys r:=
 BC c8 (λ{R} xs k z h=>by
  match xs,h with
  | .cons s (.cons pid (.cons words .nil)),h=>
   obtain⟨r,j,hk⟩:=bind_some h;refine⟨_,hk,cG aY ηe rfl,λA O w vs l hO i=>?_⟩;obtain⟨v0,_,rfl,c,v1,_,rfl,h1,v2,_,rfl,d,f⟩:=l;rw[show _=[] from f];refine(Yz hO (g0 i) (Dh c) (Fo h1) (aef d) (E_.symm.trans j)).mono ?_;rintro e w' ⟨v,rfl,⟨a,b,rfl,n,o⟩,g⟩;exact⟨⟨_,rfl,[a,b],rfl,a,[b],rfl,gX c8 (t:=58) rfl rfl n,b,[],rfl,gX c8 (t:=27) rfl rfl o,rfl⟩,g⟩) ys k z hp m
theorem Uz {R:Type} (ys:List (an SS)) (k:Rs SS->Option R) (z:R) (hp:ys.all an.pure=true) (m:(BF shut).out ys k=some z): ∃r,k r=some z/\eA KK η 171 ys r:=
 BC c8 (λ{R} xs k z h=>by
  match xs,h with
  | .cons s (.cons pid .nil),h=>
   obtain⟨r,j,hk⟩:=bind_some h;refine⟨_,hk,cG aY ηd rfl,λA O w vs l hO i=>?_⟩;obtain⟨v0,_,rfl,d,v1,_,rfl,h1,f⟩:=l;rw[show _=[] from f];refine(Yy hO (g0 i) (Dh d) (Fo h1) (E_.symm.trans j)).mono ?_;rintro e w' ⟨v,rfl,⟨a,b,c,rfl,n,o,p⟩,g⟩;exact⟨⟨_,rfl,[a,b,c],rfl,a,[b,c],rfl,gX c8 (t:=58) rfl rfl n,b,[c],rfl,gX c8 (t:=35) rfl rfl o,c,[],rfl,gX c8 (t:=27) rfl rfl p,rfl⟩,g⟩) ys k z hp m
theorem Ux {R:Type} (ys:List (an SS)) (k:Rs SS->Option R) (z:R) (hp:ys.all an.pure=true) (m:(BD shut).out ys k=some z): ∃r,k r=some z/\eA KK η 152 ys r:=
 BC c8 (λ{R} xs k z h=>by
  match xs,h with
  | .cons s (.cons pid .nil),h=>
   obtain⟨r,j,hk⟩:=bind_some h;refine⟨_,hk,cG aY ηc rfl,λA O w vs l hO i=>?_⟩;obtain⟨v0,_,rfl,d,v1,_,rfl,h1,f⟩:=l;rw[show _=[] from f];refine(Yx hO (g0 i) (Dh d) (Fo h1) (E_.symm.trans j)).mono ?_;rintro e w' ⟨v,rfl,⟨a,b,c,rfl,n,o,p⟩,g⟩;exact⟨⟨_,rfl,[a,b,c],rfl,a,[b,c],rfl,gX c8 (t:=58) rfl rfl n,b,[c],rfl,gX c8 (t:=3) rfl rfl o,c,[],rfl,gX c8 (t:=27) rfl rfl p,rfl⟩,g⟩) ys k z hp m
noncomputable def xV (sh:Sh):bE SS:= {ye sh with C:=BE sh::(ye sh).C}
theorem Rz:aj (xV shut) η:=aj.ho (c:=BE shut) RB Uy
noncomputable def xW (sh:Sh):bE SS:= {xV sh with C:=BF sh::(xV sh).C}
theorem RA:aj (xW shut) η:=aj.ho (c:=BF shut) Rz Uz
noncomputable def xD (sh:Sh):bE SS:= {xW sh with C:=BD sh::(xW sh).C}
theorem xE:aj (xD shut) η:=aj.ho (c:=BD shut) RA Ux
end Go.Proofs.YtoggponeookhbaaGreatDoor
end
section
namespace Go.Proofs.YtoggponeookhbaaGreatDoor
open Go.RowKit Go.Dc Go.Vx
variable (sh:Sh)
def tX (p0:List aw) (a:List aD) (p2 b:Int) (c:List aw):AS SS:=⟨[(5,(va 0 0)),(20,(vd 56 p0)),(21,(vi p2)),(22,(vi b))],[(bX 262 [(.own 1),(.own 2)]),(rX 127 a),(rX 132 c)],0,none,false,[],[]⟩
def V1 (p0:List aw) (b:List aD) (p2:Int) (a0:Bool) (a:Int) (a2:List aw):AS SS:= {tX p0 b p2 p2 a2 with env:=[(23,(vb a0)),(5,(va 0 0)),(20,(vd 56 p0)),(21,(vi p2)),(22,(vi a))]}
def HH (sh:Sh) (p0:List aw) (c:List aD) (p2:Int) (a:Int×List aw):T ((Int×List aw)⊕(Bool×Int×List aw)):=.bf (decide (a.1<p2)) (.bd (idx p0 a.1) λz0=>.bd (app 8 [] z0.a6) λb=>.bd (app 32 a.2 [aw.mk z0.aa b]) λz2=>.ok (.inl ((γ.wrap (a.1+1)),z2)))<|.ok (.inr ((decide (a.1<p2)),a.1,a.2))
def zg (p0:List aw) (a:List aD) (p2 b:Int) (c:List aw):=bJ sh (HH sh p0 a p2) 1000000 (b,c)
def SV {R} (k:KX SS R) (p0:List aw) (a:List aD) (p2:Int) (x:(Bool×Int×List aw)):Option R:=(λv=>k (.exit 0) (V1 p0 a p2 v.1 v.2.1 v.2.2)) x
def KI:bc SS:=gU (λst=>gc (aq 219 7) (fK 0 1 132 (st)))<|br 7 (λst=>(bo 56 (aJ st 20 0)).bind λp0=>(b3 st 1 127).bind λa=>(aU (aJ st 21 0)).bind λp2=>(aU (aJ st 22 0)).bind λb=>(b3 st 2 132).bind λc=>some (p0,a,p2,b,c)) (u5 tX) (u5 (zg shut)) (λk p=>SV k p.1 p.2.1 p.2.2.1)
theorem abb:LS KK η aq ζG 219 7 KI:=aZ.pre (bY.comp (bY.gc (aq 219 7)) (bY.fK 0 1 132))<|
 aZ.bJ (π:=List aw×List aD×Int×Int×List aw) (σ:=Int×List aw) (aj.all xE rfl) (aO.nil) rfl 60 (λp a=>tX p.1 p.2.1 p.2.2.1 a.1 a.2) (λp=>(p.2.2.2.1,p.2.2.2.2)) (St:=λp=>HH shut p.1 p.2.1 p.2.2.1) (λp=>1000000) (λp=>rfl)
  (λm p a k=>by kernel_rfl)
def uc (p0:Int) (a:List aD) (p2 b:Int):AS SS:=⟨[(0,(vo 0)),(1,(vu p0)),(2,(vc 1)),(8,(vl a)),(9,(vi p2)),(10,(vi b))],[(rX 127 a),(some (.aM 270 [] [(.one (.aK 2 0))])),(bX 284 [(.v (.func (.func 221) (.mk []) (.mk [])))])],3,none,false,[],[]⟩
def Wf (p0:Int) (b:List aD) (a0:Bool) (a a2:Int):AS SS:= {uc p0 b p0 p0 with env:=[(17,(vb a0)),(16,(vi a)),(15,(vi a2)),(0,(vo 0)),(1,(vu p0)),(2,(vc 1)),(8,(vl b)),(9,(vi a2)),(10,(vi a))]}
def oV (p0:Int) (b:List aD) (a:Int×Int):T ((Int×Int)⊕(Bool×Int×Int)):=.bf (decide (a.1<a.2)) (.bd (idx b (γ.wrap ((ο.wrap (γ.wrap (a.1+a.2))).fdiv 2))) λz0=>.bd (b[(γ.wrap ((ο.wrap (γ.wrap (a.1+a.2))).fdiv 2)).toNat]?) λc=>.bd (hP sh c.a1 p0) λz2=>.bf (decide (z2<0)) (.ok (.inl ((γ.wrap (γ.wrap ((ο.wrap (γ.wrap (a.1+a.2))).fdiv 2)+1)),a.2)))<|.ok (.inl (a.1,(γ.wrap ((ο.wrap (γ.wrap (a.1+a.2))).fdiv 2)))))<|.ok (.inr ((decide (a.1<a.2)),a.2,a.1))
def zo (p0:Int) (a:List aD) (p2 b:Int):=bJ sh (oV sh p0 a) 1000000 (p2,b)
def S6 {R} (k:KX SS R) (p0:Int) (a:List aD) (x:(Bool×Int×Int)):Option R:=(λv=>k (.exit 0) (Wf p0 a v.1 v.2.1 v.2.2)) x
def KS:bc SS:=br 4 (λst=>(cg st 1 270).bind λ_=>(aU (aJ st 1 0)).bind λp0=>(b3 st 0 127).bind λa=>(aU (aJ st 9 0)).bind λp2=>(aU (aJ st 10 0)).bind λb=>some (p0,a,p2,b)) (u4 uc) (u4 (zo shut)) (λk p=>S6 k p.1 p.2.1)
def F':=bL (xD shut) aq ζG 219 [KI]
theorem Ga:a7 F' η:=bO (aj.all xE rfl) ζb rfl aY (by kernel_rfl) abb
theorem abk:LS KK η aq ζc 269 4 KS:=
 aZ.bJ (π:=Int×List aD×Int×Int) (σ:=Int×Int) Ga (aO.nil) rfl 60 (λp a=>uc p.1 p.2.1 a.1 a.2) (λp=>(p.2.2.1,p.2.2.2)) (St:=λp=>oV shut p.1 p.2.1) (λp=>1000000) (λp=>rfl)
  (λm p a k=>by kernel_rfl)
def Qu:=bL F' aq ζc 269 [KS]
theorem Qv:a7 Qu η:=bO Ga ζz rfl aY (by kernel_rfl) abk
def Al (s:aL) (name:Int):T (aL×Int):=.bd (jr sh s) λz0=>.bf (z0 !=0) (.bf (z0 !=0) (.ok (⟨[],[]⟩,z0))<|.bd (jo sh name) λa=>.bf (!a) (.ok (⟨[],[]⟩,351))<|.no)<|.bd (app 16 [] s.au) λa=>.gd (tX s.ao a ((↑s.ao.length:Int)) 0 [])<|.bd (zg sh s.ao a ((↑s.ao.length:Int)) 0 []) λc=>.bd (jo sh name) λz3=>.bf (!z3) (.ok (⟨[],[]⟩,351))<|.gd (uc name a 0 (↑a.length:Int))<|.bd (zo sh name a 0 ((↑a.length:Int))) λb=>.bf (decide (b.2.2<(↑a.length:Int))) (.bd (idx a b.2.2) λz5=>.bd (a[b.2.2.toNat]?) λd=>.bd (hP sh d.a1 name) λe=>.bf (!e==0) (.ok (⟨[],[]⟩,4))<|.bd (pt a [ζJ γ b.2.2,ζJ γ (γ.wrap (b.2.2+1))]) λf=>.ok (⟨f,c.2.2⟩,0))<|.ok (⟨[],[]⟩,4)
def tn (s:aL) (name:Int):=sh.s _ (Al sh s name).val
def GN:=bN (c6 KK 168 58 35 (tn sh) (eN KK 58 27)) (xD sh)
theorem GO:aj (GN shut) η:=de (rs:=[58,27]) xE Qv rfl rfl λs name k=>by kernel_rfl
def AB (s:bb) (x:cN):T (bb×cX):=.bf (decide (x.bm>=1)) (.bf (!decide (x.bm<=14)) (.ok (s,⟨361,0⟩))<|.bd (Cc sh x) λz0=>.bf (z0) (.bf (x.bm==0) (.no)<|.bf (x.bm==1) (.bd (s' sh s.az (ay x.fArgs 0)) λa=>.bf (!a.snd.snd==0) (.ok (s,⟨a.snd.snd,0⟩))<|.ok (⟨a.fst,s.aV,s.aI,s.aB⟩,⟨0,a.snd.fst⟩))<|.bf (x.bm==2) (.bd (ta sh s.az (ay x.fArgs 0) (ay x.fArgs 1)) λa=>.bf (!a.snd==0) (.ok (s,⟨a.snd,0⟩))<|.bd (tb sh s.aB (ay x.fArgs 0)) λz2=>.bf (!(↑z2.length:Int)==0) (.ok (s,⟨341,0⟩))<|.bd (tc sh s.aV (ay x.fArgs 0)) λz3=>.bd (td sh s.aB (ay x.fArgs 0)) λz4=>.bf (!z4.snd.snd==0) (.ok (s,⟨z4.snd.snd,0⟩))<|.ok (⟨a.fst,z3.fst,s.aI,z4.fst⟩,⟨0,0⟩))<|.bf (x.bm==3) (.bd (te sh s.az (ay x.fArgs 0) (ay x.fArgs 1)) λa=>.bf (!a.snd.snd==0) (.ok (s,⟨a.snd.snd,0⟩))<|.ok (⟨a.fst,s.aV,s.aI,s.aB⟩,⟨0,a.snd.fst⟩))<|.bf (x.bm==4) (.bd (mO sh s.aI (ay x.fArgs 1)) λa=>.bf (!a.snd==0) (.ok (s,⟨a.snd,0⟩))<|.bd (pD sh s.aV (ay x.fArgs 0) a.fst) λz2=>.bf (!z2.snd.snd==0) (.ok (s,⟨z2.snd.snd,0⟩))<|.ok (⟨s.az,z2.fst,s.aI,s.aB⟩,⟨0,(ο.wrap z2.snd.fst)⟩))<|.bf (x.bm==5) (.bf (!decide (ay x.fArgs 1<8)) (.ok (s,⟨4,0⟩))<|.bd (j8 sh s.aV (ay x.fArgs 0) (γ.wrap (ay x.fArgs 1))) λa=>.bf (!a.snd) (.ok (s,⟨4,0⟩))<|.bd (tf sh s.aV (ay x.fArgs 0) [γ.wrap (ay x.fArgs 1)]) λz2=>.bf (!z2.snd==0) (.ok (s,⟨z2.snd,0⟩))<|.ok (⟨s.az,z2.fst,s.aI,s.aB⟩,⟨0,0⟩))<|.bf (x.bm==6) (.bf (!decide (ay x.fArgs 1<8)) (.ok (s,⟨4,0⟩))<|.bd (j8 sh s.aV (ay x.fArgs 0) (γ.wrap (ay x.fArgs 1))) λa=>.bf (!a.snd) (.ok (s,⟨4,0⟩))<|.bd (tg sh s.aV (ay x.fArgs 0) (γ.wrap (ay x.fArgs 1))) λz2=>.bf (!z2.snd.snd==0) (.ok (s,⟨z2.snd.snd,0⟩))<|.ok (⟨s.az,z2.fst,s.aI,s.aB⟩,⟨0,(ο.wrap z2.snd.fst)⟩))<|.bf (x.bm==7) (.bd (th sh s.aI (ay x.fArgs 1)) λa=>.bf (!a.snd.snd==0) (.ok (s,⟨a.snd.snd,0⟩))<|.ok (⟨s.az,s.aV,a.fst,s.aB⟩,⟨0,a.snd.fst⟩))<|.bf (x.bm==8) (.bd (ti sh s.aI (ay x.fArgs 1)) λa=>.bf (!a.snd==0) (.ok (s,⟨a.snd,0⟩))<|.bd (tj sh s.aV a.fst) λz2=>.bf (!z2==0) (.ok (s,⟨341,0⟩))<|.bd (tk sh s.aI (ay x.fArgs 1)) λz3=>.bf (!z3.snd==0) (.ok (s,⟨z3.snd,0⟩))<|.ok (⟨s.az,s.aV,z3.fst,s.aB⟩,⟨0,0⟩))<|.bf (x.bm==9) (.bd (mO sh s.aI (ay x.fArgs 1)) λa=>.bf (!a.snd==0) (.ok (s,⟨a.snd,0⟩))<|.ok (s,⟨0,a.fst⟩))<|.bf (x.bm==10) (.bd (tl sh s.aB (ay x.fArgs 1) (ay x.fArgs 0)) λa=>.bf (!a.snd==0) (.ok (s,⟨a.snd,0⟩))<|.ok (⟨s.az,s.aV,s.aI,a.fst⟩,⟨0,0⟩))<|.bf (x.bm==11) (.bd (mP sh s.aB (ay x.fArgs 1)) λa=>.bf (!a.snd==0) (.ok (s,⟨a.snd,0⟩))<|.bf (!a.fst==ay x.fArgs 0) (.ok (s,⟨362,0⟩))<|.bd (tn sh s.aB (ay x.fArgs 1)) λb=>.bf (!b.2==0) (.ok (s,⟨b.2,0⟩))<|.ok (⟨s.az,s.aV,s.aI,b.1⟩,⟨0,0⟩))<|.bf (x.bm==12) (.bd (mP sh s.aB (ay x.fArgs 1)) λa=>.bf (!a.snd==0) (.ok (s,⟨a.snd,0⟩))<|.ok (s,⟨0,a.fst⟩))<|.bf (x.bm==13) (.bd (pI sh s.az (ay x.fArgs 1)) λa=>.bf (!a) (.ok (s,⟨4,0⟩))<|.bd (tp sh s.aB (ay x.fArgs 1) [ay x.fArgs 2]) λz2=>.bf (!z2.snd !=6) (.ok (s,⟨322,0⟩))<|.bf (!z2.snd==0) (.ok (s,⟨z2.snd,0⟩))<|.ok (⟨s.az,s.aV,s.aI,z2.fst⟩,⟨0,0⟩))<|.bf (x.bm==14) (.bd (tq sh s.aB (ay x.fArgs 0)) λa=>.bf (!a.snd.snd !=4) (.ok (s,⟨322,0⟩))<|.bf (!a.snd.snd==0) (.ok (s,⟨a.snd.snd,0⟩))<|.ok (⟨s.az,s.aV,s.aI,a.fst⟩,⟨0,a.snd.fst⟩))<|.no)<|.bd (pI sh s.az (ay x.fArgs 0)) λa=>.bf (!a) (.ok (s,⟨321,0⟩))<|.bf (x.bm==0) (.no)<|.bf (x.bm==1) (.bd (s' sh s.az (ay x.fArgs 0)) λz2=>.bf (!z2.snd.snd==0) (.ok (s,⟨z2.snd.snd,0⟩))<|.ok (⟨z2.fst,s.aV,s.aI,s.aB⟩,⟨0,z2.snd.fst⟩))<|.bf (x.bm==2) (.bd (ta sh s.az (ay x.fArgs 0) (ay x.fArgs 1)) λz2=>.bf (!z2.snd==0) (.ok (s,⟨z2.snd,0⟩))<|.bd (tb sh s.aB (ay x.fArgs 0)) λz3=>.bf (!(↑z3.length:Int)==0) (.ok (s,⟨341,0⟩))<|.bd (tc sh s.aV (ay x.fArgs 0)) λz4=>.bd (td sh s.aB (ay x.fArgs 0)) λz5=>.bf (!z5.snd.snd==0) (.ok (s,⟨z5.snd.snd,0⟩))<|.ok (⟨z2.fst,z4.fst,s.aI,z5.fst⟩,⟨0,0⟩))<|.bf (x.bm==3) (.bd (te sh s.az (ay x.fArgs 0) (ay x.fArgs 1)) λz2=>.bf (!z2.snd.snd==0) (.ok (s,⟨z2.snd.snd,0⟩))<|.ok (⟨z2.fst,s.aV,s.aI,s.aB⟩,⟨0,z2.snd.fst⟩))<|.bf (x.bm==4) (.bd (mO sh s.aI (ay x.fArgs 1)) λz2=>.bf (!z2.snd==0) (.ok (s,⟨z2.snd,0⟩))<|.bd (pD sh s.aV (ay x.fArgs 0) z2.fst) λz3=>.bf (!z3.snd.snd==0) (.ok (s,⟨z3.snd.snd,0⟩))<|.ok (⟨s.az,z3.fst,s.aI,s.aB⟩,⟨0,(ο.wrap z3.snd.fst)⟩))<|.bf (x.bm==5) (.bf (!decide (ay x.fArgs 1<8)) (.ok (s,⟨4,0⟩))<|.bd (j8 sh s.aV (ay x.fArgs 0) (γ.wrap (ay x.fArgs 1))) λz2=>.bf (!z2.snd) (.ok (s,⟨4,0⟩))<|.bd (tf sh s.aV (ay x.fArgs 0) [γ.wrap (ay x.fArgs 1)]) λz3=>.bf (!z3.snd==0) (.ok (s,⟨z3.snd,0⟩))<|.ok (⟨s.az,z3.fst,s.aI,s.aB⟩,⟨0,0⟩))<|.bf (x.bm==6) (.bf (!decide (ay x.fArgs 1<8)) (.ok (s,⟨4,0⟩))<|.bd (j8 sh s.aV (ay x.fArgs 0) (γ.wrap (ay x.fArgs 1))) λz2=>.bf (!z2.snd) (.ok (s,⟨4,0⟩))<|.bd (tg sh s.aV (ay x.fArgs 0) (γ.wrap (ay x.fArgs 1))) λz3=>.bf (!z3.snd.snd==0) (.ok (s,⟨z3.snd.snd,0⟩))<|.ok (⟨s.az,z3.fst,s.aI,s.aB⟩,⟨0,(ο.wrap z3.snd.fst)⟩))<|.bf (x.bm==7) (.bd (th sh s.aI (ay x.fArgs 1)) λz2=>.bf (!z2.snd.snd==0) (.ok (s,⟨z2.snd.snd,0⟩))<|.ok (⟨s.az,s.aV,z2.fst,s.aB⟩,⟨0,z2.snd.fst⟩))<|.bf (x.bm==8) (.bd (ti sh s.aI (ay x.fArgs 1)) λz2=>.bf (!z2.snd==0) (.ok (s,⟨z2.snd,0⟩))<|.bd (tj sh s.aV z2.fst) λz3=>.bf (!z3==0) (.ok (s,⟨341,0⟩))<|.bd (tk sh s.aI (ay x.fArgs 1)) λz4=>.bf (!z4.snd==0) (.ok (s,⟨z4.snd,0⟩))<|.ok (⟨s.az,s.aV,z4.fst,s.aB⟩,⟨0,0⟩))<|.bf (x.bm==9) (.bd (mO sh s.aI (ay x.fArgs 1)) λz2=>.bf (!z2.snd==0) (.ok (s,⟨z2.snd,0⟩))<|.ok (s,⟨0,z2.fst⟩))<|.bf (x.bm==10) (.bd (tl sh s.aB (ay x.fArgs 1) (ay x.fArgs 0)) λz2=>.bf (!z2.snd==0) (.ok (s,⟨z2.snd,0⟩))<|.ok (⟨s.az,s.aV,s.aI,z2.fst⟩,⟨0,0⟩))<|.bf (x.bm==11) (.bd (mP sh s.aB (ay x.fArgs 1)) λz2=>.bf (!z2.snd==0) (.ok (s,⟨z2.snd,0⟩))<|.bf (!z2.fst==ay x.fArgs 0) (.ok (s,⟨362,0⟩))<|.bd (tn sh s.aB (ay x.fArgs 1)) λc=>.bf (!c.2==0) (.ok (s,⟨c.2,0⟩))<|.ok (⟨s.az,s.aV,s.aI,c.1⟩,⟨0,0⟩))<|.bf (x.bm==12) (.bd (mP sh s.aB (ay x.fArgs 1)) λz2=>.bf (!z2.snd==0) (.ok (s,⟨z2.snd,0⟩))<|.ok (s,⟨0,z2.fst⟩))<|.bf (x.bm==13) (.bd (pI sh s.az (ay x.fArgs 1)) λz2=>.bf (!z2) (.ok (s,⟨4,0⟩))<|.bd (tp sh s.aB (ay x.fArgs 1) [ay x.fArgs 2]) λz3=>.bf (!z3.snd !=6) (.ok (s,⟨322,0⟩))<|.bf (!z3.snd==0) (.ok (s,⟨z3.snd,0⟩))<|.ok (⟨s.az,s.aV,s.aI,z3.fst⟩,⟨0,0⟩))<|.bf (x.bm==14) (.bd (tq sh s.aB (ay x.fArgs 0)) λz2=>.bf (!z2.snd.snd !=4) (.ok (s,⟨322,0⟩))<|.bf (!z2.snd.snd==0) (.ok (s,⟨z2.snd.snd,0⟩))<|.ok (⟨s.az,s.aV,s.aI,z2.fst⟩,⟨0,z2.snd.fst⟩))<|.no)<|.ok (s,⟨361,0⟩)
def B7 (s:bb) (x:cN):=sh.s _ (AB sh s x).val
def G_:=bN (c6 KK 42 60 38 (B7 sh) (eN KK 60 40)) (GN sh)
theorem G':aj (G_ shut) η:=de (rs:=[60,40]) GO (aj.all GO rfl) rfl rfl λs x k=>by kernel_rfl
def Aq (s:bb) (c:cN):T (bb×cX×Int):=.bd (tv sh s) λz0=>.bf (z0 !=0) (.ok (⟨⟨[0,0,0,0,0,0,0,0,0,0,0,0,0,0,0,0],[]⟩,[],⟨[],0⟩,⟨[],[]⟩⟩,⟨0,0⟩,z0))<|.bd (B8 sh s) λb=>.bd (B7 sh b c) λa=>.ok (a.1,a.2,0)
def B2 (s:bb) (c:cN):=sh.s _ (Aq sh s c).val
def GU:=bN (c6 KK 19 60 38 (B2 sh) (ni KK 60 40 27)) (G_ sh)
theorem GV:aj (GU shut) η:=de (rs:=[60,40,27]) G' (aj.all G' rfl) rfl rfl λs c k=>by kernel_rfl
end Go.Proofs.YtoggponeookhbaaGreatDoor
end
section
namespace Go.Proofs.YtoggponeookhbaaGreatDoor
open Go.RowKit Go.Dc Go.Vx
theorem du {x:Int} (a: -9223372036854775808<=x) (h1:x<9223372036854775808):γ.wrap x=x:=by
 simp[ηg,ζQ,ηh];omega
theorem jN {x:Int} (a:0<=x) (h1:x<18446744073709551616):ο.wrap x=x:=by
 simp[ηg,ζQ,ηh];omega
def ix (pid:Int):Int:=γ.wrap (pid.tmod 64)
theorem p6 {pid:Int} (h:0<=pid):ix pid=pid%64:=by
 unfold ix;rw[Int.tmod_eq_emod_of_nonneg h];exact du (by omega) (by omega)
@[simp] theorem v93 (pid:Int):k' ab pid=some (ix pid):=rfl
def ft (l:List ai) (pid:Int):Option ai:=l.find? λz=>z.aa==pid
def b1 (l:List ai) (pid:Int):Bool:=match ft l pid with|some z=>!z.bl|none=>false
def hB (p:bF) (x:ai):Bool:=decide (1<=ix x.aa)&&(decide (ix x.aa<=16)&&((x.aa/64+1==ay p.aS (ix x.aa-1).toNat)&&(!(x.aW==x.aa)&&((x.aW==0||b1 p.ae x.aW)&&bif x.bl then x.aW !=0 else x.b_==0))))
def kc (g:Γa):Bool:=(ξi 16).all λi=>decide (0<=ay g i)&&decide (ay g i<=65536)
def gY (l:List ai) (i:Nat) (x:ai):Bool:=i==0||(match l[i-1]? with|some y=>decide (ix y.aa<ix x.aa)|none=>false)
def iL (p:bF):Bool:=kc p.aS&&(allI (λi x=>hB p x&&gY p.ae i x) 0 p.ae&&(match p.ae with|z::_=>fJ z ⟨1,0,false,0⟩|[]=>false))
structure xl (p:bF):Prop where
 pid: ∀x∈p.ae,0<=x.aa/\x.aa<18446744073709551616
 len:p.ae.length<=maxLen
theorem YY {pid:Int} (h:0<=pid):0<=ix pid/\ix pid<64:=by rw[p6 h];omega
theorem ly {j:Int} {n:Nat} (a:0<=j) (h1:j<n):ew j n=some j.toNat:=by
 unfold ew;rw[if_pos ⟨a,h1⟩]
theorem JL {α:Type} {l:List α} {i:Nat} (h:i<l.length) (hm:l.length<=maxLen) (a:0<i):idx l (γ.wrap ((i:Int)-1))=l[i-1]? :=by
 unfold maxLen at hm;rw[du (by omega) (by omega)];unfold idx;rw[if_pos (by omega)]
 congr 1
 omega
theorem XY {S:Int->T (Int⊕Int⊕(Bool×Int))} {g:Γa} (e: ∀a:Int,(S a).val=bif decide (a<16) then(ew a 16).bind λz0=>bif decide (ay g z0<0) then some (.inr (.inl a)) else bif decide (ay g z0>65536) then some (.inr (.inl a)) else some (.inl (γ.wrap (a+1))) else some (.inr (.inr (decide (a<16),a)))):
  ∃n:Nat,b4 (λa=>(S a).val) 1000000 (0:Int)=some (bif kc g then .inr (false,16) else .inl (n:Int)):=by
 have h:=wJ (step:=λa=>(S a).val) (q:=λa=>decide (0<=ay g a)&&decide (ay g a<=65536)) (x:=λa=>.inl (a:Int)) (y:=.inr (false,16)) (N:=16) (λa j=>by
  rw[e,decide_eq_true (by omega:(a:Int)<16),cond_true,ly (by omega) (by omega),β,ι]
  by_cases h1:ay g a<0
  ·simp[h1,show ¬(0<=ay g a) by omega]
  by_cases c:ay g a>65536
  ·simp[h1,c,show ¬(ay g a<=65536) by omega]
  ·rw[du (by omega) (by omega)];simp[h1,c,show(0<=ay g a) by omega,show(ay g a<=65536) by omega]) (by rw[e];rfl) (k:=16) (n:=1000000) (a:=0) rfl (by omega)
 rw[show((0:Nat):Int)=0 from rfl] at h;unfold kc;rw[List.range_eq_range'];cases d:List.find? (λb=>!(decide (0<=ay g b)&&decide (ay g b<=65536))) (ζ4 0 16) with
 |none=>
  have:((ζ4 0 16).all λi=>decide (0<=ay g i)&&decide (ay g i<=65536))=true:=by
   rw[ξv];intro i hi;have:=ζs.1 d i hi;simpa using this
  rw[this];rw[d] at h;exact⟨0,h⟩
 |some b=>
  have:((ζ4 0 16).all λi=>decide (0<=ay g i)&&decide (ay g i<=65536))=false:=by
   rw[Bool.eq_false_iff];intro f;rw[ξv] at f;have h1:=f b (ξZ d);have c:=ζL d;rw[h1] at c;cases c
  rw[this];rw[d] at h;exact⟨b,h⟩
theorem XP (g:Γa) (l:List ai) (pid:Int):h4 ab g l pid=some (match ft l pid with|some z=>.inl z|none=>.inr (false,(l.length:Int))):=by
 show bS (λi z a=>(sb ab g l pid i z a).val) (λi a=>(q7 ab g l pid i a).val) 0 l ()=_;unfold ft;rw[qD (p:=λz=>z.aa==pid) (e:=λz=>.inl z)]
 ·cases List.find? (λz=>z.aa==pid) l with
  |none=>unfold q7;simp
  |some z=>rfl
 ·intro i z _;unfold sb;cases z.aa==pid<;>rfl
theorem v46 {p:bF} (hp:xl p):j_ ab p=some (bif iL p then 0 else 320):=by
 show(AL ab p).val=_;unfold AL iL;simp only[T.bM,T.aN,T.cM,T.aE,T.aC];cases b:p.ae with
 |nil=>
  have:(match([]:List ai) with|z::_=>fJ z ⟨1,0,false,0⟩|[]=>false)=false:=rfl;simp
 |cons z0 r=>
  rw[<-b];have o:((p.ae.length:Int)==0)=false:=by rw[b];simp;omega
  have h1:idx p.ae 0=some z0:=by rw[b];rfl
  rw[o,h1];simp only[cond_false,β];cases he:fJ z0 ⟨1,0,false,0⟩ with
  |false=>simp[b,he]
  |true=>
   have hm:(match p.ae with|z::_=>fJ z ⟨1,0,false,0⟩|[]=>false)=true:=by rw[b];exact he
   rw[hm,ζU];simp only[ξP,cond_false];obtain⟨n,c⟩:=XY (S:=zO ab p.aS p.ae) (g:=p.aS) λa=>rfl;have c:yV ab p.aS p.ae 0=some (bif kc p.aS then .inr (false,16) else .inl (n:Int)):=c;rw[c];cases d:kc p.aS with
   |false=>
    have:decide ((n:Int)>=0)=true:=decide_eq_true (by omega);simp[this]
   |true=>
    simp only[cond_true,β,φ];have hl:r1 ab p.aS p.ae=bif allI (λi x=>hB p x&&gY p.ae i x) 0 p.ae then some (.inr (false,(p.ae.length:Int))) else some (.inl ()):=by
     show bS (λi z a=>(sa ab p.aS p.ae i z a).val) (λi a=>(q6 ab p.aS p.ae i a).val) 0 p.ae ()=_;rw[nX (q:=λi x=>hB p x&&gY p.ae i x) (x:=.inl ())]
     ·congr 1
      unfold q6;simp
     ·intro i z l;have u:=(δ.1 l).1;have f:=hp.pid z (ξ3 l);have B:=YY f.1;unfold sa hB gY b1;simp only[T.aN,T.aE,T.aC,T.bM,T.cM,v93,β,XP]
      by_cases h1:1<=ix z.aa
      rotate_left
      ·simp[show ¬(ix z.aa>=1) from h1,h1]
      by_cases j:ix z.aa<=16
      rotate_left
      ·simp[show(ix z.aa>=1) from h1,h1,j]
      have hw:γ.wrap (ix z.aa-1)=ix z.aa-1:=du (by omega) (by omega);have hi:ew (ix z.aa-1) 16=some (ix z.aa-1).toNat:=ly (by omega) (by omega);have A:0<=ay p.aS (ix z.aa-1).toNat/\ay p.aS (ix z.aa-1).toNat<=65536:=by
       unfold kc at d;rw[ξv] at d;have:=d (ix z.aa-1).toNat (by simp;omega);simpa using this
      have t:ο.wrap (z.aa.tdiv 64)=z.aa/64:=by
       rw[Int.tdiv_eq_ediv_of_nonneg f.1];exact jN (by omega) (by omega)
      have s:(ο.wrap (ο.wrap (z.aa.tdiv 64)+1) !=ο.wrap (ay p.aS (ix z.aa-1).toNat))=!(z.aa/64+1==ay p.aS (ix z.aa-1).toNat):=by
       rw[t,jN (by omega) (by omega),jN (by omega) (by omega)];rfl
      rw[hw,hi];simp only[β];rw[s];have w:(z.aW !=0)=!(z.aW==0):=rfl;have v:(z.b_ !=0)=!(z.b_==0):=rfl;have k:(z.aW==0)=true->(z.aW==z.aa)=false:=λh=>by
       rw[p6 f.1] at h1;simp at h ⊢;omega
      simp only[show(ix z.aa>=1) from h1,h1,j,decide_true,cond_true,φ,w,v];cases i with
      |zero=>
       rw[show(((0:Nat):Int)==0)=true from rfl,show((0:Nat)==0)=true from rfl];simp only[cond_true,ζZ,ζU];cases e:z.aW==0 with
       |true=>rw[k e];cases z.aa/64+1==ay p.aS (ix z.aa-1).toNat<;>cases z.bl<;>cases z.b_==0<;>simp
       |false=>
        cases z.aa/64+1==ay p.aS (ix z.aa-1).toNat<;>cases z.aW==z.aa<;>cases z.bl<;>cases z.b_==0<;>(cases ft p.ae z.aW with|none=>simp|some y=>cases y.bl<;>simp)
      |succ i=>
       have m:((((i+1:Nat):Int))==0)=false:=by simp;omega
       rw[m,show(i+1==0)=false from rfl,JL u hp.len (by omega)];have hi:i<p.ae.length:=by omega
       simp only[ξX,ε hi,β,v93,cond_false,ξp];cases e:z.aW==0 with
       |true=>rw[k e];cases decide (ix p.ae[i].aa<ix z.aa)<;>cases z.aa/64+1==ay p.aS (ix z.aa-1).toNat<;>cases z.bl<;>cases z.b_==0<;>simp
       |false=>
        cases decide (ix p.ae[i].aa<ix z.aa)<;>cases z.aa/64+1==ay p.aS (ix z.aa-1).toNat<;>cases z.aW==z.aa<;>cases z.bl<;>cases z.b_==0<;>(cases ft p.ae z.aW with|none=>simp|some y=>cases y.bl<;>simp)
    rw[hl];cases allI (λi x=>hB p x&&gY p.ae i x) 0 p.ae<;>rfl
def hx (d:ak):Bool:=decide (d.aa<4294967296)&&(decide (d.bA>=0)&&decide (d.bA<=7))
def dF (a b:ak):Bool:=decide (a.aa<b.aa)||(a.aa==b.aa&&decide (a.bA<b.bA))
def fD {α:Type} (q:α->α->Bool) (l:List α) (i:Nat) (z:α):Bool:=i==0||(match l[i-1]? with|some y=>q y z|none=>false)
def vt (l:List ak) (i:Nat) (x:ak):Bool:=fD dF l i x
theorem eI {σ X:Type} {step:σ->Option (σ⊕X)} {n:Nat} {a:σ}:b4 step (n+1) a=(step a).bind λy=>match y with| .inl a'=>b4 step n a'| .inr x=>some x:=rfl
def lO (l:List ak):Bool:=allI (λi x=>hx x&&vt l i x) 0 l&&decide (l.length<=64)
@[simp] theorem v94 (d:ak):BZ ab d=some (hx d):=by
 show(zV ab d).val=_;unfold zV hx;have:decide (d.bA<8)=decide (d.bA<=7):=by rw[κ];simp;omega
 simp only[T.aE,T.aC,this];cases decide (d.aa<4294967296)<;>cases decide (d.bA>=0)<;>rfl
def fW (x y:Int):Int:=if x<y then -1 else if x>y then 1 else 0
@[simp] theorem hI (x y:Int):hP ab x y=some (fW x y):=by
 show(z1 ab x y).val=_;unfold z1 fW;simp only[T.aE,T.aC]
 by_cases h1:x<y
 ·simp[h1]
 ·by_cases a:x>y
  ·simp[h1,a]
  ·simp[h1,a]
@[simp] theorem v130 (x y:Int):mS ab x y=some (fW x y):=hI x y
def po (a b:ak):Int:=if fW a.aa b.aa=0 then fW a.bA b.bA else fW a.aa b.aa
@[simp] theorem Fu (a b:ak):pA ab a b=some (po a b):=by
 show(zW ab a b).val=_;unfold zW po;simp only[T.aN,hI,v130,β,T.bM,T.cM,T.aC];generalize fW a.aa b.aa=c1;generalize fW a.bA b.bA=c2;have h:y0 ab [c1,c2] 0=some (if c1=0 then(if c2=0 then .inr (false,2) else .inl c2) else .inl c1):=by
  show b4 (λa=>(jX ab [c1,c2] a).val) 1000000 0=_;have d:(jX ab [c1,c2] 0).val=if c1=0 then some (.inl 1) else some (.inr (.inl c1)):=by
   unfold jX;simp only[T.aE,T.aN,T.aC]
   by_cases h:c1=0
   ·simp[idx,h];rfl
   ·have:(c1 !=0)=true:=by simp[h]
    simp[idx,h,this]
  have e:(jX ab [c1,c2] 1).val=if c2=0 then some (.inl 2) else some (.inr (.inl c2)):=by
   unfold jX;simp only[T.aE,T.aN,T.aC]
   by_cases h:c2=0
   ·simp[idx,h];rfl
   ·have:(c2 !=0)=true:=by simp[h]
    simp[idx,h,this]
  have f:(jX ab [c1,c2] 2).val=some (.inr (.inr (false,2))):=rfl;rw[show(1000000:Nat)=999997+1+1+1 from rfl,eI,d]
  by_cases h:c1=0
  ·rw[if_pos h,if_pos h,β];simp only;rw[eI,e]
   by_cases c:c2=0
   ·rw[if_pos c,if_pos c,β];simp only;rw[eI,f,β]
   ·rw[if_neg c,if_neg c,β]
  ·rw[if_neg h,if_neg h,β]
 rw[h]
 by_cases h1:c1=0
 ·by_cases c:c2=0<;>simp[h1,c]
 ·simp[h1]
theorem Im (a b:ak):decide (po a b>=0)=!dF a b:=by
 unfold po dF fW;rw[κ]
 by_cases h1:a.aa<b.aa
 ·simp[h1]
 ·by_cases e:a.aa>b.aa
  ·have: ¬a.aa=b.aa:=by omega
   simp[h1,e,this]
  ·have c:a.aa=b.aa:=by omega
   by_cases d:a.bA<b.bA
   ·simp[c,d]
   ·by_cases f:b.bA<a.bA<;>simp[c,d,f]<;>omega
theorem Ec {α X:Type} {S:T (Unit⊕Unit⊕X)} {l:List α} {i:Nat} {z:α} {g:α->Bool} {q:α->α->Bool} (hm:l.length<=maxLen) (c:l[i]? =some z)
  (a:S.val=bif !g z then some (.inr (.inl ())) else bif decide ((i:Int)>0) then(idx l (γ.wrap ((i:Int)-1))).bind λy=>bif !q y z then some (.inr (.inl ())) else some (.inl ()) else some (.inl ())):
  S.val=bif g z&&fD q l i z then some (.inl ()) else some (.inr (.inl ())):=by
 have b:=(δ.1 c).1;rw[a];unfold fD;cases g z with
 |false=>rfl
 |true=>
  cases i with
  |zero=>rfl
  |succ i=>
   have h1:decide (((i+1:Nat):Int)>0)=true:=decide_eq_true (by omega);have hi:i<l.length:=by omega
   rw[h1,JL b hm (by omega)];simp only[ξP,cond_false,cond_true,φ,show(i+1==0)=false from rfl,ξp,ξX,ε hi,β];cases q l[i] z<;>rfl
theorem O_ {l:List ak} (hm:l.length<=maxLen):il ab l=some (bif lO l then 0 else 330):=by
 show(AM ab l).val=_;unfold AM lO;simp only[T.bM,T.aN,T.cM,T.aC,T.aE];have hl:zA ab l=bif allI (λi x=>hx x&&vt l i x) 0 l then some (.inr (false,(l.length:Int))) else some (.inl ()):=by
  show bS (λi z a=>(oZ ab l i z a).val) (λi a=>(rB ab l i a).val) 0 l ()=_;rw[nX (q:=λi x=>hx x&&vt l i x) (x:=.inl ())]
  ·congr 1
   unfold rB;simp
  ·intro i z b;exact Ec (S:=oZ ab l i z ()) (g:=hx) (q:=dF) hm b (by unfold oZ;simp only[T.aN,T.aE,T.aC,v94,Fu,Im,β])
 rw[hl]
 by_cases h:l.length<=64
 ·have h1:decide ((l.length:Int)>64)=false:=decide_eq_false (by omega);rw[h1,decide_eq_true h];cases allI (λi x=>hx x&&vt l i x) 0 l<;>rfl
 ·have h1:decide ((l.length:Int)>64)=true:=decide_eq_true (by omega);rw[h1,decide_eq_false h];simp
def dV (s:ByteArray) (j:Nat):Nat:=((s.data.toList[j]?).map ζM).getD 0
def e5 (c:Nat->Nat):Nat->Nat
 |0=>0
 |i+1=>e5 c i+256^i*c i
def ia (s:ByteArray):Int×Int:=if 8<s.size then(0,111) else if(ξi s.size).any (λj=>dV s j==0) then(0,2) else((e5 (dV s) 8:Nat),0)
theorem Ua (s:ByteArray) (j:Nat):dV s j<256:=by
 unfold dV;cases s.data.toList[j]? with
 |none=>simp
 |some b=>simpa using b.toNat_lt
theorem D' {c:Nat->Nat} (a: ∀j,c j<256): ∀i,e5 c i<256^i
 |0=>by simp[e5]
 |i+1=>by
  have h1:=D' a i;have b:256^i*c i<=256^i*255:=Nat.mul_le_mul_left _ (by have:=a i;omega);simp only[e5,ζh];generalize (256:Nat)^i=q at*
  generalize q*c i=r at*
  omega
theorem acU (c i:Nat) (d:c<256) (hi:i<8):lU .u64 (c:Int) ((8*i:Nat):Int)=some ((256^i*c:Nat):Int):=by
 unfold lU;rw[if_neg (by omega)];have b:ο.bits=64:=rfl;have hm:min ((8*i:Nat):Int).toNat ο.bits=8*i:=by rw[b,ι];omega
 have hp:(2:Nat)^(8*i)=256^i:=by rw[Nat.pow_mul]
 have hle:256^i<=256^7:=ζj (by omega) (by omega);have a:(256:Nat)^7=72057594037927936:=by decide
 have e:(c:Int)*2^(8*i)=((256^i*c:Nat):Int):=by rw[<-hp,Int.natCast_mul,Int.natCast_pow,Int.mul_comm];rfl
 rw[hm,ζE,e];have f:256^i*c<18446744073709551616:=by
  have h1:256^i*c<=256^7*c:=ζk _ hle;rw[a] at h1;omega
 generalize 256^i*c=q at*
 rw[ξq];omega
theorem aak {c:Nat->Nat} (a: ∀j,c j<256) (i:Nat) (hi:i<8):bits .or .u64 (e5 c i:Int) ((256^i*c i:Nat):Int)=(e5 c (i+1):Int):=by
 have h1:=D' a i;have f:=D' a (i+1);have hle:256^(i+1)<=256^8:=ζj (by omega) (by omega);have d:(256:Nat)^8=18446744073709551616:=by decide
 rw[d] at hle;have e:e5 c (i+1)=e5 c i+256^i*c i:=rfl;rw[bits_or_u64_nat _ _ (by omega) (by omega),Nat.or_comm,e];have hp:(2:Nat)^(8*i)=256^i:=by rw[Nat.pow_mul]
 have:=Nat.two_pow_add_eq_or_of_lt (i:=8*i) (b:=e5 c i) (by rw[hp];exact h1) (c i);rw[hp] at this;rw[<-this,Nat.add_comm]
theorem sN {α:Type} {b:Nat} {xs ys:List α} (h:(xs.length+ys.length)*b<=140737488355328):app b xs ys=some (xs++ys):=by
 unfold app;rw[if_pos h]
def dg:Nat->Nat->Γ
 |0,_=>[]
 |k+1,n=>if n%256=0 then[] else n%256::dg k (n/256)
def g_:Nat->Nat->Nat
 |0,n=>n
 |k+1,n=>if n%256=0 then n else g_ k (n/256)
def bs (l:Γ):ByteArray:=⟨(l.map ξn).toArray⟩
theorem pv: ∀(k n:Nat),(dg k n).length<=k
 |0,_=>by simp[dg]
 |k+1,n=>by
  simp only[dg];split
  ·simp
  ·have:=pv k (n/256);simp;omega
theorem sY: ∀(k n:Nat),∀x∈dg k n,0<x/\x<256
 |0,_,x,h=>by simp[dg] at h
 |k+1,n,x,h=>by
  simp only[dg] at h;split at h
  ·cases h
  ·rcases ξB.1 h with e|h
   ·omega
   ·exact sY k _ x h
theorem eX (l:Γ):(bs l).size=l.length:=by simp[bs,ByteArray.size]
theorem T_ (l m:Γ):bs l++bs m=bs (l++m):=by
 apply ζ7;simp[bs,ByteArray.data_append]
theorem foldl_push: ∀(xs:Γa) (r:ByteArray),(xs.foldl (λr n=>r.push (ξn n.toNat)) r).data.toList=r.data.toList++xs.map (λn=>ξn n.toNat)
 |[],r=>by simp
 |x::xs,r=>by
  rw[ξU,foldl_push xs];simp[ByteArray.data_push]
theorem ac' (l:Γ):strOf (l.map λ(n:Nat)=>(n:Int))=bs l:=by
 apply ζ7;apply ζT;unfold strOf;rw[foldl_push];show[]++_=_;simp[bs]
theorem Om {l m:Γ} (h:l.length+m.length<=1000):lR (bs l) (bs m)=some (bs (l++m)):=by
 unfold lR;rw[eX,eX,if_pos (by omega),T_]
theorem TU {n:Nat} (h:n<18446744073709551616):bits .and .u64 (n:Int) 255=((n%256:Nat):Int):=by
 have e:bits .and .u64 (n:Int) ((255:Nat):Int)=((n&&&255:Nat):Int):=bits_and_u64_nat n 255 h (by omega);have a:n&&&255=n%256:=by
  have:=Nat.and_two_pow_sub_one_eq_mod n 8;simpa using this
 rw[a] at e;exact e
def pk:Γ->Nat
 |[]=>0
 |x::r=>x+256*pk r
theorem Ea (c:Nat->Nat): ∀k,e5 c (k+1)=c 0+256*e5 (λi=>c (i+1)) k
 |0=>by simp[e5]
 |k+1=>by
  rw[e5,Ea c k];simp only[e5,ζh,Nat.mul_add];rw[ζD (256^k) 256];simp only[ζV,Nat.add_assoc]
theorem D_: ∀(k:Nat) (l:Γ),l.length<=k->e5 (λi=>(l[i]?).getD 0) k=pk l
 |0,l,h=>by
  have:l=[]:=ξM (by omega);subst this;rfl
 |k+1,[],h=>by
  rw[Ea];have:=D_ k [] (by simp);simp only[List.getElem?_nil,ξw] at this ⊢;rw[this];rfl
 |k+1,x::r,h=>by
  rw[Ea];have:=D_ k r (by simpa using h);simp only[List.getElem?_cons_succ,ξ9,ξ1] at this ⊢;rw[this];rfl
theorem Eg: ∀(k n:Nat),pk (dg k n)+256^(dg k n).length*g_ k n=n
 |0,n=>by simp[dg,g_,pk]
 |k+1,n=>by
  simp only[dg,g_];split
  ·simp[pk]
  ·have:=Eg k (n/256);simp only[pk,ξc,ζh];rw[ζD (256^_) 256,ζV];omega
theorem H_ {l:Γ} (h: ∀x∈l,x<256) (j:Nat):dV (bs l) j=(l[j]?).getD 0:=by
 unfold dV bs;simp only[ζy];cases a:l[j]? with
 |none=>simp
 |some x=>
  have:=h x (ξ3 a);simp;omega
theorem Bc {l:Γ} (h: ∀x∈l,0<x/\x<256) (hl:l.length<=8):ia (bs l)=(((pk l:Nat):Int),0):=by
 unfold ia;rw[eX,if_neg (by omega)];have e:(ξi l.length).any (λj=>dV (bs l) j==0)=false:=by
  rw[ξo];intro j a;have a:j<l.length:=by simpa using a
  rw[H_ (λx b=>(h x b).2),ε a];have:=(h _ (List.getElem_mem a)).1;simp;omega
 rw[e,if_neg (by simp)];rw[show dV (bs l)=λi=>(l[i]?).getD 0 from funext λj=>H_ (λx b=>(h x b).2) j,D_ 8 l hl]
theorem Je {l:Γ} (h: ∀x∈l,x<256) {i x:Nat} (a:l[i]? =some x):((bs l).get! i).toNat=x:=by
 have hl:=(δ.1 a).1;have b:=h x (ξ3 a);have e:(bs l).get! i=ξn x:=by
  unfold ByteArray.get! bs;have:((l.map ξn).toArray)[i]? =some (ξn x):=by simp[a]
  simp[getElem!_def,this]
 rw[e];simp;omega
theorem BI {s:ByteArray} {i:Nat} (h:(s.get! i).toNat<128):ζ0 s i=((s.get! i).toNat,1):=by
 unfold ζ0;simp only[ξy];rw[if_pos h]
theorem decode_high {s:ByteArray} {i:Nat} (h: ¬(s.get! i).toNat<128):128<=(ζ0 s i).1:=by
 unfold ζ0;simp only[ξy];rw[if_neg h];have b:128<=Go.Utf8.runeError:=by decide
 repeat' split
 all_goals first|exact b|skip
 ·assumption
 ·rename_i a;simp only[ξ5,decide_eq_true_eq] at a;have:=a.1;show 128<=_;omega
 ·rename_i a;simp only[ξ5,decide_eq_true_eq] at a;have:=a.1;show 128<=_;omega
def gp (c:Nat):Bool:=decide (97<=c/\c<=122\/48<=c/\c<=57)
theorem sR {c:Nat} (h:128<=c):gp c=false:=by
 unfold gp;simp;omega
theorem BL (n:Nat): ∀x∈dg 8 n,x<256:=λx a=>(sY 8 n x a).2
theorem BO (l:Γ):((bs l).toList==(⟨#[]⟩:ByteArray).toList)=l.isEmpty:=by
 have a: ∀x:ByteArray,x.toList=x.data.toList:=λx=>ζn x;rw[a,a];cases l<;>simp[bs]
def eD (n:Int):Bool:=(g_ 8 n.toNat==0)&&!(dg 8 n.toNat).isEmpty&&(dg 8 n.toNat).all gp
theorem ZI {s:ByteArray} (c:s.size<=8) {i:Nat} (hi:i<8):ay (cT [0,0,0,0,0,0,0,0] (s.data.toList.map λb=>(b.toNat:Int))) i=(dV s i:Int):=by
 have hl:s.data.toList.length=s.size:=by rw[χ];rfl
 unfold ay cT dV;simp only[ρ,ξc,List.length_nil,hl]
 by_cases h:i<s.size
 ·rw[ξ (by rw[ξh,ρ];omega),List.getElem?_take,if_pos (by omega),ζy,ε (by omega)];rfl
 ·have hn:s.data.toList[i]? =none:=ξH (by omega);rw[hn,ξb (by rw[ξh,ρ];omega)];have: ∀(k:Nat) (l:Γa),(∀x∈l,x=0)->(l[k]?).getD 0=0:=λk l hl=>by
   cases hk:l[k]? with
   |none=>rfl
   |some x=>exact hl x (ξ3 hk)
  exact this _ _ λx a=>by
   have:=List.mem_of_mem_drop a;simp only[ξB,List.not_mem_nil,or_false] at this;omega
theorem JR: ∀l:Γa,iA KK 5 .u8 l=some l
 |[]=>rfl
 |x::l=>by
  have a:=JR l;show(match iA KK 5 .u8 l with|some zs=>some (x::zs)|none=>none)=_;rw[a]
theorem RZ {s:ByteArray} (f:s.size<=8) {i:Nat} (hi:i<8):(oO ab s (cT [0,0,0,0,0,0,0,0] (s.data.toList.map λb=>(b.toNat:Int))) (((e5 (dV s) i:Nat):Int),(i:Int))).val=if dV s i=0/\i<s.size then some (.inr (.inl ())) else some (.inl (((e5 (dV s) (i+1):Nat):Int),((i+1:Nat):Int))):=by
 have c:=Ua s;unfold oO;simp only[T.aE,T.aN,T.aC];have h1:decide ((i:Int)<8)=true:=decide_eq_true (by omega);have g:ο.wrap (dV s i:Int)=(dV s i:Int):=by have:=c i;rw[ζE];omega
 have j:γ.wrap (8*(i:Int))=((8*i:Nat):Int):=by rw[du (by omega) (by omega)];omega
 have k:γ.wrap ((i:Int)+1)=((i+1:Nat):Int):=by rw[du (by omega) (by omega)];omega
 rw[h1,ly (by omega) (by omega)];simp only[cond_true,β,ι];rw[ZI f hi,g,j,k,acU _ i (c i) hi];simp only[β];rw[aak c i hi]
 by_cases a:dV s i=0
 ·by_cases d:i<s.size
  ·have e:decide ((i:Int)<(s.size:Int))=true:=decide_eq_true (by omega);rw[a,e,if_pos ⟨rfl,d⟩];rfl
  ·have e:decide ((i:Int)<(s.size:Int))=false:=decide_eq_false (by omega);rw[a,e,if_neg (λh=>d h.2)];rfl
 ·have e:((dV s i:Int)==0)=false:=by simp;omega
  rw[e,if_neg (λh=>a h.1)];rfl
theorem Pb {s:ByteArray} (l:s.size<=8): ∀(k f i:Nat),i+k=8->(∀j,j<i->j<s.size->dV s j≠0)->
  b4 (λa=>(oO ab s (cT [0,0,0,0,0,0,0,0] (s.data.toList.map λb=>(b.toNat:Int))) a).val) (k+1+f) (((e5 (dV s) i:Nat):Int),(i:Int))=some (if(ξi s.size).any (λj=>dV s j==0) then .inl () else .inr (false,((e5 (dV s) 8:Nat):Int),8))
 |0,f,i,e,h=>by
  obtain rfl:i=8:=by omega
  have m:(ξi s.size).any (λj=>dV s j==0)=false:=by
   rw[ξo];intro j d;have d:j<s.size:=by simpa using d
   have:=h j (by omega) d;simpa using this
  rw[m,show 0+1+f=f+1 by omega,eI];rfl
 |k+1,f,i,e,h=>by
  rw[show k+1+1+f=(k+1+f)+1 by omega,eI,RZ l (by omega)]
  by_cases c:dV s i=0/\i<s.size
  ·have n:(ξi s.size).any (λj=>dV s j==0)=true:=by
    rw[ζF];exact⟨i,by simpa using c.2,by simpa using c.1⟩
   rw[if_pos c,n];rfl
  ·rw[if_neg c,β];simp only;exact Pb l k f (i+1) (by omega) λj d g=>by
    rcases ζ3.1 d with h1|h1
    ·exact h j h1 g
    ·subst h1;exact λo=>c ⟨o,g⟩
theorem v79 (s:ByteArray):ts ab s=some (ia s):=by
 show(Ap ab s).val=_;unfold Ap ia;simp only[T.bM,T.aN,T.cM,T.aC,T.aE]
 by_cases h:8<s.size
 ·have e:decide ((s.size:Int)>8)=true:=decide_eq_true (by omega);rw[e,if_pos h];rfl
 ·have e:decide ((s.size:Int)>8)=false:=decide_eq_false (by omega);have c:ηk s.size 8=true:=ξe (by omega);rw[e,if_neg h];simp only[cond_false,wj,sameKind,c,φ,cond_true,β];have a:y6 ab s (cT [0,0,0,0,0,0,0,0] (s.data.toList.map λb=>(b.toNat:Int))) 0 0=_:=Pb (by omega) 8 999991 0 rfl λj d=>by omega
  rw[a];cases (ξi s.size).any (λj=>dV s j==0)<;>rfl
def ints (l:Γ):Γa:=l.map λ(n:Nat)=>(n:Int)
theorem Hy (p0:Int) {n:Nat} {l:Γ} (hn:n<18446744073709551616) (hl:l.length<=100):(oL ab p0 ((n:Int),ints l)).val=if n%256=0 then some (.inr (false,0,(n:Int),ints l)) else some (.inl (((n/256:Nat):Int),ints (l++[n%256]))):=by
 unfold oL;simp only[T.aE,T.aN,T.aC];rw[TU hn]
 by_cases hm:n%256=0
 ·have e:(((n%256:Nat):Int) !=0)=false:=by rw[hm];rfl
  rw[e,if_pos hm,hm];rfl
 ·have e:(((n%256:Nat):Int) !=0)=true:=by simp;omega
  rw[e,if_neg hm];simp only[cond_true];have hw:IntKind.u8.wrap (n:Int)=((n%256:Nat):Int):=by rw[IntKind.wrap_u8];omega
  have a:(n:Int).fdiv 256=((n/256:Nat):Int):=by
   rw[Int.fdiv_eq_ediv_of_nonneg _ (by omega)];omega
  rw[hw,a,sN (by simp[ints];omega)];simp only[β];rw[ints,ints,ξC];rfl
theorem O5 (p0:Int): ∀(k f n:Nat) (l:Γ),n<256^k->n<18446744073709551616->l.length+k<=100->
  ∃m,b4 (λa=>(oL ab p0 a).val) (k+1+f) ((n:Int),ints l)=some (false,0,m,ints (l++dg k n))
 |0,f,n,l,h,_,_=>by
  have:n=0:=by simpa using h
  subst this;rw[show 0+1+f=f+1 by omega,eI,Hy p0 (by omega) (by omega)];exact⟨0,by simp[dg]⟩
 |k+1,f,n,l,h,hn,hl=>by
  rw[show k+1+1+f=(k+1+f)+1 by omega,eI,Hy p0 hn (by omega)]
  by_cases hm:n%256=0
  ·rw[if_pos hm];exact⟨(n:Int),by simp[dg,hm]⟩
  ·rw[if_neg hm,β];simp only;obtain⟨m,b⟩:=O5 p0 k f (n/256) (l++[n%256]) (by rw[ζh] at h;omega) (by omega) (by simp;omega);rw[b];exact⟨m,by simp only[dg,if_neg hm,ξs,List.singleton_append]⟩
theorem O4 {n:Nat} (h:n<18446744073709551616):s_ ab (n:Int)=some (if g_ 8 n=0 then(bs (dg 8 n),0) else(⟨#[]⟩,2)):=by
 show(z7 ab (n:Int)).val=_;unfold z7;simp only[T.bM,T.aN,T.aE,T.aC];obtain⟨m,hm⟩:=O5 (n:Int) 8 999991 n [] (by omega) h (by simp);rw[ζi] at hm;have b:y1 ab (n:Int) (n:Int) []=_:=hm;rw[b];simp only[β,JR,v79];rw[show strOf (ints (dg 8 n))=bs (dg 8 n) from ac' _,Bc (sY 8 n) (pv 8 n)];have:=Eg 8 n;simp only[bne_self_eq_false,cond_false]
 by_cases a:g_ 8 n=0
 ·rw[a,ηi,ξy] at this;rw[this,if_pos a];simp
 ·have h1:0<256^(dg 8 n).length*g_ 8 n:=Nat.mul_pos (Nat.pow_pos (by omega)) (by omega);have e:(((pk (dg 8 n):Nat):Int) !=(n:Int))=true:=by simp;omega
  rw[e,if_neg a];rfl
theorem Ih (c:Nat):gp c=(bif decide ((c:Int)>=97) then(bif decide ((c:Int)<=122) then true else(bif decide ((c:Int)>=48) then decide ((c:Int)<=57) else false)) else(bif decide ((c:Int)>=48) then decide ((c:Int)<=57) else false)):=by
 unfold gp
 by_cases h1:(c:Int)>=97<;>by_cases a:(c:Int)<=122<;>by_cases b:(c:Int)>=48<;>by_cases d:(c:Int)<=57<;>simp[h1,a,b,d]<;>omega
def vw:((Bool×Bool×Int×Bool×Bool×Bool×Bool×Int×Nat)⊕(Bool×Int×Bool×Bool×Bool×Int×Nat)⊕(Bool×Bool×Int×Bool×Bool×Bool×Int×Nat)⊕(Bool×Int×Bool×Bool×Int×Nat)⊕(Bool×Int×Int×Nat)⊕(Bool×Nat))->Bool
 | .inl y=>y.2.1
 | .inr (.inl _)=>false
 | .inr (.inr (.inl y))=>y.2.1
 | .inr (.inr (.inr (.inl _)))=>false
 | .inr (.inr (.inr (.inr (.inl _))))=>false
 | .inr (.inr (.inr (.inr (.inr y))))=>y.1
theorem R6 {s:ByteArray} {pos:Nat} (ok:Bool) (hp:pos<s.size):(ok&&gp (ξ6 s pos).1)=true/\(jW ab s (ok,pos)).val=some (.inl (true,pos+(ξ6 s pos).2))\/(ok&&gp (ξ6 s pos).1)=false/\ ∃x,(jW ab s (ok,pos)).val=some (.inr x)/\vw x=false:=by
 unfold jW;simp only[T.aE,T.aC];rw[decide_eq_true hp,Ih];cases ok with
 |false=>exact .inr ⟨rfl,_,rfl,rfl⟩
 |true=>
  simp only[cond_true,φ];cases decide (((ξ6 s pos).1:Int)>=97) with
  |true=>
   cases decide (((ξ6 s pos).1:Int)<=122) with
   |true=>exact .inl ⟨rfl,rfl⟩
   |false=>
    cases decide (((ξ6 s pos).1:Int)>=48) with
    |false=>exact .inr ⟨rfl,_,rfl,rfl⟩
    |true=>
     cases decide (((ξ6 s pos).1:Int)<=57) with
     |true=>exact .inl ⟨rfl,rfl⟩
     |false=>exact .inr ⟨rfl,_,rfl,rfl⟩
  |false=>
   cases decide (((ξ6 s pos).1:Int)>=48) with
   |false=>exact .inr ⟨rfl,_,rfl,rfl⟩
   |true=>
    cases decide (((ξ6 s pos).1:Int)<=57) with
    |true=>exact .inl ⟨rfl,rfl⟩
    |false=>exact .inr ⟨rfl,_,rfl,rfl⟩
theorem Fv {l:Γ} (h: ∀x∈l,x<256): ∀(k f pos:Nat) (ok:Bool),pos+k=l.length-> ∃x,b4 (λa=>(jW ab (bs l) a).val) (k+1+f) (ok,pos)=some x/\vw x=(ok&&(l.drop pos).all gp)
 |0,f,pos,ok,e=>by
  obtain rfl:pos=l.length:=by omega
  rw[show 0+1+f=f+1 by omega,eI];have:(jW ab (bs l) (ok,l.length)).val=some (.inr (.inr (.inr (.inr (.inr (.inr (ok,l.length))))))):=by
   unfold jW;simp[eX]
  rw[this];exact⟨_,rfl,by simp[vw]⟩
 |k+1,f,pos,ok,e=>by
  have hp:pos<l.length:=by omega
  have m:=ε hp;have g:=Je h m;rw[show k+1+1+f=(k+1+f)+1 by omega,eI,ξt hp,ζt];rcases R6 (s:=bs l) ok (pos:=pos) (by rw[eX];exact hp) with⟨h1,d⟩|⟨h1,x,d,i⟩
  ·have b:((bs l).get! pos).toNat<128:=by
    apply Classical.byContradiction;intro b;rw[sR (decode_high b)] at h1;simp at h1
   rw[BI b,g] at h1 d;rw[d,β];simp only;obtain⟨x,n,o⟩:=Fv h k f (pos+1) true (by omega);refine⟨x,n,?_⟩;rw[o,<-ζR,h1]
  ·rw[d,β];refine⟨x,rfl,?_⟩;rw[i,<-ζR]
   by_cases b:((bs l).get! pos).toNat<128
   ·rw[BI b,g] at h1;rw[h1];rfl
   ·have j:=sR (c:=l[pos]) (by rw[<-g];omega);rw[j];simp
theorem Pc (x:(Bool×Bool×Int×Bool×Bool×Bool×Bool×Int×Nat)⊕(Bool×Int×Bool×Bool×Bool×Int×Nat)⊕(Bool×Bool×Int×Bool×Bool×Bool×Int×Nat)⊕(Bool×Int×Bool×Bool×Int×Nat)⊕(Bool×Int×Int×Nat)⊕(Bool×Nat)):
  (T.cs x (λa=>.ok a.2.1) λb=>.cs b (λ_=>.ok false) λc=>.cs c (λa=>.ok a.2.1) λd=>.cs d (λ_=>.ok false) λe=>.cs e (λ_=>.ok false) λa=>.ok a.1:T Bool).val=some (vw x):=by
 rcases x with x|x|x|x|x|x<;>rfl
theorem v98 {n:Nat} (h:n<18446744073709551616):jo ab (n:Int)=some (eD (n:Int)):=by
 show(zY ab (n:Int)).val=_;unfold zY eD;simp only[T.bM,T.aN,T.aE,O4 h,β,ι];have hl:=pv 8 n
 by_cases a:g_ 8 n=0
 ·rw[if_pos a,a];obtain⟨x,h1,b⟩:=Fv (BL n) (dg 8 n).length (999999-(dg 8 n).length) 0 (!(dg 8 n).isEmpty) (by omega);rw[show(dg 8 n).length+1+(999999-(dg 8 n).length)=1000000 by omega] at h1;rw[ζm] at b;simp only[BO];have c:oB ab (!(dg 8 n).isEmpty) (bs (dg 8 n)) 0=some x:=h1;rw[c];simp only[β,beq_self_eq_true,cond_true,φ];exact(Pc x).trans (by rw[b])
 ·rw[if_neg a];have e:(g_ 8 n==0)=false:=by simp[a]
  obtain⟨x,h1,b⟩:=Fv (l:=[]) (by simp) 0 999999 0 false rfl;have c:oB ab false (ξ0 #[]) 0=some x:=h1;rw[e];simp only[show((2:Int)==0)=false from rfl,cond_false];rw[c];simp only[β,ζS];exact(Pc x).trans (by rw[b];rfl)
abbrev c9 (x:Int):Prop:=0<=x/\x<18446744073709551616
def dZ (p:Int):Bool:=decide (p>=1)&&decide (p<4294967296)
@[simp] theorem Fw (p:Int):mN ab p=some (dZ p):=by
 show(mq ab p).val=_;unfold mq dZ;simp only[T.aE,T.aC];cases decide (p>=1)<;>rfl
theorem wH {w:Int} (h:c9 w):jo ab w=some (eD w):=by
 obtain⟨n,rfl⟩:=ζ8 h.1;exact v98 (by have:=h.2;omega)
def nF (z:aD):Bool:=eD z.a1&&dZ z.aa
def okB (z:aw):Bool:=dZ z.aa&&(decide (1<=z.a6.length)&&decide (z.a6.length<=4))
def nq (l:List aD):Bool:=allI (λi z=>nF z&&fD (λy z=>decide (y.a1<z.a1)) l i z) 0 l
def mC (l:List aw):Bool:=allI (λi z=>okB z&&fD (λy z=>decide (y.aa<z.aa)) l i z) 0 l
def lP (s:aL):Bool:=nq s.au&&(mC s.ao&&decide (s.au.length<=16))
structure Gw (s:aL):Prop where
 names: ∀z∈s.au,c9 z.a1
 ln:s.au.length<=maxLen
 lb:s.ao.length<=maxLen
theorem Jb (a b:Int):decide (a>=b)=!decide (a<b):=by rw[κ];simp
theorem Zp {S:Int->aD->Unit->T (Unit⊕Unit⊕(Bool×Int))} {F:Int->Unit->T (Unit⊕(Bool×Int))} {l:List aD} (hm:l.length<=maxLen)
  (c:(F (l.length:Int) ()).val=some (.inr (false,(l.length:Int))))
  (d: ∀(i:Int) z,z∈l->(S i z ()).val=bif !eD z.a1 then some (.inr (.inl ())) else bif !dZ z.aa then some (.inr (.inl ())) else bif decide (i>0) then(idx l (γ.wrap (i-1))).bind λy=>bif decide (y.a1>=z.a1) then some (.inr (.inl ())) else some (.inl ()) else some (.inl ())):
  bS (λi z a=>(S i z a).val) (λi a=>(F i a).val) 0 l ()=bif nq l then some (.inr (false,(l.length:Int))) else some (.inl ()):=by
 unfold nq;rw[nX (q:=λi z=>nF z&&fD (λy z=>decide (y.a1<z.a1)) l i z) (x:=.inl ()),c];intro i z b;refine Ec (S:=S i z ()) (g:=nF) (q:=λy z=>decide (y.a1<z.a1)) hm b ?_;rw[d _ z (ξ3 b)];unfold nF;simp only[Jb];cases eD z.a1<;>cases dZ z.aa<;>rfl
theorem T7 {S:Int->aw->Unit->T (Unit⊕Unit⊕(Bool×Int))} {F:Int->Unit->T (Unit⊕(Bool×Int))} {l:List aw} (hm:l.length<=maxLen)
  (d:(F (l.length:Int) ()).val=some (.inr (false,(l.length:Int))))
  (e: ∀(i:Int) z,(S i z ()).val=bif !dZ z.aa then some (.inr (.inl ())) else bif decide ((z.a6.length:Int)<1) then some (.inr (.inl ())) else bif decide ((z.a6.length:Int)>4) then some (.inr (.inl ())) else bif decide (i>0) then(idx l (γ.wrap (i-1))).bind λy=>bif decide (y.aa>=z.aa) then some (.inr (.inl ())) else some (.inl ()) else some (.inl ())):
  bS (λi z a=>(S i z a).val) (λi a=>(F i a).val) 0 l ()=bif mC l then some (.inr (false,(l.length:Int))) else some (.inl ()):=by
 unfold mC;rw[nX (q:=λi z=>okB z&&fD (λy z=>decide (y.aa<z.aa)) l i z) (x:=.inl ()),d];intro i z f;refine Ec (S:=S i z ()) (g:=okB) (q:=λy z=>decide (y.aa<z.aa)) hm f ?_;rw[e];unfold okB;have b:decide ((z.a6.length:Int)<1)=!decide (1<=z.a6.length):=by
  by_cases h:1<=z.a6.length
  ·rw[decide_eq_true h,decide_eq_false (by omega)];rfl
  ·rw[decide_eq_false h,decide_eq_true (by omega)];rfl
 have c:decide ((z.a6.length:Int)>4)=!decide (z.a6.length<=4):=by
  by_cases h:z.a6.length<=4
  ·rw[decide_eq_true h,decide_eq_false (by omega)];rfl
  ·rw[decide_eq_false h,decide_eq_true (by omega)];rfl
 simp only[Jb,b,c];cases dZ z.aa<;>cases decide (1<=z.a6.length)<;>cases decide (z.a6.length<=4)<;>rfl
theorem v49 {s:aL} (h:Gw s):jr ab s=some (bif lP s then 0 else 350):=by
 show(sK ab s).val=_;unfold sK lP;simp only[T.bM,T.aN,T.cM,T.aC,T.aE];have h1:zC ab s.au s.ao=_:=Zp (S:=sC ab s.au s.ao) (F:=rE ab s.au s.ao) h.ln (by unfold rE;simp) (λi z b=>by
  unfold sC;simp only[T.aN,T.aE,T.aC,wH (h.names z b),Fw,β])
 have a:zB ab s.ao s.au=_:=T7 (S:=sB ab s.ao s.au) (F:=rD ab s.ao s.au) h.lb (by unfold rD;simp) (λi z=>by
  unfold sB;simp only[T.aN,T.aE,T.aC,Fw,β])
 rw[h1,a]
 by_cases hl:s.au.length<=16
 ·rw[decide_eq_false (by omega: ¬(s.au.length:Int)>16),decide_eq_true hl];cases nq s.au<;>cases mC s.ao<;>rfl
 ·rw[decide_eq_true (by omega:(s.au.length:Int)>16),decide_eq_false hl];cases nq s.au<;>cases mC s.ao<;>rfl
theorem mI {α:Type} [DecidableEq α] {S:Int->α->Unit->T (Unit⊕Unit⊕(Bool×Int))} {F:Int->Unit->T (Unit⊕(Bool×Int))} {l m:List α} {e:α->α->Bool} (he: ∀x y,e x y=decide (x=y)) (hl:l.length=m.length)
  (c:(F (l.length:Int) ()).val=some (.inr (false,(l.length:Int))))
  (d: ∀(i:Int) z,(S i z ()).val=(idx m i).bind λy=>bif !e z y then some (.inr (.inl ())) else some (.inl ())):
  bS (λi z a=>(S i z a).val) (λi a=>(F i a).val) 0 l ()=bif decide (l=m) then some (.inr (false,(l.length:Int))) else some (.inl ()):=by
 rw[nX (q:=λi z=>decide (m[i]? =some z)) (x:=.inl ()),c]
 ·congr 1
  rw[κ,kZ];constructor
  ·intro h;refine decide_eq_true (ζx λi=>?_);cases b:l[i]? with
   |none=>rw[List.getElem?_eq_none_iff] at b;rw[ξH (by omega)]
   |some z=>
    have:=h i z b;rw[ψ] at this;exact(of_decide_eq_true this).symm
  ·intro h k z hk;have h:=of_decide_eq_true h;rw[ψ,<-h];exact decide_eq_true hk
 ·intro i z b;have f:=(δ.1 b).1;have hm:m[i]? =some m[i]:=ε (by omega);have hi:idx m (i:Int)=some m[i]:=dq hm;rw[d,hi,hm];simp only[β,he,ξq]
  by_cases h:z=m[i]
  ·rw[decide_eq_true h,decide_eq_true h.symm];rfl
  ·rw[decide_eq_false h,decide_eq_false (λx=>h x.symm)];rfl
theorem mJ {L:Option (Unit⊕(Bool×Int))} {p:Bool} {n:Int} (h:L=bif p then some (.inr (false,n)) else some (.inl ())):(T.bd L λx=>.cs x (λ_=>.ok false) λ_=>.ok true:T Bool).val=some p:=by
 rw[h];cases p<;>rfl
theorem nk {α:Type} {l m:List α}:((l.length:Int) !=(m.length:Int))=!decide (l.length=m.length):=by
 by_cases h:l.length=m.length
 ·rw[decide_eq_true h,h];simp
 ·rw[decide_eq_false h];simp;omega
theorem nr {α:Type} [DecidableEq α] {l m:List α} (h:l.length≠m.length):decide (l=m)=false:=decide_eq_false λe=>h (by rw[e])
theorem Xu (x y:ai):fJ x y=decide (x=y):=by
 rw[κ];cases x;cases y;simp[fJ,and_assoc]
theorem Xq (x y:ak):hs x y=decide (x=y):=by
 rw[κ];cases x;cases y;simp[hs,and_assoc]
theorem Xs (x y:aA):jl x y=decide (x=y):=by
 rw[κ];cases x;cases y;simp[jl]
theorem Xt (x y:aD):jm x y=decide (x=y):=by
 rw[κ];cases x;cases y;simp[jm]
theorem Xr (x y:Int):(x==y)=decide (x=y):=by rw[κ];simp
@[simp] theorem v57 (a b:List ak):B_ ab a b=some (decide (a=b)):=by
 show(AF ab a b).val=_;unfold AF;simp only[T.aE,T.aC,T.bM,nk]
 by_cases h:a.length=b.length
 ·rw[decide_eq_true h];exact mJ (mI (S:=zQ ab a b) (F:=rz ab a b) (e:=hs) Xq h (by unfold rz;simp) (λi z=>rfl))
 ·rw[decide_eq_false h,nr h];rfl
@[simp] theorem adG (a b:List ai):Cd ab a b=some (decide (a=b)):=by
 show(AQ ab a b).val=_;unfold AQ;simp only[T.aE,T.aC,T.bM,nk]
 by_cases h:a.length=b.length
 ·rw[decide_eq_true h];exact mJ (mI (S:=zR ab a b) (F:=rF ab a b) (e:=fJ) Xu h (by unfold rF;simp) (λi z=>rfl))
 ·rw[decide_eq_false h,nr h];rfl
@[simp] theorem adH (a b:List aA):Ce ab a b=some (decide (a=b)):=by
 show(AR ab a b).val=_;unfold AR;simp only[T.aE,T.aC,T.bM,nk]
 by_cases h:a.length=b.length
 ·rw[decide_eq_true h];exact mJ (mI (S:=zS ab a b) (F:=rG ab a b) (e:=jl) Xs h (by unfold rG;simp) (λi z=>rfl))
 ·rw[decide_eq_false h,nr h];rfl
@[simp] theorem adI (a b:List aD):Cf ab a b=some (decide (a=b)):=by
 show(AT ab a b).val=_;unfold AT;simp only[T.aE,T.aC,T.bM,nk]
 by_cases h:a.length=b.length
 ·rw[decide_eq_true h];exact mJ (mI (S:=zT ab a b) (F:=rH ab a b) (e:=jm) Xt h (by unfold rH;simp) (λi z=>rfl))
 ·rw[decide_eq_false h,nr h];rfl
@[simp] theorem v105 (a b:Γa):Cg ab a b=some (decide (a=b)):=by
 show(AU ab a b).val=_;unfold AU;simp only[T.aE,T.aC,T.bM,nk]
 by_cases h:a.length=b.length
 ·rw[decide_eq_true h];exact mJ (mI (S:=zU ab a b) (F:=rJ ab a b) (e:=(λx y=>x==y)) Xr h (by unfold rJ;simp) (λi z=>rfl))
 ·rw[decide_eq_false h,nr h];rfl
theorem v56 (a b:bF):B9 ab a b=some (decide (a=b)):=by
 show(AE ab a b).val=_;unfold AE;simp only[T.aE,T.aN,T.aC,adG,β];obtain⟨g,l⟩:=a;obtain⟨d,l'⟩:=b
 by_cases c:g=d
 ·subst c;simp
 ·have e:(g==d)=false:=by simp[c]
  simp[c,e]
theorem v58 (a b:bT):B' ab a b=some (decide (a=b)):=by
 show(AG ab a b).val=_;unfold AG;simp only[T.aE,T.aN,T.aC,adH,β];obtain⟨l,g⟩:=a;obtain⟨l',d⟩:=b
 by_cases c:g=d
 ·subst c;simp
 ·have e:(g==d)=false:=by simp[c]
  simp[c,e]
def s4 (x y:aw):Bool:=(x.aa==y.aa)&&decide (x.a6=y.a6)
theorem Xp (x y:aw):s4 x y=decide (x=y):=by
 rw[κ];cases x;cases y;simp[s4]
theorem YV (a b:aL):decide (a=b)=(decide (a.au=b.au)&&decide (a.ao=b.ao)):=by
 rw[κ];cases a;cases b;simp
theorem v59 (a b:aL):Ca ab a b=some (decide (a=b)):=by
 show(AI ab a b).val=_;unfold AI;rw[YV];simp only[T.aE,T.aC,T.bM,T.aN,adI,β,nk];cases decide (a.au=b.au) with
 |false=>rfl
 |true=>
  simp only[cond_true,φ]
  by_cases c:a.ao.length=b.ao.length
  rotate_left
  ·rw[decide_eq_false c,nr c];rfl
  rw[decide_eq_true c];have d:zF ab b.ao a.ao=_:=mI (S:=sD ab b.ao a.ao) (F:=rI ab b.ao a.ao) (l:=a.ao) (m:=b.ao) (e:=s4) Xp c (by unfold rI;simp) (λi z=>by
   unfold sD s4;simp only[T.aN,T.aE,T.aC,v105,β];cases idx b.ao i with
   |none=>rfl
   |some y=>
    simp only[β];cases h:z.aa==y.aa<;>simp)
  exact mJ d
theorem ac8 (a b:bb):decide (a=b)=(decide (a.az=b.az)&&(decide (a.aV=b.aV)&&(decide (a.aI=b.aI)&&decide (a.aB=b.aB)))):=by
 rw[κ];cases a;cases b;simp
theorem v12 (a b:bb):j7 ab a b=some (decide (a=b)):=by
 show(Ar ab a b).val=_;unfold Ar;rw[ac8];simp only[T.aE,T.aC,T.aN,v56,v57,v58,v59,β];cases decide (a.az=b.az)<;>cases decide (a.aV=b.aV)<;>cases decide (a.aI=b.aI)<;>rfl
def nz:bb:=⟨⟨[1,0,0,0,0,0,0,0,0,0,0,0,0,0,0,0],[ai.mk 1 0 false 0]⟩,[],⟨[],1⟩,⟨[],[]⟩⟩
theorem UJ {α:Type} (l:List α) (n:Nat) (k:Int) (hk:k=n):dL l none (some (if k<(l.length:Int) then k else(l.length:Int))) none=some (l.take n):=by
 subst hk;unfold dL
 by_cases h:(n:Int)<(l.length:Int)
 ·rw[if_pos h];simp only[ξw,ξ1];rw[if_pos ⟨by omega,by omega,by omega,by omega,by omega,by simp⟩];simp
 ·rw[if_neg h];simp only[ξw,ξ1];rw[if_pos ⟨by omega,by omega,by omega,by omega,by omega,by simp⟩,ι];show some ((l.take l.length).drop 0)=_;rw[ζm,List.take_length,ξD (by omega)]
theorem ja {α:Type} {b n:Nat} {xs ys:List α} (h:xs.length+ys.length<=n) (a:b*n<=140737488355328):app b xs ys=some (xs++ys):=by
 refine sN ?_;have:(xs.length+ys.length)*b<=n*b:=ζk _ h;rw[ζD n b] at this;omega
theorem v18:B1 ab=some nz:=rfl
theorem nm (p:Int×Int) (r:Γc) (j:Int):bw (p::r) j=bif j==p.1 then some p.2 else bw r j:=by
 unfold bw;rw[List.find?_cons];cases j==p.1<;>rfl
theorem Ot (p:Int×Int) (r:Γc) (k v:Int):cb (p::r) k v=bif k==p.1 then(k,v)::r else p::cb r k v:=by
 unfold cb;rw[List.findIdx?_cons];cases k==p.1 with
 |true=>rfl
 |false=>
  simp only[cond_false,ζu,if_false];cases List.findIdx? (λp=>k==p.1) r<;>rfl
theorem nn (k v j:Int): ∀m:Γc,bw (cb m k v) j=if j=k then some v else bw m j
 |[]=>by
  show bw [(k,v)] j=_;rw[nm]
  by_cases h:j=k
  ·simp[h]
  ·have e:(j==k)=false:=by simp[h]
   simp[h,e]
 |p::r=>by
  rw[Ot];cases hk:k==p.1 with
  |true=>
   have hk:=eq_of_beq hk;simp only[cond_true];rw[nm,nm]
   by_cases h:j=k
   ·simp[h]
   ·have a:(j==p.1)=false:=by rw[<-hk];simp[h]
    have e:(j==k)=false:=by simp[h]
    simp[h,a,e]
  |false=>
   simp only[cond_false];rw[nm,nm,nn k v j r]
   by_cases h:j=k
   ·subst h;rw[hk];simp
   ·simp[h]
theorem Lq {α:Type} (c:α->Bool) (key:α->Int) (j:Int): ∀(l:List α) (m:Γc),bw (l.foldl (λa z=>bif c z then cb a (key z) 1 else a) m) j=if l.any (λz=>c z&&(key z==j)) then some 1 else bw m j
 |[],m=>by simp
 |z::l,m=>by
  rw[ξU,Lq c key j l,ζW];cases c z with
  |false=>simp
  |true=>
   simp only[cond_true,φ,nn]
   by_cases h:j=key z
   ·subst h;simp
   ·have:(key z==j)=false:=by simp;exact λe=>h e.symm
    simp[h,this]
theorem Lr {α:Type} (c:α->Bool) (key:α->Int) (j:Int) (l:List α):((bw (l.foldl (λa z=>bif c z then cb a (key z) 1 else a) []) j).getD 0==1)=l.any (λz=>c z&&(key z==j)):=by
 rw[Lq];cases l.any (λz=>c z&&(key z==j))<;>rfl
theorem D8 {l:List ai} (h: ∀i x,l[i]? =some x->gY l i x=true): ∀(j i:Nat) (x y:ai),i<j->l[i]? =some x->l[j]? =some y->ix x.aa<ix y.aa
 |0,i,x,y,d,_,_=>by omega
 |j+1,i,x,y,d,c,e=>by
  have h1:=h (j+1) y e;have f:=(δ.1 e).1;have b:l[j]? =some l[j]:=ε (by omega);unfold gY at h1;rw[show(j+1==0)=false from rfl,ξp,ξX,b] at h1;have h1:ix l[j].aa<ix y.aa:=of_decide_eq_true h1;rcases ζ3.1 d with a|a
  ·have:=D8 h j i x l[j] a c b;omega
  ·subst a;rw[b] at c;cases c;exact h1
theorem acE {p:bF} (h:allI (λi x=>hB p x&&gY p.ae i x) 0 p.ae=true) (pid:Int):b1 p.ae pid=p.ae.any (λz=>!z.bl&&(z.aa==pid)):=by
 have g: ∀i x,p.ae[i]? =some x->gY p.ae i x=true:=λi x m=>by
  have:=kZ.1 h i x m;rw[ψ,ξ5] at this;exact this.2
 unfold b1 ft;cases d:p.ae.find? (λz=>z.aa==pid) with
 |none=>
  symm
  rw[ξo];intro z f;have:=ζs.1 d z f;simp only[ξ5,not_and];exact λ_=>this
 |some z0=>
  have l:=ξZ d;have k:(z0.aa==pid)=true:=ζL (p:=λz:ai=>z.aa==pid) d;rw[κ,ζF];constructor
  ·intro c;have c:(!z0.bl)=true:=c;exact⟨z0,l,by rw[c,k];rfl⟩
  ·rintro ⟨z,f,b⟩;rw[ξ5] at b;obtain⟨i,hi⟩:=ζl f;obtain⟨j,a⟩:=ζl l;have e:z.aa=z0.aa:=(eq_of_beq b.2).trans (eq_of_beq k).symm;rcases Nat.lt_trichotomy i j with h1|h1|h1
   ·have:=D8 g j i z z0 h1 hi a;rw[e] at this;omega
   ·subst h1;rw[hi] at a;cases a;exact b.1
   ·have:=D8 g i j z0 z h1 a hi;rw[e] at this;omega
def vv {A B C D:Type}:(A×Bool×B)⊕(C×Bool×D)->Bool
 | .inl y=>y.2.1
 | .inr y=>y.2.1
theorem vW {α X:Type} {step:Int->α->Bool->Option (Bool⊕X)} {fin:Int->Bool->Option X} {out:X->Bool} {q:α->Bool} (c: ∀i a,∃x,fin i a=some x/\out x=a):
  ∀ {l:List α} {i:Nat},(∀i z a,z∈l->(q z=true/\step i z a=some (.inl true))\/(q z=false/\ ∃x,step i z a=some (.inr x)/\out x=false))-> ∃x,bS step fin i l true=some x/\out x=l.all q
 |[],i,_=>by
  obtain⟨x,h1,b⟩:=c i true;exact⟨x,h1,b⟩
 |z::l,i,h=>by
  rw[gG,ζt];rcases h i z true τ with⟨h1,b⟩|⟨h1,x,b,d⟩
  ·rw[h1,b,β];obtain⟨x,e,f⟩:=vW c (l:=l) (i:=i+1) λi z a g=>h i z a (ξ4 _ g);exact⟨x,e,by simpa using f⟩
  ·rw[h1,b,β];exact⟨x,rfl,by simpa using d⟩
def qA (s:bb):Bool:=(s.aV.all λd=>b1 s.az.ae d.aa&&s.aI.ae.any λm=>m.aX==d.cf)&&((s.aB.au.all λn=>b1 s.az.ae n.aa)&&s.aB.ao.all λb=>b1 s.az.ae b.aa)
structure Gy (s:bb):Prop where
 p:xl s.az
 d:s.aV.length<=maxLen
 i:Gw s.aB
theorem RW (l:List ak) (b M2:Γc) (i:Int) (z:ak) (a:Bool):(mm ab l b M2 i z a).val=bif ((bw b z.aa).getD 0==1) then(bif !((bw M2 z.cf).getD 0==1) then some (.inr (.inl (!((bw M2 z.cf).getD 0==1),((bw M2 z.cf).getD 0==1),z.aa,z.bA,z.cf,z,decide (i<l.length),a,i))) else some (.inl ((bw M2 z.cf).getD 0==1))) else some (.inr (.inl (true,false,z.aa,z.bA,z.cf,z,decide (i<l.length),a,i))):=by
 unfold mm;cases bw b z.aa<;>cases bw M2 z.cf<;>rfl
theorem RX (l:List aD) (b:Γc) (i:Int) (z:aD) (a:Bool):(mn ab l b i z a).val=bif !((bw b z.aa).getD 0==1) then some (.inr (.inl (!((bw b z.aa).getD 0==1),((bw b z.aa).getD 0==1),z.a1,z.aa,z,decide (i<l.length),a,i))) else some (.inl ((bw b z.aa).getD 0==1)):=by
 unfold mn;cases bw b z.aa<;>rfl
theorem RY (l:List aw) (b:Γc) (i:Int) (z:aw) (a:Bool):(mo ab l b i z a).val=bif !((bw b z.aa).getD 0==1) then some (.inr (.inl (!((bw b z.aa).getD 0==1),((bw b z.aa).getD 0==1),z.aa,z.a6,z,decide (i<l.length),a,i))) else some (.inl ((bw b z.aa).getD 0==1)):=by
 unfold mo;cases bw b z.aa<;>rfl
theorem v11 {s:bb} (h:Gy s) {m:Bool} (hm:pH ab s.aI=some (bif m then 0 else 340)):tv ab s=some (bif iL s.az&&(lO s.aV&&(m&&(lP s.aB&&qA s))) then 0 else 360):=by
 show(AA ab s).val=_;unfold AA;simp only[T.aN,T.aE,T.aC,T.bM,v46 h.p,O_ h.d,hm,v49 h.i,β];cases hp:iL s.az
 ·rfl
 cases lO s.aV
 ·rfl
 cases m
 ·rfl
 cases lP s.aB
 ·rfl
 have A:allI (λi x=>hB s.az x&&gY s.az.ae i x) 0 s.az.ae=true:=by
  unfold iL at hp;rw[ξ5,ξ5] at hp;exact hp.2.1
 have C:=acE A;simp only[cond_true,cond_false,φ,show((0:Int) !=0)=false from rfl];obtain⟨b,n⟩: ∃M,M=s.az.ae.foldl (λa z=>bif !z.bl then cb a z.aa 1 else a) []:=⟨_,rfl⟩;obtain⟨M2,o⟩: ∃M,M=s.aI.ae.foldl (λa z=>bif (λ_:aA=>true) z then cb a z.aX 1 else a) []:=⟨_,rfl⟩;have h1:r3 ab s.az.ae s.az.aS s.aV s.aI.ae s.aI.bp s.aB.au s.aB.ao []=some (false,(s.az.ae.length:Int),b):=by
  have:=nY (g:=λa (z:ai)=>bif !z.bl then cb a z.aa 1 else a) (l:=s.az.ae) (i:=0) (a:=[]) (step:=λi z a=>(oY ab s.az.ae s.az.aS s.aV s.aI.ae s.aI.bp s.aB.au s.aB.ao i z a).val) (fin:=λi a=>(ry ab s.az.ae s.az.aS s.aV s.aI.ae s.aI.bp s.aB.au s.aB.ao i a).val) (λi z a _=>by
   show(oY ab s.az.ae s.az.aS s.aV s.aI.ae s.aI.bp s.aB.au s.aB.ao i z a).val=_;unfold oY;cases z.bl<;>rfl)
  have c:r3 ab s.az.ae s.az.aS s.aV s.aI.ae s.aI.bp s.aB.au s.aB.ao []=_:=this;rw[c,n];unfold ry;simp
 have c:r2 ab s.aI.ae s.az.aS s.az.ae s.aV s.aI.bp s.aB.au s.aB.ao b []=some (false,(s.aI.ae.length:Int),M2):=by
  have:=nY (g:=λa (z:aA)=>bif (λ_:aA=>true) z then cb a z.aX 1 else a) (l:=s.aI.ae) (i:=0) (a:=[]) (step:=λi z a=>(zP ab s.aI.ae s.az.aS s.az.ae s.aV s.aI.bp s.aB.au s.aB.ao b i z a).val) (fin:=λi a=>(ru ab s.aI.ae s.az.aS s.az.ae s.aV s.aI.bp s.aB.au s.aB.ao b i a).val) (λi z a _=>rfl);have c:r2 ab s.aI.ae s.az.aS s.az.ae s.aV s.aI.bp s.aB.au s.aB.ao b []=_:=this;rw[c,o];unfold ru;simp
 have k: ∀pid,((bw b pid).getD 0==1)=b1 s.az.ae pid:=λpid=>by rw[n,Lr (λz:ai=>!z.bl) (λz=>z.aa),C pid]
 have B: ∀id,((bw M2 id).getD 0==1)=s.aI.ae.any λm=>m.aX==id:=λid=>by rw[o,Lr (λ_:aA=>true) (λz=>z.aX)];simp
 obtain⟨r,e,D⟩:=vW (out:=vv) (q:=λd:ak=>b1 s.az.ae d.aa&&s.aI.ae.any λm=>m.aX==d.cf) (step:=λi z a=>(mm ab s.aV b M2 i z a).val) (fin:=λi a=>(w9 ab s.aV b M2 i a).val) (λi a=>⟨_,rfl,rfl⟩) (l:=s.aV) (i:=0) (λi z a _=>by
  show _/\(mm ab s.aV b M2 i z a).val=_\/_;rw[RW,k,B];cases b1 s.az.ae z.aa with
  |false=>exact .inr ⟨rfl,_,rfl,rfl⟩
  |true=>
   cases (s.aI.ae.any λm=>m.aX==z.cf) with
   |false=>exact .inr ⟨rfl,_,rfl,rfl⟩
   |true=>exact .inl ⟨rfl,rfl⟩)
 obtain⟨t,f,E⟩:=vW (out:=vv) (q:=λd:aD=>b1 s.az.ae d.aa) (step:=λi z a=>(mn ab s.aB.au b i z a).val) (fin:=λi a=>(w_ ab s.aB.au b i a).val) (λi a=>⟨_,rfl,rfl⟩) (l:=s.aB.au) (i:=0) (λi z a _=>by
  show _/\(mn ab s.aB.au b i z a).val=_\/_;rw[RX,k];cases b1 s.az.ae z.aa with
  |false=>exact .inr ⟨rfl,_,rfl,rfl⟩
  |true=>exact .inl ⟨rfl,rfl⟩)
 obtain⟨u,j,F⟩:=vW (out:=vv) (q:=λd:aw=>b1 s.az.ae d.aa) (step:=λi z a=>(mo ab s.aB.ao b i z a).val) (fin:=λi a=>(xa ab s.aB.ao b i a).val) (λi a=>⟨_,rfl,rfl⟩) (l:=s.aB.ao) (i:=0) (λi z a _=>by
  show _/\(mo ab s.aB.ao b i z a).val=_\/_;rw[RY,k];cases b1 s.az.ae z.aa with
  |false=>exact .inr ⟨rfl,_,rfl,rfl⟩
  |true=>exact .inl ⟨rfl,rfl⟩)
 have e:zE ab s.aV b M2 true=some r:=e;have f:r5 ab s.aB.au b true=some t:=f;have j:me ab s.aB.ao b true=some u:=j;unfold qA;rw[h1];simp only[β];rw[c];simp only[β];rw[e,f,j,<-D,<-E,<-F];simp only[β];rcases r with v|v<;>rcases t with w|w<;>rcases u with y|y<;>simp only[T.cM,T.aN,T.bM,T.aE,T.aC,vv,β]<;>cases v.2.1<;>cases w.2.1<;>cases y.2.1<;>rfl
abbrev zM (w:Int) (b:Bool):Prop:=pB ab w=some (bif b then 0 else 310)
structure Gx (P:Int->Bool) (m:bT):Prop where
 path: ∀z∈m.ae,zM z.ba (P z.ba)
 len:m.ae.length<=maxLen
def qi (P:Int->Bool) (next:Int) (z:aA):Bool:=P z.ba&&(decide (1<=z.aX)&&decide (z.aX<next))
def nu (l:List aA) (i:Nat) (z:aA):Bool:=!(l.take i).any λy=>y.ba==z.ba
def uU (P:Int->Bool) (next:Int) (l:List aA):Bool:=allI (λi z=>(qi P next z&&fD (λy z=>decide (y.aX<z.aX)) l i z)&&nu l i z) 0 l
def qC (P:Int->Bool) (m:bT):Bool:=uU P m.bp m.ae&&(decide (m.ae.length<=16)&&(decide (m.bp>=1)&&decide (m.bp<=1073741825)))
theorem UH {α:Type} {l:List α} {i:Nat} (h:i<=l.length):dL l none (some (i:Int)) none=some (l.take i):=by
 unfold dL;simp only[ξw,ξ1];rw[if_pos ⟨by omega,by omega,by omega,by omega,by omega,by simp⟩,ι];rfl
def lS (P:Int->Bool) (next:Int):Int->List aA->Bool
 |_,[]=>true
 |a,z::r=>(P z.ba&&(decide (a<z.aX)&&decide (z.aX<next)))&&lS P next z.aX r
theorem Oq {P:Int->Bool} {l0:List aA} {next:Int}: ∀(l:List aA) (i:Nat) (a:Int),(∀z∈l,zM z.ba (P z.ba))->(lS P next a l=true/\ ∃b,bS (λi z a=>(jY ab l0 next i z a).val) (λi a=>(rC ab l0 next i a).val) i l a=some (.inr b))\/(lS P next a l=false/\bS (λi z a=>(jY ab l0 next i z a).val) (λi a=>(rC ab l0 next i a).val) i l a=some (.inl ()))
 |[],i,a,_=>.inl ⟨rfl,_,rfl⟩
 |z::l,i,a,h=>by
  have e:(jY ab l0 next i z a).val=bif P z.ba&&(decide (a<z.aX)&&decide (z.aX<next)) then some (.inl z.aX) else some (.inr (.inl ())):=by
   unfold jY;simp only[T.aN,T.aE,T.aC,h z τ,β];have c:decide (z.aX<=a)=!decide (a<z.aX):=by rw[κ];simp
   have d:decide (z.aX>=next)=!decide (z.aX<next):=by rw[κ];simp
   rw[c,d];cases P z.ba<;>cases decide (a<z.aX)<;>cases decide (z.aX<next)<;>rfl
  rw[gG];show _/\(∃b,((jY ab l0 next i z a).val.bind _)=_)\/_/\((jY ab l0 next i z a).val.bind _)=_;rw[e];unfold lS;cases P z.ba&&(decide (a<z.aX)&&decide (z.aX<next)) with
  |false=>exact .inr ⟨rfl,rfl⟩
  |true=>
   simp only[cond_true,β,φ];exact Oq l (i+1) z.aX λy f=>h y (ξ4 _ f)
theorem Oo {P:Int->Bool} {next:Int} {l0:List aA}: ∀(r pre:List aA) (a:Int),l0=pre++r->(pre=[]->a=0)->(∀y,pre.getLast? =some y->a=y.aX/\1<=y.aX)->lS P next a r=allI (λi z=>qi P next z&&fD (λy z=>decide (y.aX<z.aX)) l0 i z) pre.length r
 |[],_,_,_,_,_=>rfl
 |z::r,pre,a,e,d,h1=>by
  unfold lS allI qi;have k:(P z.ba&&(decide (a<z.aX)&&decide (z.aX<next)))=((P z.ba&&(decide (1<=z.aX)&&decide (z.aX<next)))&&fD (λy z=>decide (y.aX<z.aX)) l0 pre.length z):=by
   unfold fD;rcases List.eq_nil_or_concat pre with hp|⟨p,y,hp⟩
   ·subst hp;rw[d rfl];have:decide ((0:Int)<z.aX)=decide (1<=z.aX):=by rw[κ];simp;omega
    rw[this];simp
   ·subst hp;obtain⟨l,m⟩:=h1 y (by simp);have f:l0[(p++[y]).length-1]? =some y:=by rw[e];simp
    have j:((p++[y]).length==0)=false:=by simp
    have:decide (a<z.aX)=(decide (1<=z.aX)&&decide (y.aX<z.aX)):=by rw[κ];simp;omega
    simp only[List.concat_eq_append] at*
    rw[f,j,this];simp only[ξp];cases P z.ba<;>cases decide (1<=z.aX)<;>cases decide (y.aX<z.aX)<;>cases decide (z.aX<next)<;>rfl
  rw[k];cases b:(P z.ba&&(decide (1<=z.aX)&&decide (z.aX<next)))&&fD (λy z=>decide (y.aX<z.aX)) l0 pre.length z with
  |false=>rfl
  |true=>
   have g:1<=z.aX:=by
    simp only[ξ5,decide_eq_true_eq] at b;exact b.1.2.1
   have:=Oo (P:=P) (next:=next) (l0:=l0) r (pre++[z]) z.aX (by rw[e];simp) (λh=>by simp at h) (λy c=>by simp at c;subst c;exact⟨rfl,g⟩);rw[show(pre++[z]).length=pre.length+1 by simp] at this;rw[this];rfl
def mapM:Γc->List aA->Γc
 |m,[]=>m
 |m,z::r=>mapM (cb m z.ba z.aX) r
def gS:Γc->List aA->Bool
 |_,[]=>true
 |m,z::r=>!(bw m z.ba).isSome&&gS (cb m z.ba z.aX) r
theorem Lo (k v:Int): ∀m:Γc,(cb m k v).length=if(bw m k).isSome then m.length else m.length+1
 |[]=>rfl
 |p::r=>by
  rw[Ot,nm];cases k==p.1 with
  |true=>simp
  |false=>
   simp only[cond_false,ξc,Lo k v r];split<;>rfl
theorem Lz: ∀(l:List aA) (m:Γc),(mapM m l).length<=m.length+l.length/\(gS m l=true->(mapM m l).length=m.length+l.length)/\(gS m l=false->(mapM m l).length<m.length+l.length)
 |[],m=>by simp[mapM,gS]
 |z::r,m=>by
  obtain⟨h1,b,c⟩:=Lz r (cb m z.ba z.aX);have hl:=Lo z.ba z.aX m;simp only[mapM,gS,ξc];cases a:(bw m z.ba).isSome with
  |true=>
   rw[a,if_pos rfl] at hl;simp only[ξP,ζS];refine⟨by omega,λh=>(by cases h),λ_=>by omega⟩
  |false=>
   rw[a,if_neg (by simp)] at hl;simp only[ξY,φ];exact⟨by omega,λh=>by have:=b h;omega,λh=>by have:=c h;omega⟩
theorem LA (j:Int): ∀(l:List aA) (m:Γc),(bw (mapM m l) j).isSome=(l.any (λy=>y.ba==j)||(bw m j).isSome)
 |[],m=>by simp[mapM]
 |z::r,m=>by
  simp only[mapM,ζW];rw[LA j r,nn]
  by_cases h:j=z.ba
  ·subst h;simp
  ·have:(z.ba==j)=false:=by simp;exact λe=>h e.symm
   simp[h,this]
theorem Ly: ∀(l r:List aA) (m:Γc),mapM m (l++r)=mapM (mapM m l) r
 |[],r,m=>rfl
 |z::l,r,m=>Ly l r _
theorem I9 {l0:List aA}: ∀(r pre:List aA),l0=pre++r->gS (mapM [] pre) r=allI (λi z=>nu l0 i z) pre.length r
 |[],_,_=>rfl
 |z::r,pre,e=>by
  unfold gS allI nu;rw[LA];have a:l0.take pre.length=pre:=by rw[e];simp
  have hn:(bw ([]:Γc) z.ba).isSome=false:=rfl;rw[a,hn,ζp];have:=I9 (l0:=l0) r (pre++[z]) (by rw[e];simp);rw[show(pre++[z]).length=pre.length+1 by simp,Ly] at this;have this:gS (cb (mapM [] pre) z.ba z.aX) r=_:=this;rw[this];rfl
theorem HO {α:Type} {p q:Nat->α->Bool}: ∀ {l:List α} {i:Nat},allI (λi z=>p i z&&q i z) i l=(allI p i l&&allI q i l)
 |[],_=>rfl
 |z::l,i=>by
  simp only[allI];rw[HO];cases p i z<;>cases q i z<;>cases allI p (i+1) l<;>simp
theorem Zc {P:Int->Bool} {next:Int} {l:List aA}:uU P next l=(lS P next 0 l&&gS [] l):=by
 unfold uU;rw[HO,Oo (l0:=l) l [] 0 rfl (λ_=>rfl) (λy a=>by simp at a)];have:=I9 (l0:=l) l [] rfl;have this:gS [] l=_:=this;rw[this];rfl
theorem fold_map: ∀(l:List aA) (m:Γc),l.foldl (λa z=>cb a z.ba z.aX) m=mapM m l
 |[],_=>rfl
 |z::r,m=>fold_map r _
theorem Pa {P:Int->Bool} {m:bT} (h:Gx P m):pH ab m=some (bif qC P m then 0 else 340):=by
 show(AN ab m).val=_;unfold AN qC;rw[Zc];simp only[T.bM,T.aN,T.cM,T.aE,T.aC];have d:rV ab m.ae []=some (false,(m.ae.length:Int),mapM [] m.ae):=by
  have:=nY (g:=λa (z:aA)=>cb a z.ba z.aX) (l:=m.ae) (i:=0) (a:=[]) (step:=λi z a=>(zN ab m.ae i z a).val) (fin:=λi a=>(q1 ab m.ae i a).val) (λi z a _=>rfl);have d:rV ab m.ae []=_:=this;rw[d,fold_map];unfold q1;simp
 obtain⟨r,p,q⟩:=Lz m.ae [];have o:decide (((mapM [] m.ae).length:Int)<(m.ae.length:Int))=!gS [] m.ae:=by
  cases f:gS [] m.ae with
  |true=>have:=p f;simp at this;exact decide_eq_false (by omega)
  |false=>have:=q f;simp at this;exact decide_eq_true (by omega)
 have j:decide ((m.ae.length:Int)>16)=!decide (m.ae.length<=16):=by
  by_cases h:m.ae.length<=16
  ·rw[decide_eq_true h,decide_eq_false (by omega)];rfl
  ·rw[decide_eq_false h,decide_eq_true (by omega)];rfl
 have k:decide (m.bp<1)=!decide (m.bp>=1):=by rw[κ];simp
 have n:decide (m.bp>1073741825)=!decide (m.bp<=1073741825):=by rw[κ];simp
 rcases Oq (P:=P) (l0:=m.ae) (next:=m.bp) m.ae 0 0 h.path with⟨e,b,c⟩|⟨e,c⟩
 ·have c:r4 ab m.ae m.bp 0=some (.inr b):=c;rw[c,e,d];simp only[β,φ];rw[o,j,k,n];cases gS [] m.ae<;>cases decide (m.ae.length<=16)<;>cases decide (m.bp>=1)<;>cases decide (m.bp<=1073741825)<;>rfl
 ·have c:r4 ab m.ae m.bp 0=some (.inl ()):=c;rw[c,e];rfl
def fl (l:Γ):Bool:=l.all gp&&!l.isEmpty
theorem RS {s:ByteArray} {pos:Nat} (hp:pos<s.size):(mi ab s pos).val=bif gp (ξ6 s pos).1 then some (.inl (pos+(ξ6 s pos).2)) else some (.inr (.inl ())):=by
 unfold mi;simp only[T.aE,T.aC];rw[decide_eq_true hp,Ih];cases decide (((ξ6 s pos).1:Int)>=97)<;>cases decide (((ξ6 s pos).1:Int)<=122)<;>cases decide (((ξ6 s pos).1:Int)>=48)<;>cases decide (((ξ6 s pos).1:Int)<=57)<;>rfl
theorem O6 {l:Γ} (h: ∀x∈l,x<256): ∀(k f pos:Nat),pos+k=l.length->b4 (λa=>(mi ab (bs l) a).val) (k+1+f) pos=some (bif (l.drop pos).all gp then .inr l.length else .inl ())
 |0,f,pos,e=>by
  obtain rfl:pos=l.length:=by omega
  rw[show 0+1+f=f+1 by omega,eI];unfold mi;simp[eX]
 |k+1,f,pos,e=>by
  have hp:pos<l.length:=by omega
  have d:=Je h (ε hp);rw[show k+1+1+f=(k+1+f)+1 by omega,eI,RS (by rw[eX];exact hp),ξt hp,ζt]
  by_cases b:((bs l).get! pos).toNat<128
  ·rw[BI b,d];cases gp l[pos] with
   |false=>rfl
   |true=>
    simp only[cond_true,β,φ];exact O6 h k f (pos+1) (by omega)
  ·have g:=sR (c:=l[pos]) (by rw[<-d];omega);rw[sR (decode_high b),g];rfl
theorem v175 {l:Γ} (h: ∀x∈l,x<256) (hl:l.length<=100):pE ab (bs l)=some (fl l):=by
 show(An ab (bs l)).val=_;unfold An fl;simp only[T.bM,T.aN,T.cM,T.aC];have:=O6 h l.length (999999-l.length) 0 (by omega);rw[show l.length+1+(999999-l.length)=1000000 by omega,ζm] at this;have a:y5 ab (bs l) 0=some (bif l.all gp then .inr l.length else .inl ()):=this;rw[a];cases l.all gp with
 |false=>rfl
 |true=>
  simp only[cond_true,β,φ];rw[BO]
def fx (acc:List (Γ)) (x:Nat):List (Γ):=if x=47 then acc++[[]] else match acc[acc.length-1]? with|some y=>acc.set (acc.length-1) (y++[x])|none=>acc
theorem I7: ∀(a:Γ) (acc:List (Γ)) (y:Γ),(∀x∈a,x≠47)->a.foldl fx (acc++[y])=acc++[y++a]
 |[],acc,y,_=>by simp
 |x::a,acc,y,h=>by
  have b:fx (acc++[y]) x=acc++[y++[x]]:=by
   unfold fx;rw[if_neg (h x τ)];simp
  rw[ξU,b,I7 a acc (y++[x]) λz c=>h z (ξ4 _ c)];simp
def wd (t:Γ):Γ:=t.takeWhile λx=>x !=47
def rs (t:Γ):Γ:=t.dropWhile λx=>x !=47
theorem Pn: ∀(t:Γ) (x:Nat),x∈wd t->x≠47
 |[],x,h=>by simp[wd] at h
 |z::t,x,h=>by
  unfold wd at h;rw[ζo] at h;cases a:z !=47 with
  |true=>
   rw[a] at h;rcases ξB.1 h with rfl|h
   ·simpa using a
   ·exact Pn t x h
  |false=>rw[a] at h;simp at h
theorem tC (t:Γ) (acc:List (Γ)):(47::t).foldl fx acc=(rs t).foldl fx (acc++[wd t]):=by
 rw[ξU];have h1:fx acc 47=acc++[[]]:=by unfold fx;rw[if_pos rfl]
 rw[h1]
 conv=>lhs;rw[<-ξE (p:=λx=>x !=47) (l:=t)]
 rw[List.foldl_append];show List.foldl fx (List.foldl fx (acc++[[]]) (wd t)) (rs t)=_;rw[I7 _ acc [] λx a=>Pn t x a];rfl
theorem nZ (t:Γ):rs t=[]\/ ∃u,rs t=47::u:=by
 unfold rs;cases h:t.dropWhile λx=>x !=47 with
 |nil=>exact .inl rfl
 |cons x u=>
  right;have:=List.head?_dropWhile_not (λx=>x !=47) t;rw[h] at this;simp at this;exact⟨u,by rw[this]⟩
theorem tB: ∀(k:Nat) (r:Γ) (acc:List (Γ)),r.length<=k->(r=[]\/ ∃t,r=47::t)->r.foldl fx acc=acc++r.foldl fx []
 |0,r,acc,hk,_=>by
  have:r=[]:=ξM (by omega);subst this;simp
 |k+1,r,acc,hk,a=>by
  rcases a with rfl|⟨t,rfl⟩
  ·simp
  ·have hl:(rs t).length<=k:=by
    have:(rs t).length<=t.length:=(ξj _).length_le;simp at hk;omega
   rw[tC,tC,tB k (rs t) _ hl (nZ t),tB k (rs t) ([]++[wd t]) hl (nZ t)];simp
theorem C9: ∀(t:Γ),(∀x∈t,x<256)->ζX (bs t).data.toList (Nat.toUInt8 47)=if rs t=[] then -1 else((wd t).length:Int)
 |[],_=>rfl
 |x::t,h=>by
  have b:=C9 t λz g=>h z (ξ4 _ g);have j:=h x τ;have c:(bs (x::t)).data.toList=ξn x::(bs t).data.toList:=by simp[bs]
  rw[c];unfold ζX rs wd;rw[List.dropWhile_cons,ζo]
  by_cases a:x=47
  ·subst a;rfl
  ·have d:(ξn x==Nat.toUInt8 47)=false:=by
    rw[beq_eq_false_iff_ne];intro e;have:=congrArg ζM e;simp at this;omega
   have f:(x !=47)=true:=by simp[a]
   rw[d,f];simp only[ζu,if_false,if_true];unfold rs wd at b;rw[b];split
   ·rfl
   ·rename_i i;rw[if_neg (by simp)];simp
theorem Po (t:Γ):wd t++rs t=t:=ξE
theorem UI {l:Γ} {i j:Nat} (a:i<=j) (b:j<=l.length):(bs l).extract i j=bs ((l.take j).drop i):=by
 apply ζ7;rw[ByteArray.data_extract];unfold bs;apply ζT;rw[Array.toList_extract];simp[List.extract,ζr,ζ6,List.take_drop,show i+(j-i)=j by omega]
theorem ig {l:Γ} {i j:Nat} (b:i<=j) (c:j<=l.length) {lo hi:Option Int} (h1:lo.getD 0=(i:Int)) (a:hi.getD ((bs l).size:Int)=(j:Int)):eY (bs l) lo hi=some (bs ((l.take j).drop i)):=by
 unfold eY;rw[h1,a,if_pos ⟨by omega,by omega,by rw[eX];omega⟩,ι,ι,UI b c]
theorem RT {d t:Γ} {w:Int} {acc:List (Γ)} (o:((bs d).toList==(ξ0 #[47]).toList)=false) (h: ∀x∈t,x<256) (hl:t.length<=50) (s:acc.length<=50):
  (gm ab (bs d) w (true,bs (47::t),acc.map bs)).val=bif fl (wd t) then some (.inl (true,bs (rs t),(acc++[wd t]).map bs)) else some (.inr (.inl (false,bs (47::t),acc.map bs))):=by
 have a:=Po t;have hlen:(wd t).length+(rs t).length=t.length:=by rw[<-ν,a]
 have hw: ∀x∈wd t,x<256:=λx r=>h x (by rw[<-a];exact ξN _ r);have k:decide (((bs (47::t)).size:Int)>=1)=true:=decide_eq_true (by rw[eX];simp;omega);have c1:eY (bs (47::t)) none (some 1)=some (bs [47]):=ig (i:=0) (j:=1) (by omega) (by simp) rfl rfl;have c2:eY (bs (47::t)) (some 1) none=some (bs t):=by
  have:=ig (l:=47::t) (i:=1) (j:=t.length+1) (lo:=some 1) (hi:=none) (by omega) (by simp) rfl (by rw[eX];simp);rw[this];simp
 have m:((bs [47]).toList==(ξ0 #[47]).toList)=true:=by
  have:bs [47]=ξ0 #[47]:=rfl;rw[this];exact beq_self_eq_true _
 have g:app 16 (acc.map bs) [bs (wd t)]=some ((acc++[wd t]).map bs):=by
  rw[ja (n:=200) (by simp;omega) (by omega),ξC];rfl
 unfold gm;simp only[T.aE,T.aC,T.aN];rw[k,c1];simp only[cond_true,β];rw[m,c2];simp only[cond_true,β];rw[C9 t h,o]
 by_cases b:rs t=[]
 ·have q:wd t=t:=by rw[b,ζd] at a;exact a
  rw[if_pos b];have f:(γ.wrap (-1+1)==0)=true:=rfl;have c:eY (bs (47::t)) (some 1) (some ((bs (47::t)).size:Int))=some (bs (wd t)):=by
   have:=ig (l:=47::t) (i:=1) (j:=t.length+1) (lo:=some 1) (hi:=some ((bs (47::t)).size:Int)) (by omega) (by simp) rfl (by rw[eX];simp);rw[this,q];simp
  have e:eY (bs (47::t)) (some ((bs (47::t)).size:Int)) none=some (bs (rs t)):=by
   have:=ig (l:=47::t) (i:=t.length+1) (j:=t.length+1) (lo:=some ((bs (47::t)).size:Int)) (hi:=none) (by omega) (by simp) (by rw[eX];simp) (by rw[eX];simp);rw[this,b];simp
  rw[f];simp only[cond_true];rw[c];simp only[β,cond_false];rw[v175 hw (by omega),g,e];cases fl (wd t)<;>rfl
 ·rw[if_neg b];have u:0<(rs t).length:=List.length_pos_iff.2 b;have p:γ.wrap (((wd t).length:Int)+1)=(((wd t).length+1:Nat):Int):=by rw[du (by omega) (by omega)];omega
  rw[p];have f:((((wd t).length+1:Nat):Int)==0)=false:=by simp;omega
  have c:eY (bs (47::t)) (some 1) (some (((wd t).length+1:Nat):Int))=some (bs (wd t)):=by
   have:=ig (l:=47::t) (i:=1) (j:=(wd t).length+1) (lo:=some 1) (hi:=some (((wd t).length+1:Nat):Int)) (by omega) (by simp;omega) rfl rfl;rw[this];have:t.take (wd t).length=wd t:=by
    have:=List.take_left (l₁:=wd t) (l₂:=rs t)
    rwa [a] at this
   simp[this]
  have e:eY (bs (47::t)) (some (((wd t).length+1:Nat):Int)) none=some (bs (rs t)):=by
   have:=ig (l:=47::t) (i:=(wd t).length+1) (j:=t.length+1) (lo:=some (((wd t).length+1:Nat):Int)) (hi:=none) (by omega) (by simp) rfl (by rw[eX];simp);rw[this];have:t.drop (wd t).length=rs t:=by
    have:=List.drop_left (l₁:=wd t) (l₂:=rs t)
    rwa [a] at this
   simp[this]
  rw[f];simp only[cond_false];rw[c];simp only[β,cond_false];rw[v175 hw (by omega),g,e];cases fl (wd t)<;>rfl
theorem O9 {d:Γ} {w:Int} (i:((bs d).toList==(ξ0 #[47]).toList)=false): ∀(k f:Nat) (r:Γ) (acc:List (Γ)),r.length<=k->(∀x∈r,x<256)->r.length+acc.length<=50->acc.all fl=true->(r=[]\/ ∃t,r=47::t)->
  ((r.foldl fx []).all fl=true/\ ∃b s0,b4 (λa=>(gm ab (bs d) w a).val) (k+1+f) (true,bs r,acc.map bs)=some (.inr (b,s0,true,(acc++r.foldl fx []).map bs)))\/
  ((r.foldl fx []).all fl=false/\ ∃s0 ps,ps.all fl=true/\(∃q,acc++r.foldl fx []=ps++q)/\b4 (λa=>(gm ab (bs d) w a).val) (k+1+f) (true,bs r,acc.map bs)=some (.inl (false,s0,ps.map bs)))
 |k,f,[],acc,_,_,_,_,_=>by
  left;refine⟨rfl,false,bs [],?_⟩;rw[show k+1+f=(k+f)+1 by omega,eI];have:(gm ab (bs d) w (true,bs [],acc.map bs)).val=some (.inr (.inr (false,bs [],true,acc.map bs))):=by
   unfold gm;rfl
  rw[this];simp
 |0,f,x::r,acc,hk,_,_,_,_=>by simp at hk
 |k+1,f,x::t,acc,hk,h,hl,g,p=>by
  rcases p with n|⟨t',e⟩
  ·cases n
  cases e;have j: ∀x∈t,x<256:=λx c=>h x (ξ4 _ c);simp only[ξc] at hk hl;have hlen:(rs t).length<=t.length:=(ξj _).length_le;rw[show k+1+1+f=(k+1+f)+1 by omega,eI,RT i j (by omega) (by omega),tC,ζi,tB (rs t).length (rs t) _ (ξa _) (nZ t)];rw[ζN];cases hp:fl (wd t) with
  |false=>
   right;refine⟨by simp[hp],bs (47::t),acc,g,⟨_,rfl⟩,rfl⟩
  |true=>
   simp only[cond_true,β];have o:(acc++[wd t]).all fl=true:=by rw[ζN,g];simp[hp]
   have s: ∀x∈rs t,x<256:=λx c=>j x ((ξj (λx=>x !=47)).subset c);have l:acc++([wd t]++(rs t).foldl fx [])=(acc++[wd t])++(rs t).foldl fx []:=by simp
   have m:[wd t].all fl=true:=by simp[hp]
   rw[l,m,φ];exact O9 i k f (rs t) (acc++[wd t]) (by omega) s (by simp;omega) o (nZ t)
def jt (ps:List (Γ)):Γ:=(ps.map λp=>47::p).flatten
def tx (ps:List (Γ)):Γ:=match ps with|[]=>[47]|_=>jt ps
theorem YZ (p:Γ) (ps:List (Γ)):gT ((p::ps).map bs) (ξ0 #[47])=bs (p++jt ps):=by
 unfold gT;apply ζ7;apply ζT;show Lib.join (((p::ps).map bs).map (·.data.toList)) [47]=_;rw[ξz,ξz,Lib.join_cons];unfold Lib.joinTail jt bs;simp only[ξC,ηj]
 congr 1
 rw[List.map_flatten,ηj]
 congr 1
theorem acW: ∀(ps:List (Γ)),(tx ps).length<=500->lR (ξ0 #[47]) (gT (ps.map bs) (ξ0 #[47]))=some (bs (tx ps))/\(gT (ps.map bs) (ξ0 #[47])).size<=500
 |[],_=>by
  have e:gT [] (ξ0 #[47])=bs []:=rfl;rw[ξV,e];exact⟨Om (l:=[47]) (m:=[]) (by simp),by rw[eX];simp⟩
 |p::ps,h=>by
  rw[YZ];have h:(47::p++jt ps).length<=500:=by simpa[tx,jt] using h
  refine⟨?_,by rw[eX];simp at h ⊢;omega⟩;have:=Om (l:=[47]) (m:=p++jt ps) (by simp at h ⊢;omega);have e:bs [47]=ξ0 #[47]:=rfl;rw[e] at this;rw[this];rfl
theorem wF {ps:List (Γ)} (d:ps.all fl=true) (h: ∀p∈ps,(∀x∈p,x<256)/\p.length<=100) (hl:(tx ps).length<=500) (hn:ps.length<=100):jq ab (ps.map bs)=some ((ia (bs (tx ps))).1,(ia (bs (tx ps))).2==0&&decide (ps.length<=4)):=by
 show(Ao ab (ps.map bs)).val=_;unfold Ao;obtain⟨h1,f⟩:=acW ps hl;simp only[T.aE,T.aN,T.aC,T.bM,T.cM];rw[h1,decide_eq_true (by simp;omega:(ps.map bs).length<=140737488355328),decide_eq_true (by omega:(gT (ps.map bs) (ξ0 #[47])).size<=140737488355328)];simp only[Bool.and_self,cond_true,β,v79];have b:decide (((ps.map bs).length:Int)<=4)=decide (ps.length<=4):=by rw[κ];simp;omega
 have c:zq ab (ps.map bs)=some (.inr (false,((ps.map bs).length:Int))):=by
  show bS (λi z a=>(sw ab (ps.map bs) i z a).val) (λi a=>(rm ab (ps.map bs) i a).val) 0 (ps.map bs) ()=_;rw[nY (g:=λa _=>a)]
  ·unfold rm;simp
  ·intro i z a e;obtain⟨p,hp,rfl⟩:=ζC.1 e;unfold sw;have:=ξv.1 d p hp;simp only[T.aE,T.aN,T.aC,v175 (h p hp).1 (h p hp).2,this,β];rfl
 rw[b,c];cases (ia (bs (tx ps))).2==0<;>cases decide (ps.length<=4)<;>rfl
def e' (d:Γ):List (Γ):=d.foldl fx []
theorem Mr (t:Γ):e' (47::t)=wd t::e' (rs t):=by
 unfold e';rw[tC,ζi,tB (rs t).length (rs t) _ (ξa _) (nZ t)];rfl
theorem uN: ∀(k:Nat) (r:Γ),r.length<=k->(r=[]\/ ∃t,r=47::t)->jt (e' r)=r
 |_,[],_,_=>rfl
 |0,x::r,hk,_=>by simp at hk
 |k+1,x::t,hk,c=>by
  rcases c with b|⟨t',e⟩
  ·cases b
  cases e;have hlen:(rs t).length<=t.length:=(ξj _).length_le;simp only[ξc] at hk;have a:=uN k (rs t) (by omega) (nZ t);rw[Mr];unfold jt at a ⊢;rw[ξz,List.flatten_cons,a];show 47::(wd t++rs t)=_;rw[Po]
theorem OA {d:Γ} (h: ∀x∈d,x<256):((bs d).toList==(ξ0 #[47]).toList)=decide (d=[47]):=by
 have a: ∀x:ByteArray,x.toList=x.data.toList:=λx=>ζn x;rw[a,a,κ];simp only[beq_iff_eq,decide_eq_true_eq];constructor
 ·intro e;have e:d.map ξn=[47]:=by simpa[bs] using e
  obtain⟨x,rfl⟩:=List.length_eq_one_iff.1 (by simpa using congrArg ζ5 e);have b:=h x (by simp);simp at e;have:=congrArg ζM e;simp at this;rw[show x=47 by omega]
 ·rintro rfl;rfl
def na (d:Γ):Bool:=decide (d=[47])||(match d with|47::_=>(e' d).all fl&&decide ((e' d).length<=4)|_=>false)
def ct (w:Int):Bool:=(g_ 8 w.toNat==0)&&na (dg 8 w.toNat)
def Ei (d:Γ):List (Γ):=if d=[47] then[] else e' d
def cU (w:Int):List (Γ):=Ei (dg 8 w.toNat)
theorem Zn {ps:List (Γ)} {p:Γ} {x:Nat} (hp:p∈ps) (a:x∈p):x∈jt ps:=by
 unfold jt;rw[List.mem_flatten];exact⟨47::p,ζC.2 ⟨p,hp,rfl⟩,ξ4 _ a⟩
theorem JX: ∀ {ps:List (Γ)} {p:Γ},p∈ps->p.length+1<=(jt ps).length
 |q::ps,p,h=>by
  have e:(jt (q::ps)).length=q.length+1+(jt ps).length:=by simp[jt];omega
  rcases ξB.1 h with rfl|h
  ·omega
  ·have:=JX h;omega
theorem Dp: ∀(ps:List (Γ)),ps.length<=(jt ps).length
 |[]=>by simp
 |q::ps=>by
  have e:(jt (q::ps)).length=q.length+1+(jt ps).length:=by simp[jt];omega
  have:=Dp ps;simp only[ξc];omega
theorem JW (ps q:List (Γ)):jt (ps++q)=jt ps++jt q:=by simp[jt]
theorem LC {d:Γ} (b: ∀x∈d,x<256) (hl:d.length<=8) (c: ∃t,d=47::t) {p:Γ} (hp:p∈e' d):(∀x∈p,x<256)/\p.length<=100:=by
 have a:=uN d.length d (ξa _) (.inr c);refine⟨λx e=>b x (by rw[<-a];exact Zn hp e),?_⟩;have:=JX hp;rw[a] at this;omega
theorem adv:ia (bs (tx []))=(47,0):=Bc (l:=[47]) (by simp) (by simp)
theorem O7:jq ab []=some (47,true):=by
 have:=wF (ps:=[]) rfl (by simp) (by simp[tx]) (by simp);rw[ξV] at this;rw[this,adv];rfl
theorem wz {α:Type} {w:Int} {ps:List ByteArray} {b:Bool} {s0:α} {r:Int×Bool} (c:jq ab ps=some r):(T.bd (jq ab ps) λa=>.bf (!b) (.ok (iV.mk [] 0,false))<|.bf (!a.2) (.ok (iV.mk [] 0,false))<|.bf (a.1 !=w) (.ok (iV.mk [] 0,false))<|.ok (iV.mk ps w,true):T (iV×Bool)).val=some (bif b&&(r.2&&r.1==w) then⟨ps,w⟩ else⟨[],0⟩,b&&(r.2&&r.1==w)):=by
 rw[T.aN,c,β];simp only[T.aE,T.aC];have e:(r.1 !=w)=!(r.1==w):=rfl;rw[e];cases b<;>cases r.2<;>cases r.1==w<;>rfl
theorem v131 {n:Nat} (h:n<18446744073709551616):la ab (n:Int)=some (bif ct (n:Int) then⟨(cU (n:Int)).map bs,(n:Int)⟩ else⟨[],0⟩,ct (n:Int)):=by
 show(z6 ab (n:Int)).val=_;unfold z6 ct cU;simp only[T.aN,T.aE,T.aC,T.bM,O4 h,β,ι]
 by_cases f:g_ 8 n=0
 rotate_left
 ·rw[if_neg f];have e:(g_ 8 n==0)=false:=by simp[f]
  rw[e];rfl
 rw[if_pos f,f];simp only[show((0:Int) !=0)=false from rfl,cond_false,BO,beq_self_eq_true,φ];have g:=BL n;have hl:=pv 8 n;have r:=Eg 8 n;rw[f,ηi,ξy] at r;have K:=sY 8 n;generalize dg 8 n=d at*
 cases d with
 |nil=>rfl
 |cons x t=>
  simp only[List.isEmpty_cons,cond_false]
  by_cases s:x=47
  ·subst s;cases t with
   |nil=>
    have hn:(n:Int)=47:=by simp[pk] at r;omega
    have c:mc ab (bs [47]) (n:Int) true (bs [47]) []=some (.inl (true,bs [47],[])):=by
     show b4 (λa=>(gm ab (bs [47]) (n:Int) a).val) 1000000 (true,bs [47],[])=_;rw[show(1000000:Nat)=999999+1 from rfl,eI];have:(gm ab (bs [47]) (n:Int) (true,bs [47],[])).val=some (.inr (.inl (true,bs [47],[]))):=by
      have u:decide (((bs [47]).size:Int)>=1)=true:=decide_eq_true (by rw[eX];simp);have c1:eY (bs [47]) none (some 1)=some (bs [47]):=ig (l:=[47]) (i:=0) (j:=1) (by omega) (by simp) rfl rfl;have c2:eY (bs [47]) (some 1) none=some (bs []):=ig (l:=[47]) (i:=1) (j:=1) (by omega) (by simp) rfl (by rw[eX];simp);have H:eY (bs [47]) (some 1) (some ((bs [47]).size:Int))=some (bs []):=ig (l:=[47]) (i:=1) (j:=1) (by omega) (by simp) rfl (by rw[eX];simp);have v:((bs [47]).toList==(ξ0 #[47]).toList)=true:=by
       have:bs [47]=ξ0 #[47]:=rfl;rw[this];exact beq_self_eq_true _
      unfold gm;simp only[T.aE,T.aN,T.aC];rw[u,c1];simp only[cond_true,β];rw[v,c2];simp only[cond_true,β];rw[C9 [] (by simp),if_pos (show rs []=[] from rfl),show(γ.wrap (-1+1)==0)=true from rfl];simp only[cond_true];rw[H];simp only[β]
     rw[this];rfl
    rw[c];simp only[β,T.cM];refine(wz (s0:=()) (b:=true) (w:=(n:Int)) O7).trans ?_;rw[hn];rfl
   |cons y t=>
    have D:decide (47::y::t=[47])=false:=decide_eq_false (by simp);have F:=OA g;rw[D] at F;have k:=uN _ (47::y::t) (ξa _) (.inr ⟨_,rfl⟩);have B:na (47::y::t)=((e' (47::y::t)).all fl&&decide ((e' (47::y::t)).length<=4)):=by
     unfold na;rw[D];rfl
    rw[B];have C:=O9 (w:=(n:Int)) F (47::y::t).length (999999-(47::y::t).length) (47::y::t) [] (ξa _) g (by simp at hl ⊢;omega) rfl (.inr ⟨_,rfl⟩);rw[show(47::y::t).length+1+(999999-(47::y::t).length)=1000000 by omega] at C;have E: ∀p∈e' (47::y::t),(∀x∈p,x<256)/\p.length<=100:=λp hp=>LC g hl ⟨_,rfl⟩ hp;have J:=Dp (e' (47::y::t));rw[k] at J;rcases C with⟨h1,b,s0,A⟩|⟨h1,s0,ps,I,⟨q,o⟩,A⟩
    ·have c:mc ab (bs (47::y::t)) (n:Int) true (bs (47::y::t)) []=some (.inr (b,s0,true,(e' (47::y::t)).map bs)):=A;have h1:(e' (47::y::t)).all fl=true:=h1;rw[c,h1];simp only[β,T.cM];have G:tx (e' (47::y::t))=47::y::t:=by
      rw[Mr] at k ⊢;exact k
     have m:=wF h1 E (by rw[G];omega) (by omega);rw[G,Bc K hl,r] at m;refine(wz (s0:=()) (b:=true) (w:=(n:Int)) m).trans ?_;rw[show Ei (47::y::t)=e' (47::y::t) from if_neg (by simp)];simp
    ·have c:mc ab (bs (47::y::t)) (n:Int) true (bs (47::y::t)) []=some (.inl (false,s0,ps.map bs)):=A;have h1:(e' (47::y::t)).all fl=false:=h1;have o:e' (47::y::t)=ps++q:=by simpa[e'] using o
     rw[c,h1];simp only[β,T.cM];have M:(jt ps).length<=8:=by
      rw[o,JW] at k;have:=congrArg ζ5 k;rw[ν] at this;omega
     have m:=wF I (λp hp=>E p (by rw[o];exact ξN _ hp)) (by
      cases ps with
      |nil=>simp[tx]
      |cons a b=>show(jt (a::b)).length<=500;omega) (by have:=Dp ps;omega)
     exact wz (s0:=()) (b:=false) (w:=(n:Int)) m
  ·have B:na (x::t)=false:=by
    unfold na;rw[decide_eq_false (by simp;intro e;exact absurd e s),ξp];split
    ·rename_i h;cases h;exact absurd rfl s
    ·rfl
   have c:mc ab (bs (x::t)) (n:Int) true (bs (x::t)) []=some (.inr (false,bs (x::t),true,[])):=by
    show b4 (λa=>(gm ab (bs (x::t)) (n:Int) a).val) 1000000 (true,bs (x::t),[])=_;rw[show(1000000:Nat)=999999+1 from rfl,eI];have:(gm ab (bs (x::t)) (n:Int) (true,bs (x::t),[])).val=some (.inr (.inr (false,bs (x::t),true,[]))):=by
     have u:decide (((bs (x::t)).size:Int)>=1)=true:=decide_eq_true (by rw[eX];simp;omega);have c1:eY (bs (x::t)) none (some 1)=some (bs [x]):=ig (i:=0) (j:=1) (by omega) (by simp) rfl rfl;have v:((bs [x]).toList==(ξ0 #[47]).toList)=false:=by
      rw[OA (λz L=>by have:z=x:=by simpa using L
                      subst this;exact g z τ)]
      exact decide_eq_false (by simp;exact s)
     unfold gm;simp only[T.aE,T.aN,T.aC];rw[u,c1];simp only[cond_true,β];rw[v];rfl
    rw[this];rfl
   rw[c,B];simp only[β,T.cM];refine(wz (s0:=()) (b:=true) (w:=(n:Int)) O7).trans ?_;have hn:((47:Int)==(n:Int))=false:=by
    have N:=g x τ;simp[pk] at r;simp;omega
   rw[hn];rfl
theorem v96 {n:Nat} (h:n<18446744073709551616):pB ab (n:Int)=some (bif ct (n:Int) then 0 else 310):=by
 show(zX ab (n:Int)).val=_;unfold zX;simp only[T.aN,T.aE,T.aC,v131 h,β];cases ct (n:Int)<;>rfl
theorem Mq {w:Int} (h:c9 w):zM w (ct w):=by
 obtain⟨n,rfl⟩:=ζ8 h.1;have hn:n<18446744073709551616:=by have:=h.2;omega
 exact v96 hn
abbrev fH (α:Type):=Except Int α
def bW {α:Type} (lt:α->Bool) (x:α) (l:List α):List α:=l.takeWhile lt++x::l.dropWhile lt
def hT (p:bF):Option Nat:=(ξi 16).find? λi=>!(p.ae.any λx=>ix x.aa==(i:Int)+1)&&decide (ay p.aS i<=65535)
def dz (p:bF) (i:Nat):Int:=ay p.aS i*64+i+1
def iN (p:bF) (parent:Int):fH (bF×Int):=
 bif b1 p.ae parent then match hT p with
  |some i=>.ok (⟨p.aS.set i (ay p.aS i+1),bW (λy=>decide (ix y.aa<=i+1)) ⟨dz p i,parent,false,0⟩ p.ae⟩,dz p i)
  |none=>.error 322
 else .error 321
def fY (pid code:Int) (y:ai):Option ai:=bif y.aa==pid then bif y.aW==0 then none else some ⟨y.aa,y.aW,true,code⟩ else bif y.aW==pid then bif y.bl then none else some ⟨y.aa,0,y.bl,y.b_⟩ else some y
def ij (p:bF) (pid code:Int):fH bF:=bif b1 p.ae pid then bif pid==1 then .error 323 else .ok ⟨p.aS,p.ae.filterMap (fY pid code)⟩ else .error 321
def iS (p:bF) (pid child:Int):fH (bF×Int):=
 bif b1 p.ae pid then match ft p.ae child with
  |some x=>bif x.aW==pid then bif x.bl then .ok (⟨p.aS,p.ae.filter λy=>!(y.aa==child)⟩,x.b_) else .error 322 else .error 324
  |none=>.error 324
 else .error 321
def c7 (l:List ak) (pid fd:Int):Option Int:=(l.find? λd=>d.aa==pid&&d.bA==fd).map ak.cf
def ht (l:List ak) (pid:Int):Option Nat:=(ξi 8).find? λ(i:Nat)=>(c7 l pid i).isNone
def hC (l:List ak) (pid bu:Int):fH (List ak×Int):=
 match ht l pid with
 |some i=>bif l.length==64 then .error 6 else .ok (bW (λy=>dF y ⟨pid,i,bu⟩) ⟨pid,i,bu⟩ l,i)
 |none=>.error 6
def hr (l:List ak) (pid fd:Int):fH (List ak×Int):=
 match c7 l pid fd with
 |some bu=>hC l pid bu
 |none=>.error 4
def gP (l:List ak) (pid fd:Int):fH (List ak):=
 match c7 l pid fd with
 |some _=>.ok (l.filter λd=>!(d.aa==pid&&d.bA==fd))
 |none=>.error 4
def pw (l:List ak) (pid:Int):List ak:=l.filter λd=>!(d.aa==pid)
def k7 (l:List ak) (bu:Int):Nat:=(l.filter λd=>d.cf==bu).length
def da (m:bT) (w:Int):Option Int:=(m.ae.find? λx=>x.ba==w).map aA.aX
def qX (ps:List (Γ)):Int:=(ia (bs (tx ps))).1
def mz (a b:Int):Bool:=ct a&&(ct b&&(cU a).isPrefixOf (cU b))
def h9 (m:bT) (w:Int):fH (bT×Int):=
 bif ct w then match da m w with
  |some _=>.error 5
  |none=>bif m.ae.length==16||decide (m.bp>1073741824) then .error 6 else .ok (⟨m.ae++[⟨w,m.bp⟩],m.bp+1⟩,m.bp)
 else .error 310
def iG (m:bT) (w:Int):fH Int:=
 bif ct w then match da m w with
  |some i=>.ok i
  |none=>.error 4
 else .error 310
def j3 (m:bT) (w:Int):Bool:=m.ae.any λx=>!(x.ba==w)&&mz w x.ba
def iQ (m:bT) (w:Int):fH bT:=
 bif ct w then match da m w with
  |some _=>bif j3 m w then .error 341 else .ok ⟨m.ae.filter λx=>!(x.ba==w),m.bp⟩
  |none=>.error 4
 else .error 310
def lZ (w:Int):Γa:=(ξi ((cU w).length+1)).reverse.map λk=>qX ((cU w).take k)
def wE (m:bT) (w:Int):Option Int:=(lZ w).findSome? (da m)
def fP (m:bT) (w:Int):fH Int:=
 bif ct w then match wE m w with
  |some i=>.ok i
  |none=>.error 4
 else .error 310
def fq (l:List aD) (n:Int):Option Int:=(l.find? λz=>z.a1==n).map aD.aa
def iK (s:aL) (n pid:Int):fH aL:=
 bif eD n then bif dZ pid then match fq s.au n with
  |some _=>.error 5
  |none=>bif s.au.length==16 then .error 6 else .ok ⟨bW (λy=>decide (y.a1<n)) ⟨n,pid⟩ s.au,s.ao⟩
 else .error 2 else .error 351
def gz (s:aL) (n:Int):fH Int:=
 bif eD n then match fq s.au n with
  |some p=>.ok p
  |none=>.error 4
 else .error 351
def qS (s:aL) (n:Int):aL:=⟨s.au.filter λy=>!(y.a1==n),s.ao⟩
def ke (s:aL) (pid:Int):Γa:=(s.au.filter λy=>y.aa==pid).map aD.a1
def di (s:aL) (pid:Int):Γa:=match s.ao.find? λb=>b.aa==pid with|some b=>b.a6|none=>[]
def fF (s:aL) (pid:Int) (ws:Γa):aL:=
 ⟨s.au,(s.ao.filter λb=>decide (b.aa<pid))++((if ws=[] then[] else[⟨pid,ws⟩])++s.ao.filter λb=>decide (pid<b.aa))⟩
def kG (s:aL) (pid w:Int):fH aL:=bif (di s pid).length==4 then .error 322 else .ok (fF s pid (di s pid++[w]))
def kC (s:aL) (pid:Int):fH (aL×Int):=
 match di s pid with
 |w::r=>.ok (fF s pid r,w)
 |[]=>.error 322
def lH (c:cN):Bool:=c.bm==9||c.bm==12
def nh (s:bb) (k p a b:Int):fH (bb×Int):=
 if k=1 then match iN s.az p with| .ok (q,v)=>.ok (⟨q,s.aV,s.aI,s.aB⟩,v)| .error e=>.error e
 else if k=2 then match ij s.az p a with
  | .ok q=>if ke s.aB p=[] then .ok (⟨q,pw s.aV p,s.aI,fF s.aB p []⟩,0) else .error 341
  | .error e=>.error e
 else if k=3 then match iS s.az p a with| .ok (q,v)=>.ok (⟨q,s.aV,s.aI,s.aB⟩,v)| .error e=>.error e
 else if k=4 then match fP s.aI a with
  | .ok i=>match hC s.aV p i with| .ok (l,v)=>.ok (⟨s.az,l,s.aI,s.aB⟩,v)| .error e=>.error e
  | .error e=>.error e
 else if k=5 then match gP s.aV p a with| .ok l=>.ok (⟨s.az,l,s.aI,s.aB⟩,0)| .error e=>.error e
 else if k=6 then match hr s.aV p a with| .ok (l,v)=>.ok (⟨s.az,l,s.aI,s.aB⟩,v)| .error e=>.error e
 else if k=7 then match h9 s.aI a with| .ok (m,v)=>.ok (⟨s.az,s.aV,m,s.aB⟩,v)| .error e=>.error e
 else if k=8 then match iG s.aI a with
  | .ok i=>if k7 s.aV i=0 then match iQ s.aI a with| .ok m=>.ok (⟨s.az,s.aV,m,s.aB⟩,0)| .error e=>.error e else .error 341
  | .error e=>.error e
 else if k=9 then match fP s.aI a with| .ok i=>.ok (s,i)| .error e=>.error e
 else if k=10 then match iK s.aB a p with| .ok i=>.ok (⟨s.az,s.aV,s.aI,i⟩,0)| .error e=>.error e
 else if k=11 then match gz s.aB a with
  | .ok q=>if q=p then .ok (⟨s.az,s.aV,s.aI,qS s.aB a⟩,0) else .error 362
  | .error e=>.error e
 else if k=12 then match gz s.aB a with| .ok q=>.ok (s,q)| .error e=>.error e
 else if k=13 then bif b1 s.az.ae a then match kG s.aB a b with| .ok i=>.ok (⟨s.az,s.aV,s.aI,i⟩,0)| .error e=>.error e else .error 4
 else match kC s.aB p with| .ok (i,v)=>.ok (⟨s.az,s.aV,s.aI,i⟩,v)| .error e=>.error e
def k2 (s:bb) (c:cN):fH (bb×Int):=
 if 1<=c.bm/\c.bm<=14 then bif lH c||b1 s.az.ae (ay c.fArgs 0) then nh s c.bm (ay c.fArgs 0) (ay c.fArgs 1) (ay c.fArgs 2) else .error 321
 else .error 361
def hq (s:bb) (c:cN):bb×cX:=
 match k2 s c with
 | .ok (n,v)=>(n,⟨0,v⟩)
 | .error e=>(s,⟨e,0⟩)
end Go.Proofs.YtoggponeookhbaaGreatDoor
end
