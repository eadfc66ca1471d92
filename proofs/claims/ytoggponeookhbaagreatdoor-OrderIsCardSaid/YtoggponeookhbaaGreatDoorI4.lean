/- A part of the proof that OrderIs returns true for every input: the machine of values, its soundness, the program as plain functions, the law. Conditions: those of the given rows. -/
import Derived.Test.YtoggponeookhbaaGreatDoorI3
import Derived.Laws.Bits64b
import Derived.Laws.Strings
set_option linter.unusedVariables false
set_option linter.unusedSimpArgs false
noncomputable section
set_option maxRecDepth 1000000
set_option maxHeartbeats 12000000
open Array renaming getD_eq_getD_getElem?→θ,length_toList→χ,getElem?_setIfInBounds_ne→ξ7,getElem?_eq_getElem→ξ8,all_eq_true_iff_forall_mem→ξf,toArray_toList→ξO,getElem?_modify→ζf,replicate→ζH,ext'→ζT
open Bool renaming eq_iff_iff→κ,true_and→φ,and_eq_true→ξ5,false_or→ξp,not_true→ξP,not_false→ξY,or_false→ζp,false_eq_true→ζu,not_eq_true'→ζv,and_assoc→ζR,false_and→ζS,and_true→ζU,true_or→ζZ,or_true→η0
open ByteArray renaming mk→ξ0,ext→ζ7
open Go.Builtin renaming zeroCells→ξ2,append_→ζK,clear_→ζO
open Go.ByteArray renaming toList_eq→ζn
open Go.IntKind renaming i64→γ,u64→ο,wrap_u64→ζE,signed→ζQ,wrap→ηg,bits→ηh
open Go.Lib renaming indexByte→ζX
open Go.Proofs.Tryz renaming prog→η,func219→ζb,f269→ζc,func269→ζz,f219→ζG,f150→ζY,func202→η3,func203→η4,func294→η5,func261→η6,func262→η7,func263→η8,func152→ηc,func171→ηd,func170→ηe,func223→ηf
open Go.Region renaming ready→ζA
open Go.Result renaming andThen_ok→ξr
open Go.Sem renaming run_bind→ξx,run_pure→ζe
open Go.Utf8 renaming decode→ξ6,decode→ζ0
open Go.Value renaming oneCell'→υ,int→ζJ,agg→ηb,slice→ηm
open Go.World renaming setRow→ηa
open Int renaming toNat_natCast→ι,eq_ofNat_of_zero_le→ζ8,natCast_nonneg→ζq
open List renaming getElem?_eq_some_iff→δ,getElem?_eq_getElem→ε,length_append→ν,getElem?_append_left→ξ,length_map→ρ,mem_cons_self→τ,mem_of_getElem?→ξ3,mem_cons_of_mem→ξ4,getElem?_cons_zero→ξ9,getElem?_append_right→ξb,length_cons→ξc,take_append_drop→ξd,take_append_of_le_length→ξg,length_take→ξh,range→ξi,dropWhile_sublist→ξj,getElem?_zipWith→ξl,mem_append_right→ξm,any_eq_false→ξo,append_assoc→ξs,drop_eq_getElem_cons→ξt,mem_or_eq_of_mem_set→ξu,all_eq_true→ξv,map_cons→ξz,mem_append→ξA,mem_cons→ξB,map_append→ξC,take_of_length_le→ξD,takeWhile_append_dropWhile→ξE,zipWith→ξG,getElem?_eq_none→ξH,drop_append_of_le_length→ξJ,filter_cons→ξK,length_drop→ξL,eq_nil_of_length_eq_zero→ξM,mem_append_left→ξN,mem_filter→ξQ,toList_toArray→ξR,take_left'→ξS,length_set→ξT,foldl_cons→ξU,map_nil→ξV,getElem?_drop→ξW,mem_of_find?_eq_some→ξZ,nodup_append→ζ1,size_toArray→ζ2,range'→ζ4,length→ζ5,map_take→ζ6,map_toArray→ζ9,append_nil→ζd,nil_append→ζi,getElem?_of_mem→ζl,drop_zero→ζm,takeWhile_cons→ζo,map_drop→ζr,find?_eq_none→ζs,all_cons→ζt,take_add_one→ζw,ext_getElem?→ζx,getElem?_map→ζy,mem_map→ζC,any_eq_true→ζF,find?_some→ζL,all_append→ζN,drop_drop→ζP,any_cons→ζW,map_set→η9,map_map→ηj
open Nat renaming lt_of_lt_of_le→ζ,le_trans→μ,zero_add→ψ,le_refl→ξa,ble_eq_true_of_le→ξe,eq_of_beq_eq_true→ξk,add_zero→ξy,le_of_ble_eq_true→ξF,beq→ξI,add_sub_cancel→ξX,lt_succ_iff_lt_or_eq→ζ3,lt_succ_self→ζa,pow_succ→ζh,pow_le_pow_right→ζj,mul_le_mul_right→ζk,lt_or_ge→ζB,mul_comm→ζD,mul_assoc→ζV,beq_refl→η1,sub_self→η2,mul_zero→ηi,ble→ηk,blt→ηl
open Option renaming bind_some→β,map_some→ω,getD_some→ξ1,getD_none→ξw,map_none→ζg
open Option.some renaming injEq→ξq,inj→ζI
open UInt8 renaming ofNat→ξn,toNat→ζM
section
namespace Go.Proofs.YtoggponeookhbaaGreatDoor
open Go.RowKit Go.Dc Go.Vx
variable (sh:Sh)
def ur (a:List aw) (b:List aq) (c d e:Int) (f:Γa):AS SS:=⟨[(0,(vs .cT)),(2,(va 3 0)),(7,(vd 55 a)),(8,(vi d)),(9,(vi e))],[(bX 130 [(.own 4)]),(some (.aD 260 [] [(.one (.an 2 0)),(.one (.an 3 0))])),(bX 58 [(.ao 55 a),(.ao 56 b)]),(bX 35 [(lu c)]),(rX 35 f)],4,(some ⟨⟨ζY,ar 150⟩,[13],(dT (bY ζY) 7),(dU (bY ζY) 7),[(5,(va 0 0)),(12,(vc 1))],none⟩),false,[],[0]⟩
def Xk (a:List aw) (e:List aq) (b c:Int) (a0:Bool) (d:Int) (a2:Γa):AS SS:= {ur a e b c b a2 with env:=[(10,(vb a0)),(0,(vs .cT)),(2,(va 3 0)),(7,(vd 55 a)),(8,(vi c)),(9,(vi d))]}
def o2 (sh:Sh) (c:List aw) (f:List aq) (d b:Int) (a:Int×Γa):T ((Int×Γa)⊕(Bool×Int×Γa)):=.bf (decide (a.1<b)) (.bd (idx c a.1) λz0=>.bf (z0.aa==d) (.bd (app 8 a.2 [z0.bb]) λe=>.ok (.inl ((γ.wrap (a.1+1)),e)))<|.ok (.inl ((γ.wrap (a.1+1)),a.2)))<|.ok (.inr ((decide (a.1<b)),a.1,a.2))
def zN (a:List aw) (b:List aq) (c d e:Int) (f:Γa):=bM sh (o2 sh a b c d) 1000000 (e,f)
def T' {R} (k:KX SS R) (a:List aw) (b:List aq) (c d:Int) (x:(Bool×Int×Γa)):Option R:=(λv=>k (.exit 0) (Xk a b c d v.1 v.2.1 v.2.2)) x
def LC:bh SS:=gm (λst=>gc (ar 260 2) (d' [0] (fR 0 0 35 (st))))<|bt 2 (λst=>((b9 st 1 260).bind λ_=>fQ st 19 7).bind λ_=>(ba 55 (aK st 7 0)).bind λa=>(ba 56 (aN st 2 1)).bind λb=>(aU (aN st 3 0)).bind λc=>(aU (aK st 8 0)).bind λd=>(aU (aK st 9 0)).bind λe=>(cd st 4 35).bind λf=>some (a,b,c,d,e,f)) (u6 ur) (u6 (zN shut)) (λk p=>T' k p.1 p.2.1 p.2.2.1 p.2.2.2.1)
theorem acv:LS KK η ar Tryz.f260 260 2 LC:=aX.pre (bT.comp (bT.gc (ar 260 2)) (bT.comp (bT.d' [0]) (bT.fR 0 0 35)))<|
 aX.bM (π:=List aw×List aq×Int×Int×Int×Γa) (σ:=Int×Γa) (ak.all yc rfl) (aJ.nil) rfl 60 (λp a=>ur p.1 p.2.1 p.2.2.1 p.2.2.2.1 a.1 a.2) (λp=>(p.2.2.2.2.1,p.2.2.2.2.2)) (St:=λp=>o2 shut p.1 p.2.1 p.2.2.1 p.2.2.2.1) (λp=>1000000) (λp=>rfl)
  (λm p a k=>by kernel_rfl)
def Q3:=bO (yb shut) ar Tryz.f260 260 [LC]
theorem Q4:a_ Q3 η:=bQ (ak.all yc rfl) Tryz.func260 rfl a8 (by kernel_rfl) acv
def AI (s:aO) (pid:Int):T (Γa):=.bd (jA sh s) λa=>.bf (a !=0) (.ok [])<|.gd (ur s.ax s.au pid ((↑s.ax.length:Int)) 0 [])<|.bd (zN sh s.ax s.au pid ((↑s.ax.length:Int)) 0 []) λb=>.ok b.2.2
def tv (s:aO) (pid:Int):=sh.s _ (AI sh s pid).val
def xY:=bP (db KK 150 58 35 (tv sh) (cH KK 130)) (yb sh)
theorem xZ:ak (xY shut) η:=dp (rs:=[130]) yc Q4 rfl rfl λs pid k=>by kernel_rfl
def uj (a:List aq) (b:List aw) (c d:Int) (e:List aq):AS SS:=⟨[(5,(va 0 0)),(20,(vd 56 a)),(21,(vi c)),(22,(vi d))],[(bX 262 [(.own 1),(.own 2)]),(rX 127 b),(rX 132 e)],0,none,false,[],[]⟩
def W_ (b:List aq) (d:List aw) (a:Int) (a0:Bool) (c:Int) (a2:List aq):AS SS:= {uj b d a a a2 with env:=[(23,(vb a0)),(5,(va 0 0)),(20,(vd 56 b)),(21,(vi a)),(22,(vi c))]}
def Iq (sh:Sh) (c:List aq) (e:List aw) (b:Int) (a:Int×List aq):T ((Int×List aq)⊕(Bool×Int×List aq)):=.bf (decide (a.1<b)) (.bd (idx c a.1) λz0=>.bd (app 8 [] z0.bc) λd=>.bd (app 32 a.2 [aq.mk z0.aa d]) λz2=>.ok (.inl ((γ.wrap (a.1+1)),z2)))<|.ok (.inr ((decide (a.1<b)),a.1,a.2))
def zJ (a:List aq) (b:List aw) (c d:Int) (e:List aq):=bM sh (Iq sh a b c) 1000000 (d,e)
def T4 {R} (k:KX SS R) (a:List aq) (b:List aw) (c:Int) (x:(Bool×Int×List aq)):Option R:=(λv=>k (.exit 0) (W_ a b c v.1 v.2.1 v.2.2)) x
def Lx:bh SS:=gm (λst=>gc (ar 219 7) (fR 0 1 132 (st)))<|bt 7 (λst=>(ba 56 (aK st 20 0)).bind λa=>(cd st 1 127).bind λb=>(aU (aK st 21 0)).bind λc=>(aU (aK st 22 0)).bind λd=>(cd st 2 132).bind λe=>some (a,b,c,d,e)) (u5 uj) (u5 (zJ shut)) (λk p=>T4 k p.1 p.2.1 p.2.2.1)
theorem acp:LS KK η ar ζG 219 7 Lx:=aX.pre (bT.comp (bT.gc (ar 219 7)) (bT.fR 0 1 132))<|
 aX.bM (π:=List aq×List aw×Int×Int×List aq) (σ:=Int×List aq) (ak.all xZ rfl) (aJ.nil) rfl 60 (λp a=>uj p.1 p.2.1 p.2.2.1 a.1 a.2) (λp=>(p.2.2.2.1,p.2.2.2.2)) (St:=λp=>Iq shut p.1 p.2.1 p.2.2.1) (λp=>1000000) (λp=>rfl)
  (λm p a k=>by kernel_rfl)
def uu (b:Int) (a:List aw) (c d:Int):AS SS:=⟨[(0,(vo 0)),(1,(vu b)),(2,(vc 1)),(8,(vl a)),(9,(vi c)),(10,(vi d))],[(rX 127 a),(some (.aD 270 [] [(.one (.an 2 0))])),(bX 284 [(.v (.func (.func 221) (.mk []) (.mk [])))])],3,none,false,[],[]⟩
def Xq (a:Int) (c:List aw) (a0:Bool) (b a2:Int):AS SS:= {uu a c a a with env:=[(17,(vb a0)),(16,(vi b)),(15,(vi a2)),(0,(vo 0)),(1,(vu a)),(2,(vc 1)),(8,(vl c)),(9,(vi a2)),(10,(vi b))]}
def o3 (c:Int) (b:List aw) (a:Int×Int):T ((Int×Int)⊕(Bool×Int×Int)):=.bf (decide (a.1<a.2)) (.bd (idx b (γ.wrap ((ο.wrap (γ.wrap (a.1+a.2))).fdiv 2))) λz0=>.bd (b[(γ.wrap ((ο.wrap (γ.wrap (a.1+a.2))).fdiv 2)).toNat]?) λe=>.bd (hW sh e.bb c) λd=>.bf (decide (d<0)) (.ok (.inl ((γ.wrap (γ.wrap ((ο.wrap (γ.wrap (a.1+a.2))).fdiv 2)+1)),a.2)))<|.ok (.inl (a.1,(γ.wrap ((ο.wrap (γ.wrap (a.1+a.2))).fdiv 2)))))<|.ok (.inr ((decide (a.1<a.2)),a.2,a.1))
def zR (a:Int) (b:List aw) (c d:Int):=bM sh (o3 sh a b) 1000000 (c,d)
def Ud {R} (k:KX SS R) (a:Int) (b:List aw) (x:(Bool×Int×Int)):Option R:=(λv=>k (.exit 0) (Xq a b v.1 v.2.1 v.2.2)) x
def LH:bh SS:=bt 4 (λst=>(b9 st 1 270).bind λ_=>(aU (aK st 1 0)).bind λa=>(cd st 0 127).bind λb=>(aU (aK st 9 0)).bind λc=>(aU (aK st 10 0)).bind λd=>some (a,b,c,d)) (u4 uu) (u4 (zR shut)) (λk p=>Ud k p.1 p.2.1)
def GQ:=bO (xY shut) ar ζG 219 [Lx]
theorem GR:a_ GQ η:=bQ (ak.all xZ rfl) ζb rfl a8 (by kernel_rfl) acp
theorem acz:LS KK η ar ζc 269 4 LH:=
 aX.bM (π:=Int×List aw×Int×Int) (σ:=Int×Int) GR (aJ.nil) rfl 60 (λp a=>uu p.1 p.2.1 a.1 a.2) (λp=>(p.2.2.1,p.2.2.2)) (St:=λp=>o3 shut p.1 p.2.1) (λp=>1000000) (λp=>rfl)
  (λm p a k=>by kernel_rfl)
def Rm:=bO GQ ar ζc 269 [LH]
theorem Rn:a_ Rm η:=bQ GR ζz rfl a8 (by kernel_rfl) acz
def AU (s:aO) (name pid:Int):T (aO×Int):=.bd (jA sh s) λd=>.bf (d !=0) (.bf (d !=0) (.ok (⟨[],[]⟩,d))<|.bd (jx sh name) λf=>.bf (!f) (.ok (⟨[],[]⟩,351))<|.bd (m_ sh pid) λc=>.bf (!c) (.ok (⟨[],[]⟩,2))<|.no)<|.bd (app 16 [] s.ax) λa=>.gd (uj s.au a ((↑s.au.length:Int)) 0 [])<|.bd (zJ sh s.au a ((↑s.au.length:Int)) 0 []) λc=>.bd (jx sh name) λg=>.bf (!g) (.ok (⟨[],[]⟩,351))<|.bd (m_ sh pid) λh=>.bf (!h) (.ok (⟨[],[]⟩,2))<|.gd (uu name a 0 (↑a.length:Int))<|.bd (zR sh name a 0 ((↑a.length:Int))) λb=>.bf (decide (b.2.2<(↑a.length:Int))) (.bd (idx a b.2.2) λe=>.bd (a[b.2.2.toNat]?) λj=>.bd (hW sh j.bb name) λi=>.bf (i==0) (.ok (⟨[],[]⟩,5))<|.bf ((↑a.length:Int)==16) (.ok (⟨[],[]⟩,6))<|.bd (nA a b.2.2 [aw.mk name pid]) λz9=>.ok (⟨z9,c.2.2⟩,0))<|.bf ((↑a.length:Int)==16) (.ok (⟨[],[]⟩,6))<|.bd (nA a b.2.2 [aw.mk name pid]) λe=>.ok (⟨e,c.2.2⟩,0)
def tH (s:aO) (name pid:Int):=sh.s _ (AU sh s name pid).val
def yn:=bP (jm KK 167 58 35 35 (tH sh) (eP KK 58 27)) (xY sh)
theorem yo:ak (yn shut) η:=lB (rs:=[58,27]) xZ Rn rfl rfl λs name pid k=>by kernel_rfl
def uw (a:List aw) (b c d:Int):AS SS:=⟨[(0,(vd 55 a)),(1,(vu b)),(2,(vc 0)),(8,(vl a)),(9,(vi c)),(10,(vi d))],[(some (.aD 270 [] [(.one (.an 1 0))])),(bX 284 [(.v (.func (.func 221) (.mk []) (.mk [])))])],2,none,false,[],[]⟩
def Xs (b:List aw) (a:Int) (a0:Bool) (c a2:Int):AS SS:= {uw b a a a with env:=[(17,(vb a0)),(16,(vi c)),(15,(vi a2)),(0,(vd 55 b)),(1,(vu a)),(2,(vc 0)),(8,(vl b)),(9,(vi a2)),(10,(vi c))]}
def o5 (b:List aw) (c:Int) (a:Int×Int):T ((Int×Int)⊕(Bool×Int×Int)):=.bf (decide (a.1<a.2)) (.bd (idx b (γ.wrap ((ο.wrap (γ.wrap (a.1+a.2))).fdiv 2))) λz0=>.bd (hW sh z0.bb c) λd=>.bf (decide (d<0)) (.ok (.inl ((γ.wrap (γ.wrap ((ο.wrap (γ.wrap (a.1+a.2))).fdiv 2)+1)),a.2)))<|.ok (.inl (a.1,(γ.wrap ((ο.wrap (γ.wrap (a.1+a.2))).fdiv 2)))))<|.ok (.inr ((decide (a.1<a.2)),a.2,a.1))
def zT (a:List aw) (b c d:Int):=bM sh (o5 sh a b) 1000000 (c,d)
def Uf {R} (k:KX SS R) (a:List aw) (b:Int) (x:(Bool×Int×Int)):Option R:=(λv=>k (.exit 0) (Xs a b v.1 v.2.1 v.2.2)) x
def LJ:bh SS:=bt 4 (λst=>(b9 st 0 270).bind λ_=>(ba 55 (aK st 0 0)).bind λa=>(aU (aK st 1 0)).bind λb=>(aU (aK st 9 0)).bind λc=>(aU (aK st 10 0)).bind λd=>some (a,b,c,d)) (u4 uw) (u4 (zT shut)) (λk p=>Uf k p.1 p.2.1)
theorem acB:LS KK η ar ζc 269 4 LJ:=
 aX.bM (π:=List aw×Int×Int×Int) (σ:=Int×Int) (ak.all yo rfl) (aJ.nil) rfl 60 (λp a=>uw p.1 p.2.1 a.1 a.2) (λp=>(p.2.2.1,p.2.2.2)) (St:=λp=>o5 shut p.1 p.2.1) (λp=>1000000) (λp=>rfl)
  (λm p a k=>by kernel_rfl)
def Rq:=bO (yn shut) ar ζc 269 [LJ]
theorem Rr:a_ Rq η:=bQ (ak.all yo rfl) ζz rfl a8 (by kernel_rfl) acB
def AY (s:aO) (name:Int):T (Int×Int):=.bd (jA sh s) λb=>.bf (b !=0) (.ok (0,350))<|.bd (jx sh name) λc=>.bf (!c) (.ok (0,351))<|.gd (uw s.ax name 0 (↑s.ax.length:Int))<|.bd (zT sh s.ax name 0 ((↑s.ax.length:Int))) λa=>.bf (decide (a.2.2<(↑s.ax.length:Int))) (.bd (idx s.ax a.2.2) λz3=>.bd (hW sh z3.bb name) λd=>.bf (!d==0) (.ok (0,4))<|.bd (idx s.ax a.2.2) λz5=>.ok (z5.aa,0))<|.ok (0,4)
def ng (s:aO) (name:Int):=sh.s _ (AY sh s name).val
def HB:=bP (db KK 169 58 35 (ng sh) (eP KK 35 27)) (yn sh)
theorem HC:ak (HB shut) η:=dp (rs:=[35,27]) yo Rr rfl rfl λs name k=>by kernel_rfl
end Go.Proofs.YtoggponeookhbaaGreatDoor
end
section
namespace Go.Vx
open Go.RowKit Go.Dc
section
variable {S:bo} {K:Kit S} {P:Program}
theorem pX {X:Type} {t:T X} {x:X} (h:shut.s _ t.val=some x):t.val=some x:=by rw[me] at h;exact h
theorem wq {G:bw S} (a:a_ G P) {n f:Nat} {afC:List (ay S)} {rs:Γ} {X:Type} {t:T X} {kf: {R:Type}->(Rs S->Option R)->X->Option R}
  (h: ∀ {R:Type} (k:Rs S->Option R),dY G n f afC [] (gq G.K rs k)=t.run (kf k)) (hp:afC.all ay.pure=true) {x:X} (m:t.val=some x) {r:Rs S} (l: ∀ {R:Type} (k:Rs S->Option R),kf k x=k r):eC G.K P f afC r:=by
 have h1:dY G n f afC [] (gq G.K rs (λr=>some (ULift.up.{0} r).down))=some r:=by
  rw[h,T.l_,m];exact l _
 obtain⟨p,h',dt,b,c⟩:=s4 a h1;obtain⟨q,d,g⟩:=eC.MS a.K hp c b;obtain⟨o,i,j⟩:=Nb a.K d g;have e:o=r:=by simpa using i
 rw[<-e];exact j
theorem hM (f:bW K P) {A:Pl} {O:Γ} {w:World} {t:Nat} {x:S.El t} {v:Value} (c:(S.ty t).agg=(match K.a1 t x with| .agg _=>true| .one _=>false)) (h1:(match K.a1 t x with| .agg _=>true| .one l=>ξI l.sz 1)=true) (h:(S.ty t).is O w v x):(K.a1 t x).rel A O w v:=by
 obtain⟨cs,g,a⟩:=h;have b:=f.a1 A O w t x cs g;unfold Ty.mk' at a
 revert b c h1
 cases K.a1 t x with
 |agg ls=>
  intro c h1 b;rw[c] at a;exact⟨cs,a,b⟩
 |one l=>
  intro c h1 b;rw[c] at a;obtain⟨ys,zs,rfl,d,e⟩:=b;rw[show zs=[] from e,ζd] at a;have hl:=d.len;rw[ξk h1] at hl
  match ys,hl with
  |[u],_=>
   have:v=u:=a;rw[this];exact d
theorem DT (d:bW K P) {A:Pl} {O:Γ} {w:World} {t:Nat} {x:S.El t} {v:Value} (a:K.cls t (K.a1 t x).cells=some x) (b:(S.ty t).agg=(match K.a1 t x with| .agg _=>true| .one _=>false)) (h:(K.a1 t x).rel A O w v):(S.ty t).is O w v x:=by
 revert a b h
 cases K.a1 t x with
 |agg ls=>
  rintro a b ⟨cs,rfl,c⟩;exact⟨cs,d.cls A O w t ls x cs a c,by unfold Ty.mk';rw[b];rfl⟩
 |one l=>
  intro a b c;exact⟨[v],d.cls A O w t [l] x [v] a ⟨[v],[],rfl,c,rfl⟩,by unfold Ty.mk';rw[b];rfl⟩
theorem B5 (e:bW K P) {f:Nat} {b:Γ} {spec: {R:Type}->hS S b->(Rs S->Option R)->Option R}
  (h: ∀ {R:Type} (xs:hS S b) (k:Rs S->Option R) (z:R),spec xs k=some z-> ∃r,k r=some z/\eC K P f (kG K xs) r) {R:Type} (afC:List (ay S)) (k:Rs S->Option R) (z:R) (_:afC.all ay.pure=true) (a:(fE K f b spec).out afC k=some z): ∃r,k r=some z/\eC K P f afC r:=by
 simp only[fE] at a;split at a
 rotate_left
 ·cases a
 rename_i xs i;cases hp:(kG K xs).all ay.pure<;>rw[hp] at a
 ·cases a
 simp only[cond_true] at a;obtain⟨r,h1,c⟩:=h xs k z a;exact⟨r,h1,c.1,λA O w vs g hO d=>c.2 A O w vs (v7 e i g) hO d⟩
theorem DS {α:Type} {T:Ty α} {O:Γ} {w:World} {v:Value} {x:α} (h:T.is O w v x):T.is [] w v x:=h.tr (Tr.less λ_ hk=>by cases hk)
end
end Go.Vx
end
section
namespace Go.Proofs.YtoggponeookhbaaGreatDoor
open Go.RowKit Go.Dc Go.Vx
variable (sh:Sh)
def Th (sh:Sh) (b:aq):T Int:=.ok b.aa
def tM (b:aq):=sh.s _ (Th sh b).val
def rW:=bP (dS KK 292 132 (tM sh) (cH KK 35)) (HB sh)
theorem yK:ak (rW shut) η:=eo (rs:=[35]) HC (ak.all HC rfl) rfl rfl λb k=>by kernel_rfl
def uy (a:List aq) (b c d:Int):AS SS:=⟨[(0,(vd 56 a)),(1,(vu b)),(2,(vc 0)),(8,(vl a)),(9,(vi c)),(10,(vi d))],[(some (.aD 308 [] [(.one (.an 1 0))])),(bX 330 [(.v (.func (.func 292) (.mk []) (.mk [])))])],2,none,false,[],[]⟩
def Xv (b:List aq) (a:Int) (a0:Bool) (c a2:Int):AS SS:= {uy b a a a with env:=[(17,(vb a0)),(16,(vi c)),(15,(vi a2)),(0,(vd 56 b)),(1,(vu a)),(2,(vc 0)),(8,(vl b)),(9,(vi a2)),(10,(vi c))]}
def o6 (b:List aq) (c:Int) (a:Int×Int):T ((Int×Int)⊕(Bool×Int×Int)):=.bf (decide (a.1<a.2)) (.bd (idx b (γ.wrap ((ο.wrap (γ.wrap (a.1+a.2))).fdiv 2))) λz0=>.bd (tM sh z0) λd=>.bd (hW sh d c) λe=>.bf (decide (e<0)) (.ok (.inl ((γ.wrap (γ.wrap ((ο.wrap (γ.wrap (a.1+a.2))).fdiv 2)+1)),a.2)))<|.ok (.inl (a.1,(γ.wrap ((ο.wrap (γ.wrap (a.1+a.2))).fdiv 2)))))<|.ok (.inr ((decide (a.1<a.2)),a.2,a.1))
def zV (a:List aq) (b c d:Int):=bM sh (o6 sh a b) 1000000 (c,d)
def Uh {R} (k:KX SS R) (a:List aq) (b:Int) (x:(Bool×Int×Int)):Option R:=(λv=>k (.exit 0) (Xv a b v.1 v.2.1 v.2.2)) x
def LL:bh SS:=bt 4 (λst=>(b9 st 0 308).bind λ_=>(ba 56 (aK st 0 0)).bind λa=>(aU (aK st 1 0)).bind λb=>(aU (aK st 9 0)).bind λc=>(aU (aK st 10 0)).bind λd=>some (a,b,c,d)) (u4 uy) (u4 (zV shut)) (λk p=>Uh k p.1 p.2.1)
theorem acD:LS KK η ar Tryz.f307 307 4 LL:=
 aX.bM (π:=List aq×Int×Int×Int) (σ:=Int×Int) (ak.all yK rfl) (aJ.nil) rfl 60 (λp a=>uy p.1 p.2.1 a.1 a.2) (λp=>(p.2.2.1,p.2.2.2)) (St:=λp=>o6 shut p.1 p.2.1) (λp=>1000000) (λp=>rfl)
  (λm p a k=>by kernel_rfl)
def xh:=bO (rW shut) ar Tryz.f307 307 [LL]
theorem RL:a_ xh η:=bQ (ak.all yK rfl) Tryz.func307 rfl a8 (by kernel_rfl) acD
def sV (l:List aq) (pid:Int):T (Int×Bool):=.gd (uy l pid 0 (↑l.length:Int))<|.bd (zV sh l pid 0 ((↑l.length:Int))) λa=>.bf (decide (a.2.2<(↑l.length:Int))) (.bd (idx l a.2.2) λd=>.bd (tM sh d) λb=>.bd (hW sh b pid) λc=>.ok (a.2.2,(c==0)))<|.ok (a.2.2,false)
def Cx (l:List aq) (pid:Int):=sh.s _ (sV sh l pid).val
theorem aeB {R:Type} (l:List aq) (pid:Int) (k:Rs SS->Option R):dY xh 100 291 [KK.a1 56 l,KK.a1 35 pid,(.one (.v (.func (.func 292) #[] #[])):ay SS)] [] (gq KK [3,4] k)=(sV shut l pid).run (λr=>k (.ret (.br [KK.a1 3 r.1,KK.a1 4 r.2]))):=by kernel_rfl
theorem VV (l:List aq) (pid:Int) {x:Int×Bool} (h:Cx shut l pid=some x):eC KK η 291 [KK.a1 56 l,KK.a1 35 pid,(.one (.v (.func (.func 292) #[] #[])):ay SS)] (.ret (.br [KK.a1 3 x.1,KK.a1 4 x.2])):=wq (G:=xh) RL (kf:=λ{R} (k:Rs SS->Option R)=>(λr=>k (.ret (.br [KK.a1 3 r.1,KK.a1 4 r.2])))) (λk=>aeB l pid k) rfl (pX h) λk=>rfl
end Go.Proofs.YtoggponeookhbaaGreatDoor
end
section
namespace Go.Dc
open Go.RowKit
section
variable {P:Program} {r:Option Nat} {N:Nat} {ops:Array Oper} {Q:Exit->Act->World->Prop} {ds:List Deferred}
theorem afd {id:Nat} {E:Env} {w:World} (hm:P.follows .mixedOrders=true) (b:List cu) (Φ:List (Bool->World->Value->Prop)) (f:Nat) (cl:Γ) (I:Bool->World->Prop) (hlen:ηk b.length ops.size=true) (au:qV ops b.length=true) (ba:Φ.length=b.length) (ah:nZ N ops b b 0=true)
  (aA:f<b.length) (aJ: ∀o,ops[f]? =some o-> ∀x∈cl,x∈lz ops 12 (cQ o)) (aF:I false w.drew)
  (a7: ∀i p g,b[i]? =some p->Φ[i]? =some g-> ∀c a w',(c=true->i≠f/\i∉cl)->I c w'->a.tmps.size=N->a.defers=ds->(∀s,p.base.contains s=true-> ∀v,E.get s=some v->a.tmps.getD s undef=v)->
   (∀(j:Nat),p.lD.contains j=true-> ∀(q:cu) (m:Bool->World->Value->Prop),b[j]? =some q->Φ[j]? =some m->m c w' (a.tmps.getD q.d undef))->eM P r ops Q i p.d a w' (λv b8=>g (c||ξI i f) b8 v/\I (c||ξI i f) b8/\ ∀(j:Nat) (m:Bool->World->Value->Prop) u,j≠i->Φ[j]? =some m->m c w' u->m (c||ξI i f) b8 u))
  (ay: ∀a w',I true w'->a.tmps.size=N->a.defers=ds->(∀s v,E.get s=some v->(b.any λp=>ξI p.d s)=false->a.tmps.getD s undef=v)->
   (∀(i:Nat) (p:cu) (g:Bool->World->Value->Prop),b[i]? =some p->Φ[i]? =some g->g true w' (a.tmps.getD p.d undef))->wpOpsIn (fw r) 0 P ops Q (ζ4 b.length (ops.size-b.length)) a w'):
  WC P r N (.region id ops true) Q E ds w:=by
 have hle:=ξF hlen;intro a ak;refine wpIn_region_draw λt=>?_;simp only[Region.schedule,hm,ζZ,if_true];refine wpAnyIn_sound ops.size t _ a _ ?_;have key: ∀(fuel:Nat) (listed:Array Bool) (c:Bool) (a:Act) (w':World),listed.getD f true=c->listed.size=ops.size->er listed b.length+(ops.size-b.length)=fuel->(∀k,b.length<=k->k<ops.size->listed.getD k true=false)->I c w'->a.tmps.size=N->a.defers=ds->
   (∀(k:Nat) (o:Oper),ops[k]? =some o->listed.getD k true=true-> ∀x∈cQ o,listed.getD x true=true)->
   (∀s v,E.get s=some v->(∀(k:Nat) (p:cu),b[k]? =some p->p.d=s->listed.getD k true=false)->a.tmps.getD s undef=v)->
   (∀(i:Nat) (p:cu) (g:Bool->World->Value->Prop),b[i]? =some p->Φ[i]? =some g->listed.getD i true=true->g c w' (a.tmps.getD p.d undef))->
   wpAnyIn (fw r) 0 P .any ops Q fuel listed a w':=by
  intro fuel
  induction fuel with
  |zero=>
   intro listed c a w' G ai hl aj ae L W C T aa;have S:er listed b.length=0:=by omega
   have A:=nG _ S;have Z:c=true:=by rw[<-G];exact A f aA
   subst Z;have aI:ops.size-b.length=0:=by omega
   refine wT au 0 b.length listed a w' (ξa _) (by omega) ai (λk hk=>A k hk) aj C ?_;have X:=ay a w' ae L W (λs v B l=>T s v B λk p hp e=>by
    rw[ξo] at l;have:=l p (ξ3 hp);rw[e] at this;simp at this) λi p g hp O=>aa i p g hp O (A i (δ.1 hp).1)
   rw[aI] at X;exact X
  |succ fuel av=>
   intro listed c a w' G ai hl aj ae L W C T aa
   by_cases S:er listed b.length=0
   ·have A:=nG _ S;have Z:c=true:=by rw[<-G];exact A f aA
    subst Z;refine wT au (fuel+1) b.length listed a w' (ξa _) (by omega) ai (λk hk=>A k hk) aj C ?_;have X:=ay a w' ae L W (λs v B l=>T s v B λk p hp e=>by
     rw[ξo] at l;have:=l p (ξ3 hp);rw[e] at this;simp at this) λi p g hp O=>aa i p g hp O (A i (δ.1 hp).1)
    rw[show ops.size-b.length=fuel+1 by omega] at X;exact X
   refine⟨λaZ=>?_,λi hi=>?_⟩
   ·exfalso;obtain⟨i,h1,J,K⟩:=qf b.length S;have af:i<b.length:=h1;obtain⟨⟨o,y,_,V,_⟩,_⟩:=kJ ah i b[i] (ε af);simp only[ψ] at y V;have:i∈ζA .any ops listed:=by
     unfold ζA;rw[ξQ];refine⟨by simp;omega,?_⟩;rw[J,y];simp only[ξY,φ,ω,ξ1,ξf];intro e he;cases U:Region.binds .any e with
     |false=>simp
     |true=>
      have D:=V e.on (iL.2 ⟨e,he,U,rfl⟩);have:=K e.on D;have ad:e.on<listed.size:=by omega
      simp only[θ,ξ8 ad,ξ1] at this ⊢;simp[this]
    rw[aZ] at this;cases this
   ·unfold ζA at hi;rw[ξQ] at hi;obtain⟨aN,M⟩:=hi;have aO:i<ops.size:=by simpa using aN
    have af:i<b.length:=by
     rcases ζB i b.length with h|az
     ·exact h
     ·exfalso;obtain⟨o,y,A,aH⟩:=wR au i az aO;rw[y] at M;simp only[ξ5,ζv,ω,ξ1,ξf] at M;obtain⟨k,h1,J,_⟩:=qf b.length S;have aE:=lA C 12 (cQ o) (λx z=>by
       obtain⟨e,he,U,aX⟩:=iL.1 z;have K:=M.2 e he;rw[U] at K;simp only[ξP,ξp] at K;have a':=aH x z;have ad:e.on<listed.size:=by omega
       rw[<-aX];simp only[θ,ξ8 ad,ξ1] at K ⊢;exact K) k (A k (by omega))
      rw[aE] at J;cases J
    have aR:i<Φ.length:=by omega
    have hp:=ε af;have O:=ε aR;obtain⟨⟨o,y,a_,V,aM⟩,aK,ax,_⟩:=kJ ah i b[i] hp;simp only[ψ] at y V ax;rw[y] at M;simp only[ξ5,ζv,ω,ξ1,ξf] at M;obtain⟨F,aY⟩:=M;have aw: ∀x∈cQ o,listed.getD x true=true:=by
     intro x z;obtain⟨e,he,U,rfl⟩:=iL.1 z;have h1:=aY e he;rw[U] at h1;simp only[ξP,ξp] at h1;have D:=V e.on z;have ad:e.on<listed.size:=by omega
     simp only[θ,ξ8 ad,ξ1] at h1 ⊢;exact h1
    refine a7 i _ _ hp O c a w' ?_ ae L W ?_ ?_ _ ?_
    ·intro Z;rw[Z] at G;refine⟨λe=>by(rw[e,G] at F;cases F),λaP=>?_⟩;have aB:f<ops.size:=by omega
     have aU:=aJ _ (ξ8 aB) i aP;have:=lA C 12 (cQ ops[f]) (λx z=>C f _ (ξ8 aB) G x z) i aU;rw[this] at F;cases F
    ·intro s a1 v B;have ar:s∈b[i].base:=by simpa using a1
     refine T s v B λk p aq an=>?_;rcases IQ ax s ar k p aq an with rfl|⟨o',Y,aQ⟩
     ·exact F
     ·cases hk:listed.getD k true with
      |false=>rfl
      |true=>rw[C k o' Y hk i aQ] at F;cases F
    ·intro j aS q m H R;have ag:j∈b[i].lD:=by simpa using aS
     exact aa j q m H R (aw j (aM j ag))
    ·rintro v b8 ⟨B,aG,a8⟩;have aL:b[i].d<a.tmps.size:=by rw[L];exact aK
     have aD:i<listed.size:=by omega
     have ab: ∀k,(listed.setIfInBounds i true).getD k true=true↔k=i\/listed.getD k true=true:=by
      intro k
      by_cases hk:i=k
      ·subst hk;simp[θ,aD]
      ·simp only[θ,ξ7 hk];constructor
       ·exact λh=>.inr h
       ·rintro (h|h)
        ·exact absurd h.symm hk
        ·exact h
     have aC: ∀s,s≠b[i].d->(a.put (some b[i].d) v).tmps.getD s undef=a.tmps.getD s undef:=by
      intro s ar;simp only[Act.put,θ,ξ7 (Ne.symm ar)]
     have a6:(a.put (some b[i].d) v).tmps.getD b[i].d undef=v:=by
      simp[Act.put,θ,aL]
     have aV:=D_ aD F b.length;simp only[af,if_true] at aV;refine av _ (c||ξI i f) _ b8 ?_ (by simpa using ai) (by omega) (λk hk aT=>by
      have:=aj k hk aT;simp only[θ,ξ7 (show i≠k by omega)] at this ⊢;exact this) aG (by simp[Act.put,L]) W ?_ ?_ ?_
     ·cases al:ξI i f with
      |true=>
       have:=ξk al;subst this;rw[η0];exact(ab i).2 (.inl rfl)
      |false=>
       rw[ζp,<-G];have l:i≠f:=λe=>by rw[e,η1] at al;cases al
       simp only[θ,ξ7 l]
     ·intro k o' Y hk x z;rw[ab] at hk ⊢;right;rcases hk with rfl|hk
      ·rw[y] at Y;cases Y;exact aw x z
      ·exact C k o' Y hk x z
     ·intro s u hu l;have h1:s≠b[i].d:=λe=>by
       have:=l i _ hp e.symm;have J:=(ab i).2 (.inl rfl);rw[J] at this;cases this
      rw[aC s h1];refine T s u hu λk p aq an=>?_;have:=l k p aq an;cases hk:listed.getD k true with
      |false=>rfl
      |true=>rw[(ab k).2 (.inr hk)] at this;cases this
     ·intro j q m H R ag;rw[ab] at ag
      by_cases ao:j=i
      ·subst ao;rw[hp] at H;rw[O] at R;cases H;cases R;rw[a6];exact B
      ·have aW:listed.getD j true=true:=ag.resolve_left ao;have l:q.d≠b[i].d:=by
        rcases ζB i j with D|az
        ·exact(kJ ah i _ hp).2.2.2 j q D H
        ·exact λe=>(kJ ah j q H).2.2.2 i _ (by omega) hp e.symm
       rw[aC _ l];exact a8 j m _ ao R (aa j q m H R aW)
 refine key ops.size _ false a _ (by simp[θ,show f<ops.size by omega]) (by simp) ?_ (λk _ hk=>by simp[θ,hk]) aF ak.size ak.defers ?_ ?_ ?_
 ·have: ∀n,n<=ops.size->er (ζH ops.size false) n=n:=by
   intro n
   induction n with
   |zero=>intro _;rfl
   |succ n av=>
    intro hn;simp only[er,av (by omega)];have:(ζH ops.size false).getD n true=false:=by simp[θ,show n<ops.size by omega]
    simp[this]
  rw[this _ hle];omega
 ·intro k o y hk;have D:=(Array.getElem?_eq_some_iff.1 y).1;simp[θ,D] at hk
 ·intro s v B _;exact ak.get s v B
 ·intro i p g hp _ hi;have D:i<ops.size:=by have:=(δ.1 hp).1;omega
  simp[θ,D] at hi
def b1 (b:SP) (k:Option Value):Bool->World->Value->Prop:=λa w u=>bif a then ∀v,k=some v->u=v else b.p w u
def mh (w:World) (b:World->World->Value->Prop):Bool->World->Value->Prop:=λa w' u=>a=true-> ∃w1 w2,Fr [] w w1/\b w1 w2 u/\Fr [] w2 w'
def FW (a:List cu) (keep:List (Option Value)) (k:Nat) (F:Nat->cu->Option Value->Prop):Prop:=
 match a,keep with
 |p::ps,v::vs=>F k p v/\FW ps vs (k+1) F
 |_,_=>True
theorem PI: ∀ {b:List cu} {keep:List (Option Value)} {k:Nat} {F:Nat->cu->Option Value->Prop},FW b keep k F-> ∀(i:Nat) (p:cu) (v:Option Value),b[i]? =some p->keep[i]? =some v->F (k+i) p v
 |[],_,_,_,_,i,p,v,hp,_=>by simp at hp
 |_::_,[],_,_,_,i,p,v,_,a=>by simp at a
 |q::c,u::us,k,F,h,i,p,v,hp,a=>by
  cases i with
  |zero=>
   simp only[ξ9,ξq] at hp a;subst hp;subst a;exact h.1
  |succ i=>
   have:=PI h.2 i p v (by simpa using hp) (by simpa using a);have e:k+1+i=k+(i+1):=by omega
   rwa [e] at this
def u_:List SP->List (Option Value)->Prop
 |c::b,some v::a=>(∀w u,c.p w u->u=v)/\u_ b a
 |_::b,none::a=>u_ b a
 |_,_=>True
theorem DW: ∀ {Φ:List SP} {keep:List (Option Value)},u_ Φ keep-> ∀(j:Nat) (b:SP) (v:Value),Φ[j]? =some b->keep[j]? =some (some v)-> ∀w u,b.p w u->u=v
 |[],_,_,j,b,v,h1,_=>by simp at h1
 |_::_,[],_,j,b,v,_,a=>by simp at a
 |e::d,some u::c,h,j,b,v,h1,a=>by
  cases j with
  |zero=>
   simp only[ξ9,ξq] at h1 a;subst h1;subst a;exact h.1
  |succ j=>exact DW h.2 j b v (by simpa using h1) (by simpa using a)
 |e::d,none::c,h,j,b,v,h1,a=>by
  cases j with
  |zero=>simp at a
  |succ j=>exact DW (Φ:=d) (keep:=c) h j b v (by simpa using h1) (by simpa using a)
theorem afe {id:Nat} {E:Env} {w:World} (hm:P.follows .mixedOrders=true) (b:List cu) (Φ:List SP) (keep:List (Option Value)) (f:Nat) (g cl:Γ) (m:World->World->Value->Prop)
  (hlen:ηk (b++[cu.mk f g []]).length ops.size=true) (aw:qV ops (b++[cu.mk f g []]).length=true) (ab:Φ.length=b.length) (Y:keep.length=b.length) (ao:nZ N ops (b++[cu.mk f g []]) (b++[cu.mk f g []]) 0=true)
  (X:(match ops[b.length]? with|some o=>cl.all λx=>(lz ops 12 (cQ o)).contains x|none=>false)=true)
  (ak:u_ Φ keep)
  (ar:pr b Φ 0 λi p C=> ∀a w',Fr [] w w'->a.tmps.size=N->a.defers=ds->(∀s,p.base.contains s=true-> ∀v,E.get s=some v->a.tmps.getD s undef=v)->
   (∀(j:Nat),p.lD.contains j=true-> ∀(q:cu) (c:SP),b[j]? =some q->Φ[j]? =some c->c.p w' (a.tmps.getD q.d undef))->eM P r ops Q i p.d a w' (λv b8=>C.p b8 v/\Fr [] w' b8))
  (av: ∀a w',Fr [] w w'->a.tmps.size=N->a.defers=ds->(∀(j:Nat),g.contains j=true-> ∀(q:cu) (c:SP),b[j]? =some q->Φ[j]? =some c->c.p w' (a.tmps.getD q.d undef))->eM P r ops Q b.length f a w' (λv b8=>m w' b8 v))
  (au:FW b keep 0 λi p k=>match k with
   |none=>cl.contains i=true
   |some v=> ∀w1 w2 u,Fr [] w w1->m w1 w2 u-> ∀a w',Fr [] w2 w'->a.tmps.size=N->a.defers=ds->(∀s,p.base.contains s=true-> ∀v,E.get s=some v->a.tmps.getD s undef=v)->eM P r ops Q i p.d a w' (λx b8=>x=v/\Fr [] w' b8))
  (ah: ∀w1 w2 u a w',Fr [] w w1->m w1 w2 u->Fr [] w2 w'->a.tmps.size=N->a.defers=ds->(∀s v,E.get s=some v->((b++[cu.mk f g []]).any λp=>ξI p.d s)=false->a.tmps.getD s undef=v)->
   (∀(i:Nat) (p:cu) (v:Value),b[i]? =some p->keep[i]? =some (some v)->a.tmps.getD p.d undef=v)->a.tmps.getD f undef=u->
   wpOpsIn (fw r) 0 P ops Q (ζ4 (b++[cu.mk f g []]).length (ops.size-(b++[cu.mk f g []]).length)) a w'):
  WC P r N (.region id ops true) Q E ds w:=by
 have aC:(b++[cu.mk f g []]:List cu).length=b.length+1:=by simp
 have aa:(ξG b1 Φ keep).length=b.length:=by simp[ab,Y]
 have J: ∀(j:Nat) c,(ξG b1 Φ keep++[mh w m])[j]? =some c->(j<b.length/\ ∃C k,Φ[j]? =some C/\keep[j]? =some k/\c=b1 C k)\/(j=b.length/\c=mh w m):=by
  intro j c h;rcases ζB j b.length with t|t
  ·left;rw[ξ (by omega)] at h;have h1:j<Φ.length:=by omega
   have B:j<keep.length:=by omega
   refine⟨t,Φ[j],keep[j],ε h1,ε B,?_⟩;rw[ξl,ε h1,ε B] at h;exact(ζI h).symm
  ·right;rw[ξb (by omega),aa] at h;rcases Nat.eq_or_lt_of_le t with e|aB
   ·subst e;simp only[η2,ξ9,ξq] at h;exact⟨rfl,h.symm⟩
   ·rw[ξH (by simp;omega)] at h;cases h
 have aq: ∀(j:Nat) p,(b++[cu.mk f g []])[j]? =some p->j<b.length->b[j]? =some p:=λj p h t=>by rwa [ξ t] at h
 refine afd hm (b++[cu.mk f g []]) (ξG b1 Φ keep++[mh w m]) b.length cl (λS w'=>bif S then ∃w1 w2 u,Fr [] w w1/\m w1 w2 u/\Fr [] w2 w' else Fr [] w w') hlen aw (by simp[ab,Y]) ao (by omega) ?_ (Fr.drew [] w) ?_ ?_
 ·intro o an x ay;rw[an] at X;simpa using ξv.1 X x ay
 ·intro i p C hp az S a w' Z l D F K H;rcases J i C az with⟨hi,aA,ad,h1,B,rfl⟩|⟨rfl,rfl⟩
  ·have O:=aq i p hp hi;have al:ξI i b.length=false:=by
    cases ag:ξI i b.length with
    |false=>rfl
    |true=>have:=ξk ag;omega
   rw[al,ζp];cases S with
   |false=>
    have l:Fr [] w w':=l;refine eM.weaken (Iz ar i p aA O h1 a w' l D F K (λj t q c G z=>?_)) λv b8 n=>⟨n.1,l.trans n.2,λj c u _ z hu=>?_⟩
    ·have V:=(δ.1 G).1;have I:(ξG b1 Φ keep++[mh w m])[j]? =some (b1 c (keep[j]'(by omega))):=by
      rw[ξ (by omega),ξl,z,ε (by omega)]
     exact H j t q _ (by rw[ξ V];exact G) I
    ·rcases J j c z with⟨_,T,ae,_,_,rfl⟩|⟨_,rfl⟩
     ·exact T.st n.2 hu
     ·intro n;cases n
   |true=>
    obtain⟨w1,w2,u,L,A,M⟩:=l;have U:=PI au i p ad O B;rw[ψ] at U;cases ad with
    |none=>
     have:cl.contains i=true:=U;exact absurd (by simpa using this) (Z rfl).2
    |some v=>
     refine eM.weaken (U w1 w2 u L A a w' M D F K) λx b8 n=>⟨?_,⟨w1,w2,u,L,A,M.trans n.2⟩,λj c y _ z R=>?_⟩
     ·intro af W;cases W;exact n.1
     ·rcases J j c z with⟨_,T,ae,_,_,rfl⟩|⟨_,rfl⟩
      ·exact R
      ·intro _;obtain⟨x1,x2,g1,g2,g3⟩:=R rfl;exact⟨x1,x2,g1,g2,g3.trans n.2⟩
  ·cases S with
   |true=>exact absurd rfl (Z rfl).1
   |false=>
    have O:p=⟨f,g,[]⟩:=by
     rw[ξb (ξa _),η2] at hp;exact(ζI hp).symm
    subst O;have l:Fr [] w w':=l;rw[η1,η0];refine eM.weaken (av a w' l D F (λj t q c G z=>?_)) λv b8 A=>⟨λ_=>⟨w',b8,l,A,Fr.refl [] _⟩,⟨w',b8,v,l,A,Fr.refl [] _⟩,λj c y aj z R=>?_⟩
    ·have V:=(δ.1 G).1;have I:(ξG b1 Φ keep++[mh w m])[j]? =some (b1 c (keep[j]'(by omega))):=by
      rw[ξ (by omega),ξl,z,ε (by omega)]
     exact H j t q _ (by rw[ξ V];exact G) I
    ·rcases J j c z with⟨_,T,ae,h1,B,rfl⟩|⟨e,_⟩
     ·intro af W;subst W;exact DW ak j T af h1 B _ _ R
     ·exact absurd e aj
 ·intro a w' l D F K H;obtain⟨w1,w2,L,A,M⟩:=H b.length ⟨f,g,[]⟩ (mh w m) (by simp) (by rw[ξb (by omega),aa];simp) rfl;refine ah w1 w2 _ a w' L A M D F K (λi p v hp ax=>?_) rfl;have ai:=(δ.1 hp).1;have I:(ξG b1 Φ keep++[mh w m])[i]? =some (b1 (Φ[i]'(by omega)) (some v)):=by
   rw[ξ (by omega),ξl,ax,ε (by omega)]
  exact H i p _ (by rw[ξ ai];exact hp) I v rfl
theorem aa8 {Θ:cG} {O:Γ} {w:World} {i d:Nat} {o:Oper} {E:Env} (J:Θ.ok P) {a:Act} (g:Has N E ds a) (z:ops[i]? =some o) (hw:want N ops E o.guard=some true) (q:o.dst=some d) {t:Nat} {x y:Operand} {f c:TI}
  (j:o.op= .call {callee:=.builtin .append,args:= #[x,y],argTypes:= #[t,t]}) (C:Θ.get t=some f) (k:f.tag=5) (D:Θ.get f.e=some c) {α:Type} {T:Ty α} (hn:T.n=c.size) (A:ηl 0 c.size=true) (I:c.zero.cells.size=c.size) (p:ηk 1 c.bytes=true) {e nb:Nat} (he:f.e=e) (s:c.bytes=nb)
  {w0:World} {v u:Value} {xs ys zs:List α} (G:ev E x=some v) (H:ev E y=some u) (l:Fr [] w0 w) (hO:OB O w) (F:Own T e w0.heap.size O w v xs) (hu:T.slice.is O w u ys) (hlen:app nb xs ys=some zs):
  eM P r ops Q i d a w (λh w'=> ∃O',dn T e w0.heap.size O w v zs O' w' h):=by
 subst he s;obtain⟨hle,rfl⟩:=s7 hlen;obtain⟨h,w',O',B,m⟩:=FA (P:=P) (ty:=o.type) J C k D hn (ξF A) I l.size hO F hu hle (ξF p);refine lU z (gQ g hw) q (b:=true) (v:=h) (w':=w') ?_ ⟨O',m⟩;simp only[if_true];refine⟨by rw[j];simp,?_⟩;simp only[execOp,j,ξx,resolve,ζe,ξr,invoke,builtin,ζ9,ξz,ξV,g.eval G,g.eval H,B]
end
end Go.Dc
end
section
namespace Go.Proofs.YtoggponeookhbaaGreatDoor
open Go.RowKit Go.Dc Go.Vx
theorem Yw:ey η 79:=cR a8 Tryz.func79 rfl
theorem Yx:ey η 80:=cR a8 Tryz.func80 rfl
theorem Yv:ey η 63:=cR a8 Tryz.func63 rfl
theorem Cg:ey η 202:=cR a8 η3 rfl
theorem Ch:ey η 203:=cR a8 η4 rfl
theorem Yu:ey η 294:=cR a8 η5 rfl
theorem Yo:ey η 107:=cR a8 Tryz.func107 rfl
theorem Yp:ey η 219:=cR a8 ζb rfl
theorem Yq:ey η 261:=cR a8 η6 rfl
theorem Yr:ey η 262:=cR a8 η7 rfl
theorem Jr:ey η 263:=cR a8 η8 rfl
theorem Ys:ey η 291:=cR a8 Tryz.func291 rfl
theorem Yt:ey η 293:=cR a8 Tryz.func293 rfl
theorem aeu {O:Γ} {w:World} {v:Value} {x:aq}:iW.is O w v x↔ ∃s1,v= .agg #[.int .u64 x.aa,s1]/\(Ty.slice (Ty.int .u64)).is O w s1 x.bc:=by
 constructor
 ·rintro ⟨cs,⟨_,_,rfl,rfl,c⟩,rfl⟩;obtain⟨a,rfl,b⟩:=FO rfl c;exact⟨a,rfl,b⟩
 ·rintro ⟨a,rfl,b⟩;exact⟨[.int .u64 x.aa,a],⟨[.int .u64 x.aa],[a],rfl,rfl,(l5 rfl b)⟩,rfl⟩
theorem h8 {O:Γ} {w:World} {v:Value} {x:aO}:fW.is O w v x↔ ∃s0 s1,v= .agg #[s0,s1]/\(Ty.slice dW).is O w s0 x.ax/\(Ty.slice iW).is O w s1 x.au:=by
 constructor
 ·rintro ⟨cs,⟨_,_,rfl,d,e⟩,rfl⟩;obtain⟨a,rfl,b⟩:=FO rfl d;obtain⟨z2,rfl,c⟩:=FO rfl e;exact⟨a,z2,rfl,b,c⟩
 ·rintro ⟨a,z2,rfl,b,c⟩;exact⟨[a,z2],⟨[a],[z2],rfl,(l5 rfl b),(l5 rfl c)⟩,rfl⟩
theorem aew {O:Γ} {w:World} {cs:Γb} {x:aw} (h:dW.rep O w cs x):cs=[.int .u64 x.bb,.int .u64 x.aa]:=by
 obtain⟨_,_,rfl,rfl,rfl⟩:=h;exact rfl
noncomputable def vz:Pl:=⟨λ_=>none,none⟩
noncomputable def Dz (sh:Sh) (x:aO):Option Int:=jA sh x
theorem ZJ {O:Γ} {w:World} (hO:OB O w) (c:cI KK O w) {v0:Value} {x0:aO} (a:fW.is O w v0 x0) {r:Int} (h:Dz shut x0=some r):Calls η 63 #[v0] w (gu (og (Ty.int .i64)) O w r):=by
 have d:eC KK η 63 [KK.a1 58 x0] (.ret (.s (KK.a1 27 r))):=wq (G:=xj) He (kf:=λ{R} (k:Rs SS->Option R)=>(λr=>k (.ret (.s (KK.a1 27 r))))) (λk=>PL x0 k) rfl (pX h) λk=>rfl;refine(d.2 vz O w [v0] ⟨v0,[],rfl,hM du (t:=58) rfl rfl a,rfl⟩ hO c).mono ?_;rintro e w' ⟨⟨v,rfl,h1,_⟩,b⟩;cases h1;exact⟨_,rfl,dx.2 rfl,b⟩
noncomputable def kv (p:Int):Bool:=bif decide (p>=1) then decide (p<4294967296) else false
theorem Z7 (p:Int):(mK shut p).val=some (kv p):=by
 unfold mK kv;cases h:decide (p>=1)<;>simp
theorem ZP {O:Γ} {w:World} (hO:OB O w) (c:cI KK O w) {v0:Value} {x0:Int} (a:(Ty.int .u64).is O w v0 x0):Calls η 107 #[v0] w (gu (og Ty.bool) O w (kv x0)):=by
 have d:eC KK η 107 [KK.a1 35 x0] (.ret (.s (KK.a1 4 (kv x0)))):=wq (G:=r0 shut) (ak.all y0 rfl) (kf:=λ{R} (k:Rs SS->Option R)=>(λr=>k (.ret (.s (KK.a1 4 r))))) (λk=>PK x0 k) rfl (Z7 x0) λk=>rfl;refine(d.2 vz O w [v0] ⟨v0,[],rfl,hM du (t:=35) rfl rfl a,rfl⟩ hO c).mono ?_;rintro e w' ⟨⟨v,rfl,h1,_⟩,b⟩;cases h1;exact⟨_,rfl,ji.2 rfl,b⟩
noncomputable def DB (sh:Sh) (l:List aq) (pid:Int):Option (Int×Bool):=Cx sh l pid
theorem ZO {O:Γ} {w:World} (hO:OB O w) (i:cI KK O w) {v0:Value} {x0:List aq} (c:(Ty.slice iW).is O w v0 x0) {pid:Int} {r:Int×Bool} (h:DB shut x0 pid=some r):Calls η 291 #[v0,.int .u64 pid,.func (.func 292) #[] #[]] w (gu (Om (Ty.int .i64) Ty.bool) O w r):=by
 refine((VV x0 pid h).2 vz O w [v0,.int .u64 pid,.func (.func 292) #[] #[]] ⟨v0,_,rfl,hM du (t:=56) rfl rfl c,_,_,rfl,⟨rfl,rfl⟩,_,_,rfl,⟨rfl,rfl⟩,rfl⟩ hO i).mono ?_;rintro e w' ⟨⟨v,rfl,xs,rfl,a,_,rfl,⟨h1,_⟩,b,_,rfl,⟨d,_⟩,f⟩,g⟩;cases h1;cases d;rw[show _=[] from f];exact⟨_,rfl,⟨_,_,rfl,dx.2 rfl,ji.2 rfl⟩,g⟩
noncomputable def FK (x:Γa):Option (Γa):=app 8 [] x
theorem adW {O:Γ} {w:World} (hO:OB O w) (_:w.heap.size<=w.heap.size) {v0:Value} {x0:Γa} (a:(Ty.slice (Ty.int .u64)).is O w v0 x0) {r:Γa} (h:FK x0=some r):Calls η 80 #[v0] w (eK (Ty.int .u64) 35 w.heap.size O w (.slice none 0 0) r):=kg.2.2.2.2.1 hO a h
noncomputable def FL (x:List aw):Option (List aw):=app 16 [] x
theorem adV {O:Γ} {w:World} (hO:OB O w) (_:w.heap.size<=w.heap.size) {v0:Value} {x0:List aw} (a:(Ty.slice dW).is O w v0 x0) {r:List aw} (h:FL x0=some r):Calls η 79 #[v0] w (eK dW 127 w.heap.size O w (.slice none 0 0) r):=kg.2.2.2.1 hO a h
abbrev TR:Ty (Int×Value):=kN .u64
abbrev TW:Ty Int:=Ty.int .u64
theorem gR:TW.Flat:=λh=>h
noncomputable def bx (z:aq):Int×Γa:=(z.aa,z.bc)
structure e8 (B:Nat) (O:Γ) (w:World) (b:Nat) (nv rv:Value) (S:Γ) (aB:Γd) (x:aO):Prop where
 mem:b∈O
 ge:B<=b
 bG:bE w b 262 [nv,rv]
 ns:Go.Dc.Own dW 127 B O w nv x.ax
 row:Go.Dc.Own TR 132 B O w rv aB
 fo:c5 TW 35 B w S aB (x.au.map bx)
 nd:S.Nodup
 out: ∀g∈S,g∉O
 nb:nv.ownBlock≠some b
 rb:rv.ownBlock≠some b
 dj:Dj nv rv
noncomputable def j5 (B:Nat) (O:Γ) (w:World) (b:Nat) (x:aO):Prop:= ∃nv rv S aB,e8 B O w b nv rv S aB x
structure bH (B:Nat) (O:Γ) (w:World) (O':Γ) (w':World):Prop where
 tr:Tr O w O' w'
 ob:OB O' w'
 sub:Sub O O'
 below: ∀k,k<B->w'.heap[k]? =w.heap[k]?
theorem bH.refl {B:Nat} {O:Γ} {w:World} (h:OB O w):bH B O w O w:=⟨Tr.refl _ _,h,Sub.refl _,λ_ _=>rfl⟩
theorem bH.trans {B:Nat} {O O' a:Γ} {w w' b8:World} (h:bH B O w O' w') (k:bH B O' w' a b8):bH B O w a b8:=
 ⟨h.tr.trans k.tr,k.ob,h.sub.trans k.sub,λi hi=>(k.below i hi).trans (h.below i hi)⟩
theorem bH.fr {O O':Γ} {w w':World} (h:bH w.heap.size O w O' w'):Fr [] w w':=⟨h.tr.os,h.tr.tape,h.tr.output,h.tr.size,λk hk _=>h.below k hk⟩
theorem bH.nR {B:Nat} {O:Γ} {w w':World} (hO:OB O w) (a:B<=w.heap.size) (h:Fr [] w w'):bH B O w O w':=
 ⟨h.dX,h.ob hO,Sub.refl _,λk hk=>h.block k (ζ hk a) (by simp)⟩
theorem bH.iP {B:Nat} {O:Γ} {w w':World} {b t:Nat} {cs:Γb} (a:B<=w.heap.size) (h:j7 O w b t cs w'):bH B O w (b::O) w':=
 ⟨h.tr,h.ob,Sub.cons (Sub.refl _) _,λk hk=>h.fr.block k (ζ hk a) (by simp)⟩
theorem bH.EB {α:Type} {T:Ty α} {e B:Nat} {O O':Γ} {w w':World} {v c:Value} {xs zs:List α} (a:B<=w.heap.size) (b:Go.Dc.Own T e B O w v xs) (h:dn T e B O w v zs O' w' c):bH B O w O' w':=
 ⟨h.tr,h.ob,h.sub,λk hk=>h.fr k (ζ hk a) λe=>by have:=(b.lt k e).1;omega⟩
theorem bH.gp {B b:Nat} {O:Γ} {w w':World} (hO:OB O w) (a:b∈O) (c:B<=b) (h:Fr [b] w w'):bH B O w O w':=
 ⟨h.tr (gJ a),h.ob hO,Sub.refl _,λk hk=>h.block k (by have:=hO b a;omega) (by simp;omega)⟩
theorem bH.aaU {α:Type} {T:Ty α} {e B:Nat} {O:Γ} {w w':World} {v:Value} {xs:List α} (hO:OB O w) (b:B<=w.heap.size) (a:c0 T e w.heap.size w' v xs) (h:Fr [] w w'):bH B O w (v.ownBlock.toList++O) w':=
 ⟨⟨h.os,h.tape,h.output,h.size,λk hk c=>⟨λhm=>by
  rcases ξA.1 hm with hm|hm
  ·have:=(a.lt k (by simpa using hm)).1;omega
  ·exact c hm,h.block k hk (by simp)⟩⟩,λk hk=>by
  rcases ξA.1 hk with hk|hk
  ·exact(a.lt k (by simpa using hk)).2
  ·exact ζ (hO k hk) h.size,λk hk=>ξm _ hk,λk hk=>h.block k (ζ hk b) (by simp)⟩
section
variable {B:Nat} {O O':Γ} {w w' b8:World} {b:Nat} {nv rv:Value} {S:Γ} {aB:Γd} {x:aO}
theorem e8.cc (h:e8 B O w b nv rv S aB x) (a:Fr [] w w'):e8 B O w' b nv rv S aB x:=
 ⟨h.mem,h.ge,h.bG.cc a,h.ns.cc a,h.row.cc a,h.fo.cc gR a,h.nd,h.out,h.nb,h.rb,h.dj⟩
theorem e8.new (h:e8 B O w b nv rv S aB x) {a t:Nat} {cs:Γb} (hn:j7 O w a t cs w'):e8 B (a::O) w' b nv rv S aB x:=
 ⟨ξ4 _ h.mem,h.ge,h.bG.cc hn.fr,h.ns.new hn,h.row.new hn,h.fo.cc gR hn.fr,h.nd,λg c hm=>by
  rcases ξB.1 hm with rfl|hm
  ·have:=(h.fo.lt g c).2;have:=hn.ge;omega
  ·exact h.out g c hm,h.nb,h.rb,h.dj⟩
theorem e8.st (h:e8 B O w b nv rv S aB x) {a:Nat} (d:a∈O) (c:Fr [a] w w') (h1:a≠b) (i:nv.ownBlock≠some a) (j:rv.ownBlock≠some a):e8 B O w' b nv rv S aB x:=
 ⟨h.mem,h.ge,h.bG.fr c (by simp;exact λe=>h1 e.symm),h.ns.st c d i,h.row.st c d j,h.fo.keep gR λg f=>c.block g (h.fo.lt g f).2 (by simp;rintro rfl;exact h.out _ f d),h.nd,h.out,h.nb,h.rb,h.dj⟩
theorem dn.later {α:Type} {T:Ty α} {e B:Nat} {O O':Γ} {w w2 b:World} {v a:Value} {zs:List α} (ap:dn T e B O w v zs O' w2 a) (f:Fr [] w2 b):dn T e B O w v zs O' b a:=
 ⟨ap.own.cc f,ap.tr.trans f.dX,f.ob ap.ob,ap.sub,λk hk c=>(f.block k (ζ hk ap.tr.size) (by simp)).trans (ap.fr k hk c),ap.ne⟩
theorem e8.boxes (h:e8 B O w b nv rv S aB x) {i:Value} {S':Γ} {f:Γd} {x':aO} (ap:dn TR 132 B O w rv f O' w' i) (k:bE b8 b 262 [nv,i]) (d:Fr [b] w' b8)
  (c:c5 TW 35 B w S' f (x'.au.map bx)) (l:S'.Nodup) (e: ∀g∈S',g∉O) (hn:x'.ax=x.ax):e8 B O' b8 b nv i S' f x':=by
 have hm:=ap.sub _ h.mem;have j:=ap.ne _ h.bG.lt h.rb;have m:=ap.other h.ns λg a=>h.dj g a;refine⟨hm,h.ge,k,by rw[hn];exact m.st d hm h.nb,ap.own.st d hm j,?_,l,λg a=>(ap.tr.keep g (c.lt g a).2 (e g a)).1,h.nb,j,λg a=>ap.ne _ (h.ns.lt g a).2 (h.dj g a)⟩;refine c.keep gR λg a=>?_;have h1:=(ap.tr.keep g (c.lt g a).2 (e g a)).2;rw[d.block g (ζ (c.lt g a).2 ap.tr.size) (by simp;rintro rfl;exact e _ a h.mem),h1]
end
noncomputable def ny:List aq->List aq->Option (List aq)
 |[],acc=>some acc
 |z::r,acc=>(FK z.bc).bind λws=>(app 32 acc [aq.mk z.aa ws]).bind λa=>ny r a
noncomputable def qa (fuel:Sh) (x:aO):Option (aO×Int):=(Dz fuel x).bind λe=>bif (!(e==0)) then some (aO.mk [] [],e) else(FL x.ax).bind λns=>(ny x.au []).bind λbs=>some (aO.mk ns bs,0)
noncomputable def S2 (O:Γ) (w:World) (r:aO×Int) (c:Ending) (w':World):Prop:= ∃a O',c= .returned (.tuple #[a,.int .i64 r.2])/\bH w.heap.size O w O' w'/\(r.2=0-> ∃b,a= .pointer (some ⟨b,0,none⟩)/\j5 w.heap.size O' w' b r.1)
theorem ID {aB:Γd} {acc a:List aq} {z:aq} {p:Int×Value} (hl:aB.length=acc.length) (h:app 32 acc [z]=some a):app 32 aB [p]=some (aB++[p])/\a=acc++[z]:=by
 obtain⟨h1,b⟩:=s7 h;refine⟨?_,b⟩;unfold app;rw[if_pos (by rw[hl];exact h1)]
noncomputable def SP.UY (p:Int) (B:Nat) (ws:Γa):SP:=⟨λw u=> ∃v,u= .agg #[.int .u64 p,v]/\c0 TW 35 B w v ws,λa ⟨v,h,k⟩=>⟨v,h,k.cc gR a⟩⟩
noncomputable def SP.UU (p:Int) (B:Nat) (O:Γ) (ws:Γa):SP:=⟨λw u=> ∃v,TR.slice.is O w u [(p,v)]/\c0 TW 35 B w v ws,λa ⟨v,h,k⟩=>⟨v,h.tr a.dX,k.cc gR a⟩⟩
theorem Y2 {O:Γ} {w1 w:World} {v:Value} {ws:Γa} (h:c0 TW 35 w1.heap.size w v ws) (hO:OB O w1): ∀g,v.ownBlock=some g->g∉O:=λg a hm=>by
 have:=(h.lt g a).1;have:=hO g hm;omega
set_option maxRecDepth 100000 in
set_option maxHeartbeats 4000000 in
theorem ZQ {O:Γ} {w:World} (hO:OB O w) (aQ:cI KK [] w) {v0:Value} {x0:aO} (af:fW.is [] w v0 x0) {r:aO×Int} (h:qa shut x0=some r):Calls η 219 #[v0] w (S2 O w r):=by
 obtain⟨R,U,rfl,aN,ay⟩:=h8.1 af;have aC:bH w.heap.size O w O w:=bH.refl hO;refine gA (args:=[(.agg #[R,U])]) (N:=45) ζb rfl rfl rfl ?_;unfold qa at h;refine aP (a7 (l:=[0,1,2]) rfl (mm rfl rfl rfl rfl rfl rfl [R,U] rfl hO (λs w1 n1=>?_)));have x:=n1.bG;have ab:=aC.trans (bH.iP aC.tr.size n1);refine aG ai [1,2] [(1,(.pointer (some ⟨s,0,none⟩)))] rfl ⟨rfl,trivial⟩ (aY (aR (aP (aP (a7 (l:=[0,1,2]) rfl (dQ ai rfl rfl rfl rfl rfl rfl rfl x [R,U] rfl rfl (.inl rfl) (.agg #[R,U]) rfl ?_))))));obtain⟨e,he,h⟩:=bind_some h;refine w_ rfl rfl rfl rfl rfl Yv rfl (ZJ (qo _) (aQ.tr ab.fr.dX) (af.tr ab.fr.dX) he) (λv2 w2 g2 f2=>?_);obtain rfl:=dx.1 g2;have J:=ab.trans (bH.nR ab.ob ab.tr.size f2);have x:=x.cc f2;refine aG ai [2] [(1,(.pointer (some ⟨s,0,none⟩))),(4,.int .i64 e)] rfl ⟨rfl,rfl,trivial⟩ (aY (aR (aP (a7 (l:=[0,1]) rfl (aG ai [0,1] [(1,(.pointer (some ⟨s,0,none⟩))),(4,.int .i64 e),(11,.bool (!(e==0)))] rfl ⟨rfl,rfl,rfl,trivial⟩ (aY (aR ?_)))))));rcases iq h with⟨A,h⟩|⟨A,h⟩
 ·refine fz rfl A (aP (a7 (l:=[0,1,2]) rfl (aG ai [0,1,2] [(2,(.pointer none)),(3,.int .i64 e)] rfl ⟨rfl,rfl,trivial⟩ (aY (aR (dC ?_))))));cases h;exact fA (eU rfl ⟨_,_,rfl,J,λaf=>by simp at A;exact absurd af A⟩)
 refine fJ rfl A (eB (aR (aP (a7 (l:=[0,1,2,3,4,5,6]) rfl (aG ai [0] [(1,(.pointer (some ⟨s,0,none⟩))),(13,(.pointer (some ⟨s,0,none⟩)))] rfl ⟨rfl,rfl,trivial⟩ (dQ ai rfl rfl rfl rfl rfl rfl rfl x [R] rfl rfl (.inr rfl) R rfl ?_))))));obtain⟨ns,a_,h⟩:=bind_some h;refine i' rfl rfl rfl rfl rfl Yw rfl (adV (qo _) (ξa _) (aN.tr J.fr.dX) a_) (λ_ av n=>?_);obtain⟨nv,rfl,M,f3⟩:=Ka rfl n;refine⟨_,rfl,?_⟩;have ah:=J.trans (bH.aaU J.ob J.tr.size M f3);have M:=M.less J.tr.size;obtain⟨al,ao,rfl,bq,bw⟩:=M.form;refine aG ai [3,4] [(1,(.pointer (some ⟨s,0,none⟩))),(17,.agg #[(.slice al ns.length ao),.slice none 0 0])] rfl ⟨rfl,rfl,trivial⟩ ?_;have x:=x.cc f3;refine mm rfl rfl rfl rfl rfl rfl [(.slice al ns.length ao),.slice none 0 0] rfl ah.ob (λb bk Q=>?_);generalize bA:(ηm al ns.length ao)=nv at*
 have hH:e8 w.heap.size (b::(nv.ownBlock.toList++(s::O))) bk b nv (.slice none 0 0) [] [] (aO.mk ns []):=
  ⟨τ,μ ah.tr.size Q.ge,Q.bG,(M.own (λh=>h) λg n=>ξN _ (by rw[n];simp)).new Q,Own.iN,rfl,List.nodup_nil,λg n=>(by cases n),λe=>by
   have:=(M.lt b e).2;have:=Q.ge;omega,(aaK _),(V0 _)⟩
 have aU:=ah.trans (bH.iP ah.tr.size Q);have x:=x.cc Q.fr;refine aG ai [6] [(1,(.pointer (some ⟨s,0,none⟩))),(5,(.pointer (some ⟨b,0,none⟩)))] rfl ⟨rfl,rfl,trivial⟩ (aY (aR (aP (aP (a7 (l:=[0,1,2,3]) rfl (aG ai [0] [(5,(.pointer (some ⟨b,0,none⟩))),(19,(.pointer (some ⟨s,1,none⟩)))] rfl ⟨rfl,rfl,trivial⟩ (dQ ai rfl rfl rfl rfl rfl rfl rfl x [U] rfl rfl (.inr rfl) U rfl ?_)))))));obtain⟨B,C,rfl,a6,a8⟩:=eS ay;refine aG ai [2,3] [(5,(.pointer (some ⟨b,0,none⟩))),(20,.slice B x0.au.length C),(21,.int .i64 (x0.au.length:Int)),(22,.int .i64 ((0:Nat):Int))] rfl ⟨rfl,rfl,rfl,rfl,trivial⟩ (aY (aR ?_));obtain⟨bs,y,h⟩:=bind_some h;refine ml ?_;refine Gg (λm E W=> ∃(rest:List aq) (i:Nat) (O':Γ) (acc:List aq) (rv:Value) (S:Γ) (aB:Γd),rest.length=m/\x0.au.drop i=rest/\E=[(5,(.pointer (some ⟨b,0,none⟩))),(20,.slice B x0.au.length C),(21,.int .i64 (x0.au.length:Int)),(22,.int .i64 (i:Int))]/\bH w.heap.size O w O' W/\e8 w.heap.size O' W b nv rv S aB (aO.mk ns acc)/\ny rest acc=some bs) _
  [(5,(.pointer (some ⟨b,0,none⟩))),(20,.slice B x0.au.length C),(21,.int .i64 (x0.au.length:Int)),(22,.int .i64 ((0:Nat):Int))] ⟨rfl,rfl,rfl,rfl,trivial⟩ ⟨x0.au,0,_,[],_,[],[],rfl,rfl,rfl,aU,hH,y⟩ ?_
 rintro m E W ⟨rest,i,an,acc,rv,S,aB,rfl,ak,rfl,K,hH,y⟩;rcases rest with _|⟨z,rest⟩
 ·have hl:=drop_nil ak;have A:(decide ((i:Int)<(x0.au.length:Int)))=false:=decide_eq_false (by omega);refine aP (a7 (l:=[0]) rfl (aG ai [0] [(5,(.pointer (some ⟨b,0,none⟩))),(23,.bool (decide ((i:Int)<(x0.au.length:Int))))] rfl ⟨rfl,rfl,trivial⟩ (aY (aR (aP (fJ rfl A (Gf (oz (oz (Gq (aR ?_)))))))))));refine aP (a7 (l:=[0,1,2]) rfl (aG ai [0,1,2] [(2,(.pointer (some ⟨b,0,none⟩))),(3,.int .i64 0)] rfl ⟨rfl,rfl,trivial⟩ (aY (aR (dC ?_)))));cases y;cases h;exact eU rfl ⟨_,_,rfl,K,λ_=>⟨b,rfl,_,_,_,_,hH⟩⟩
 obtain⟨hl,n,ak⟩:=drop_cons ak;have A:(decide ((i:Int)<(x0.au.length:Int)))=true:=decide_eq_true (by omega);refine aP (a7 (l:=[0]) rfl (aG ai [0] [(5,(.pointer (some ⟨b,0,none⟩))),(20,.slice B x0.au.length C),(21,.int .i64 (x0.au.length:Int)),(22,.int .i64 (i:Int)),(23,.bool (decide ((i:Int)<(x0.au.length:Int))))] rfl ⟨rfl,rfl,rfl,rfl,rfl,trivial⟩ (aY (aR (aP (fz rfl A (eB (aR (aP (ml (aP (a7 (l:=[0,1,2,3]) rfl (Gp ai rfl rfl rfl rfl rfl rfl rfl rfl rfl rfl ay rfl (ζq _) (by rw[ι];exact n) (λbB ba=>?_))))))))))))));refine Qu ai rfl rfl rfl rfl rfl rfl rfl ba K.fr rfl rfl (λv6 bf=>?_);obtain⟨bD,rfl,aK⟩:=aeu.1 bf;obtain⟨G,H,rfl,bt,bz⟩:=eS aK;refine q0 ai rfl rfl rfl rfl rfl rfl [(.int .u64 0),(.slice none 0 0)] rfl K.ob (λq bJ n7=>?_);have aA:=hH.new n7;have ar:=K.trans (bH.iP K.tr.size n7);have bh:q≠b:=by have:=hH.bG.lt;have:=n7.ge;omega
 have bb:=hH.ns.MC n7;have bd:=hH.row.MC n7;refine eT ai rfl rfl rfl rfl rfl rfl rfl n7.bG [(.int .u64 z.aa),(.slice G z.bc.length H)] rfl rfl (by simp[υ]) rfl [(.int .u64 z.aa),(.slice G z.bc.length H)] rfl (λF aI f8=>?_);have I:=aA.st τ f8 bh bb bd;have L:=ar.trans (bH.gp ar.ob τ (μ K.tr.size n7.ge) f8);clear aA ar;refine aY (aR ?_);rw[ny] at y;obtain⟨ws,bg,y⟩:=bind_some y;obtain⟨bl,aF,y⟩:=bind_some y;obtain⟨X,Z,rfl,br,bx⟩:=I.row.form;have ag:=L.ob;have hlen:aB.length=acc.length:=by have:=I.fo.len;simpa using this
 refine afe mixed [⟨26,[],[5]⟩,⟨27,[],[5]⟩,⟨28,[1],[]⟩,⟨29,[2],[]⟩,⟨30,[3],[]⟩,⟨31,[4],[]⟩,⟨32,[],[7]⟩,⟨33,[6],[]⟩,⟨34,[],[7]⟩,⟨35,[8],[]⟩,⟨36,[9],[]⟩,⟨37,[7,10],[]⟩,⟨38,[11],[]⟩]
  [SP.eq (.pointer (some ⟨b,0,none⟩)),SP.eq (.pointer (some ⟨b,0,none⟩)),SP.eq (.pointer (some ⟨b,0,none⟩)),SP.eq (.pointer (some ⟨b,0,none⟩)),SP.eq (.pointer (some ⟨b,1,none⟩)),SP.eq (.slice X aB.length Z),SP.eq (.pointer (some ⟨q,0,none⟩)),SP.eq (.int .u64 z.aa),SP.eq (.pointer (some ⟨q,1,none⟩)),SP.eq (.slice G z.bc.length H),SP.iC TW gR 35 F.heap.size ws,SP.UY z.aa F.heap.size ws,SP.UU z.aa F.heap.size (q::an) ws] [some (.pointer (some ⟨b,0,none⟩)),none,none,none,none,none,none,none,none,none,none,none,none] 39 [5,12] [1,2,3,4,5,6,7,8,9,10,11,12] (λw1 w2 u=> ∃o O',c0 TW 35 F.heap.size w1 o ws/\dn TR 132 w.heap.size (q::an) w1 (.slice X aB.length Z) (aB++[(z.aa,o)]) O' w2 u) rfl rfl rfl rfl rfl rfl ⟨λ_ _ h=>h,trivial⟩ ⟨?_,?_,?_,?_,?_,?_,?_,?_,?_,?_,?_,?_,?_,trivial⟩ ?_ ⟨?_,rfl,rfl,rfl,rfl,rfl,rfl,rfl,rfl,rfl,rfl,rfl,rfl,trivial⟩ ?_
 ·intro a w2 j c d k f;exact cZ ai ⟨c,d,b0 (E:=[(5,(.pointer (some ⟨b,0,none⟩)))]) ⟨k 5 rfl _ rfl,trivial⟩⟩ rfl rfl rfl rfl rfl
 ·intro a w2 j c d k f;exact cZ ai ⟨c,d,b0 (E:=[(5,(.pointer (some ⟨b,0,none⟩)))]) ⟨k 5 rfl _ rfl,trivial⟩⟩ rfl rfl rfl rfl rfl
 ·intro a w2 j c d k f;exact cZ ai ⟨c,d,b0 (E:=[(27,(.pointer (some ⟨b,0,none⟩)))]) ⟨(f 1 rfl _ _ rfl rfl),trivial⟩⟩ rfl rfl rfl rfl rfl
 ·intro a w2 j c d k f;exact cZ ai ⟨c,d,b0 (E:=[(28,(.pointer (some ⟨b,0,none⟩)))]) ⟨(f 2 rfl _ _ rfl rfl),trivial⟩⟩ rfl rfl rfl rfl rfl
 ·intro a w2 j c d k f;exact cZ ai ⟨c,d,b0 (E:=[(29,(.pointer (some ⟨b,0,none⟩)))]) ⟨(f 3 rfl _ _ rfl rfl),trivial⟩⟩ rfl rfl rfl rfl rfl
 ·intro a w2 j c d k f;exact nU ai ⟨c,d,b0 (E:=[(30,(.pointer (some ⟨b,1,none⟩)))]) ⟨(f 4 rfl _ _ rfl rfl),trivial⟩⟩ rfl rfl rfl rfl rfl rfl (I.bG.cc j) [(.slice X aB.length Z)] rfl rfl (.inr rfl) (.slice X aB.length Z) rfl
 ·intro a w2 j c d k f;exact cZ ai ⟨c,d,b0 (E:=[(7,(.pointer (some ⟨q,0,none⟩)))]) ⟨k 7 rfl _ rfl,trivial⟩⟩ rfl rfl rfl rfl rfl
 ·intro a w2 j c d k f;exact nU ai ⟨c,d,b0 (E:=[(32,(.pointer (some ⟨q,0,none⟩)))]) ⟨(f 6 rfl _ _ rfl rfl),trivial⟩⟩ rfl rfl rfl rfl rfl rfl (aI.cc j) [(.int .u64 z.aa)] rfl rfl (.inr rfl) (.int .u64 z.aa) rfl
 ·intro a w2 j c d k f;exact cZ ai ⟨c,d,b0 (E:=[(7,(.pointer (some ⟨q,0,none⟩)))]) ⟨k 7 rfl _ rfl,trivial⟩⟩ rfl rfl rfl rfl rfl
 ·intro a w2 j c d k f;exact nU ai ⟨c,d,b0 (E:=[(34,(.pointer (some ⟨q,1,none⟩)))]) ⟨(f 8 rfl _ _ rfl rfl),trivial⟩⟩ rfl rfl rfl rfl rfl rfl (aI.cc j) [(.slice G z.bc.length H)] rfl rfl (.inr rfl) (.slice G z.bc.length H) rfl
 ·intro a w2 j c d k f;exact(aa9 (O:=[]) ⟨c,d,b0 (E:=[(35,(.slice G z.bc.length H))]) ⟨(f 9 rfl _ _ rfl rfl),trivial⟩⟩ rfl rfl rfl rfl Yx rfl ((adW (qo _) (ξa _) (aK.tr (L.fr.trans j).dX) bg).mono λ_ _ aZ=>Ka rfl aZ)).weaken (λu av ⟨hu,D⟩=>⟨hu.less j.size,D⟩)
 ·intro a w2 j c d k f;have d88:c0 TW 35 F.heap.size w2 (a.tmps.getD 36 undef) ws:=f 10 rfl _ _ rfl rfl;obtain⟨u,ax⟩: ∃v,a.tmps.getD 36 undef=v:=⟨_,rfl⟩;rw[ax] at d88;obtain⟨V,Y,rfl,_,_⟩:=d88.form;exact(cZ ai ⟨c,d,b0 (E:=[(33,(.int .u64 z.aa)),(36,(.slice V ws.length Y))]) ⟨(f 7 rfl _ _ rfl rfl),ax,trivial⟩⟩ rfl rfl rfl rfl rfl).weaken (λu av ⟨hu,D⟩=>by subst hu;exact⟨⟨_,rfl,d88.cc gR D⟩,D⟩)
 ·intro a w2 j c d k f;have d96: ∃v,(a.tmps.getD 37 undef)= .agg #[.int .u64 z.aa,v]/\c0 TW 35 F.heap.size w2 v ws:=f 11 rfl _ _ rfl rfl;obtain⟨bC,aM,az⟩:=d96;obtain⟨V,Y,rfl,_,_⟩:=az.form;exact(aba ai ⟨c,d,b0 (E:=[(37,(.agg #[(.int .u64 z.aa),(.slice V ws.length Y)]))]) ⟨aM,trivial⟩⟩ rfl rfl rfl rfl rfl rfl rfl rfl rfl (T:=TR) (xs:=[(z.aa,(.slice V ws.length Y))]) (vs:=[(.agg #[(.int .u64 z.aa),(.slice V ws.length Y)])]) rfl ⟨⟨_,⟨rfl,_,_,_,rfl⟩,rfl⟩,trivial⟩ rfl rfl rfl (j.ob ag)).weaken (λu av ⟨hu,D⟩=>⟨⟨_,hu,az.cc gR D⟩,D⟩)
 ·intro a w2 j c d f;obtain⟨o,aJ,P⟩: ∃v,TR.slice.is (q::an) w2 (a.tmps.getD 38 undef) [(z.aa,v)]/\c0 TW 35 F.heap.size w2 v ws:=f 12 rfl _ _ rfl rfl;obtain⟨bj,aw⟩: ∃v,a.tmps.getD 38 undef=v:=⟨_,rfl⟩;rw[aw] at aJ;obtain⟨aH,_⟩:=ID (p:=(z.aa,o)) hlen aF;exact eM.weaken (aa8 ai ⟨c,d,b0 (E:=[(31,(.slice X aB.length Z)),(38,bj)]) ⟨f 5 rfl _ _ rfl rfl,aw,trivial⟩⟩ rfl rfl rfl rfl rfl rfl rfl rfl rfl rfl rfl rfl rfl rfl rfl (L.fr.trans j) (j.ob ag) (I.row.cc j) aJ aH) (λ_ _ ⟨O',h⟩=>⟨o,O',P,h⟩)
 ·rintro w1 w2 u bo ⟨o,O',P,ap⟩ a w' j c d k;exact cZ ai ⟨c,d,b0 (E:=[(5,(.pointer (some ⟨b,0,none⟩)))]) ⟨k 5 rfl _ rfl,trivial⟩⟩ rfl rfl rfl rfl rfl
 rintro w9 bE u a bF f9 ⟨o,aL,P,ap⟩ f10 c d aj a1 hu;have ap:=dn.later ap f10;have t:=I.cc f9;have aE:=L.trans (bH.nR ag L.tr.size f9);obtain⟨aH,rfl⟩:=ID (p:=(z.aa,o)) hlen aF;have aD:=aE.trans (bH.EB aE.tr.size t.row ap);obtain⟨ad,ae,rfl,bp,bu⟩:=ap.own.form;refine q2 (E:=[(5,(.pointer (some ⟨b,0,none⟩))),(20,.slice B x0.au.length C),(21,.int .i64 (x0.au.length:Int)),(22,.int .i64 (i:Int)),(26,(.pointer (some ⟨b,0,none⟩))),(39,(.slice ad (aB++[(z.aa,o)]).length ae))]) (l:=[14,15,16,17]) c d ⟨aj 5 _ rfl rfl,aj 20 _ rfl rfl,aj 21 _ rfl rfl,aj 22 _ rfl rfl,(a1 0 _ _ rfl rfl),hu,trivial⟩ rfl (aG ai [14,15,16] [(5,(.pointer (some ⟨b,0,none⟩))),(20,.slice B x0.au.length C),(21,.int .i64 (x0.au.length:Int)),(22,.int .i64 (i:Int)),(39,(.slice ad (aB++[(z.aa,o)]).length ae)),(42,(.pointer (some ⟨b,1,none⟩)))] rfl ⟨rfl,rfl,rfl,rfl,rfl,rfl,trivial⟩ ?_);have aV:=ap.bG t.bG t.rb;refine eT ai rfl rfl rfl rfl rfl rfl rfl aV [(.slice ad (aB++[(z.aa,o)]).length ae)] rfl rfl (by simp[υ]) rfl [nv,(.slice ad (aB++[(z.aa,o)]).length ae)] rfl (λbI aW f11=>?_);have aT:=aD.trans (bH.gp aD.ob (ap.sub _ t.mem) t.ge f11);have a':=Y2 P ag;have aS:=t.boxes (x':=aO.mk ns (acc++[aq.mk z.aa ws])) (S':=S++(o.ownBlock.toList++[])) ap aW f11
  (by rw[ξC];exact t.fo.app ⟨[],rfl,rfl,P.less (μ L.tr.size (ξa _)),rfl⟩)
  (by
   rw[ζd];refine ζ1.2 ⟨t.nd,by cases o.ownBlock<;>simp,λg n bm aX e=>?_⟩;subst e;have h1:=(I.fo.lt _ n).2;have bn:=(P.lt g (by simpa using aX)).1;omega)
  (λg n=>by
   rcases ξA.1 n with n|n
   ·exact t.out g n
   ·exact a' g (by simpa using n)) rfl
 refine aY (q4 (aR ?_));refine a7 (l:=[0,1]) rfl (aG ai [0,1] [(5,(.pointer (some ⟨b,0,none⟩))),(20,.slice B x0.au.length C),(21,.int .i64 (x0.au.length:Int)),(22,(.int .i64 (γ.wrap ((i:Int)+(1:Int)))))] rfl ⟨rfl,rfl,rfl,rfl,trivial⟩ (aY ?_));exact xb rest.length [(5,(.pointer (some ⟨b,0,none⟩))),(20,.slice B x0.au.length C),(21,.int .i64 (x0.au.length:Int)),(22,(.int .i64 ((i+1:Nat):Int)))] (ζa _) ⟨rfl,rfl,rfl,congrArg (λz=>some (ζJ .i64 z)) (mn hl (μ a6 a8)),trivial⟩ ⟨rest,i+1,aL,_,_,_,_,rfl,ak,rfl,aT,aS,y⟩
noncomputable def pc (L:List (Value×Value)):Γb:=L.flatMap λp=>[p.1,p.2]
theorem fu: ∀(L:List (Value×Value)),(pc L).length=L.length*2
 |[]=>rfl
 |_::r=>by have:=fu r;unfold pc at this ⊢;simp[this];omega
theorem EP (L M:List (Value×Value)):pc (L++M)=pc L++pc M:=by simp[pc]
theorem vS: ∀(L:List (Value×Value)) (k:Nat),(pc L).take (k*2)=pc (L.take k)
 |[],k=>by simp[pc]
 |x::r,0=>by simp[pc]
 |x::r,k+1=>by
  have:=vS r k;show([x.1,x.2]++pc r).take ((k+1)*2)=[x.1,x.2]++pc (r.take k);rw[show(k+1)*2=2+k*2 by omega,List.take_append,<-this,ξD (by simp)];simp
theorem vR: ∀(L:List (Value×Value)) (k:Nat),(pc L).drop (k*2)=pc (L.drop k)
 |[],k=>by simp[pc]
 |x::r,0=>by simp
 |x::r,k+1=>by
  have:=vR r k;show([x.1,x.2]++pc r).drop ((k+1)*2)=pc (r.drop k);rw[show(k+1)*2=2+k*2 by omega,List.drop_append,<-this];simp
theorem abF {L:List (Value×Value)} {R:Γb} {k:Nat} {x:Value×Value} (h:L[k]? =some x):((pc L++R).drop (k*2)).take 2=[x.1,x.2]:=by
 have hk:=(δ.1 h).1;rw[ξJ (by rw[fu];omega),vR,ξt hk,(δ.1 h).2];rfl
theorem abG {L:List (Value×Value)} {R:Γb} {k:Nat} {x:Value×Value} (hk:k<L.length):putAt (pc L++R) (k*2) [x.1,x.2]=pc (L.set k x)++R:=by
 unfold putAt;have e:L.set k x=L.take k++[x]++L.drop (k+1):=by
  rw[List.set_eq_take_append_cons_drop,if_pos hk];simp
 rw[e,EP,EP,ξg (by rw[fu];omega),vS,ξJ (by rw[fu];simp;omega)];rw[show k*2+[x.1,x.2].length=(k+1)*2 by simp;omega,vR];simp[pc]
noncomputable def rp (r:Int×Value):Value×Value:=(.int .u64 r.1,r.2)
noncomputable def rc (aB:Γd):Γb:=pc (aB.map rp)
theorem E6 {L:Γd} {R:Γb} {k:Nat} {x:Int×Value} (h:L[k]? =some x):((rc L++R).drop (k*2)).take 2=[.int .u64 x.1,x.2]:=
 abF (x:=rp x) (by simp[h])
theorem NF {L:Γd} {R:Γb} {k:Nat} {x:Int×Value} (hk:k<L.length):putAt (rc L++R) (k*2) [.int .u64 x.1,x.2]=rc (L.set k x)++R:=by
 have:=abG (L:=L.map rp) (R:=R) (x:=rp x) (k:=k) (by simpa using hk);rw[show[(rp x).1,(rp x).2]=[.int .u64 x.1,x.2] from rfl] at this;rw[rc,this,rc];simp[η9]
theorem E8 {O:Γ} {w:World}: ∀ {L:Γd},(∀r∈L,∃A n c,r.2= .slice A n c)->bN TR O w (rc L) L
 |[],_=>rfl
 |r::L,h=>⟨[.int .u64 r.1,r.2],rc L,rfl,⟨rfl,h r τ⟩,E8 λx a=>h x (ξ4 _ a)⟩
theorem Fs {O:Γ} {w:World}: ∀ {L:Γd} {cs:Γb},bN TR O w cs L->cs=rc L/\ ∀r∈L,∃A n c,r.2= .slice A n c
 |[],_,h=>⟨h,by simp⟩
 |r::L,cs,⟨c1,c2,h1,b,d⟩=>by
  obtain⟨e,f⟩:=Fs d;subst h1;rw[b.1,e];refine⟨rfl,λx a=>?_⟩;rcases ξB.1 a with rfl|a
  ·exact b.2
  ·exact f x a
noncomputable def Oc:Value->Nat
 | .slice _ n _=>n
 |_=>0
noncomputable def emp (r:Int×Value):Bool:=Oc r.2==0
noncomputable def hV:Γd->Nat->Int
 |[],_=> -1
 |r::rest,k=>bif emp r then(k:Int) else hV rest (k+1)
theorem Yf {n:Nat} {A:Option Addr} {c:Nat} {p:Int}:emp (p,.slice A n c)=((n:Int)==0):=by
 unfold emp Oc;cases h:n==0<;>simp_all
set_option maxRecDepth 100000 in
set_option maxHeartbeats 4000000 in
theorem KD {O:Γ} {w:World} (hO:OB O w) {p:Int} {A:Option Addr} {n c:Nat}:Calls η 263 #[.agg #[.int .u64 p,.slice A n c]] w (gu (og Ty.bool) O w (emp (p,.slice A n c))):=by
 refine gA (args:=[.agg #[.int .u64 p,.slice A n c]]) (N:=7) η8 rfl rfl rfl (aP (a7 (l:=[0,1]) rfl (mm rfl rfl rfl rfl rfl rfl [.int .u64 p,.slice A n c] rfl hO (λa w1 n1=>?_))));refine aG ai [1] [(1,(.pointer (some ⟨a,0,none⟩)))] rfl ⟨rfl,trivial⟩ (aY (aR (aP (a7 (l:=[0,1,2,3,4]) rfl (aG ai [0] [(3,(.pointer (some ⟨a,1,none⟩)))] rfl ⟨rfl,trivial⟩ (dQ ai rfl rfl rfl rfl rfl rfl rfl n1.bG [.slice A n c] rfl rfl (.inr rfl) (.slice A n c) rfl (aG ai [2,3,4] [(2,.bool ((n:Int)==0))] rfl ⟨rfl,trivial⟩ (aY (aR (dC (eU rfl ⟨_,rfl,?_,n1.fr⟩)))))))))));exact ji.2 (by rw[Yf];rfl)
set_option maxRecDepth 100000 in
set_option maxHeartbeats 4000000 in
theorem adZ {O:Γ} {w:World} (hO:OB O w) {v:Value} {aB:Γd} (h:TR.slice.is [] w v aB):Calls η 294 #[v,.func (.func 263) #[] #[]] w (gu (og (Ty.int .i64)) O w (hV aB 0)):=by
 obtain⟨A,c,rfl,n,o⟩:=eS h;refine gA (args:=[.slice A aB.length c,.func (.func 263) #[] #[]]) (N:=19) η5 rfl rfl rfl (aP (a7 (l:=[0]) rfl (aG ai [0] [(0,.slice A aB.length c),(1,.func (.func 263) #[] #[])] rfl ⟨rfl,rfl,trivial⟩ (aY (aR (aP (aP (a7 (l:=[0,1,2]) rfl (aG ai [0,1,2] [(0,.slice A aB.length c),(1,.func (.func 263) #[] #[]),(7,.int .i64 (aB.length:Int)),(8,.int .i64 ((0:Nat):Int))] rfl ⟨rfl,rfl,rfl,rfl,trivial⟩ (aY (aR (ml ?_))))))))))));refine Gg (λm E W=> ∃(rest:Γd) (i:Nat),rest.length=m/\aB.drop i=rest/\E=[(0,.slice A aB.length c),(1,.func (.func 263) #[] #[]),(7,.int .i64 (aB.length:Int)),(8,.int .i64 (i:Int))]/\Fr [] w W/\hV rest i=hV aB 0) _
  [(0,.slice A aB.length c),(1,.func (.func 263) #[] #[]),(7,.int .i64 (aB.length:Int)),(8,.int .i64 ((0:Nat):Int))] ⟨rfl,rfl,rfl,rfl,trivial⟩ ⟨aB,0,rfl,rfl,rfl,Fr.refl _ _,rfl⟩ ?_
 rintro m E W ⟨rest,i,rfl,g,rfl,a,b⟩;rcases rest with _|⟨z,rest⟩
 ·have hl:=drop_nil g;have d:(decide ((i:Int)<(aB.length:Int)))=false:=decide_eq_false (by omega);refine aP (a7 (l:=[0]) rfl (aG ai [0] [(9,.bool (decide ((i:Int)<(aB.length:Int))))] rfl ⟨rfl,trivial⟩ (aY (aR (aP (fJ rfl d (Gf (oz (oz (Gq (aR ?_)))))))))));refine aP (a7 (l:=[0]) rfl (aG ai [0] [(4,.int .i64 (-1))] rfl ⟨rfl,trivial⟩ (aY (aR (dC ?_)))));exact eU rfl ⟨_,rfl,dx.2 (by rw[<-b];rfl),a⟩
 obtain⟨hl,k,j⟩:=drop_cons g;have d:(decide ((i:Int)<(aB.length:Int)))=true:=decide_eq_true (by omega);refine aP (a7 (l:=[0]) rfl (aG ai [0] [(0,.slice A aB.length c),(1,.func (.func 263) #[] #[]),(7,.int .i64 (aB.length:Int)),(8,.int .i64 (i:Int)),(9,.bool (decide ((i:Int)<(aB.length:Int))))] rfl ⟨rfl,rfl,rfl,rfl,rfl,trivial⟩ (aY (aR (aP (fz rfl d (eB (aR (aP (ml (aP (a7 (l:=[0,1]) rfl (aG ai [0,1] [(0,.slice A aB.length c),(1,.func (.func 263) #[] #[]),(5,.int .i64 (i:Int)),(7,.int .i64 (aB.length:Int)),(8,.int .i64 (i:Int))] rfl ⟨rfl,rfl,rfl,rfl,rfl,trivial⟩ (aY (aR (aP (a7 (l:=[0,1,2,3,4,5]) rfl (aG ai [0,1,2] [(0,.slice A aB.length c),(1,.func (.func 263) #[] #[]),(5,.int .i64 (i:Int)),(7,.int .i64 (aB.length:Int)),(8,.int .i64 (i:Int)),(11,.func (.func 263) #[] #[]),(12,.slice A aB.length c),(13,.int .i64 (i:Int))] rfl ⟨rfl,rfl,rfl,rfl,rfl,rfl,rfl,rfl,trivial⟩ (Gp ai rfl rfl rfl rfl rfl rfl rfl rfl rfl rfl h rfl (ζq _) (by rw[ι];exact k) (λt r=>?_))))))))))))))))))));refine Qu ai rfl rfl rfl rfl rfl rfl rfl r a rfl rfl (λv6 s=>?_);obtain⟨cs,⟨rfl,A2,n2,c2,e⟩,rfl⟩:=s;obtain⟨p,q⟩:=z;simp only at e;subst e;refine Qs (O:=O) (first:=[]) (cap:=[]) rfl rfl rfl rfl rfl rfl rfl Jr (KD (a.ob hO)) (λu x g7 f7=>?_);obtain rfl:=ji.1 g7;have a:=a.trans f7;rw[hV] at b;refine aY (aR ?_);rcases f:emp (p,.slice A2 n2 c2) with _|_
 ·refine kW rfl (eB (q4 (aR ?_)));refine a7 (l:=[0,1]) rfl (aG ai [0,1] [(0,.slice A aB.length c),(1,.func (.func 263) #[] #[]),(7,.int .i64 (aB.length:Int)),(8,(.int .i64 (γ.wrap ((i:Int)+(1:Int)))))] rfl ⟨rfl,rfl,rfl,rfl,trivial⟩ (aY ?_));rw[f] at b;exact xb rest.length [(0,.slice A aB.length c),(1,.func (.func 263) #[] #[]),(7,.int .i64 (aB.length:Int)),(8,(.int .i64 ((i+1:Nat):Int)))] (ζa _) ⟨rfl,rfl,rfl,congrArg (λz=>some (ζJ .i64 z)) (mn hl (μ n o)),trivial⟩ ⟨rest,i+1,rfl,j,rfl,a,b⟩
 ·refine ov rfl (aP (a7 (l:=[0,1]) rfl (aG ai [0,1] [(4,.int .i64 (i:Int))] rfl ⟨rfl,trivial⟩ (aY (aR (dC ?_))))));rw[f] at b;exact xa (fA (fA (xa (fA (eU rfl ⟨_,rfl,dx.2 (by rw[<-b];rfl),a⟩)))))
theorem JB: ∀(L:Γd) (k:Nat),(hV L k= -1/\L.filter (λr=>!emp r)=L)\/ ∃i x,hV L k=((k+i:Nat):Int)/\L[i]? =some x/\emp x=true/\(L.take i).filter (λr=>!emp r)=L.take i
 |[],k=>.inl ⟨rfl,rfl⟩
 |r::L,k=>by
  rw[hV];cases b:emp r with
  |true=>exact .inr ⟨0,r,rfl,rfl,b,rfl⟩
  |false=>
   rcases JB L (k+1) with⟨h1,a⟩|⟨i,x,h1,a,c,d⟩
   ·exact .inl ⟨h1,by rw[ξK,b];simp only[ξY,if_true];rw[a]⟩
   ·exact .inr ⟨i+1,x,by rw[show k+(i+1)=k+1+i by omega];exact h1,by simpa using a,c,by
     rw[List.take_succ_cons,ξK,b];simp only[ξY,if_true];rw[d]⟩
theorem JK {p:Int×Value->Bool} {L:Γd} {j:Nat} {x:Int×Value} (h:L[j]? =some x):(L.take (j+1)).filter p=(L.take j).filter p++bif p x then[x] else[]:=by
 rw[ζw,h,List.filter_append];cases hp:p x<;>simp[hp]
theorem Qr {P:Program} {r:Option Nat} {N:Nat} {Θ:cG} {ops:Array Oper} {Q:Exit->Act->World->Prop} {l:Γ} {E:Env} {ds:List Deferred} {w:World} {i:Nat} {o:Oper} (p:Θ.ok P) (A:ops[i]? =some o) (hw:want N ops E o.guard=some true) (y:o.dst=none) {t:Nat} {x:Operand} {j b:TI}
  (n:o.op= .call {callee:=.builtin .clear,args:= #[x],argTypes:= #[t]}) (C:Θ.get t=some j) (q:j.tag=5) (D:Θ.get j.e=some b) {g of m c e k:Nat} {cur:Array Value} (F:ev E x=some (.slice (some ⟨g,of,none⟩) (m+1) c)) (d:w.heap[g]? =some (.cells cur e (0,0))) (G:b.zero.cells.size=k) (h1: ∀u∈(ξ2 b.zero.cells (m+1)).toList,u.oneCell'=true) (H:of+(m+1)*k<=cur.size)
  (h: ∀(W:World) (new:Array Value),Fr [g] w W->W.heap[g]? =some (.cells new e (0,0))->new=(cur.toList.take of++(ξ2 b.zero.cells (m+1)).toList++cur.toList.drop (of+(m+1)*k)).toArray->WO P r N ops Q l E ds W):WO P r N ops Q (i::l) E ds w:=by
 have hu:=(p.fits C).slice q;have hl:(ξ2 b.zero.cells (m+1)).toList.length=(m+1)*k:=by rw[χ,size_zeroCells,G]
 have f:=run_storeCells_at P g of e (ξ2 b.zero.cells (m+1)).toList 0 cur w d (by rw[hl];omega) h1;rw[hl] at f;simp only[ξy] at f;have B:(ζO #[t] o.type #[.slice (some ⟨g,of,none⟩) (m+1) c]).run P w= .ok (.tuple #[]) (w.setRow g (cur.toList.take of++(ξ2 b.zero.cells (m+1)).toList++cur.toList.drop (of+(m+1)*k)).toArray):=by
  simp only[ζO,ξx,List.getElem?_toArray,ξ9,run_underlying hu,ξr];simp[mo (p.fits D),f]
 have z:=h (w.setRow g (cur.toList.take of++(ξ2 b.zero.cells (m+1)).toList++cur.toList.drop (of+(m+1)*k)).toArray) _ (jT d) (by simp only[ηa,ζf,d,if_true,ω]) rfl;refine afl (v:=.tuple #[]) A hw y (by rw[n];simp) (λa s=>?_) z;simp only[execOp,n,ξx,resolve,ζe,ξr,invoke,builtin,ζ9,ξz,ξV,s.eval F,B]
theorem Qx {n:Nat} {a b u:Value} (c:a.oneCell'=true) (d:b.oneCell'=true) (h:u∈(ξ2 (ηb #[a,b]).cells n).toList):u.oneCell'=true:=by
 simp only[ξ2,Value.cells,Array.toList_map,ζC] at h;obtain⟨i,_,rfl⟩:=h;rcases Nat.mod_two_eq_zero_or_one i with h|h<;>simp[h,c,d]
set_option maxRecDepth 100000 in
set_option maxHeartbeats 4000000 in
theorem adX {O:Γ} {w:World} (hO:OB O w) {B:Nat} {v:Value} {aB:Γd} (f:Go.Dc.Own TR 132 B O w v aB):Calls η 262 #[v,.func (.func 263) #[] #[]] w (eK TR 132 B O w v (aB.filter λr=>!emp r)):=by
 obtain⟨A,c,rfl,a',aZ⟩:=f.form;refine gA (args:=[.slice A aB.length c,.func (.func 263) #[] #[]]) (N:=42) η7 rfl rfl rfl (aP (a7 (l:=[0]) rfl (aG ai [0] [(0,.slice A aB.length c),(1,.func (.func 263) #[] #[])] rfl ⟨rfl,rfl,trivial⟩ (aY (aR (aP (a7 (l:=[0,1,2,3]) rfl (aG ai [0,1] [(0,.slice A aB.length c),(1,.func (.func 263) #[] #[]),(8,.slice A aB.length c),(9,.func (.func 263) #[] #[])] rfl ⟨rfl,rfl,rfl,rfl,trivial⟩ ?_))))))));refine w_ rfl rfl rfl rfl rfl Yu rfl (adZ hO (f.iC.data (E5 _) (λ_ _ h=>by cases h))) (λv2 w2 g2 f2=>?_);obtain rfl:=dx.1 g2;refine aG ai [3] [(0,.slice A aB.length c),(1,.func (.func 263) #[] #[]),(5,.int .i64 (hV aB 0))] rfl ⟨rfl,rfl,rfl,trivial⟩ (aY (aR (aP (aP (a7 (l:=[0,1]) rfl (aG ai [0,1] [(0,.slice A aB.length c),(1,.func (.func 263) #[] #[]),(5,.int .i64 (hV aB 0)),(12,.bool ((hV aB 0)== -1))] rfl ⟨rfl,rfl,rfl,rfl,trivial⟩ (aY (aR ?_))))))));rcases JB aB 0 with⟨d,aA⟩|⟨i0,x0,d,ae,ay,az⟩
 ·refine fz rfl (by rw[d];rfl) ?_;refine aP (a7 (l:=[0,1]) rfl (aG ai [0,1] [(4,.slice A aB.length c)] rfl ⟨rfl,trivial⟩ (aY (aR (dC (fA (eU rfl ⟨_,O,rfl,?_⟩)))))));rw[aA];exact⟨f.cc f2,f2.dX,f2.ob hO,Sub.refl _,λk hk _=>f2.block k hk (by simp),λ_ _ h=>h⟩
 rw[ψ] at d;refine fJ rfl (by rw[d];exact beq_eq_false_iff_ne.2 (by omega)) ?_;rw[d];refine eB (aR ?_);obtain⟨cs,⟨aX,F⟩,aK⟩:=f.ex;have aa:=(δ.1 ae).1;rcases F with⟨_,a8⟩|⟨g,cap,cur,F,ah,aD,ab,aw,V,X⟩
 ·omega
 injection F with ag a_ av;subst ag;subst av;have aC:=f.mem g rfl;obtain⟨ax,Z⟩:=Fs aK;have an:TR.n=2:=rfl;rw[an] at V X;obtain⟨R,al⟩: ∃R,R=cur.toList.drop (aB.length*2):=⟨_,rfl⟩;have Y:cur.toList=rc aB++R:=by
  rw[al,<-ax,<-X];exact(ξd _ _).symm
 have aW:aB.length*2+R.length=c*2:=by
  have:=congrArg ζ5 Y;rw[χ,V] at this;simp only[ν,rc,fu,ρ] at this;omega
 have s:bE w g 132 (rc aB++R):=by
  unfold bE;rw[<-Y,ξO];exact aD
 have aq:=s.cc f2;have aO:γ.wrap ((i0:Int)+1)=((i0+1:Nat):Int):=mn aa (by omega);refine aP (aP (a7 (l:=[0,1,2]) rfl (aG ai [0,1,2] [(0,.slice (some ⟨g,0,none⟩) aB.length c),(1,.func (.func 263) #[] #[]),(5,.int .i64 (i0:Int)),(6,.int .i64 (γ.wrap ((i0:Int)+1)))] rfl ⟨rfl,rfl,rfl,rfl,trivial⟩ ?_)));rw[aO];refine aY (aR (ml ?_));refine Gg (λm E W=> ∃(i j:Nat) (M:Γd),aB.length-j=m/\i<j/\j<=aB.length/\E=[(0,.slice (some ⟨g,0,none⟩) aB.length c),(1,.func (.func 263) #[] #[]),(5,.int .i64 (i:Int)),(6,.int .i64 (j:Int))]/\Fr [g] w W/\bE W g 132 (rc M++R)/\M.length=aB.length/\M.take i=(aB.take j).filter (λr=>!emp r)/\M.drop j=aB.drop j) _
  [(0,.slice (some ⟨g,0,none⟩) aB.length c),(1,.func (.func 263) #[] #[]),(5,.int .i64 (i0:Int)),(6,.int .i64 ((i0+1:Nat):Int))] ⟨rfl,rfl,rfl,rfl,trivial⟩ ⟨i0,i0+1,aB,rfl,ζa _,aa,rfl,f2.more (by simp),aq,rfl,by rw[JK ae,az,ay];simp,rfl⟩ ?_
 rintro m E W ⟨i,j,M,hm,a1,a6,rfl,a,t,Q,b,L⟩;refine aP (aP (a7 (l:=[0,1,2,3]) rfl (aG ai [0,1,2,3] [(0,.slice (some ⟨g,0,none⟩) aB.length c),(1,.func (.func 263) #[] #[]),(5,.int .i64 (i:Int)),(6,.int .i64 (j:Int)),(19,.bool (decide ((j:Int)<(aB.length:Int))))] rfl ⟨rfl,rfl,rfl,rfl,rfl,trivial⟩ (aY (aR ?_)))))
 by_cases D:j<aB.length
 case neg=>
  refine fJ rfl (decide_eq_false (by omega)) ?_;refine Gf (oz (oz (Gq (aR ?_))));refine aP (a7 (l:=[0,1,2,3]) rfl (aG ai [0,1] [(0,.slice (some ⟨g,0,none⟩) aB.length c),(5,.int .i64 (i:Int)),(36,.slice (some ⟨g,0,none⟩) aB.length c),(37,.int .i64 (i:Int))] rfl ⟨rfl,rfl,rfl,rfl,trivial⟩ (q1 ai rfl rfl rfl rfl rfl rfl rfl rfl rfl rfl ab (by omega) ?_)));rw[if_neg (by omega),ω,e9,ψ];obtain⟨q,aJ⟩: ∃q,aB.length-i=q+1:=⟨aB.length-i-1,by omega⟩;rw[aJ];have aN:(rc M++R).length=c*2:=by simp only[ν,rc,fu,ρ];omega
  refine Qr (k:=2) ai rfl rfl rfl rfl rfl rfl rfl rfl t rfl (λu hu=>Qx rfl rfl hu) (by simp only[ζ2,aN];show i*2+(q+1)*2<=c*2;omega) (λaf new aM aL aH=>?_);have aj:Fr [g] w af:=a.trans aM;have ba:(rc M++R).take (i*2)=rc (M.take i):=by
   unfold rc;rw[ξg (by rw[fu,ρ];omega),vS,ζ6]
  have ad:new.toList=rc (M.take i)++((ξ2 (ηb #[.int .u64 0,.slice none 0 0]).cells (q+1)).toList++(rc M++R).drop (i*2+(q+1)*2)):=by
   rw[aH];simp only[ξR,ξs]
   congr 1
  have aI:new.size=c*2:=by
   rw[<-χ,ad];simp only[ν,ξL,χ,size_zeroCells,rc,fu,ρ,ξh];show min i M.length*2+((q+1)*2+(M.length*2+R.length-(i*2+(q+1)*2)))=c*2;omega
  refine aY (aR (aP (a7 (l:=[0,1,2,3]) rfl (aG ai [0,1] [(39,.slice (some ⟨g,0,none⟩) aB.length c),(40,.int .i64 (i:Int))] rfl ⟨rfl,rfl,trivial⟩ (Gm ai rfl rfl rfl rfl rfl rfl rfl rfl rfl rfl ab (by omega) ?_)))));refine aG ai [3] [(4,.slice (some ⟨g,0,none⟩) i c)] rfl ⟨rfl,trivial⟩ (aY (aR (dC (eU rfl ⟨_,O,rfl,?_⟩))));have aF:aB.take j=aB:=ξD (by omega);rw[aF] at b;have aE:(aB.filter λr=>!emp r).length=i:=by rw[<-b,ξh];omega
  have:=xc (T:=TR) (e:=132) (B:=B) (n0:=aB.length) (zs:=aB.filter λr=>!emp r) (cap:=c) hO aC ah aj aL aI aw (by omega) (E8 λx aQ=>Z x (ξQ.1 aQ).1) (by
   rw[ad,b];refine ξS ?_;rw[rc,fu,ρ];rfl)
  rw[aE] at this;exact this
 refine fz rfl (decide_eq_true (by omega)) ?_;refine eB (aR ?_);obtain⟨z,G⟩: ∃x,aB[j]? =some x:=⟨_,ε D⟩;have ak:M[j]? =some z:=by
  have:=congrArg (·[0]?) L;simp only[ξW,ξy] at this;rw[this,G]
 obtain⟨A2,n2,c2,I⟩:=Z z (ξ3 G);obtain⟨p,q⟩:=z;simp only at I;subst I;have P: ∀(C:Γd),(∀k,j<k->C[k]? =M[k]?)->C.drop (j+1)=aB.drop (j+1):=by
  intro C h;apply ζx;intro k;have:=congrArg (·[k+1]?) L;simp only[ξW] at this ⊢;rw[h _ (by omega),show j+1+k=j+(k+1) by omega,this]
 have H: ∀j:Nat,(j:Int).toNat*({tag:=8,k:=0,e:=0,fs:=[(29,0),(40,1)],size:=2,bytes:=32,zero:=.agg #[.int .u64 0,.slice none 0 0]}:TI).size=j*2:=λj=>by rw[ι]
 refine aP (ml (aP (a7 (l:=[0,1,2,3,4,5]) rfl (aG ai [0,1] [(0,.slice (some ⟨g,0,none⟩) aB.length c),(1,.func (.func 263) #[] #[]),(5,.int .i64 (i:Int)),(6,.int .i64 (j:Int)),(22,.slice (some ⟨g,0,none⟩) aB.length c),(23,.int .i64 (j:Int))] rfl ⟨rfl,rfl,rfl,rfl,rfl,rfl,trivial⟩ (ow ai rfl rfl rfl rfl rfl rfl rfl rfl rfl rfl (by omega) (by rw[ι];omega) ?_)))));rw[H,e9,ψ];refine dQ ai rfl rfl rfl rfl rfl rfl rfl t [.int .u64 p,.slice A2 n2 c2] (E6 ak) rfl (.inl rfl) (.agg #[.int .u64 p,.slice A2 n2 c2]) rfl (q0 ai rfl rfl rfl rfl rfl rfl [(.int .u64 0),(.slice none 0 0)] rfl (a.ob hO) (λo bc n7=>?_));refine eT ai rfl rfl rfl rfl rfl rfl rfl n7.bG [.int .u64 p,.slice A2 n2 c2] rfl rfl (by simp[υ]) rfl [.int .u64 p,.slice A2 n2 c2] rfl (λaT S f8=>?_);have aS:g≠o:=by have:=t.lt;have:=n7.ge;omega
 have au:=(t.cc n7.fr).fr f8 (by simp;exact aS);have J:Fr [g] w aT:=by
  refine⟨f8.os.trans (n7.fr.os.trans a.os),f8.tape.trans (n7.fr.tape.trans a.tape),f8.output.trans (n7.fr.output.trans a.output),μ a.size (μ n7.fr.size f8.size),λk hk hn=>?_⟩;have h1:=a.size;have aU:=n7.ge;have aV:=n7.fr.size;rw[f8.block k (by omega) (by simp;omega),n7.fr.block k (by omega) (by simp),a.block k hk hn]
 refine aY (aR (aP (a7 (l:=[0,1,2,3]) rfl (aG ai [0] [(0,.slice (some ⟨g,0,none⟩) aB.length c),(1,.func (.func 263) #[] #[]),(5,.int .i64 (i:Int)),(6,.int .i64 (j:Int)),(7,(.pointer (some ⟨o,0,none⟩))),(26,.func (.func 263) #[] #[])] rfl ⟨rfl,rfl,rfl,rfl,rfl,rfl,trivial⟩ (dQ ai rfl rfl rfl rfl rfl rfl rfl S [.int .u64 p,.slice A2 n2 c2] rfl rfl (.inl rfl) (.agg #[.int .u64 p,.slice A2 n2 c2]) rfl (Qs (O:=O) (first:=[]) (cap:=[]) rfl rfl rfl rfl rfl rfl rfl Jr (KD (J.ob hO)) (λv9 w9 g9 f9=>?_)))))));obtain rfl:=ji.1 g9;have K:=J.trans (f9.more (by simp));have U:=au.cc f9;have ar:=S.cc f9;refine aG ai [3] [(0,.slice (some ⟨g,0,none⟩) aB.length c),(1,.func (.func 263) #[] #[]),(5,.int .i64 (i:Int)),(6,.int .i64 (j:Int)),(7,(.pointer (some ⟨o,0,none⟩))),(29,.bool (!emp (p,.slice A2 n2 c2)))] rfl ⟨rfl,rfl,rfl,rfl,rfl,rfl,trivial⟩ (aY (aR ?_));have y:=JK (p:=λr=>!emp r) G;rcases s:emp (p,.slice A2 n2 c2) with _|_
 ·rw[s] at y;refine ov rfl (aP (a7 (l:=[0,1,2,3,4]) rfl (aG ai [0,1] [(0,.slice (some ⟨g,0,none⟩) aB.length c),(1,.func (.func 263) #[] #[]),(5,.int .i64 (i:Int)),(6,.int .i64 (j:Int)),(7,(.pointer (some ⟨o,0,none⟩))),(30,.slice (some ⟨g,0,none⟩) aB.length c),(31,.int .i64 (i:Int))] rfl ⟨rfl,rfl,rfl,rfl,rfl,rfl,rfl,trivial⟩ (dQ ai rfl rfl rfl rfl rfl rfl rfl ar [.int .u64 p,.slice A2 n2 c2] rfl rfl (.inl rfl) (.agg #[.int .u64 p,.slice A2 n2 c2]) rfl (ow ai rfl rfl rfl rfl rfl rfl rfl rfl rfl rfl (by omega) (by rw[ι];omega) ?_)))));rw[H,e9,ψ];refine eT ai rfl rfl rfl rfl rfl rfl rfl U [.int .u64 p,.slice A2 n2 c2] rfl rfl (by simp[υ]) (ξe (by simp only[ν,rc,fu,ρ];show i*2+2<=_;omega)) (rc (M.set i (p,.slice A2 n2 c2))++R) (NF (x:=(p,.slice A2 n2 c2)) (by omega)) (λbb ao f10=>?_);refine aY (aR (a7 (l:=[0,1,2]) rfl (aG ai [0,1,2] [(0,.slice (some ⟨g,0,none⟩) aB.length c),(1,.func (.func 263) #[] #[]),(5,.int .i64 (γ.wrap ((i:Int)+1))),(6,.int .i64 (j:Int))] rfl ⟨rfl,rfl,rfl,rfl,trivial⟩ ?_)));rw[mn (show i<aB.length by omega) (by omega)];refine aY (q4 (aR ?_));refine a7 (l:=[0,1,2]) rfl (aG ai [0,1,2] [(0,.slice (some ⟨g,0,none⟩) aB.length c),(1,.func (.func 263) #[] #[]),(5,.int .i64 ((i+1:Nat):Int)),(6,.int .i64 (γ.wrap ((j:Int)+1)))] rfl ⟨rfl,rfl,rfl,rfl,trivial⟩ ?_);rw[mn D (by omega)];refine aY ?_;refine xb (aB.length-(j+1)) [(0,.slice (some ⟨g,0,none⟩) aB.length c),(1,.func (.func 263) #[] #[]),(5,.int .i64 ((i+1:Nat):Int)),(6,.int .i64 ((j+1:Nat):Int))] (by omega) ⟨rfl,rfl,rfl,rfl,trivial⟩ ⟨i+1,j+1,M.set i (p,.slice A2 n2 c2),rfl,by omega,by omega,rfl,K.trans f10,ao,by rw[ξT];exact Q,?_,P _ (λk hk=>List.getElem?_set_ne (by omega))⟩;rw[y,<-b,ζw,List.take_set_of_le (by omega),List.getElem?_set_self (by omega)];rfl
 ·rw[s] at y;refine kW rfl (eB (q4 (aR ?_)));refine a7 (l:=[0,1,2]) rfl (aG ai [0,1,2] [(0,.slice (some ⟨g,0,none⟩) aB.length c),(1,.func (.func 263) #[] #[]),(5,.int .i64 (i:Int)),(6,.int .i64 (γ.wrap ((j:Int)+1)))] rfl ⟨rfl,rfl,rfl,rfl,trivial⟩ ?_);rw[mn D (by omega)];refine aY ?_;refine xb (aB.length-(j+1)) [(0,.slice (some ⟨g,0,none⟩) aB.length c),(1,.func (.func 263) #[] #[]),(5,.int .i64 (i:Int)),(6,.int .i64 ((j+1:Nat):Int))] (by omega) ⟨rfl,rfl,rfl,rfl,trivial⟩ ⟨i,j+1,M,rfl,by omega,by omega,rfl,K,U,Q,?_,P M (λ_ _=>rfl)⟩;rw[y,<-b];simp
end Go.Proofs.YtoggponeookhbaaGreatDoor
end
section


end
section
namespace Go.Proofs.YtoggponeookhbaaGreatDoor
open Go.RowKit Go.Dc Go.Vx
theorem JT: ∀ {S:Γ} {rs:Γd} {xs:List (Int×Γa)} {B:Nat} {w:World} {k:Nat} {r:Int×Value} {y:Int×Γa},c5 TW 35 B w S rs xs->rs[k]? =some r->xs[k]? =some y->r.1=y.1/\c0 TW 35 B w r.2 y.2/\ ∀g,r.2.ownBlock=some g->g∈S
 |_,x::rs,z::xs,_,_,0,r,y,⟨m,h1,f,j,l⟩,d,e=>by
  simp at d e;subst d;subst e;exact⟨h1,j,λg i=>by rw[f,i];simp⟩
 |_,x::rs,z::xs,_,_,k+1,r,y,⟨m,h1,f,j,l⟩,d,e=>by
  obtain⟨a,b,c⟩:=JT l (by simpa using d) (by simpa using e);exact⟨a,b,λg i=>by rw[f];exact ξm _ (c g i)⟩
 |_,[],_,_,_,_,_,_,_,d,_=>by simp at d
 |_,_::_,[],_,_,_,_,_,h,_,_=>h.elim
theorem ac7 {B:Nat} {a:Γ} {w:World} {rv:Value} {S:Γ} {aB:Γd} {bs:List aq} (q:c0 TR 132 B w rv aB) (b:c5 TW 35 B w S aB (bs.map bx)) (h1: ∀g,rv.ownBlock=some g->g∉a) (i: ∀g∈S,g∉a):(Ty.slice iW).is a w rv bs:=by
 have hlen:aB.length=bs.length:=by have:=b.len;simpa using this
 obtain⟨cs,⟨A,c,m,hl,t⟩,s⟩:=q.data (E5 _) h1;refine⟨cs,⟨A,c,by rw[<-hlen];exact m,by rw[<-hlen];exact hl,λk z hk=>?_⟩,s⟩;have d:k<aB.length:=by rw[hlen];exact(δ.1 hk).1
 obtain⟨ad,es,j,l,p,r,n⟩:=t k _ (ε d);obtain⟨e,f,h⟩:=JT b (ε d) (show(bs.map bx)[k]? =some (bx z) by simp[hk]);refine⟨ad,es,j,l,p,?_,n⟩;refine⟨[.int .u64 z.aa],[aB[k].2],?_,rfl,l5 rfl (f.data gR λg o=>i g (h g o))⟩;rw[r.1,e];rfl
theorem e8.Va {B:Nat} {O d:Γ} {w:World} {b:Nat} {nv rv:Value} {S:Γ} {aB:Γd} {x:aO} (h:e8 B O w b nv rv S aB x) (hO: ∀g∈d,g<B):(Ty.slice iW).is d w rv x.au:=
 ac7 h.row.iC h.fo (λg a c=>by have:=(h.row.lt g a).1;have:=hO g c;omega) (λg a c=>by have:=(h.fo.lt g a).1;have:=hO g c;omega)
theorem wO:dW.Flat:=λh=>h
noncomputable def mf (x:aO):aO:=aO.mk x.ax (x.au.filter λz=>!(z.bc.length==0))
noncomputable def uR (fuel:Sh) (x:aO) (pid:Int):Option (aO×Int):=(DB fuel x.au pid).bind λf=>bif (!f.2) then(hE 32 x.au f.1 [aq.mk pid []]).bind λbs=>some (aO.mk x.ax bs,f.1) else some (x,f.1)
set_option maxRecDepth 100000 in
set_option maxHeartbeats 4000000 in
theorem ZN {O:Γ} {w:World} (hO:OB O w) {B b:Nat} {x:aO} (n:cI KK [] w) (e:B<=w.heap.size) (h:j5 B O w b x) {pid:Int} {r:aO×Int} (a:uR shut x pid=some r):
  Calls η 261 #[.pointer (some ⟨b,0,none⟩),.int .u64 pid] w (λm w'=>m= .returned (.int .i64 r.2)/\ ∃O',bH B O w O' w'/\j5 B O' w' b r.1):=by
 obtain⟨nv,rv,S,aB,h⟩:=h;unfold uR at a;refine gA (args:=[.pointer (some ⟨b,0,none⟩),.int .u64 pid]) (N:=34) η6 rfl rfl rfl (aP (a7 (l:=[0]) rfl (aG ai [0] [(0,(.pointer (some ⟨b,0,none⟩))),(1,.int .u64 pid)] rfl ⟨rfl,rfl,trivial⟩ (aY (aR (aP (a7 (l:=[0,1,2,3,4,5,6,7,8,9,10,11]) rfl (aG ai [0,1,2,3] [(0,(.pointer (some ⟨b,0,none⟩))),(1,.int .u64 pid),(11,(.pointer (some ⟨b,1,none⟩)))] rfl ⟨rfl,rfl,rfl,trivial⟩ ?_))))))));obtain⟨A1,c1,rfl,_,_⟩:=h.row.form;refine dQ ai rfl rfl rfl rfl rfl rfl rfl h.bG [.slice A1 aB.length c1] rfl rfl (.inr rfl) (.slice A1 aB.length c1) rfl (aG ai [5] [(0,(.pointer (some ⟨b,0,none⟩))),(1,.int .u64 pid),(12,.slice A1 aB.length c1),(13,.int .u64 pid)] rfl ⟨rfl,rfl,rfl,rfl,trivial⟩ ?_);obtain⟨f,u,a⟩:=bind_some a;refine w_ rfl rfl rfl rfl rfl Ys rfl (ZO (qo _) n (h.Va (λ_ y=>by cases y)) u) (λv2 w2 g2 f2=>?_);obtain⟨_,_,rfl,F,G⟩:=g2;obtain rfl:=dx.1 F;obtain rfl:=ji.1 G;have h:=h.cc f2;have c:bH B O w O w2:=bH.nR hO e f2;refine aG ai [7,8,9,10,11] [(0,(.pointer (some ⟨b,0,none⟩))),(1,.int .u64 pid),(5,.int .i64 f.1),(6,.bool f.2)] rfl ⟨rfl,rfl,rfl,rfl,trivial⟩ (aY (aR (aP (aP (a7 (l:=[0,1]) rfl (aG ai [0,1] [(0,(.pointer (some ⟨b,0,none⟩))),(1,.int .u64 pid),(5,.int .i64 f.1),(18,.bool (!f.2))] rfl ⟨rfl,rfl,rfl,rfl,trivial⟩ (aY (aR ?_))))))));rcases iq a with⟨i,a⟩|⟨i,a⟩
 rotate_left
 ·refine fJ rfl i (eB (aR (aP (a7 (l:=[0,1]) rfl (aG ai [0,1] [(4,.int .i64 f.1)] rfl ⟨rfl,trivial⟩ (aY (aR (dC ?_))))))));cases a;exact eU rfl ⟨rfl,_,c,_,_,_,_,h⟩
 refine fz rfl i ?_;obtain⟨bs,s,a⟩:=bind_some a;cases a;refine a7 (l:=[0,1,2,3,4,5,6,7,8,9,10,11,12,13,14]) rfl (aG ai [0,1,2,3,4] [(1,.int .u64 pid),(5,.int .i64 f.1),(19,(.pointer (some ⟨b,0,none⟩))),(23,(.pointer (some ⟨b,1,none⟩)))] rfl ⟨rfl,rfl,rfl,rfl,trivial⟩ (dQ ai rfl rfl rfl rfl rfl rfl rfl h.bG [.slice A1 aB.length c1] rfl rfl (.inr rfl) (.slice A1 aB.length c1) rfl (aG ai [6,7,8] [(5,.int .i64 f.1),(19,(.pointer (some ⟨b,0,none⟩))),(24,.slice A1 aB.length c1),(25,.int .i64 f.1),(27,.agg #[.int .u64 pid,.slice none 0 0])] rfl ⟨rfl,rfl,rfl,rfl,rfl,trivial⟩ (Qt ai rfl rfl rfl rfl rfl rfl rfl rfl rfl rfl (T:=TR) (xs:=[(pid,.slice none 0 0)]) (vs:=[.agg #[.int .u64 pid,.slice none 0 0]]) rfl ⟨⟨_,⟨rfl,_,_,_,rfl⟩,rfl⟩,trivial⟩ rfl rfl rfl c.ob (λI H d=>?_)))));have h:=h.cc d.fr;have g:=c.trans (bH.nR c.ob (μ e c.tr.size) d.fr);have t:=d.data c.ob;have A:=(d.own (B:=0) (Nat.zero_le _)).plain;have j:B<=H.heap.size:=μ e g.tr.size;obtain⟨C,D,E,rfl⟩:=KJ s;have hlen:aB.length=x.au.length:=by have:=h.fo.len;simpa using this
 have z:wC aB f.1 [(pid,.slice none 0 0)]=some (aB.take f.1.toNat++[(pid,.slice none 0 0)]++aB.drop f.1.toNat):=by
  unfold wC hE;rw[if_pos ⟨C,by rw[hlen];exact D,by rw[hlen];exact E⟩]
 refine Qv rfl rfl rfl rfl rfl Yt rfl (ad0 g.ob j h.row (dx.2 rfl) t A z) (λK w' O' ap=>?_);have k:=g.trans (bH.EB j h.row ap);have p:=ap.bG h.bG h.rb;obtain⟨A2,c2,rfl,_,_⟩:=ap.own.form;have v:=h.fo.ins f.1.toNat pid (by rw[hlen];omega);generalize J:(aB.take f.1.toNat++[(pid,.slice none 0 0)]++aB.drop f.1.toNat)=L at*
 refine aG ai [11,12,13] [(5,.int .i64 f.1),(29,.slice A2 L.length c2),(32,(.pointer (some ⟨b,1,none⟩)))] rfl ⟨rfl,rfl,rfl,trivial⟩ (eT ai rfl rfl rfl rfl rfl rfl rfl p [.slice A2 L.length c2] rfl rfl (by simp[υ]) rfl [nv,.slice A2 L.length c2] rfl (λw5 q f5=>?_));have o:=k.trans (bH.gp k.ob (ap.sub _ h.mem) h.ge f5);refine aY (aR (aP (a7 (l:=[0,1]) rfl (aG ai [0,1] [(4,.int .i64 f.1)] rfl ⟨rfl,trivial⟩ (aY (aR (dC (eU rfl ⟨rfl,_,o,_,_,_,_,h.boxes (x':=aO.mk x.ax (x.au.take f.1.toNat++[aq.mk pid []]++x.au.drop f.1.toNat)) ap q f5 ?_ h.nd h.out rfl⟩))))))));simpa[ζ6,ζr,bx] using v
theorem afp {P:Program} {r:Option Nat} {N:Nat} {ops:Array Oper} {Q:Exit->Act->World->Prop} {l:Γ} {E:Env} {ds:List Deferred} {w:World} {i d:Nat} {o:Oper} (m:ops[i]? =some o) (hw:want N ops E o.guard=some true) (k:o.dst=some d) (c:ηl d N=true) {x:Operand} {args:Array Operand} {q:Array TypeId} (b:o.op= .call {callee:=.value x,args:=args,argTypes:=q})
  {g:FuncId} {first cap vs:Γb} (p:ev E x=some (.func (.func g) first.toArray cap.toArray)) (n:gT E args.toList=some vs) (he: ∀(vs:Array Value) (u:World),(callFunc g vs).run P u= .ok (.enter g vs) u)
  {R:Ending->World->Prop} (j:Calls P g (first++vs++cap).toArray w R) (h: ∀e w',R e w'-> ∃v,e= .returned v/\WO P r N ops Q l ((d,v)::E) ds w'):WO P r N ops Q (i::l) E ds w:=
 Gn m hw k c (by rw[b];simp) (λa f=>by simpa using Ov (w:=w) f b p n he) j h
noncomputable def lL (fuel:Sh) (x:aO) (pid:Int):Option (aO×Int×Int):=(qa fuel x).bind λh=>bif (!(h.2==0)) then some (aO.mk [] [],0,h.2) else bif (!(kv pid)) then some (aO.mk [] [],0,2) else(uR fuel h.1 pid).bind λq=>some (q.1,q.2,0)
noncomputable def QC (O:Γ) (w:World) (r:aO×Int×Int) (c:Ending) (w':World):Prop:= ∃a O',c= .returned (.tuple #[a,.int .i64 r.2.1,.int .i64 r.2.2])/\bH w.heap.size O w O' w'/\(r.2.2=0-> ∃b,a= .pointer (some ⟨b,0,none⟩)/\j5 w.heap.size O' w' b r.1)
theorem bH.to {O O1 O':Γ} {w w1 w':World} (h:bH w.heap.size O w O1 w1) (k:bH w1.heap.size O1 w1 O' w'):bH w.heap.size O w O' w':=
 h.trans ⟨k.tr,k.ob,k.sub,λi hi=>k.below i (ζ hi h.tr.size)⟩
theorem j5.less {B a:Nat} {O:Γ} {w:World} {b:Nat} {x:aO} (h:j5 B O w b x) (f:a<=B):j5 a O w b x:=by
 obtain⟨nv,rv,S,aB,h⟩:=h;have less: ∀ {α:Type} {T:Ty α} {e:Nat} {v:Value} {xs:List α},Go.Dc.Own T e B O w v xs->Go.Dc.Own T e a O w v xs:=λh=>by
  obtain⟨⟨cs,⟨k,h1⟩,c⟩,d⟩:=h;refine⟨⟨cs,⟨k,?_⟩,c⟩,d⟩;rcases h1 with h1|⟨g,cap,cur,n,m,r⟩
  ·exact .inl h1
  ·exact .inr ⟨g,cap,cur,n,μ f m,r⟩
 have j: ∀ {S:Γ} {rs:Γd} {xs:List (Int×Γa)},c5 TW 35 B w S rs xs->c5 TW 35 a w S rs xs:=λ{S rs xs} h=>by
  induction rs generalizing S xs with
  |nil=>cases xs with
   |nil=>exact h
   |cons _ _=>exact h.elim
  |cons r rs o=>cases xs with
   |nil=>exact h.elim
   |cons y ys=>obtain⟨i,h1,c,d,l⟩:=h;exact⟨i,h1,c,d.less f,o l⟩
 exact⟨nv,rv,S,aB,h.mem,μ f h.ge,h.bG,less h.ns,less h.row,j h.fo,h.nd,h.out,h.nb,h.rb,h.dj⟩
set_option maxRecDepth 100000 in
set_option maxHeartbeats 4000000 in
theorem DA {O:Γ} {w:World} (hO:OB O w) (m:cI KK [] w) {v0:Value} {x0:aO} (c:fW.is [] w v0 x0) {pid:Int} {r:aO×Int×Int} (h:lL shut x0 pid=some r):Calls η 202 #[v0,.int .u64 pid] w (QC O w r):=by
 obtain⟨i,j,rfl,E,F⟩:=h8.1 c;have o:bH w.heap.size O w O w:=bH.refl hO;refine gA (args:=[(.agg #[i,j]),.int .u64 pid]) (N:=29) η3 rfl rfl rfl ?_;unfold lL at h;refine aP (a7 (l:=[0,1,2,3]) rfl (mm rfl rfl rfl rfl rfl rfl [i,j] rfl hO (λt w1 n1=>?_)));have z:=n1.bG;have d:=o.trans (bH.iP o.tr.size n1);refine aG ai [1,2,3] [(1,.int .u64 pid),(2,(.pointer (some ⟨t,0,none⟩)))] rfl ⟨rfl,rfl,trivial⟩ (aY (aR (aP (a7 (l:=[0,1,2,3,4,5,6]) rfl (dQ ai rfl rfl rfl rfl rfl rfl rfl z [i,j] rfl rfl (.inl rfl) (.agg #[i,j]) rfl ?_)))));obtain⟨e,he,h⟩:=bind_some h;refine i' rfl rfl rfl rfl rfl Yp rfl (ZQ d.ob (m.tr d.fr.dX) (c.tr d.fr.dX) he) (λ_ w2 n=>?_);obtain⟨p,s,rfl,x,u⟩:=n;refine⟨_,rfl,?_⟩;have f:=d.to x;refine aG ai [2,3,4,5,6] [(1,.int .u64 pid),(7,p),(8,.int .i64 e.2)] rfl ⟨rfl,rfl,rfl,trivial⟩ (aY (aR (aP (ml (aP (a7 (l:=[0,1,2]) rfl (aG ai [0,1,2] [(1,.int .u64 pid),(7,p),(8,.int .i64 e.2),(15,.bool (!(e.2==0)))] rfl ⟨rfl,rfl,rfl,rfl,trivial⟩ (aY (aR ?_)))))))));rcases iq h with⟨a,h⟩|⟨a,h⟩
 ·refine fz rfl a (aP (a7 (l:=[0,1,2,3]) rfl (aG ai [0,1,2,3] [(4,(.pointer none)),(5,.int .i64 0),(6,.int .i64 e.2)] rfl ⟨rfl,rfl,rfl,trivial⟩ (aY (aR (dC ?_))))));cases h;exact xa (fA (eU rfl ⟨_,_,rfl,f,λc=>by simp at a;exact absurd c a⟩))
 refine fJ rfl a ?_;have A:e.2=0:=by simpa using a
 obtain⟨b,rfl,hH⟩:=u A;have hH:=hH.less d.tr.size;refine aP (a7 (l:=[0,1,2,3]) rfl (aG ai [0] [(1,.int .u64 pid),(7,(.pointer (some ⟨b,0,none⟩))),(8,.int .i64 e.2),(20,.int .u64 pid)] rfl ⟨rfl,rfl,rfl,rfl,trivial⟩ (w_ rfl rfl rfl rfl rfl Yo rfl (ZP (qo _) (m.tr f.fr.dX) (dx.2 rfl)) (λv4 C g4 f4=>?_))));obtain rfl:=ji.1 g4;have g:=f.trans (bH.nR f.ob f.tr.size f4);have hH:j5 w.heap.size s C b e.1:=let⟨_,_,_,_,k⟩:=hH;⟨_,_,_,_,k.cc f4⟩
 refine aG ai [2,3] [(1,.int .u64 pid),(7,(.pointer (some ⟨b,0,none⟩))),(19,.bool (!(kv pid)))] rfl ⟨rfl,rfl,rfl,trivial⟩ (aY (aR ?_));rcases iq h with⟨a,h⟩|⟨a,h⟩
 ·refine fz rfl a (aP (a7 (l:=[0,1,2]) rfl (aG ai [0,1,2] [(4,(.pointer none)),(5,.int .i64 0),(6,.int .i64 2)] rfl ⟨rfl,rfl,rfl,trivial⟩ (aY (aR (dC ?_))))));cases h;exact xa (fA (eU rfl ⟨_,_,rfl,g,λc=>by cases c⟩))
 refine fJ rfl a (eB (q4 (aR ?_)));refine aP (a7 (l:=[0,1,2]) rfl (aG ai [0,1,2] [(1,.int .u64 pid),(7,(.pointer (some ⟨b,0,none⟩))),(9,.func (.func 261) #[.pointer (some ⟨b,0,none⟩)] #[])] rfl ⟨rfl,rfl,rfl,trivial⟩ (aY (aR (aP (a7 (l:=[0,1,2,3,4,5,6]) rfl (aG ai [0,1,2] [(25,(.pointer (some ⟨b,0,none⟩))),(26,.func (.func 261) #[.pointer (some ⟨b,0,none⟩)] #[]),(27,.int .u64 pid)] rfl ⟨rfl,rfl,rfl,trivial⟩ ?_)))))));obtain⟨q,B,h⟩:=bind_some h;cases h;refine afp (first:=[.pointer (some ⟨b,0,none⟩)]) (cap:=[]) rfl rfl rfl rfl rfl rfl rfl Yq (ZN g.ob (m.tr g.fr.dX) g.tr.size hH B) (λ_ w5 n=>?_);obtain⟨rfl,D,y,v⟩:=n;refine⟨_,rfl,?_⟩;refine aG ai [4,5,6] [(4,(.pointer (some ⟨b,0,none⟩))),(5,.int .i64 q.2),(6,.int .i64 0)] rfl ⟨rfl,rfl,rfl,trivial⟩ (aY (aR (dC ?_)));exact eU rfl ⟨_,_,rfl,g.trans y,λ_=>⟨b,rfl,v⟩⟩
noncomputable def Safe (S:Γ) (w:World) (v:Value) (ys:Γa):Prop:= ∀a:Γ,(∀g∈S,g∉a)->TW.slice.is a w v ys
theorem Safe.keep {S:Γ} {w w':World} {O O':Γ} {v:Value} {ys:Γa} (h:Safe S w v ys) (a:Tr O w O' w') (hk: ∀g∈S,w'.heap[g]? =w.heap[g]?):Safe S w' v ys:=λj e=>by
 refine(h ((ξi w.heap.size).filter λk=>!S.contains k) (λg f hm=>?_)).tr ⟨a.os,a.tape,a.output,a.size,λk i d=>?_⟩
 ·simp[f] at hm
 ·have b:k∈S:=by
   rw[ξQ] at d
   by_cases c:k∈S
   ·exact c
   ·exact absurd ⟨by simpa using i,by simpa using c⟩ d
  exact⟨e k b,hk k b⟩
noncomputable def dG (S:Γ) (w:World):Γd->List aq->Prop
 |[],[]=>True
 |r::rs,z::bs=>r.1=z.aa/\Safe S w r.2 z.bc/\dG S w rs bs
 |_,_=>False
theorem dG.imp {S S':Γ} {w w':World} (h: ∀v ys,Safe S w v ys->Safe S' w' v ys): ∀ {rs:Γd} {bs:List aq},dG S w rs bs->dG S' w' rs bs
 |[],[],_=>trivial
 |_::_,_::_,⟨h1,a,b⟩=>⟨h1,h _ _ a,dG.imp h b⟩
 |[],_::_,k=>k.elim
 |_::_,[],k=>k.elim
theorem dG.len {S:Γ} {w:World}: ∀ {rs:Γd} {bs:List aq},dG S w rs bs->rs.length=bs.length
 |[],[],_=>rfl
 |_::_,_::_,⟨_,_,a⟩=>by simp[dG.len a]
 |[],_::_,k=>k.elim
 |_::_,[],k=>k.elim
theorem dG.of {B:Nat} {w:World}: ∀ {S:Γ} {rs:Γd} {bs:List aq} (a:Γ),c5 TW 35 B w S rs (bs.map bx)->(∀g∈S,g∈a)->dG a w rs bs
 |_,[],[],_,_,_=>trivial
 |_,r::rs,z::bs,a,⟨k,h1,c,e,f⟩,d=>by
  refine⟨h1,λj i=>e.data gR λg b=>i g (d g (by rw[c,b];simp)),dG.of a f λg b=>d g (by rw[c];exact ξm _ b)⟩
 |_,[],_::_,_,h,_=>h.elim
 |_,_::_,[],_,h,_=>h.elim
theorem dG.at_ {S:Γ} {w:World}: ∀ {rs:Γd} {bs:List aq} {k:Nat} {z:aq},dG S w rs bs->bs[k]? =some z-> ∃v,rs[k]? =some (z.aa,v)/\Safe S w v z.bc
 |r::rs,y::bs,0,z,⟨h1,c,_⟩,hk=>by
  simp at hk;subst hk;exact⟨r.2,by simp[<-h1],c⟩
 |r::rs,y::bs,k+1,z,⟨_,_,d⟩,hk=>by
  obtain⟨v,a,b⟩:=dG.at_ d (by simpa using hk);exact⟨v,by simpa using a,b⟩
 |[],[],_,_,_,hk=>by simp at hk
 |[],_::_,_,_,h,_=>h.elim
 |_::_,[],_,_,h,_=>h.elim
theorem dG.set {S:Γ} {w:World}: ∀ {rs:Γd} {bs:List aq} (k:Nat) {v:Value} {p:Int} {ys:Γa},dG S w rs bs->Safe S w v ys->dG S w (rs.set k (p,v)) (bs.set k (aq.mk p ys))
 |[],[],_,_,_,_,h,_=>h
 |r::rs,y::bs,0,v,p,ys,⟨_,_,a⟩,b=>⟨rfl,b,a⟩
 |r::rs,y::bs,k+1,v,p,ys,⟨h1,c,a⟩,b=>⟨h1,c,dG.set k a b⟩
 |[],_::_,_,_,_,_,h,_=>h.elim
 |_::_,[],_,_,_,_,h,_=>h.elim
theorem ad1 {S:Γ} {w:World}:Safe S w (.slice none 0 0) []:=λ_ _=>gN _ _ _
theorem dG.filter {S:Γ} {w:World}: ∀ {rs:Γd} {bs:List aq},dG S w rs bs->dG S w (rs.filter λr=>!emp r) (bs.filter λz=>!(z.bc.length==0))
 |[],[],_=>trivial
 |r::rs,z::bs,⟨h1,a,b⟩=>by
  obtain⟨A,c,e,_,_⟩:=eS (a [] (λ_ _ h=>by cases h));have he:emp r=(z.bc.length==0):=by unfold emp;rw[e];rfl
  rw[ξK,ξK,he];cases d:z.bc.length==0 with
  |true=>exact dG.filter b
  |false=>exact⟨h1,a,dG.filter b⟩
 |[],_::_,k=>k.elim
 |_::_,[],k=>k.elim
structure gw (B:Nat) (O:Γ) (w:World) (b:Nat) (nv rv:Value) (S:Γ) (aB:Γd) (x:aO):Prop where
 mem:b∈O
 ge:B<=b
 bG:bE w b 262 [nv,rv]
 ns:Go.Dc.Own dW 127 B O w nv x.ax
 row:Go.Dc.Own TR 132 B O w rv aB
 fo:dG S w aB x.au
 lt: ∀g∈S,B<=g/\g<w.heap.size
 out: ∀g∈S,g∉O
 nb:nv.ownBlock≠some b
 rb:rv.ownBlock≠some b
 dj:Dj nv rv
noncomputable def H6 (B:Nat) (O:Γ) (w:World) (b:Nat) (x:aO):Prop:= ∃nv rv S aB,gw B O w b nv rv S aB x
theorem e8.Gi {B:Nat} {O:Γ} {w:World} {b:Nat} {nv rv:Value} {S:Γ} {aB:Γd} {x:aO} (h:e8 B O w b nv rv S aB x):gw B O w b nv rv S aB x:=
 ⟨h.mem,h.ge,h.bG,h.ns,h.row,dG.of S h.fo (λ_ h=>h),h.fo.lt,h.out,h.nb,h.rb,h.dj⟩
section
variable {B:Nat} {O O':Γ} {w w' b8:World} {b:Nat} {nv rv:Value} {S:Γ} {aB:Γd} {x:aO}
theorem gw.cc (h:gw B O w b nv rv S aB x) (a:Fr [] w w'):gw B O w' b nv rv S aB x:=
 ⟨h.mem,h.ge,h.bG.cc a,h.ns.cc a,h.row.cc a,h.fo.imp λ_ _ k=>k.keep (O:=[]) (O':=[]) a.dX λg c=>a.block g (h.lt g c).2 (by simp),λg c=>⟨(h.lt g c).1,ζ (h.lt g c).2 a.size⟩,h.out,h.nb,h.rb,h.dj⟩
theorem gw.cell (h:gw B O w b nv rv S aB x) {c:Nat} (f:c∈O) (i:c<B) (a:Fr [c] w w'):gw B O w' b nv rv S aB x:=
 ⟨h.mem,h.ge,h.bG.fr a (by simp;have:=h.ge;omega),h.ns.st a f (λe=>by have:=(h.ns.lt c e).1;omega),h.row.st a f (λe=>by have:=(h.row.lt c e).1;omega),
  h.fo.imp λ_ _ k=>k.keep (a.tr (gJ f)) λg d=>a.block g (h.lt g d).2 (by simp;have:=(h.lt g d).1;omega),λg d=>⟨(h.lt g d).1,ζ (h.lt g d).2 a.size⟩,h.out,h.nb,h.rb,h.dj⟩
theorem gw.boxes (h:gw B O w b nv rv S aB x) {e:Value} {d:Γd} {x':aO} (ap:dn TR 132 B O w rv d O' w' e) (i:bE b8 b 262 [nv,e]) (c:Fr [b] w' b8)
  (j:dG S w d x'.au) (hn:x'.ax=x.ax):gw B O' b8 b nv e S d x':=by
 have hm:=ap.sub _ h.mem;have f:=ap.ne _ h.bG.lt h.rb;have l:=ap.other h.ns λg a=>h.dj g a;refine⟨hm,h.ge,i,by rw[hn];exact l.st c hm h.nb,ap.own.st c hm f,?_,λg a=>⟨(h.lt g a).1,ζ (h.lt g a).2 (μ ap.tr.size c.size)⟩,λg a=>(ap.tr.keep g (h.lt g a).2 (h.out g a)).1,h.nb,f,λg a=>ap.ne _ (h.ns.lt g a).2 (h.dj g a)⟩;refine j.imp λ_ _ k=>k.keep (ap.tr.trans (c.tr (gJ hm))) λg a=>?_;rw[c.block g (ζ (h.lt g a).2 ap.tr.size) (by simp;rintro rfl;exact h.out _ a h.mem),(ap.tr.keep g (h.lt g a).2 (h.out g a)).2]
theorem gw.data {e:Γ} (h:gw B O w b nv rv S aB x) (hO: ∀g∈e,g<B):fW.is e w (.agg #[nv,rv]) x:=by
 refine h8.2 ⟨_,_,rfl,h.ns.iC.data wO (λg d a=>by have:=(h.ns.lt g d).1;have:=hO g a;omega),?_⟩;have hlen:=h.fo.len;obtain⟨cs,⟨A,c,j,hl,q⟩,p⟩:=h.row.iC.data (O:=e) (E5 _) (λg d a=>by have:=(h.row.lt g d).1;have:=hO g a;omega);refine⟨cs,⟨A,c,by rw[<-hlen];exact j,by rw[<-hlen];exact hl,λk z hk=>?_⟩,p⟩;obtain⟨v,m,o⟩:=h.fo.at_ hk;obtain⟨ad,es,f,i,a,n,l⟩:=q k _ m;refine⟨ad,es,f,i,a,?_,l⟩;refine⟨[.int .u64 z.aa],[v],?_,rfl,l5 rfl (o e λg d a=>by have:=(h.lt g d).1;have:=hO g a;omega)⟩;rw[n.1];rfl
end
set_option maxRecDepth 100000 in
set_option maxHeartbeats 4000000 in
theorem DC {O:Γ} {w:World} (hO:OB O w) {B b:Nat} {x:aO} (d:B<=w.heap.size) (h:H6 B O w b x):Calls η 203 #[.pointer (some ⟨b,0,none⟩)] w (λc w'=>c= .returned (.tuple #[])/\ ∃O',bH B O w O' w'/\H6 B O' w' b (mf x)):=by
 obtain⟨nv,rv,S,aB,h⟩:=h;refine gA (args:=[.pointer (some ⟨b,0,none⟩)]) (N:=12) η4 rfl rfl rfl (a7 (l:=[0,1,2,3,4,5,6,7,8,9,10]) rfl (aG ai [0,1,2,3,4] [(2,(.pointer (some ⟨b,0,none⟩))),(6,(.pointer (some ⟨b,1,none⟩)))] rfl ⟨rfl,rfl,trivial⟩ ?_));obtain⟨A1,c1,rfl,_,_⟩:=h.row.form;refine dQ ai rfl rfl rfl rfl rfl rfl rfl h.bG [.slice A1 aB.length c1] rfl rfl (.inr rfl) (.slice A1 aB.length c1) rfl (Qv rfl rfl rfl rfl rfl Yr rfl (adX hO h.row) (λk w' O' ap=>?_));have a:=bH.EB d h.row ap;have f:=ap.bG h.bG h.rb;obtain⟨A2,c2,rfl,_,_⟩:=ap.own.form;have i:=h.fo.filter;generalize j:(aB.filter λr=>!emp r)=L at*
 refine aG ai [7,8,9] [(8,.slice A2 L.length c2),(11,(.pointer (some ⟨b,1,none⟩)))] rfl ⟨rfl,rfl,trivial⟩ (eT ai rfl rfl rfl rfl rfl rfl rfl f [.slice A2 L.length c2] rfl rfl (by simp[υ]) rfl [nv,.slice A2 L.length c2] rfl (λm g f3=>?_));have e:=a.trans (bH.gp a.ob (ap.sub _ h.mem) h.ge f3);refine aY ?_;exact afw rfl ⟨rfl,_,e,_,_,_,_,h.boxes (x':=mf x) ap g f3 i rfl⟩
theorem Fz {B:Nat} {O:Γ} {w:World} {A:Option Addr} {c:Nat} {aB:Γd} (f:Go.Dc.Own TR 132 B O w (.slice A aB.length c) aB) (t:0<aB.length):
  ∃g R,A=some ⟨g,0,none⟩/\g∈O/\B<=g/\bE w g 132 (rc aB++R)/\aB.length*2+R.length=c*2/\aB.length<=c/\c<=maxLen/\ ∀r∈aB,∃A n c,r.2= .slice A n c:=by
 obtain⟨cs,⟨u,b⟩,s⟩:=f.ex;rcases b with⟨_,v⟩|⟨g,cap,cur,b,i,p,q,l,d,a⟩
 ·omega
 injection b with h x k;subst h;subst k;obtain⟨m,o⟩:=Fs s;have j:TR.n=2:=rfl;rw[j] at d a;have e:cur.toList=rc aB++cur.toList.drop (aB.length*2):=by
  rw[<-m,<-a,a]
  conv=>lhs;rw[<-ξd (aB.length*2) cur.toList]
  rw[a]
 refine⟨g,cur.toList.drop (aB.length*2),rfl,f.mem g rfl,i,?_,?_,q,l,o⟩
 ·unfold bE;rw[<-e,ξO];exact p
 ·have:=congrArg ζ5 e;rw[χ,d] at this;simp only[ν,rc,fu,ρ] at this;omega
theorem adt {B:Nat} {O:Γ} {w':World} {g c:Nat} {L:Γd} {R:Γb} (f:g∈O) (a:B<=g) (b:bE w' g 132 (rc L++R)) (hl:L.length*2+R.length=c*2) (d:L.length<=c) (hm:c<=maxLen) (e: ∀r∈L,∃A n c,r.2= .slice A n c):
  Go.Dc.Own TR 132 B O w' (.slice (some ⟨g,0,none⟩) L.length c) L:=by
 refine⟨⟨rc L,⟨by rw[rc,fu,ρ];rfl,.inr ⟨g,c,(rc L++R).toArray,rfl,a,b,d,hm,?_,?_⟩⟩,E8 e⟩,λk hk=>by cases hk;exact f⟩
 ·rw[ζ2,ν,rc,fu,ρ];exact hl
 ·exact ξS (by rw[rc,fu,ρ];rfl)
theorem kO {L:Γd} {R:Γb} {k:Nat} {x:Int×Value} (h:L[k]? =some x):((rc L++R).drop (k*2+1)).take 1=[x.2]:=by
 have:=E6 (R:=R) h;have e:=congrArg (List.drop 1) this;rw[List.drop_take,ζP] at e;simpa using e
theorem E7 {L:Γd} {R:Γb} {k:Nat} {x:Int×Value} {v:Value} (h:L[k]? =some x):putAt (rc L++R) (k*2+1) [v]=rc (L.set k (x.1,v))++R:=by
 have hk:=(δ.1 h).1;rw[<-NF (x:=(x.1,v)) hk];have a:=E6 (R:=R) h;have b:((rc L++R).drop (k*2))= .int .u64 x.1::x.2::(rc L++R).drop (k*2+2):=by
  have:=ξd 2 ((rc L++R).drop (k*2));rw[a,ζP] at this;exact this.symm
 unfold putAt;have c:(rc L++R).take (k*2+1)=(rc L++R).take (k*2)++[.int .u64 x.1]:=by
  rw[List.take_add,b];rfl
 rw[c];simp
noncomputable def p9 (fuel:Sh) (x:aO) (pid:Int):Option (aO×Int×Int):=(lL fuel x pid).bind λh=>bif (!(h.2.2==0)) then some (aO.mk [] [],0,h.2.2) else(idx h.1.au h.2.1).bind λz=>some (mf (aO.mk h.1.ax (h.1.au.set h.2.1.toNat (aq.mk z.aa []))),(z.bc.length:Int),0)
noncomputable def p_ (fuel:Sh) (x:aO) (pid:Int):Option (aO×Int×Int):=(lL fuel x pid).bind λh=>bif (!(h.2.2==0)) then some (aO.mk [] [],0,h.2.2) else(idx h.1.au h.2.1).bind λz=>bif ((z.bc.length:Int)==0) then some (aO.mk [] [],0,4) else(idx z.bc 0).bind λw0=>some (mf (aO.mk h.1.ax (h.1.au.set h.2.1.toNat (aq.mk z.aa (z.bc.drop 1)))),w0,0)
noncomputable def p' (fuel:Sh) (x:aO) (pid:Int) (words:Γa):Option (aO×Int):=(lL fuel x pid).bind λh=>bif (!(h.2.2==0)) then some (aO.mk [] [],h.2.2) else(idx h.1.au h.2.1).bind λz=>bif (decide (γ.wrap ((z.bc.length:Int)+(words.length:Int))>4)) then some (aO.mk [] [],6) else(app 8 z.bc words).bind λws=>some (mf (aO.mk h.1.ax (h.1.au.set h.2.1.toNat (aq.mk z.aa ws))),0)
theorem EY {B:Nat} {O:Γ} {w w':World} {b g c:Nat} {nv:Value} {S:Γ} {aB L:Γd} {R:Γb} {names:List aw} {bs:List aq} (mem:b∈O) (ge:B<=b) (bG:bE w b 262 [nv,.slice (some ⟨g,0,none⟩) aB.length c]) (ns:Go.Dc.Own dW 127 B O w nv names) (nb:nv.ownBlock≠some b) (dj:Dj nv (.slice (some ⟨g,0,none⟩) aB.length c))
  (i:g≠b) (d:g∈O) (l:B<=g) (hl:aB.length*2+R.length=c*2) (p:aB.length<=c) (hm:c<=maxLen) (f:Fr [g] w w') (o:bE w' g 132 (rc L++R)) (h:L.length=aB.length) (m: ∀r∈L,∃A n c,r.2= .slice A n c) (q:dG S w L bs) (lt: ∀j∈S,B<=j/\j<w.heap.size) (out: ∀j∈S,j∉O):
  gw B O w' b nv (.slice (some ⟨g,0,none⟩) aB.length c) S L (aO.mk names bs):=by
 refine⟨mem,ge,bG.fr f (by simp;exact λe=>i e.symm),ns.st f d (λe=>dj g e rfl),?_,q.imp λ_ _ k=>k.keep (f.tr (gJ d)) λj a=>f.block j (lt j a).2 (by simp;rintro rfl;exact out _ a d),λj a=>⟨(lt j a).1,ζ (lt j a).2 f.size⟩,out,nb,λe=>i (by injection e),dj⟩;rw[<-h];exact adt d l o (by rw[h];exact hl) (by rw[h];exact p) hm m
noncomputable def SP.safe (S:Γ) (ys:Γa):SP:=⟨λw u=>(∀g∈S,g<w.heap.size)/\Safe S w u ys,λa ⟨h1,c⟩=>⟨λg b=>ζ (h1 g b) a.size,c.keep (O:=[]) (O':=[]) a.dX λg b=>a.block g (h1 g b) (by simp)⟩⟩
theorem aa_ {P:Program} {r:Option Nat} {N:Nat} {Θ:cG} {ops:Array Oper} {Q:Exit->Act->World->Prop} {E:Env} {ds:List Deferred} {w:World} {i d:Nat} {o:Oper} {S:Γ} (s:Θ.ok P) {a:Act} (c:Has N E ds a) (I:ops[i]? =some o) (hw:want N ops E o.guard=some true) (D:o.dst=some d) {t:Nat} {x:Operand} {lo hi mx:Option Operand} {f y:TI} (j:o.op= .slice t x lo hi mx) (m:Θ.get t=some f)
  (g:f.tag=5) (p:Θ.get f.e=some y) {v:Value} (L:ev E x=some v) {l' h' m':Option (IntKind×Int)} (G:jw E lo=some l') (F:jw E hi=some h') (H:jw E mx=some m') {xs ys:Γa} (hn:TW.n=y.size) (q:Safe S w v xs)
  (h:ep xs (l'.map (·.2)) (h'.map (·.2)) (m'.map (·.2))=some ys):eM P r ops Q i d a w (λu w'=>Safe S w' u ys/\Fr [] w w'):=by
 obtain⟨z,k,O⟩:=wu (w:=w) s m g p hn (q [] λ_ _ hm=>by cases hm) h;have J:Safe S w z ys:=λA C=>by
  obtain⟨R,l,K⟩:=wu (w:=w) s m g p hn (q A C) h;rw[k] at l;injection l with B M;rw[B];exact K
 refine lU I (gQ c hw) D (b:=true) (v:=z) (w':=w) ?_ ⟨J,Fr.refl _ _⟩;simp only[if_true];refine⟨by rw[j];simp,?_⟩;simp only[execOp,j,ξx,c.eval L,mZ c G,mZ c F,mZ c H,k];rfl
set_option maxRecDepth 100000 in
set_option maxHeartbeats 4000000 in
theorem ZK {O:Γ} {w:World} (hO:OB O w) (ah:cI KK [] w) {v0:Value} {x0:aO} (K:fW.is [] w v0 x0) {v1:Value} {x1:Int} (h1:(Ty.int .u64).is [] w v1 x1) {r:aO×Int×Int} (h:p9 shut x0 x1=some r):Calls η 152 #[v0,v1] w (gu (On fW (Ty.int .i64) (Ty.int .i64)) O w r):=by
 obtain rfl:=dx.1 h1;obtain⟨s,t,rfl,aS,aT⟩:=h8.1 K;have M:bH w.heap.size O w O w:=bH.refl hO;refine gA (args:=[(.agg #[s,t]),(.int .u64 x1)]) (N:=47) ηc rfl rfl rfl ?_;unfold p9 at h;refine aP (a7 (l:=[0,1,2,3]) rfl (mm rfl rfl rfl rfl rfl rfl [s,t] rfl hO (λI w1 n1=>?_)));have F:=n1.bG;have v:=M.trans (bH.iP M.tr.size n1);refine q0 ai rfl rfl rfl rfl rfl rfl [(.slice none 0 0),(.slice none 0 0)] rfl v.ob (λa w2 n2=>?_);have F:=F.cc n2.fr;have c:=n2.bG;have U:w.heap.size<=a:=μ v.tr.size n2.ge;have d:=v.trans (bH.iP v.tr.size n2);have i2:a∈a::I::O:=τ;have H:a<w2.heap.size:=c.lt;have ak: ∀g∈O,g<w2.heap.size:=λg q=>ζ (hO g q) d.tr.size;refine aG ai [2,3] [(1,(.int .u64 x1)),(2,(.pointer (some ⟨I,0,none⟩))),(4,(.pointer (some ⟨a,0,none⟩)))] rfl ⟨rfl,rfl,rfl,trivial⟩ (aY (aR (aP (a7 (l:=[0,1,2,3,4,5,6,7,8,9]) rfl (dQ ai rfl rfl rfl rfl rfl rfl rfl F [s,t] rfl rfl (.inl rfl) (.agg #[s,t]) rfl ?_)))));obtain⟨e,he,h⟩:=bind_some h;refine aG ai [1] [(1,(.int .u64 x1)),(4,(.pointer (some ⟨a,0,none⟩))),(12,(.agg #[s,t])),(13,(.int .u64 x1))] rfl ⟨rfl,rfl,rfl,rfl,trivial⟩ (i' rfl rfl rfl rfl rfl Cg rfl (DA d.ob (ah.tr d.fr.dX) (K.tr d.fr.dX) he) (λ_ aF q=>?_));obtain⟨Y,aL,rfl,y,aj⟩:=q;refine⟨_,rfl,?_⟩;have c:bE aF a 58 [(.slice none 0 0),(.slice none 0 0)]:=(y.below _ H).trans c;have A:=d.to y;have i2:=y.sub _ i2;refine aG ai [3,4,5,6,7,8,9] [(1,(.int .u64 x1)),(4,(.pointer (some ⟨a,0,none⟩))),(7,Y),(8,(.int .i64 e.2.1)),(9,(.int .i64 e.2.2))] rfl ⟨rfl,rfl,rfl,rfl,rfl,trivial⟩ (aY (aR (aP (aP (a7 (l:=[0,1]) rfl (aG ai [0,1] [(1,(.int .u64 x1)),(4,(.pointer (some ⟨a,0,none⟩))),(7,Y),(8,(.int .i64 e.2.1)),(9,(.int .i64 e.2.2)),(19,(.bool (!(e.2.2==0))))] rfl ⟨rfl,rfl,rfl,rfl,rfl,rfl,trivial⟩ (aY (aR ?_))))))));rcases iq h with⟨C,h⟩|⟨C,h⟩
 ·refine fz rfl C ?_;cases h;refine aP (a7 (l:=[0,1,2,3,4]) rfl (aG ai [0,1] [(4,(.pointer (some ⟨a,0,none⟩))),(20,(.agg #[(.slice none 0 0),(.slice none 0 0)])),(21,(.int .i64 e.2.2))] rfl ⟨rfl,rfl,rfl,trivial⟩ (eT ai rfl rfl rfl rfl rfl rfl rfl c [(.slice none 0 0),(.slice none 0 0)] rfl rfl (by simp[υ]) rfl [(.slice none 0 0),(.slice none 0 0)] rfl (λaH G u=>?_))));refine aG ai [3,4] [(4,(.pointer (some ⟨a,0,none⟩))),(5,(.int .i64 0)),(6,(.int .i64 e.2.2))] rfl ⟨rfl,rfl,rfl,trivial⟩ (aY (aR (dC ?_)));exact fA (kY ai (vs:=[.agg #[(.slice none 0 0),(.slice none 0 0)],(.int .i64 0),(.int .i64 e.2.2)]) ⟨_,_,rfl,⟨_,_,_,_,rfl,G,rfl,rfl,.inl rfl,rfl⟩,_,_,rfl,rfl,_,_,rfl,rfl,rfl⟩ ⟨_,rfl,⟨_,_,_,rfl,(h8.2 ⟨_,_,rfl,gN _ _ _,gN _ _ _⟩),dx.2 rfl,dx.2 rfl⟩,(A.trans (bH.gp A.ob i2 U u)).fr⟩)
 refine fJ rfl C ?_;have ar:e.2.2=0:=by simpa using C
 obtain⟨b,rfl,nv,rv,S,aB,hH⟩:=aj ar;refine eB (aR ?_);obtain⟨z,aE,h⟩:=bind_some h;obtain⟨aU,W⟩:=kx aE;obtain⟨k,hk⟩: ∃k:Nat,k=e.2.1.toNat:=⟨_,rfl⟩;rw[<-hk] at W;have av:e.2.1=(k:Int):=by omega
 rw[av];rw[<-hk] at h;have B:=hH.Gi;obtain⟨aZ,f,aD⟩:=B.fo.at_ W;obtain⟨D,E,rfl,aV,aW⟩:=eS (aD [] λ_ _ hm=>by cases hm);obtain⟨aI,i,rfl,_,_⟩:=hH.row.form;have az:=(δ.1 f).1;obtain⟨g,R,rfl,V,L,T,aA,ao,aC,aw⟩:=Fz hH.row (by omega);have ax:g≠b:=λe=>hH.rb (by rw[<-e];rfl);have J:(k:Int).toNat*({tag:=8,k:=0,e:=0,fs:=[(29,0),(40,1)],size:=2,bytes:=32,zero:=.agg #[.int .u64 0,.slice none 0 0]}:TI).size=k*2:=by rw[ι]
 have X:(k:Int).toNat<aB.length:=by rw[ι];exact az
 refine aP (a7 (l:=[0,1,2,3,4,5,6,7,8,9,10]) rfl (aG ai [0,1,2,3] [(4,(.pointer (some ⟨a,0,none⟩))),(7,(.pointer (some ⟨b,0,none⟩))),(8,(.int .i64 (k:Int))),(25,(.pointer (some ⟨b,1,none⟩)))] rfl ⟨rfl,rfl,rfl,rfl,trivial⟩ (dQ ai rfl rfl rfl rfl rfl rfl rfl hH.bG [(.slice (some ⟨g,0,none⟩) aB.length i)] rfl rfl (.inr rfl) (.slice (some ⟨g,0,none⟩) aB.length i) rfl (aG ai [5] [(4,(.pointer (some ⟨a,0,none⟩))),(7,(.pointer (some ⟨b,0,none⟩))),(8,(.int .i64 (k:Int))),(26,(.slice (some ⟨g,0,none⟩) aB.length i)),(27,(.int .i64 (k:Int)))] rfl ⟨rfl,rfl,rfl,rfl,rfl,trivial⟩ (ow ai rfl rfl rfl rfl rfl rfl rfl rfl rfl rfl (by omega) X ?_)))));rw[J,e9,ψ];refine aG ai [7] [(4,(.pointer (some ⟨a,0,none⟩))),(7,(.pointer (some ⟨b,0,none⟩))),(8,(.int .i64 (k:Int))),(29,(.pointer (some ⟨g,k*2+1,none⟩)))] rfl ⟨rfl,rfl,rfl,rfl,trivial⟩ (dQ ai rfl rfl rfl rfl rfl rfl rfl T [(.slice D z.bc.length E)] (kO f) rfl (.inr rfl) (.slice D z.bc.length E) rfl (aG ai [9,10] [(4,(.pointer (some ⟨a,0,none⟩))),(7,(.pointer (some ⟨b,0,none⟩))),(8,(.int .i64 (k:Int))),(10,(.int .i64 (z.bc.length:Int)))] rfl ⟨rfl,rfl,rfl,rfl,trivial⟩ (aY (aR (aP (a7 (l:=[0,1,2,3,4,5,6,7,8]) rfl (aG ai [0,1,2,3] [(4,(.pointer (some ⟨a,0,none⟩))),(7,(.pointer (some ⟨b,0,none⟩))),(8,(.int .i64 (k:Int))),(10,(.int .i64 (z.bc.length:Int))),(35,(.pointer (some ⟨b,1,none⟩)))] rfl ⟨rfl,rfl,rfl,rfl,rfl,trivial⟩ (dQ ai rfl rfl rfl rfl rfl rfl rfl hH.bG [(.slice (some ⟨g,0,none⟩) aB.length i)] rfl rfl (.inr rfl) (.slice (some ⟨g,0,none⟩) aB.length i) rfl (aG ai [5] [(4,(.pointer (some ⟨a,0,none⟩))),(7,(.pointer (some ⟨b,0,none⟩))),(8,(.int .i64 (k:Int))),(10,(.int .i64 (z.bc.length:Int))),(36,(.slice (some ⟨g,0,none⟩) aB.length i)),(37,(.int .i64 (k:Int)))] rfl ⟨rfl,rfl,rfl,rfl,rfl,rfl,trivial⟩ (ow ai rfl rfl rfl rfl rfl rfl rfl rfl rfl rfl (by omega) X ?_))))))))));rw[J,e9,ψ];refine aG ai [7] [(4,(.pointer (some ⟨a,0,none⟩))),(7,(.pointer (some ⟨b,0,none⟩))),(8,(.int .i64 (k:Int))),(10,(.int .i64 (z.bc.length:Int))),(39,(.pointer (some ⟨g,k*2+1,none⟩)))] rfl ⟨rfl,rfl,rfl,rfl,rfl,trivial⟩ (eT ai rfl rfl rfl rfl rfl rfl rfl T [(.slice none 0 0)] rfl rfl (by simp[υ]) (ξe (by simp only[ν,rc,fu,ρ];show k*2+1+1<=_;omega)) (rc (aB.set k (z.aa,(.slice none 0 0)))++R) (E7 (x:=(z.aa,(.slice D z.bc.length E))) f) (λw5 an f5=>?_));have n:=EY (bs:=e.1.au.set k (aq.mk z.aa [])) hH.mem hH.ge hH.bG hH.ns hH.nb hH.dj ax V L aA ao aC f5 an (by rw[ξT]) (λr f=>by
  rcases ξu f with f|rfl
  ·exact aw r f
  ·exact⟨_,_,_,rfl⟩) (B.fo.set k ad1) B.lt hH.out
 have c:=c.fr f5 (by simp;omega);have P:=A.trans (bH.gp A.ob V (μ d.tr.size L) f5);clear hH B;refine aY (aR ?_);have af:w2.heap.size<=w5.heap.size:=μ y.tr.size f5.size;refine aP (a7 (l:=[0,1]) rfl (aG ai [0] [(10,(.int .i64 (z.bc.length:Int))),(4,(.pointer (some ⟨a,0,none⟩))),(7,(.pointer (some ⟨b,0,none⟩))),(40,(.pointer (some ⟨b,0,none⟩)))] rfl ⟨rfl,rfl,rfl,rfl,trivial⟩ (i' rfl rfl rfl rfl rfl Ch rfl (DC P.ob af ⟨_,_,_,_,n⟩) (λ_ Z q=>?_))));obtain⟨rfl,ab,m,o,p,aM,aX,n⟩:=q;refine⟨_,rfl,?_⟩;have c:bE Z a 58 [(.slice none 0 0),(.slice none 0 0)]:=(m.below _ H).trans c;have i2:=m.sub _ i2;have Q:bH w.heap.size O w ab Z:=P.trans ⟨m.tr,m.ob,m.sub,λj ay=>m.below j (ζ ay d.tr.size)⟩;refine aG ai [] [(10,(.int .i64 (z.bc.length:Int))),(4,(.pointer (some ⟨a,0,none⟩))),(7,(.pointer (some ⟨b,0,none⟩)))] rfl ⟨rfl,rfl,rfl,trivial⟩ (aY (aR ?_));cases h;refine aP (a7 (l:=[0,1,2,3,4,5,6,7]) rfl (aG ai [0,1,2] [(7,(.pointer (some ⟨b,0,none⟩))),(10,(.int .i64 (z.bc.length:Int))),(4,(.pointer (some ⟨a,0,none⟩))),(44,(.pointer (some ⟨b,0,none⟩)))] rfl ⟨rfl,rfl,rfl,rfl,trivial⟩ (dQ ai rfl rfl rfl rfl rfl rfl rfl n.bG [o,p] rfl rfl (.inl rfl) (.agg #[o,p]) rfl ?_)));obtain⟨aJ,aN,ad,_,_⟩:=n.ns.form;obtain⟨aK,aQ,ae,_,_⟩:=n.row.form;refine aG ai [4] [(4,(.pointer (some ⟨a,0,none⟩))),(45,(.agg #[o,p])),(46,(.int .i64 (z.bc.length:Int)))] rfl ⟨rfl,rfl,rfl,trivial⟩ (eT ai rfl rfl rfl rfl rfl rfl rfl c [o,p] rfl rfl (by rw[ad,ae];simp[υ]) rfl [o,p] rfl (λaH G u=>?_));have al:=n.cell i2 H u;have ag:=(Q.trans (bH.gp Q.ob i2 U u)).fr;refine aG ai [6,7] [(4,(.pointer (some ⟨a,0,none⟩))),(5,(.int .i64 (z.bc.length:Int))),(6,(.int .i64 0))] rfl ⟨rfl,rfl,rfl,trivial⟩ (aY (aR (dC ?_)));exact(kY ai (vs:=[.agg #[o,p],(.int .i64 (z.bc.length:Int)),(.int .i64 0)]) ⟨_,_,rfl,⟨_,_,_,_,rfl,G,rfl,rfl,.inl rfl,rfl⟩,_,_,rfl,rfl,_,_,rfl,rfl,rfl⟩ ⟨_,rfl,⟨_,_,_,rfl,(al.data ak),dx.2 rfl,dx.2 rfl⟩,ag⟩)
set_option maxRecDepth 100000 in
set_option maxHeartbeats 4000000 in
theorem ZL {O:Γ} {w:World} (hO:OB O w) (aN:cI KK [] w) {v0:Value} {x0:aO} (aj:fW.is [] w v0 x0) {v1:Value} {x1:Int} (h1:(Ty.int .u64).is [] w v1 x1) {r:aO×Int×Int} (h:p_ shut x0 x1=some r):Calls η 171 #[v0,v1] w (gu (On fW (Ty.int .u64) (Ty.int .i64)) O w r):=by
 obtain rfl:=dx.1 h1;obtain⟨L,M,rfl,bo,bp⟩:=h8.1 aj;have al:bH w.heap.size O w O w:=bH.refl hO;refine gA (args:=[(.agg #[L,M]),(.int .u64 x1)]) (N:=68) ηd rfl rfl rfl ?_;unfold p_ at h;refine aP (a7 (l:=[0,1,2,3]) rfl (mm rfl rfl rfl rfl rfl rfl [L,M] rfl hO (λah w1 n1=>?_)));have Y:=n1.bG;have U:=al.trans (bH.iP al.tr.size n1);refine q0 ai rfl rfl rfl rfl rfl rfl [(.slice none 0 0),(.slice none 0 0)] rfl U.ob (λi w2 n2=>?_);have Y:=Y.cc n2.fr;have q:=n2.bG;have ab:w.heap.size<=i:=μ U.tr.size n2.ge;have B:=U.trans (bH.iP U.tr.size n2);have i2:i∈i::ah::O:=τ;have ad:i<w2.heap.size:=q.lt;have aS: ∀g∈O,g<w2.heap.size:=λg s=>ζ (hO g s) B.tr.size;refine aG ai [2,3] [(1,(.int .u64 x1)),(2,(.pointer (some ⟨ah,0,none⟩))),(4,(.pointer (some ⟨i,0,none⟩)))] rfl ⟨rfl,rfl,rfl,trivial⟩ (aY (aR (aP (a7 (l:=[0,1,2,3,4,5,6,7,8,9]) rfl (dQ ai rfl rfl rfl rfl rfl rfl rfl Y [L,M] rfl rfl (.inl rfl) (.agg #[L,M]) rfl ?_)))));obtain⟨e,he,h⟩:=bind_some h;refine aG ai [1] [(1,(.int .u64 x1)),(4,(.pointer (some ⟨i,0,none⟩))),(13,(.agg #[L,M])),(14,(.int .u64 x1))] rfl ⟨rfl,rfl,rfl,rfl,trivial⟩ (i' rfl rfl rfl rfl rfl Cg rfl (DA B.ob (aN.tr B.fr.dX) (aj.tr B.fr.dX) he) (λ_ ag s=>?_));obtain⟨aC,bk,rfl,V,aQ⟩:=s;refine⟨_,rfl,?_⟩;have q:bE ag i 58 [(.slice none 0 0),(.slice none 0 0)]:=(V.below _ ad).trans q;have C:=B.to V;have i2:=V.sub _ i2;refine aG ai [3,4,5,6,7,8,9] [(1,(.int .u64 x1)),(4,(.pointer (some ⟨i,0,none⟩))),(7,aC),(8,(.int .i64 e.2.1)),(9,(.int .i64 e.2.2))] rfl ⟨rfl,rfl,rfl,rfl,rfl,trivial⟩ (aY (aR (aP (aP (a7 (l:=[0,1]) rfl (aG ai [0,1] [(1,(.int .u64 x1)),(4,(.pointer (some ⟨i,0,none⟩))),(7,aC),(8,(.int .i64 e.2.1)),(9,(.int .i64 e.2.2)),(20,(.bool (!(e.2.2==0))))] rfl ⟨rfl,rfl,rfl,rfl,rfl,rfl,trivial⟩ (aY (aR ?_))))))));rcases iq h with⟨A,h⟩|⟨A,h⟩
 ·refine fz rfl A ?_;cases h;refine aP (a7 (l:=[0,1,2,3,4]) rfl (aG ai [0,1] [(4,(.pointer (some ⟨i,0,none⟩))),(21,(.agg #[(.slice none 0 0),(.slice none 0 0)])),(22,(.int .i64 e.2.2))] rfl ⟨rfl,rfl,rfl,trivial⟩ (eT ai rfl rfl rfl rfl rfl rfl rfl q [(.slice none 0 0),(.slice none 0 0)] rfl rfl (by simp[υ]) rfl [(.slice none 0 0),(.slice none 0 0)] rfl (λaF K F=>?_))));refine aG ai [3,4] [(4,(.pointer (some ⟨i,0,none⟩))),(5,(.int .u64 0)),(6,(.int .i64 e.2.2))] rfl ⟨rfl,rfl,rfl,trivial⟩ (aY (aR (dC ?_)));exact fA (kY ai (vs:=[.agg #[(.slice none 0 0),(.slice none 0 0)],(.int .u64 0),(.int .i64 e.2.2)]) ⟨_,_,rfl,⟨_,_,_,_,rfl,K,rfl,rfl,.inl rfl,rfl⟩,_,_,rfl,rfl,_,_,rfl,rfl,rfl⟩ ⟨_,rfl,⟨_,_,_,rfl,(h8.2 ⟨_,_,rfl,gN _ _ _,gN _ _ _⟩),dx.2 rfl,dx.2 rfl⟩,(C.trans (bH.gp C.ob i2 ab F)).fr⟩)
 refine fJ rfl A ?_;have aW:e.2.2=0:=by simpa using A
 obtain⟨b,rfl,nv,rv,S,aB,hH⟩:=aQ aW;refine eB (aR ?_);obtain⟨z,bf,h⟩:=bind_some h;obtain⟨br,ax⟩:=kx bf;obtain⟨k,hk⟩: ∃k:Nat,k=e.2.1.toNat:=⟨_,rfl⟩;rw[<-hk] at ax;have aX:e.2.1=(k:Int):=by omega
 rw[aX];rw[<-hk] at h;have D:=hH.Gi;obtain⟨bA,t,ae⟩:=D.fo.at_ ax;obtain⟨o,p,rfl,bt,bu⟩:=eS (ae [] λ_ _ hm=>by cases hm);obtain⟨bg,X,rfl,_,_⟩:=hH.row.form;have a8:=(δ.1 t).1;obtain⟨g,R,rfl,aw,ak,y,a_,aV,ba,aZ⟩:=Fz hH.row (by omega);have a1:g≠b:=λe=>hH.rb (by rw[<-e];rfl);have aI:(k:Int).toNat*({tag:=8,k:=0,e:=0,fs:=[(29,0),(40,1)],size:=2,bytes:=32,zero:=.agg #[.int .u64 0,.slice none 0 0]}:TI).size=k*2:=by rw[ι]
 have a':(k:Int).toNat<aB.length:=by rw[ι];exact a8
 refine aP (a7 (l:=[0,1,2,3,4,5,6,7]) rfl (aG ai [0,1,2,3] [(4,(.pointer (some ⟨i,0,none⟩))),(7,(.pointer (some ⟨b,0,none⟩))),(8,(.int .i64 (k:Int))),(26,(.pointer (some ⟨b,1,none⟩)))] rfl ⟨rfl,rfl,rfl,rfl,trivial⟩ (dQ ai rfl rfl rfl rfl rfl rfl rfl hH.bG [(.slice (some ⟨g,0,none⟩) aB.length X)] rfl rfl (.inr rfl) (.slice (some ⟨g,0,none⟩) aB.length X) rfl (aG ai [5] [(4,(.pointer (some ⟨i,0,none⟩))),(7,(.pointer (some ⟨b,0,none⟩))),(8,(.int .i64 (k:Int))),(27,(.slice (some ⟨g,0,none⟩) aB.length X)),(28,(.int .i64 (k:Int)))] rfl ⟨rfl,rfl,rfl,rfl,rfl,trivial⟩ (ow ai rfl rfl rfl rfl rfl rfl rfl rfl rfl rfl (by omega) a' ?_)))));rw[aI,e9,ψ];refine aG ai [7] [(4,(.pointer (some ⟨i,0,none⟩))),(7,(.pointer (some ⟨b,0,none⟩))),(10,(.pointer (some ⟨g,k*2,none⟩)))] rfl ⟨rfl,rfl,rfl,trivial⟩ (aY (aR (aP (aP (a7 (l:=[0,1,2,3,4,5]) rfl (aG ai [0,1,2] [(4,(.pointer (some ⟨i,0,none⟩))),(7,(.pointer (some ⟨b,0,none⟩))),(10,(.pointer (some ⟨g,k*2,none⟩))),(32,(.pointer (some ⟨g,k*2+1,none⟩)))] rfl ⟨rfl,rfl,rfl,rfl,trivial⟩ (dQ ai rfl rfl rfl rfl rfl rfl rfl y [(.slice o z.bc.length p)] (kO t) rfl (.inr rfl) (.slice o z.bc.length p) rfl (aG ai [4,5] [(4,(.pointer (some ⟨i,0,none⟩))),(7,(.pointer (some ⟨b,0,none⟩))),(10,(.pointer (some ⟨g,k*2,none⟩))),(35,(.bool ((z.bc.length:Int)==0)))] rfl ⟨rfl,rfl,rfl,rfl,trivial⟩ (aY (aR ?_))))))))));rcases iq h with⟨A,h⟩|⟨A,h⟩
 ·refine fz rfl A ?_;cases h;refine aP (a7 (l:=[0,1,2,3]) rfl (aG ai [0] [(4,(.pointer (some ⟨i,0,none⟩))),(36,(.agg #[(.slice none 0 0),(.slice none 0 0)]))] rfl ⟨rfl,rfl,trivial⟩ (eT ai rfl rfl rfl rfl rfl rfl rfl q [(.slice none 0 0),(.slice none 0 0)] rfl rfl (by simp[υ]) rfl [(.slice none 0 0),(.slice none 0 0)] rfl (λaF K F=>?_))));refine aG ai [2,3] [(4,(.pointer (some ⟨i,0,none⟩))),(5,(.int .u64 0)),(6,(.int .i64 4))] rfl ⟨rfl,rfl,rfl,trivial⟩ (aY (aR (dC ?_)));exact fA (kY ai (vs:=[.agg #[(.slice none 0 0),(.slice none 0 0)],(.int .u64 0),(.int .i64 4)]) ⟨_,_,rfl,⟨_,_,_,_,rfl,K,rfl,rfl,.inl rfl,rfl⟩,_,_,rfl,rfl,_,_,rfl,rfl,rfl⟩ ⟨_,rfl,⟨_,_,_,rfl,(h8.2 ⟨_,_,rfl,gN _ _ _,gN _ _ _⟩),dx.2 rfl,dx.2 rfl⟩,(C.trans (bH.gp C.ob i2 ab F)).fr⟩)
 refine fJ rfl A (eB (aR ?_));obtain⟨w0,W,h⟩:=bind_some h;obtain⟨_,W⟩:=kx W;refine aP (a7 (l:=[0,1,2,3,4,5,6]) rfl (aG ai [0,1,2] [(4,(.pointer (some ⟨i,0,none⟩))),(7,(.pointer (some ⟨b,0,none⟩))),(10,(.pointer (some ⟨g,k*2,none⟩))),(39,(.pointer (some ⟨g,k*2+1,none⟩)))] rfl ⟨rfl,rfl,rfl,rfl,trivial⟩ (dQ ai rfl rfl rfl rfl rfl rfl rfl y [(.slice o z.bc.length p)] (kO t) rfl (.inr rfl) (.slice o z.bc.length p) rfl ?_)));refine Gp ai rfl rfl rfl rfl rfl rfl rfl rfl rfl rfl (ae [] λ_ _ hm=>by cases hm) rfl (Int.le_refl 0) W (λbw bb=>?_);refine afq ai rfl rfl rfl rfl rfl rfl rfl bb rfl rfl (λv6 bd=>?_);obtain rfl:=dx.1 bd;refine aG ai [6] [(4,(.pointer (some ⟨i,0,none⟩))),(7,(.pointer (some ⟨b,0,none⟩))),(10,(.pointer (some ⟨g,k*2,none⟩))),(11,(.int .u64 w0))] rfl ⟨rfl,rfl,rfl,rfl,trivial⟩ (aY (aR (aP ?_)));have ay: ∀g∈S,g<ag.heap.size:=λg s=>(D.lt g s).2;refine w4 mixed [⟨43,[],[10]⟩,⟨44,[],[10]⟩,⟨45,[1],[]⟩,⟨46,[2],[]⟩,⟨47,[3],[]⟩,⟨48,[],[10]⟩,⟨49,[5],[]⟩,⟨50,[6],[]⟩,⟨51,[7],[]⟩,⟨52,[8],[]⟩,⟨53,[],[10]⟩,⟨54,[10],[]⟩,⟨55,[11],[]⟩,⟨56,[12],[]⟩,⟨57,[13],[]⟩,⟨58,[4,9,14],[]⟩] [SP.eq (.pointer (some ⟨g,k*2,none⟩)),SP.eq (.pointer (some ⟨g,k*2,none⟩)),SP.eq (.pointer (some ⟨g,k*2,none⟩)),SP.eq (.pointer (some ⟨g,k*2+1,none⟩)),SP.eq (.slice o z.bc.length p),SP.eq (.pointer (some ⟨g,k*2,none⟩)),SP.eq (.pointer (some ⟨g,k*2,none⟩)),SP.eq (.pointer (some ⟨g,k*2+1,none⟩)),SP.eq (.slice o z.bc.length p),SP.eq (.int .i64 (z.bc.length:Int)),SP.eq (.pointer (some ⟨g,k*2,none⟩)),SP.eq (.pointer (some ⟨g,k*2,none⟩)),SP.eq (.pointer (some ⟨g,k*2+1,none⟩)),SP.eq (.slice o z.bc.length p),SP.eq (.int .i64 (z.bc.length:Int)),SP.safe S (z.bc.drop 1)] rfl rfl rfl rfl ⟨?_,?_,?_,?_,?_,?_,?_,?_,?_,?_,?_,?_,?_,?_,?_,?_,trivial⟩ ?_
 ·intro a w2 m c d n f;exact cZ ai ⟨c,d,b0 (E:=[(10,(.pointer (some ⟨g,k*2,none⟩)))]) ⟨n 10 rfl _ rfl,trivial⟩⟩ rfl rfl rfl rfl rfl
 ·intro a w2 m c d n f;exact cZ ai ⟨c,d,b0 (E:=[(10,(.pointer (some ⟨g,k*2,none⟩)))]) ⟨n 10 rfl _ rfl,trivial⟩⟩ rfl rfl rfl rfl rfl
 ·intro a w2 m c d n f;exact cZ ai ⟨c,d,b0 (E:=[(44,(.pointer (some ⟨g,k*2,none⟩)))]) ⟨(f 1 rfl _ _ rfl rfl),trivial⟩⟩ rfl rfl rfl rfl rfl
 ·intro a w2 m c d n f;exact cZ ai ⟨c,d,b0 (E:=[(45,(.pointer (some ⟨g,k*2,none⟩)))]) ⟨(f 2 rfl _ _ rfl rfl),trivial⟩⟩ rfl rfl rfl rfl rfl
 ·intro a w2 m c d n f;exact nU ai ⟨c,d,b0 (E:=[(46,(.pointer (some ⟨g,k*2+1,none⟩)))]) ⟨(f 3 rfl _ _ rfl rfl),trivial⟩⟩ rfl rfl rfl rfl rfl rfl (y.cc m) [(.slice o z.bc.length p)] (kO t) rfl (.inr rfl) (.slice o z.bc.length p) rfl
 ·intro a w2 m c d n f;exact cZ ai ⟨c,d,b0 (E:=[(10,(.pointer (some ⟨g,k*2,none⟩)))]) ⟨n 10 rfl _ rfl,trivial⟩⟩ rfl rfl rfl rfl rfl
 ·intro a w2 m c d n f;exact cZ ai ⟨c,d,b0 (E:=[(48,(.pointer (some ⟨g,k*2,none⟩)))]) ⟨(f 5 rfl _ _ rfl rfl),trivial⟩⟩ rfl rfl rfl rfl rfl
 ·intro a w2 m c d n f;exact cZ ai ⟨c,d,b0 (E:=[(49,(.pointer (some ⟨g,k*2,none⟩)))]) ⟨(f 6 rfl _ _ rfl rfl),trivial⟩⟩ rfl rfl rfl rfl rfl
 ·intro a w2 m c d n f;exact nU ai ⟨c,d,b0 (E:=[(50,(.pointer (some ⟨g,k*2+1,none⟩)))]) ⟨(f 7 rfl _ _ rfl rfl),trivial⟩⟩ rfl rfl rfl rfl rfl rfl (y.cc m) [(.slice o z.bc.length p)] (kO t) rfl (.inr rfl) (.slice o z.bc.length p) rfl
 ·intro a w2 m c d n f;exact cZ ai ⟨c,d,b0 (E:=[(51,(.slice o z.bc.length p))]) ⟨(f 8 rfl _ _ rfl rfl),trivial⟩⟩ rfl rfl rfl rfl rfl
 ·intro a w2 m c d n f;exact cZ ai ⟨c,d,b0 (E:=[(10,(.pointer (some ⟨g,k*2,none⟩)))]) ⟨n 10 rfl _ rfl,trivial⟩⟩ rfl rfl rfl rfl rfl
 ·intro a w2 m c d n f;exact cZ ai ⟨c,d,b0 (E:=[(53,(.pointer (some ⟨g,k*2,none⟩)))]) ⟨(f 10 rfl _ _ rfl rfl),trivial⟩⟩ rfl rfl rfl rfl rfl
 ·intro a w2 m c d n f;exact cZ ai ⟨c,d,b0 (E:=[(54,(.pointer (some ⟨g,k*2,none⟩)))]) ⟨(f 11 rfl _ _ rfl rfl),trivial⟩⟩ rfl rfl rfl rfl rfl
 ·intro a w2 m c d n f;exact nU ai ⟨c,d,b0 (E:=[(55,(.pointer (some ⟨g,k*2+1,none⟩)))]) ⟨(f 12 rfl _ _ rfl rfl),trivial⟩⟩ rfl rfl rfl rfl rfl rfl (y.cc m) [(.slice o z.bc.length p)] (kO t) rfl (.inr rfl) (.slice o z.bc.length p) rfl
 ·intro a w2 m c d n f;exact cZ ai ⟨c,d,b0 (E:=[(56,(.slice o z.bc.length p))]) ⟨(f 13 rfl _ _ rfl rfl),trivial⟩⟩ rfl rfl rfl rfl rfl
 ·intro a w2 m c d n f;exact(aa_ (S:=S) (l':=some (.i64,1)) (h':=some (.i64,(z.bc.length:Int))) (m':=some (.i64,(z.bc.length:Int))) (ys:=z.bc.drop 1) ai ⟨c,d,b0 (E:=[(47,(.slice o z.bc.length p)),(52,(.int .i64 (z.bc.length:Int))),(57,(.int .i64 (z.bc.length:Int)))]) ⟨(f 4 rfl _ _ rfl rfl),(f 9 rfl _ _ rfl rfl),(f 14 rfl _ _ rfl rfl),trivial⟩⟩ rfl rfl rfl rfl rfl rfl rfl rfl rfl rfl rfl rfl (ae.keep (O:=[]) (O':=[]) m.dX λg s=>m.block g (ay g s) (by simp)) (by
   simp only[ω];unfold ep;have:=(δ.1 W).1;rw[if_pos (by simp at this ⊢;omega)];simp)).weaken (λu ag ⟨hu,av⟩=>⟨⟨λg s=>ζ (ay g s) (μ m.size av.size),hu⟩,av⟩)
 intro a aD f4 c d Z az;have hH:=hH.cc f4;have D:=D.cc f4;have y:=y.cc f4;have q:=q.cc f4;have an:=C.trans (bH.nR C.ob C.tr.size f4);obtain⟨_,af⟩:(∀g∈S,g<aD.heap.size)/\Safe S aD (a.tmps.getD 58 undef) (z.bc.drop 1):=az 15 _ _ rfl rfl;obtain⟨bz,aA⟩: ∃v,a.tmps.getD 58 undef=v:=⟨_,rfl⟩;rw[aA] at af;obtain⟨P,T,rfl,_,_⟩:=eS (af [] λ_ _ hm=>by cases hm);refine q2 (E:=[(4,(.pointer (some ⟨i,0,none⟩))),(7,(.pointer (some ⟨b,0,none⟩))),(11,(.int .u64 w0)),(43,(.pointer (some ⟨g,k*2,none⟩))),(58,(.slice P (z.bc.drop 1).length T))]) (l:=[16,17,18]) c d ⟨Z 4 _ rfl rfl,Z 7 _ rfl rfl,Z 11 _ rfl rfl,(az 0 _ _ rfl rfl),aA,trivial⟩ rfl ?_;generalize bq:z.bc.drop 1=Q at*
 refine aG ai [16,17] [(4,(.pointer (some ⟨i,0,none⟩))),(7,(.pointer (some ⟨b,0,none⟩))),(11,(.int .u64 w0)),(58,(.slice P Q.length T)),(60,(.pointer (some ⟨g,k*2+1,none⟩)))] rfl ⟨rfl,rfl,rfl,rfl,rfl,trivial⟩ (eT ai rfl rfl rfl rfl rfl rfl rfl y [(.slice P Q.length T)] rfl rfl (by simp[υ]) (ξe (by simp only[ν,rc,fu,ρ];show k*2+1+1<=_;omega)) (rc (aB.set k (z.aa,(.slice P Q.length T)))++R) (E7 (x:=(z.aa,(.slice o z.bc.length p))) t) (λw5 aU f5=>?_));have H:=EY (bs:=e.1.au.set k (aq.mk z.aa Q)) hH.mem hH.ge hH.bG hH.ns hH.nb hH.dj a1 aw ak a_ aV ba f5 aU (by rw[ξT]) (λr t=>by
  rcases ξu t with t|rfl
  ·exact aZ r t
  ·exact⟨_,_,_,rfl⟩) (D.fo.set k af) D.lt hH.out
 have q:=q.fr f5 (by simp;omega);have ao:=an.trans (bH.gp an.ob aw (μ B.tr.size ak) f5);clear hH D;refine aY (aR ?_);have aL:w2.heap.size<=w5.heap.size:=μ V.tr.size (μ f4.size f5.size);refine aP (a7 (l:=[0,1]) rfl (aG ai [0] [(11,(.int .u64 w0)),(4,(.pointer (some ⟨i,0,none⟩))),(7,(.pointer (some ⟨b,0,none⟩))),(61,(.pointer (some ⟨b,0,none⟩)))] rfl ⟨rfl,rfl,rfl,rfl,trivial⟩ (i' rfl rfl rfl rfl rfl Ch rfl (DC ao.ob aL ⟨_,_,_,_,H⟩) (λ_ aE s=>?_))));obtain⟨rfl,aH,G,I,J,bl,bx,H⟩:=s;refine⟨_,rfl,?_⟩;have q:bE aE i 58 [(.slice none 0 0),(.slice none 0 0)]:=(G.below _ ad).trans q;have i2:=G.sub _ i2;have ar:bH w.heap.size O w aH aE:=ao.trans ⟨G.tr,G.ob,G.sub,λj a6=>G.below j (ζ a6 B.tr.size)⟩;refine aG ai [] [(11,(.int .u64 w0)),(4,(.pointer (some ⟨i,0,none⟩))),(7,(.pointer (some ⟨b,0,none⟩)))] rfl ⟨rfl,rfl,rfl,trivial⟩ (aY (aR ?_));cases h;refine aP (a7 (l:=[0,1,2,3,4,5,6,7]) rfl (aG ai [0,1,2] [(7,(.pointer (some ⟨b,0,none⟩))),(11,(.int .u64 w0)),(4,(.pointer (some ⟨i,0,none⟩))),(65,(.pointer (some ⟨b,0,none⟩)))] rfl ⟨rfl,rfl,rfl,rfl,trivial⟩ (dQ ai rfl rfl rfl rfl rfl rfl rfl H.bG [I,J] rfl rfl (.inl rfl) (.agg #[I,J]) rfl ?_)));obtain⟨bh,bm,aJ,_,_⟩:=H.ns.form;obtain⟨bj,bn,aK,_,_⟩:=H.row.form;refine aG ai [4] [(4,(.pointer (some ⟨i,0,none⟩))),(66,(.agg #[I,J])),(67,(.int .u64 w0))] rfl ⟨rfl,rfl,rfl,trivial⟩ (eT ai rfl rfl rfl rfl rfl rfl rfl q [I,J] rfl rfl (by rw[aJ,aK];simp[υ]) rfl [I,J] rfl (λaF K F=>?_));have aT:=H.cell i2 ad F;have aM:=(ar.trans (bH.gp ar.ob i2 ab F)).fr;refine aG ai [6,7] [(4,(.pointer (some ⟨i,0,none⟩))),(5,(.int .u64 w0)),(6,(.int .i64 0))] rfl ⟨rfl,rfl,rfl,trivial⟩ (aY (aR (dC ?_)));exact(kY ai (vs:=[.agg #[I,J],(.int .u64 w0),(.int .i64 0)]) ⟨_,_,rfl,⟨_,_,_,_,rfl,K,rfl,rfl,.inl rfl,rfl⟩,_,_,rfl,rfl,_,_,rfl,rfl,rfl⟩ ⟨_,rfl,⟨_,_,_,rfl,(aT.data aS),dx.2 rfl,dx.2 rfl⟩,aM⟩)
set_option maxRecDepth 100000 in
set_option maxHeartbeats 4000000 in
theorem ZM {O:Γ} {w:World} (hO:OB O w) (aI:cI KK [] w) {v0:Value} {x0:aO} (ae:fW.is [] w v0 x0) {v1:Value} {x1:Int} (h1:(Ty.int .u64).is [] w v1 x1) {v2:Value} {x2:Γa} (af:(Ty.slice (Ty.int .u64)).is [] w v2 x2) {r:aO×Int} (h:p' shut x0 x1 x2=some r):Calls η 170 #[v0,v1,v2] w (gu (Om fW (Ty.int .i64)) O w r):=by
 obtain rfl:=dx.1 h1;obtain⟨A2,c2,rfl,bt,bw⟩:=eS af;obtain⟨I,J,rfl,bp,bq⟩:=h8.1 ae;have aj:bH w.heap.size O w O w:=bH.refl hO;refine gA (args:=[(.agg #[I,J]),(.int .u64 x1),(.slice A2 x2.length c2)]) (N:=55) ηe rfl rfl rfl ?_;unfold p' at h;refine aP (a7 (l:=[0,1,2]) rfl (mm rfl rfl rfl rfl rfl rfl [I,J] rfl hO (λab w1 n1=>?_)));have U:=n1.bG;have L:=aj.trans (bH.iP aj.tr.size n1);refine q0 ai rfl rfl rfl rfl rfl rfl [(.slice none 0 0),(.slice none 0 0)] rfl L.ob (λc w2 n2=>?_);have U:=U.cc n2.fr;have f:=n2.bG;have W:w.heap.size<=c:=μ L.tr.size n2.ge;have n:=L.trans (bH.iP L.tr.size n2);have i2:c∈c::ab::O:=τ;have P:c<w2.heap.size:=f.lt;have aK: ∀g∈O,g<w2.heap.size:=λg F=>ζ (hO g F) n.tr.size;refine aG ai [2] [(1,(.int .u64 x1)),(2,(.slice A2 x2.length c2)),(3,(.pointer (some ⟨ab,0,none⟩))),(6,(.pointer (some ⟨c,0,none⟩)))] rfl ⟨rfl,rfl,rfl,rfl,trivial⟩ (aY (aR (aP (a7 (l:=[0,1,2,3,4,5,6,7,8,9]) rfl (dQ ai rfl rfl rfl rfl rfl rfl rfl U [I,J] rfl rfl (.inl rfl) (.agg #[I,J]) rfl ?_)))));obtain⟨e,he,h⟩:=bind_some h;refine aG ai [1] [(1,(.int .u64 x1)),(2,(.slice A2 x2.length c2)),(6,(.pointer (some ⟨c,0,none⟩))),(13,(.agg #[I,J])),(14,(.int .u64 x1))] rfl ⟨rfl,rfl,rfl,rfl,rfl,trivial⟩ (i' rfl rfl rfl rfl rfl Cg rfl (DA n.ob (aI.tr n.fr.dX) (ae.tr n.fr.dX) he) (λ_ bf F=>?_));obtain⟨aw,T,rfl,B,aJ⟩:=F;refine⟨_,rfl,?_⟩;have f:bE bf c 58 [(.slice none 0 0),(.slice none 0 0)]:=(B.below _ P).trans f;have d:=n.to B;have i2:=B.sub _ i2;refine aG ai [3,4,5,6,7,8,9] [(1,(.int .u64 x1)),(2,(.slice A2 x2.length c2)),(6,(.pointer (some ⟨c,0,none⟩))),(8,aw),(9,(.int .i64 e.2.1)),(10,(.int .i64 e.2.2))] rfl ⟨rfl,rfl,rfl,rfl,rfl,rfl,trivial⟩ (aY (aR (aP (aP (a7 (l:=[0,1]) rfl (aG ai [0,1] [(1,(.int .u64 x1)),(2,(.slice A2 x2.length c2)),(6,(.pointer (some ⟨c,0,none⟩))),(8,aw),(9,(.int .i64 e.2.1)),(10,(.int .i64 e.2.2)),(20,(.bool (!(e.2.2==0))))] rfl ⟨rfl,rfl,rfl,rfl,rfl,rfl,rfl,trivial⟩ (aY (aR ?_))))))));rcases iq h with⟨p,h⟩|⟨p,h⟩
 ·refine fz rfl p ?_;cases h;refine aP (a7 (l:=[0,1,2,3]) rfl (aG ai [0,1] [(6,(.pointer (some ⟨c,0,none⟩))),(21,(.agg #[(.slice none 0 0),(.slice none 0 0)])),(22,(.int .i64 e.2.2))] rfl ⟨rfl,rfl,rfl,trivial⟩ (eT ai rfl rfl rfl rfl rfl rfl rfl f [(.slice none 0 0),(.slice none 0 0)] rfl rfl (by simp[υ]) rfl [(.slice none 0 0),(.slice none 0 0)] rfl (λay D s=>?_))));refine aG ai [3] [(6,(.pointer (some ⟨c,0,none⟩))),(7,(.int .i64 e.2.2))] rfl ⟨rfl,rfl,trivial⟩ (aY (aR (dC ?_)));exact fA (kY ai (vs:=[.agg #[(.slice none 0 0),(.slice none 0 0)],(.int .i64 e.2.2)]) ⟨_,_,rfl,⟨_,_,_,_,rfl,D,rfl,rfl,.inl rfl,rfl⟩,_,_,rfl,rfl,rfl⟩ ⟨_,rfl,⟨_,_,rfl,(h8.2 ⟨_,_,rfl,gN _ _ _,gN _ _ _⟩),dx.2 rfl⟩,(d.trans (bH.gp d.ob i2 W s)).fr⟩)
 refine fJ rfl p ?_;have aQ:e.2.2=0:=by simpa using p
 obtain⟨b,rfl,nv,rv,S,aB,hH⟩:=aJ aQ;refine eB (aR ?_);obtain⟨z,bb,h⟩:=bind_some h;obtain⟨br,Y⟩:=kx bb;obtain⟨k,hk⟩: ∃k:Nat,k=e.2.1.toNat:=⟨_,rfl⟩;rw[<-hk] at Y;have aS:e.2.1=(k:Int):=by omega
 rw[aS];rw[<-hk] at h;have ao:=hH.Gi;obtain⟨bC,o,a'⟩:=ao.fo.at_ Y;obtain⟨i,m,rfl,bu,bz⟩:=eS (a' [] λ_ _ hm=>by cases hm);obtain⟨bg,K,rfl,_,_⟩:=hH.row.form;have aW:=(δ.1 o).1;obtain⟨g,R,rfl,X,ag,v,aX,aN,a1,aT⟩:=Fz hH.row (by omega);have aU:g≠b:=λe=>hH.rb (by rw[<-e];rfl);have ad:(k:Int).toNat*({tag:=8,k:=0,e:=0,fs:=[(29,0),(40,1)],size:=2,bytes:=32,zero:=.agg #[.int .u64 0,.slice none 0 0]}:TI).size=k*2:=by rw[ι]
 have aZ:(k:Int).toNat<aB.length:=by rw[ι];exact aW
 refine aP (a7 (l:=[0,1,2,3,4,5,6,7]) rfl (aG ai [0,1,2,3] [(6,(.pointer (some ⟨c,0,none⟩))),(2,(.slice A2 x2.length c2)),(8,(.pointer (some ⟨b,0,none⟩))),(9,(.int .i64 (k:Int))),(26,(.pointer (some ⟨b,1,none⟩)))] rfl ⟨rfl,rfl,rfl,rfl,rfl,trivial⟩ (dQ ai rfl rfl rfl rfl rfl rfl rfl hH.bG [(.slice (some ⟨g,0,none⟩) aB.length K)] rfl rfl (.inr rfl) (.slice (some ⟨g,0,none⟩) aB.length K) rfl (aG ai [5] [(6,(.pointer (some ⟨c,0,none⟩))),(2,(.slice A2 x2.length c2)),(8,(.pointer (some ⟨b,0,none⟩))),(9,(.int .i64 (k:Int))),(27,(.slice (some ⟨g,0,none⟩) aB.length K)),(28,(.int .i64 (k:Int)))] rfl ⟨rfl,rfl,rfl,rfl,rfl,rfl,trivial⟩ (ow ai rfl rfl rfl rfl rfl rfl rfl rfl rfl rfl (by omega) aZ ?_)))));rw[ad,e9,ψ];refine aG ai [7] [(6,(.pointer (some ⟨c,0,none⟩))),(2,(.slice A2 x2.length c2)),(8,(.pointer (some ⟨b,0,none⟩))),(11,(.pointer (some ⟨g,k*2,none⟩)))] rfl ⟨rfl,rfl,rfl,rfl,trivial⟩ (aY (aR (aP (aP (a7 (l:=[0,1,2,3,4,5,6,7,8]) rfl (aG ai [0,1,2] [(6,(.pointer (some ⟨c,0,none⟩))),(2,(.slice A2 x2.length c2)),(8,(.pointer (some ⟨b,0,none⟩))),(11,(.pointer (some ⟨g,k*2,none⟩))),(32,(.pointer (some ⟨g,k*2+1,none⟩)))] rfl ⟨rfl,rfl,rfl,rfl,rfl,trivial⟩ (dQ ai rfl rfl rfl rfl rfl rfl rfl v [(.slice i z.bc.length m)] (kO o) rfl (.inr rfl) (.slice i z.bc.length m) rfl (aG ai [4,5,6,7,8] [(6,(.pointer (some ⟨c,0,none⟩))),(2,(.slice A2 x2.length c2)),(8,(.pointer (some ⟨b,0,none⟩))),(11,(.pointer (some ⟨g,k*2,none⟩))),(38,(.bool (decide (γ.wrap ((z.bc.length:Int)+(x2.length:Int))>4))))] rfl ⟨rfl,rfl,rfl,rfl,rfl,trivial⟩ (aY (aR ?_))))))))));rcases iq h with⟨p,h⟩|⟨p,h⟩
 ·refine fz rfl p ?_;cases h;refine aP (a7 (l:=[0,1,2]) rfl (aG ai [0] [(6,(.pointer (some ⟨c,0,none⟩))),(39,(.agg #[(.slice none 0 0),(.slice none 0 0)]))] rfl ⟨rfl,rfl,trivial⟩ (eT ai rfl rfl rfl rfl rfl rfl rfl f [(.slice none 0 0),(.slice none 0 0)] rfl rfl (by simp[υ]) rfl [(.slice none 0 0),(.slice none 0 0)] rfl (λay D s=>?_))));refine aG ai [2] [(6,(.pointer (some ⟨c,0,none⟩))),(7,(.int .i64 6))] rfl ⟨rfl,rfl,trivial⟩ (aY (aR (dC ?_)));exact fA (kY ai (vs:=[.agg #[(.slice none 0 0),(.slice none 0 0)],(.int .i64 6)]) ⟨_,_,rfl,⟨_,_,_,_,rfl,D,rfl,rfl,.inl rfl,rfl⟩,_,_,rfl,rfl,rfl⟩ ⟨_,rfl,⟨_,_,rfl,(h8.2 ⟨_,_,rfl,gN _ _ _,gN _ _ _⟩),dx.2 rfl⟩,(d.trans (bH.gp d.ob i2 W s)).fr⟩)
 refine fJ rfl p (eB (aR ?_));obtain⟨ws,ba,h⟩:=bind_some h;cases h;refine aP (a7 (l:=[0,1,2,3,4,5,6,7,8,9]) rfl (aG ai [0,1,2,3] [(6,(.pointer (some ⟨c,0,none⟩))),(2,(.slice A2 x2.length c2)),(8,(.pointer (some ⟨b,0,none⟩))),(11,(.pointer (some ⟨g,k*2,none⟩))),(40,(.pointer (some ⟨g,k*2,none⟩))),(43,(.pointer (some ⟨g,k*2+1,none⟩)))] rfl ⟨rfl,rfl,rfl,rfl,rfl,rfl,trivial⟩ (dQ ai rfl rfl rfl rfl rfl rfl rfl v [(.slice i z.bc.length m)] (kO o) rfl (.inr rfl) (.slice i z.bc.length m) rfl (aG ai [5] [(6,(.pointer (some ⟨c,0,none⟩))),(8,(.pointer (some ⟨b,0,none⟩))),(40,(.pointer (some ⟨g,k*2,none⟩))),(44,(.slice i z.bc.length m)),(45,(.slice A2 x2.length c2))] rfl ⟨rfl,rfl,rfl,rfl,rfl,trivial⟩ ?_))));obtain⟨bd,aA,aC,av,C,V,a_⟩:=hH.fo.at_ (show(e.1.au.map bx)[k]? =some (bx z) by simp[Y]);rw[o] at av;obtain rfl:(.slice i z.bc.length m)=bd:=by injection av with e;injection e with ad bo
 have aV: ∀j,((.slice i z.bc.length m):Value).ownBlock=some j->j∈S:=λj a=>by rw[C,a];simp
 have Q: ∀j,j∈T->((.slice i z.bc.length m):Value).ownBlock≠some j:=λj a e=>hH.out j (aV j e) a;have M: ∀j,j<w2.heap.size->((.slice i z.bc.length m):Value).ownBlock≠some j:=λj a e=>by have:=(V.lt j e).1;omega
 refine Qp (O:=((.slice i z.bc.length m):Value).ownBlock.toList) ai rfl rfl rfl rfl rfl rfl rfl rfl rfl rfl rfl rfl rfl rfl B.fr (λj a=>(V.lt j (by simpa using a)).2) (V.own gR λj a=>by simpa using a) (af.tr ⟨d.fr.os,d.fr.tape,d.fr.output,d.fr.size,λj a _=>⟨λhm=>M j (ζ a n.tr.size) (by simpa using hm),d.fr.block j a (by simp)⟩⟩) ba (λbB q bk ap=>?_);obtain⟨y,A,rfl,_,_⟩:=ap.own.form;have f:bE q c 58 [(.slice none 0 0),(.slice none 0 0)]:=(ap.fr _ f.lt (M _ P)).trans f;have v:bE q g 132 (rc aB++R):=(ap.fr _ v.lt (Q _ X)).trans v;have hblk:bE q b 262 [nv,(.slice (some ⟨g,0,none⟩) aB.length K)]:=(ap.fr _ hH.bG.lt (Q _ hH.mem)).trans hH.bG;have a6:=(hH.ns.iC.keep wO (w':=q) λj a=>ap.fr j (hH.ns.lt j a).2 (Q _ (hH.ns.mem j a))).own wO hH.ns.mem;have ak:bH w.heap.size O w T q:=⟨⟨ap.tr.os.trans d.tr.os,ap.tr.tape.trans d.tr.tape,ap.tr.output.trans d.tr.output,μ d.tr.size ap.tr.size,λj a ar=>⟨(d.tr.keep j a ar).1,(ap.fr j (ζ a d.tr.size) (M j (ζ a n.tr.size))).trans (d.tr.keep j a ar).2⟩⟩,λj a=>ζ (d.ob j a) ap.tr.size,d.sub,λj a=>(ap.fr j (ζ a d.tr.size) (M j (ζ a n.tr.size))).trans (d.below j a)⟩;have Z:=hH.nd;rw[C,ζ1,ζ1] at Z;have E:=a_ (w':=q) (λj a=>ap.fr j (hH.fo.lt j (by rw[C];simp at a ⊢;rcases a with a|a;exact .inl a;exact .inr (.inr a))).2 (λe=>by
  rcases ξA.1 a with a|a
  ·exact Z.1.2.2 j a j (by rw[e];simp) rfl
  ·exact Z.2.2 j (ξm _ (by rw[e];simp)) j a rfl)) gR ap.own.iC
 obtain⟨S',ah⟩: ∃S',S'=aA++(ηm y ws.length A).ownBlock.toList++aC:=⟨_,rfl⟩;rw[<-ah] at E;have E:c5 TW 35 w2.heap.size q S' (aB.set k (z.aa,.slice y ws.length A)) ((e.1.au.set k (aq.mk z.aa ws)).map bx):=by rw[η9];exact E
 have a8: ∀j∈S',j∉T:=λj a hm=>by
  rw[ah] at a;simp only[ξA,Option.mem_toList] at a;rcases a with(a|a)|a
  ·exact hH.out j (by rw[C];simp[a]) hm
  ·exact ap.ne j (d.ob j hm) (Q j hm) a
  ·exact hH.out j (by rw[C];simp[a]) hm
 refine aG ai [7,8] [(6,(.pointer (some ⟨c,0,none⟩))),(8,(.pointer (some ⟨b,0,none⟩))),(46,(.slice y ws.length A)),(48,(.pointer (some ⟨g,k*2+1,none⟩)))] rfl ⟨rfl,rfl,rfl,rfl,trivial⟩ (eT ai rfl rfl rfl rfl rfl rfl rfl v [(.slice y ws.length A)] rfl rfl (by simp[υ]) (ξe (by simp only[ν,rc,fu,ρ];show k*2+1+1<=_;omega)) (rc (aB.set k (z.aa,(.slice y ws.length A)))++R) (E7 (x:=(z.aa,(.slice i z.bc.length m))) o) (λw5 aM f5=>?_));have u:=EY (bs:=e.1.au.set k (aq.mk z.aa ws)) hH.mem hH.ge hblk a6 hH.nb hH.dj aU X ag aX aN a1 f5 aM (by rw[ξT]) (λr o=>by
  rcases ξu o with o|rfl
  ·exact aT r o
  ·exact⟨_,_,_,rfl⟩) (dG.of S' E (λ_ h=>h)) E.lt a8
 have f:=f.fr f5 (by simp;omega);have al:=ak.trans (bH.gp ak.ob X (μ n.tr.size ag) f5);clear hH ao;refine aY (aR ?_);have aF:w2.heap.size<=w5.heap.size:=μ B.tr.size (μ ap.tr.size f5.size);refine aP (a7 (l:=[0,1]) rfl (aG ai [0] [(6,(.pointer (some ⟨c,0,none⟩))),(8,(.pointer (some ⟨b,0,none⟩))),(49,(.pointer (some ⟨b,0,none⟩)))] rfl ⟨rfl,rfl,rfl,trivial⟩ (i' rfl rfl rfl rfl rfl Ch rfl (DC al.ob aF ⟨_,_,_,_,u⟩) (λ_ ax F=>?_))));obtain⟨rfl,az,t,G,H,bl,bA,u⟩:=F;refine⟨_,rfl,?_⟩;have f:bE ax c 58 [(.slice none 0 0),(.slice none 0 0)]:=(t.below _ P).trans f;have i2:=t.sub _ i2;have an:bH w.heap.size O w az ax:=al.trans ⟨t.tr,t.ob,t.sub,λj a=>t.below j (ζ a n.tr.size)⟩;refine aG ai [] [(6,(.pointer (some ⟨c,0,none⟩))),(8,(.pointer (some ⟨b,0,none⟩)))] rfl ⟨rfl,rfl,trivial⟩ (aY (aR (aP (a7 (l:=[0,1,2,3,4,5]) rfl (aG ai [0,1,2] [(8,(.pointer (some ⟨b,0,none⟩))),(6,(.pointer (some ⟨c,0,none⟩))),(53,(.pointer (some ⟨b,0,none⟩)))] rfl ⟨rfl,rfl,rfl,trivial⟩ (dQ ai rfl rfl rfl rfl rfl rfl rfl u.bG [G,H] rfl rfl (.inl rfl) (.agg #[G,H]) rfl ?_))))));obtain⟨bh,bm,aD,_,_⟩:=u.ns.form;obtain⟨bj,bn,aE,_,_⟩:=u.row.form;refine eT ai rfl rfl rfl rfl rfl rfl rfl f [G,H] rfl rfl (by rw[aD,aE];simp[υ]) rfl [G,H] rfl (λay D s=>?_);have aL:=u.cell i2 P s;have aH:=(an.trans (bH.gp an.ob i2 W s)).fr;refine aG ai [5] [(6,(.pointer (some ⟨c,0,none⟩))),(7,(.int .i64 0))] rfl ⟨rfl,rfl,trivial⟩ (aY (aR (dC ?_)));exact(kY ai (vs:=[.agg #[G,H],(.int .i64 0)]) ⟨_,_,rfl,⟨_,_,_,_,rfl,D,rfl,rfl,.inl rfl,rfl⟩,_,_,rfl,rfl,rfl⟩ ⟨_,rfl,⟨_,_,rfl,(aL.data aK),dx.2 rfl⟩,aH⟩)
section
variable {P:Program} {r:Option Nat} {N:Nat} {Θ:cG} {ops:Array Oper} {Q:Exit->Act->World->Prop} {l:Γ} {E:Env} {ds:List Deferred} {w:World} {i d:Nat} {o:Oper} {O:Γ}
theorem aa' (C:Θ.ok P) {a:Act} (f:Has N E ds a) (q:ops[i]? =some o) (hw:want N ops E o.guard=some true) (l:o.dst=some d) {t:Nat} {x y:Operand} {g D:TI} (h:o.op= .slice t x none (some y) none) (s:Θ.get t=some g)
  (j:g.tag=5) (z:Θ.get g.e=some D) {ad:Addr} {n c hi:Nat} {k:IntKind} (A:ev E x=some (.slice (some ad) n c)) (B:ev E y=some (.int k hi)) (p:n<=c) (m:hi<=c):
  eM P r ops Q i d a w (λu w'=>u= .slice (some ad) hi c/\Fr [] w w'):=by
 refine lU q (gQ f hw) l (b:=true) (v:=.slice (some ad) hi c) (w':=w) ?_ ⟨rfl,Fr.refl _ _⟩;simp only[if_true];refine⟨by rw[h];simp,?_⟩;simp only[execOp,h,ξx,f.eval A,ω,ζg,f.eval B,Ot C s j z p m];rfl
theorem afo (p:Θ.ok P) (C:ops[i]? =some o) (hw:want N ops E o.guard=some true) (A:o.dst=some d) (v:ηl d N=true) {t:Nat} {x y z:Operand} {g s:TI} (m:o.op= .slice t x (some y) (some z) none) (D:Θ.get t=some g)
  (u:g.tag=5) (F:Θ.get g.e=some s) {ad:Addr} {n c lo hi:Nat} {k q:IntKind} (G:ev E x=some (.slice (some ad) n c)) (H:ev E y=some (.int k lo)) (I:ev E z=some (.int q hi)) (B:n<=c) (L:lo<=hi) (J:hi<=c) (K:lo<c)
  (h:WO P r N ops Q l ((d,.slice (some (ad.add (lo*s.size))) (hi-lo) (c-lo))::E) ds w):WO P r N ops Q (i::l) E ds w:=by
 have hu:=(p.fits D).slice u;have j:=oh (P:=P) (w:=w) (b:=true) (n:=n) (c:=c) (lo:=some (k,(lo:Int))) (hi:=some (q,(hi:Int))) (mx:=none) B (by simp) (by simp;omega) (by simp;omega) (by simp) (by simp);simp only[ω,ζg,ξ1,ξw,gG,ι] at j;refine ek C hw A v (by rw[m];simp) (λa f=>?_) h;simp only[execOp,m,ξx,f.eval G,ω,ζg,f.eval H,f.eval I,Instr.sliceAt,run_underlying hu,ξr,Instr.slice,j,dV (p.fits F),ζe];rw[if_neg (by omega)]
theorem afj (z:Θ.ok P) (I:ops[i]? =some o) (hw:want N ops E o.guard=some true) (D:o.dst=some d) (B:ηl d N=true) {t:Nat} {x y:Operand} {n b:TI}
  (q:o.op= .call {callee:=.builtin .append,args:= #[x,y],argTypes:= #[t,t]}) (L:Θ.get t=some n) (A:n.tag=5) (M:Θ.get n.e=some b) {g k c m f e:Nat} {ad:Addr} {cur:Array Value} {us:Γb}
  (S:ev E x=some (.slice (some ⟨g,0,none⟩) k c)) (U:ev E y=some (.slice (some ad) m f)) (j:w.heap[g]? =some (.cells cur e (0,0))) (R:dK w ad us) (v:us.length=m*b.size) (h1: ∀u∈us,u.oneCell'=true) (G:k+m<=c) (C:(k+m)*b.size<=cur.size)
  (h: ∀(W:World) (new:Array Value),Fr [g] w W->W.heap[g]? =some (.cells new e (0,0))->new=(cur.toList.take (k*b.size)++us++cur.toList.drop (k*b.size+us.length)).toArray->WO P r N ops Q l ((d,.slice (some ⟨g,0,none⟩) (k+m) c)::E) ds W):WO P r N ops Q (i::l) E ds w:=by
 have O:=(z.fits L).slice A;obtain⟨x',T,K,V,X⟩:=(z.fits M).info;have s:=run_storeCells_at P g (k*b.size) e us 0 cur w j (by rw[v];rw[Nat.add_mul] at C;omega) h1;simp only[ξy] at s;have H:=h (w.setRow g (cur.toList.take (k*b.size)++us++cur.toList.drop (k*b.size+us.length)).toArray) _ (jT j) (by simp only[ηa,ζf,j,if_true,ω]) rfl;refine ek I hw D B (by rw[q];simp) (λa p=>?_) H;have F:=run_firstCells_some (P:=P) (w:=w) b.size m ad m f us v R;have J:(ζK #[t,t] o.type #[.slice (some ⟨g,0,none⟩) k c,.slice (some ad) m f]).run P w= .ok (.slice (some ⟨g,0,none⟩) (k+m) c) (w.setRow g (cur.toList.take (k*b.size)++us++cur.toList.drop (k*b.size+us.length)).toArray):=by
  simp[ζK,run_underlying O,sizeOf,typeInfo,T,Builtin.lenOf,K,F,G,e9,s]
 simp only[execOp,q,ξx,resolve,ζe,ξr,invoke,builtin,ζ9,ξz,ξV,p.eval S,p.eval U,J]
end
noncomputable def np (z:aw):Value×Value:=(.int .u64 z.bb,.int .u64 z.aa)
noncomputable def nc (L:List aw):Γb:=pc (L.map np)
theorem Ed {O:Γ} {w:World}: ∀ {L:List aw},bN dW O w (nc L) L
 |[]=>rfl
 |z::L=>⟨[.int .u64 z.bb,.int .u64 z.aa],nc L,rfl,⟨[.int .u64 z.bb],[.int .u64 z.aa],rfl,rfl,rfl⟩,Ed⟩
theorem N4 {O:Γ} {w:World}: ∀ {L:List aw} {cs:Γb},bN dW O w cs L->cs=nc L
 |[],_,h=>h
 |z::L,cs,⟨c1,c2,h1,a,b⟩=>by
  rw[h1,N4 b,aew a];rfl
theorem kD (L:List aw):(nc L).length=L.length*2:=by rw[nc,fu,ρ]
theorem aaC (L:List aw) (k:Nat):(nc L).take (k*2)=nc (L.take k):=by rw[nc,vS,nc,ζ6]
theorem aaA (L:List aw) (k:Nat):(nc L).drop (k*2)=nc (L.drop k):=by rw[nc,vR,nc,ζr]
theorem aaz (L M:List aw):nc (L++M)=nc L++nc M:=by rw[nc,ξC,EP];rfl
theorem aaB: ∀ {L:List aw} {u:Value},u∈nc L->u.oneCell'=true:=λ{L u} h=>bN.one (Ed (O:=[]) (w:=default) (L:=L)) u h
noncomputable def wB (xs:List aw) (i j:Int):Option (List aw):=if 0<=i/\i<=j/\j<=xs.length then some (xs.take i.toNat++xs.drop j.toNat) else none
set_option maxRecDepth 100000 in
set_option maxHeartbeats 4000000 in
theorem adY {O:Γ} {w:World} (hO:OB O w) {B:Nat} {v:Value} {xs:List aw} (p:Go.Dc.Own dW 127 B O w v xs) {i j:Int} {zs:List aw} (r:wB xs i j=some zs):
  Calls η 223 #[v,.int .i64 i,.int .i64 j] w (eK dW 127 B O w v zs):=by
 unfold wB at r;split at r
 case isFalse=>cases r
 rename_i aB;cases r;obtain⟨i,rfl⟩: ∃k:Nat,i=k:=⟨i.toNat,by omega⟩;obtain⟨j,rfl⟩: ∃k:Nat,j=k:=⟨j.toNat,by omega⟩;simp only[ι] at*
 obtain⟨A,c,rfl,aE,aA⟩:=p.form;have af:(Ty.slice dW).is [] w (.slice A xs.length c) xs:=p.iC.data wO (λ_ _ h=>by cases h);refine gA (args:=[.slice A xs.length c,.int .i64 i,.int .i64 j]) (N:=33) ηf rfl rfl rfl (aP (a7 (l:=[0]) rfl (aG ai [0] [(0,.slice A xs.length c),(1,.int .i64 i),(2,.int .i64 j)] rfl ⟨rfl,rfl,rfl,trivial⟩ (aY (aR (aP (a7 (l:=[0,1,2,3,4,5]) rfl (aG ai [0,1,2,3,4] [(0,.slice A xs.length c),(1,.int .i64 i),(2,.int .i64 j),(8,.slice A xs.length c),(9,.int .i64 i),(10,.int .i64 j),(12,.int .i64 (xs.length:Int))] rfl ⟨rfl,rfl,rfl,rfl,rfl,rfl,rfl,trivial⟩ ?_))))))));refine afn (l':=some (.i64,(i:Int))) (h':=some (.i64,(j:Int))) (m':=some (.i64,(xs.length:Int))) (ys:=(xs.take j).drop i) ai rfl rfl rfl rfl rfl rfl rfl rfl rfl rfl rfl rfl rfl af (by
  simp only[ω];unfold ep;rw[if_pos (by simp;omega)];simp) (λv1 h1=>?_)
 refine aY (aR (aP (aP (a7 (l:=[0,1,2]) rfl (aG ai [0,1,2] [(0,.slice A xs.length c),(1,.int .i64 i),(2,.int .i64 j),(16,.bool ((i:Int)==j))] rfl ⟨rfl,rfl,rfl,rfl,trivial⟩ (aY (aR ?_)))))))
 by_cases an:i=j
 ·subst an;refine fz rfl (by simp) ?_;refine aP (a7 (l:=[0,1]) rfl (aG ai [0,1] [(6,.slice A xs.length c)] rfl ⟨rfl,trivial⟩ (aY (aR (dC (fA (eU rfl ⟨_,O,rfl,?_⟩)))))));rw[ξd];exact⟨p,Tr.refl _ _,hO,Sub.refl _,λ_ _ _=>rfl,λ_ _ h=>h⟩
 refine fJ rfl (beq_eq_false_iff_ne.2 (by omega)) ?_;refine eB (aR ?_);obtain⟨cs,⟨az,C⟩,ax⟩:=p.ex;rcases C with⟨_,aC⟩|⟨g,cap,cur,C,U,x,y,ab,G,H⟩
 ·omega
 injection C with S aD Z;subst S;subst Z;have aj:=p.mem g rfl;have ae:=N4 ax;have X:dW.n=2:=rfl;rw[X] at G H;obtain⟨R,W⟩: ∃R,R=cur.toList.drop (xs.length*2):=⟨_,rfl⟩;have I:cur.toList=nc xs++R:=by
  rw[W,<-ae,<-H];exact(ξd _ _).symm
 have ay:xs.length*2+R.length=c*2:=by
  have:=congrArg ζ5 I;rw[χ,G] at this;simp only[ν,kD] at this;omega
 have f:bE w g 127 (nc xs++R):=by
  unfold bE;rw[<-I,ξO];exact x
 refine aP (a7 (l:=[0,1,2]) rfl (aG ai [0,1,2] [(0,.slice (some ⟨g,0,none⟩) xs.length c),(1,.int .i64 i),(2,.int .i64 j),(7,.int .i64 (xs.length:Int))] rfl ⟨rfl,rfl,rfl,rfl,trivial⟩ (aY (aR (aP (w4 mixed [⟨20,[],[0]⟩,⟨21,[],[1]⟩,⟨22,[0,1],[]⟩,⟨23,[],[0]⟩,⟨24,[],[2]⟩,⟨25,[3,4],[]⟩] [SP.eq (.slice (some ⟨g,0,none⟩) xs.length c),SP.eq (.int .i64 i),SP.eq (.slice (some ⟨g,0,none⟩) i c),SP.eq (.slice (some ⟨g,0,none⟩) xs.length c),SP.eq (.int .i64 j),SP.eq (.slice (if c=j then some ⟨g,0,none⟩ else(some ⟨g,0,none⟩:Option Addr).map (·.add (j*2))) (xs.length-j) (c-j))] rfl rfl rfl rfl ⟨?_,?_,?_,?_,?_,?_,trivial⟩ ?_))))))
 ·intro a w2 o b d f m;exact cZ ai ⟨b,d,b0 (E:=[(0,.slice (some ⟨g,0,none⟩) xs.length c)]) ⟨f 0 rfl _ rfl,trivial⟩⟩ rfl rfl rfl rfl rfl
 ·intro a w2 o b d f m;exact cZ ai ⟨b,d,b0 (E:=[(1,.int .i64 i)]) ⟨f 1 rfl _ rfl,trivial⟩⟩ rfl rfl rfl rfl rfl
 ·intro a w2 o b d f m;exact aa' (n:=xs.length) (c:=c) (hi:=i) ai ⟨b,d,b0 (E:=[(20,.slice (some ⟨g,0,none⟩) xs.length c),(21,.int .i64 i)]) ⟨(m 0 rfl _ _ rfl rfl),(m 1 rfl _ _ rfl rfl),trivial⟩⟩ rfl rfl rfl rfl rfl rfl rfl rfl rfl y (by omega)
 ·intro a w2 o b d f m;exact cZ ai ⟨b,d,b0 (E:=[(0,.slice (some ⟨g,0,none⟩) xs.length c)]) ⟨f 0 rfl _ rfl,trivial⟩⟩ rfl rfl rfl rfl rfl
 ·intro a w2 o b d f m;exact cZ ai ⟨b,d,b0 (E:=[(2,.int .i64 j)]) ⟨f 2 rfl _ rfl,trivial⟩⟩ rfl rfl rfl rfl rfl
 ·intro a w2 o b d f m;refine(qs (A:=some ⟨g,0,none⟩) (n:=xs.length) (c:=c) (lo:=j) ai ⟨b,d,b0 (E:=[(23,.slice (some ⟨g,0,none⟩) xs.length c),(24,.int .i64 j)]) ⟨(m 3 rfl _ _ rfl rfl),(m 4 rfl _ _ rfl rfl),trivial⟩⟩ rfl rfl rfl rfl rfl rfl rfl rfl rfl y (by omega)).weaken (λu Q x=>?_);exact x
 intro a Q f3 b d t z;have D:=f.cc f3;obtain⟨ad,Y,aa⟩: ∃ad,(if c=j then some ⟨g,0,none⟩ else(some ⟨g,0,none⟩:Option Addr).map (·.add (j*2)))=some ad/\dK Q ad (nc (xs.drop j)):=by
  by_cases F:c=j
  ·refine⟨⟨g,0,none⟩,by rw[if_pos F],?_⟩;rw[List.drop_eq_nil_of_le (by omega)];intro k u hk;simp[nc,pc] at hk
  ·refine⟨⟨g,j*2,none⟩,by rw[if_neg F,ω,e9,ψ],?_⟩;intro k u hk;rw[e9,D.cell];rw[<-aaA,ξW] at hk;have ao:=(δ.1 hk).1;rw[ξ ao];exact hk
 rw[Y] at z;refine q2 (E:=[(1,.int .i64 i),(2,.int .i64 j),(7,.int .i64 (xs.length:Int)),(22,.slice (some ⟨g,0,none⟩) i c),(25,.slice (some ad) (xs.length-j) (c-j))]) (l:=[6,7]) b d ⟨t 1 _ rfl rfl,t 2 _ rfl rfl,t 7 _ rfl rfl,(z 2 _ _ rfl rfl),(z 5 _ _ rfl rfl),trivial⟩ rfl ?_;have J:(nc (xs.drop j)).length=(xs.length-j)*2:=by rw[kD,ξL]
 refine afj ai rfl rfl rfl rfl rfl rfl rfl rfl rfl rfl D aa J (λu hu=>aaB hu) (by omega) (by simp only[ζ2,ν,kD];show(i+(xs.length-j))*2<=_;omega) (λaF new ag ak aq=>?_);have K:new.toList=nc (xs.take i++xs.drop j)++(nc xs++R).drop (i*2+(xs.length-j)*2):=by
  rw[aq];simp only[ξR];rw[J,aaz,ξs,ξs]
  congr 1
  show List.take (i*2) (nc xs++R)=_;rw[ξg (by rw[kD];omega),aaC]
 have s:(xs.take i++xs.drop j).length=i+(xs.length-j):=by simp;omega
 refine aG ai [7] [(0,.slice (some ⟨g,0,none⟩) (i+(xs.length-j)) c),(1,.int .i64 i),(2,.int .i64 j),(7,.int .i64 (xs.length:Int))] rfl ⟨rfl,rfl,rfl,rfl,trivial⟩ (aY (aR (aP (a7 (l:=[0,1,2,3,4,5]) rfl (aG ai [0,1,2,3] [(0,.slice (some ⟨g,0,none⟩) (i+(xs.length-j)) c),(27,.slice (some ⟨g,0,none⟩) (i+(xs.length-j)) c),(29,.int .i64 ((i+(xs.length-j):Nat):Int)),(30,.int .i64 (xs.length:Int))] rfl ⟨rfl,rfl,rfl,rfl,trivial⟩ (afo (n:=i+(xs.length-j)) (c:=c) (lo:=i+(xs.length-j)) (hi:=xs.length) ai rfl rfl rfl rfl rfl rfl rfl rfl rfl rfl rfl (by omega) (by omega) y (by omega) ?_))))));obtain⟨q,av⟩: ∃q,xs.length-(i+(xs.length-j))=q+1:=⟨xs.length-(i+(xs.length-j))-1,by omega⟩;rw[av,e9,ψ];have M:new.size=c*2:=by
  rw[<-χ,K];simp only[ν,ξL,kD,ξh];omega
 refine Qr (k:=2) ai rfl rfl rfl rfl rfl rfl rfl rfl ak rfl (λu hu=>Qx rfl rfl hu) (by rw[M];show(i+(xs.length-j))*2+(q+1)*2<=c*2;omega) (λw5 P ah al ar=>?_);have L:P.toList=nc (xs.take i++xs.drop j)++((ξ2 (ηb #[.int .u64 0,.int .u64 0]).cells (q+1)).toList++new.toList.drop ((i+(xs.length-j))*2+(q+1)*2)):=by
  rw[ar];simp only[ξR,ξs]
  congr 1
  show List.take ((i+(xs.length-j))*2) new.toList=_;rw[K];exact ξS (by rw[kD,s])
 have au:P.size=c*2:=by
  rw[<-χ,L];simp only[ν,ξL,kD,χ,size_zeroCells,M,ξh];show _+((q+1)*2+_)=_;omega
 refine aY (aR (aP (a7 (l:=[0,1]) rfl (aG ai [0,1] [(6,.slice (some ⟨g,0,none⟩) (i+(xs.length-j)) c)] rfl ⟨rfl,trivial⟩ (aY (aR (dC (eU rfl ⟨_,O,rfl,?_⟩))))))));have V:Fr [g] w w5:=(f3.more (by simp)).trans (ag.trans ah);have:=xc (T:=dW) (e:=127) (B:=B) (n0:=xs.length) (zs:=xs.take i++xs.drop j) (cap:=c) hO aj U V al au ab (by rw[s];omega) Ed (by
  rw[L];exact ξS (by rw[kD,s];rfl))
 rw[s] at this;exact this
end Go.Proofs.YtoggponeookhbaaGreatDoor
end
section
namespace Go.Vx
open Go.RowKit Go.Dc
section
variable {S:bo} {K:Kit S} {P:Program}
def fy:List (ay S)->Option (Γb)
 |[]=>some []
 | .one (.v u)::r=>(match fy r with|some us=>some (u::us)|none=>none)
 |_=>none
theorem Qa {A:Pl} {O:Γ} {w:World}: ∀ {afC:List (ay S)} {us vs:Γb},fy afC=some us->cF A O w afC vs->vs=us
 |[],us,vs,h,b=>by
  cases h;exact b
 | .one (.v u)::r,us,vs,h,⟨y,ys,e,h1,a⟩=>by
  simp only[fy] at h;split at h
  ·rename_i c hu;cases h;have h1:[y]=[u]/\_:=h1;rw[e,Qa hu a,List.cons.inj h1.1|>.1]
  ·cases h
 | .agg _::_,us,vs,h,_=>by simp[fy] at h
 | .one (.ao _ _)::_,us,vs,h,_=>by simp[fy] at h
 | .one (.ptr _ _ _)::_,us,vs,h,_=>by simp[fy] at h
 | .one (.an _ _)::_,us,vs,h,_=>by simp[fy] at h
 | .one (.e_ _ _ _ _)::_,us,vs,h,_=>by simp[fy] at h
 | .one (.own _)::_,us,vs,h,_=>by simp[fy] at h
 | .one (.eb _ _ _ _)::_,us,vs,h,_=>by simp[fy] at h
 | .one (.fC _ _ _)::_,us,vs,h,_=>by simp[fy] at h
 | .one (.mp _)::_,us,vs,h,_=>by simp[fy] at h
 | .one (.aD _)::_,us,vs,h,_=>by simp[fy] at h
 | .one .cT::_,us,vs,h,_=>by simp[fy] at h
 | .one (.cX _)::_,us,vs,h,_=>by simp[fy] at h
 | .one (.bu _ _ _)::_,us,vs,h,_=>by simp[fy] at h
 | .one (.b2 _ _)::_,us,vs,h,_=>by simp[fy] at h
def F3 (K:Kit S) (f e:Nat) (tr:List (S.El e)->Γb->Option (List (S.El e))):dD S:=⟨f,λafC h k=>match afC with
 | .one (.own r)::rest=>(match fy rest,ea K (aC h) e (.own r) with
  |some us,some xs=>(tr xs us).bind λzs=>k (.ret (.s (.one (.own h.length)))) (h.set r none++[some (.row e zs)]) [r]
  |_,_=>none)
 |_=>none⟩
theorem aeM (aE:bW K P) {f e:Nat} {tr:List (S.El e)->Γb->Option (List (S.El e))} (ak:ey P f)
  (ah: ∀(O:Γ) (w:World) (v:Value) (us:Γb) (xs zs:List (S.El e)),OB O w->Dc.Own (S.ty e) e 0 O w v xs->tr xs us=some zs->Calls P f (v::us).toArray w (eK (S.ty e) e 0 O w v zs))
  {R:Type} (afC:List (ay S)) (h:AH S) (k:Rs S->AH S->Γ->Option R) (z:R) (x:(F3 K f e tr).out afC h k=some z): ∃r h' dt,k r h' dt=some z/\cU K P f afC h r h' dt:=by
 simp only[F3] at x;split at x
 rotate_left
 ·cases x
 rename_i r rest;split at x
 rotate_left
 ·cases x
 rename_i us xs au ax;obtain⟨zs,az,hk⟩:=bind_some x;have F:=Ce ax;refine⟨_,_,_,hk,ak,λA O w vs N t hO aD T W=>?_⟩;obtain⟨v,aA,rfl,av,ar⟩:=N;obtain rfl:=Qa au ar;obtain⟨_,G,aw,_⟩:=av;cases aw;obtain⟨v0,ae,aq,aF⟩:=t.al r _ F;rw[G] at ae;cases ae;refine(ah O w v aA xs zs hO aq az).mono ?_;rintro aB w' ⟨m,Q,rfl,g⟩;obtain⟨A',C⟩: ∃A':Pl,A'=⟨λi=>bif ξI i h.length then some m else A.pl i,A.ls⟩:=⟨_,rfl⟩;have y: ∀i,i≠h.length->A'.pl i=A.pl i:=λi hi=>by
  rw[C];have:ξI i h.length=false:=by
   cases a:ξI i h.length with
   |false=>rfl
   |true=>exact absurd (ξk a) hi
  simp only[this,cond_false]
 have B:A'.pl h.length=some m:=by rw[C];simp
 have hle:A.le A':=⟨λi p hp=>by
  rw[y i (λe=>by subst e;rw[T _ (ξa _)] at hp;cases hp)];exact hp,by rw[C]⟩
 have n: ∀b,bS v≠some b->v.ownBlock≠some b:=λb a N=>a (fB N);have ad: ∀b,b<w.heap.size->bS v≠some b->w'.heap[b]? =w.heap[b]? :=λb a hn=>g.fr b a (n b hn);have U: ∀b,bS m=some b->m.ownBlock=some b/\b∈Q:=by
  intro b a;have n:m.ownBlock=some b:=by
   rcases hd g.own with⟨s,_⟩|⟨af,c,s⟩
   ·rw[s] at a;cases a
   ·rw[s] at a ⊢;cases a;rfl
  exact⟨n,g.own.mem b n⟩
 have M: ∀b,b<w.heap.size->bS v≠some b->bS m≠some b:=λb a hn h'=>g.ne b a (n b hn) (U b h').1;have ao:m.oneCell'=true:=by
  rcases hd g.own with⟨s,_⟩|⟨af,c,s⟩<;>rw[s]<;>rfl
 have hlen:(h.set r none).length=h.length:=by simp
 have u: ∀ {i:Nat} {X:Ob S},aC (h.set r none++[some (.row e zs)]) i=some X->(i≠r/\aC h i=some X)\/(i=h.length/\X= .row e zs):=by
  intro i X hi;rcases jI hi with h1|⟨h1,l⟩
  ·exact .inl (EA h1)
  ·exact .inr ⟨h1.trans hlen,l⟩
 have Z: ∀i X,aC (h.set r none++[some (.row e zs)]) i=some X->X.nt=true:=λi X hi=>by
  rcases u hi with⟨_,h1⟩|⟨_,rfl⟩
  ·exact W i X h1
  ·rfl
 refine⟨A',Q,⟨m,rfl,⟨m,B,rfl,ao⟩⟩,⟨bK.qj Z ?_ ?_,g.ob,g.tr,λi hi=>y i (by omega),(λj E=>?_),by rw[C],by simp,?_,?_,λi X _=>Z i X⟩⟩
 ·intro i X hi;rcases u hi with⟨D,h1⟩|⟨rfl,rfl⟩
  ·obtain⟨p,hp,ai,a⟩:=t.al i X h1;have an:=fa h1;exact⟨p,by rw[y i (by omega)];exact hp,ai.keep g.tr hle λb d=>have d:=eN (W i X h1) d;⟨ad b (hO b (a b d)) (λn=>t.dj i r _ _ p v b D h1 F hp G d n),g.sub b (a b d)⟩,λb d=>g.sub b (a b d)⟩
  ·exact⟨m,B,g.own,λb a=>(U b a).2⟩
 ·intro i j X Y p q b V hi E hp H d I;have J: ∀ {i:Nat} {X:Ob S} {p:Value},i≠r->aC h i=some X->A'.pl i=some p->bS p=some b->b<w.heap.size/\A.pl i=some p/\bS v≠some b:=by
   intro i X p ag h1 l o;have an:=fa h1;rw[y i (by omega)] at l;obtain⟨aG,ab,_,a⟩:=t.al i X h1;rw[l] at ab;cases ab;exact⟨hO b (a b o),l,λn=>t.dj i r _ _ p v b ag h1 F l G o n⟩
  rcases u hi with⟨D,h1⟩|⟨rfl,rfl⟩
  ·rcases u E with⟨L,l⟩|⟨rfl,rfl⟩
   ·exact t.dj i j X Y p q b V h1 l (J D h1 hp d).2.1 (J L l H I).2.1 d I
   ·rw[B] at H;cases H;have o:=J D h1 hp d;exact M b o.1 o.2.2 I
  ·rcases u E with⟨L,l⟩|⟨rfl,rfl⟩
   ·rw[B] at hp;cases hp;have o:=J L l H I;exact M b o.1 o.2.2 d
   ·exact absurd rfl V
 ·have:j=r:=by simpa using E
  subst this;exact fa F
 ·intro i hi;simp at hi;rw[y i (by omega)];exact T i (by omega)
 ·intro b a hn;have aa:=hn r (by simp) v G;refine⟨ad b (hO b a) aa,g.sub b a,λi X p hi aj hp d=>?_⟩;rcases u aj with⟨_,h1⟩|⟨rfl,rfl⟩
  ·have:=fa h1;omega
  ·rw[B] at hp;cases hp;exact M b (hO b a) aa (eN rfl d)
end
end Go.Vx
end
section
namespace Go.Proofs.YtoggponeookhbaaGreatDoor
open Go.RowKit Go.Dc Go.Vx
noncomputable def pE (xs:List aw) (us:Γb):Option (List aw):=match us with
 |[.int .i64 i,.int .i64 j]=>wB xs i j
 |_=>none
noncomputable def B':dD SS:=F3 KK 223 127 pE
theorem VY {R:Type} (xs:List (ay SS)) (h:AH SS) (k:Rs SS->AH SS->Γ->Option R) (z:R) (a:B'.out xs h k=some z): ∃r h' dt,k r h' dt=some z/\cU KK η 223 xs h r h' dt:=
 aeM (e:=127) (tr:=pE) du (cR a8 ηf rfl) (λO w v us xs zs hO b a=>by
  unfold pE at a;split at a
  ·exact adY hO b a
  ·cases a) xs h k z a
noncomputable def yE (sh:Sh):bw SS:= {rW sh with H:=B'::(rW sh).H}
theorem SF:ak (yE shut) η:=ak.dw (c:=B') yK VY
noncomputable def tJ (sh:Sh) (s:aO) (pid:Int) (words:Γa):Option (aO×Int):=sh.s _ (p' sh s pid words)
noncomputable def tK (sh:Sh) (s:aO) (pid:Int):Option (aO×Int×Int):=sh.s _ (p_ sh s pid)
noncomputable def tz (sh:Sh) (s:aO) (pid:Int):Option (aO×Int×Int):=sh.s _ (p9 sh s pid)
theorem FN {α:Type} {x:α}:shut.s α x=x:=by rw[me]
noncomputable def B7 (sh:Sh):eJ SS:=fE KK 170 [58,35,130] (λ{R} xs (k:Rs SS->Option R)=>match xs with| .cons s (.cons pid (.cons words .nil))=>(tJ sh s pid words).bind (λr=>k (.ret (.br [KK.a1 58 r.1,KK.a1 27 r.2]))))
noncomputable def B8 (sh:Sh):eJ SS:=fE KK 171 [58,35] (λ{R} xs (k:Rs SS->Option R)=>match xs with| .cons s (.cons pid .nil)=>(tK sh s pid).bind (λr=>k (.ret (.br [KK.a1 58 r.1,KK.a1 35 r.2.1,KK.a1 27 r.2.2]))))
noncomputable def B6 (sh:Sh):eJ SS:=fE KK 152 [58,35] (λ{R} xs (k:Rs SS->Option R)=>match xs with| .cons s (.cons pid .nil)=>(tz sh s pid).bind (λr=>k (.ret (.br [KK.a1 58 r.1,KK.a1 3 r.2.1,KK.a1 27 r.2.2]))))
theorem g0 {O:Γ} {w:World} (h:cI KK O w):cI KK [] w:=h.tr (Tr.less λ_ hk=>by cases hk)
theorem DO {A:Pl} {O:Γ} {w:World} {s:aO} {v:Value} (h:(KK.a1 58 s).rel A O w v):fW.is [] w v s:=DS (DT du (t:=58) rfl rfl h)
theorem F4 {A:Pl} {O:Γ} {w:World} {s:Int} {v:Value} (h:(KK.a1 35 s).rel A O w v):(Ty.int .u64).is [] w v s:=DS (DT du (t:=35) rfl rfl h)
theorem afv {A:Pl} {O:Γ} {w:World} {s:Γa} {v:Value} (h:(KK.a1 130 s).rel A O w v):(Ty.slice (Ty.int .u64)).is [] w v s:=DS (DT du (t:=130) rfl rfl h)
theorem VG {R:Type} (ys:List (ay SS)) (k:Rs SS->Option R) (z:R) (hp:ys.all ay.pure=true) (m:(B7 shut).out ys k=some z): ∃r,k r=some z/\eC KK η 170 ys r:=
 B5 du (λ{R} xs k z h=>by
  match xs,h with
  | .cons s (.cons pid (.cons words .nil)),h=>
   obtain⟨r,j,hk⟩:=bind_some h;refine⟨_,hk,cR a8 ηe rfl,λA O w vs l hO i=>?_⟩;obtain⟨v0,_,rfl,c,v1,_,rfl,h1,v2,_,rfl,d,f⟩:=l;rw[show _=[] from f];refine(ZM hO (g0 i) (DO c) (F4 h1) (afv d) (FN.symm.trans j)).mono ?_;rintro e w' ⟨v,rfl,⟨a,b,rfl,n,o⟩,g⟩;exact⟨⟨_,rfl,[a,b],rfl,a,[b],rfl,hM du (t:=58) rfl rfl n,b,[],rfl,hM du (t:=27) rfl rfl o,rfl⟩,g⟩) ys k z hp m
theorem VH {R:Type} (ys:List (ay SS)) (k:Rs SS->Option R) (z:R) (hp:ys.all ay.pure=true) (m:(B8 shut).out ys k=some z): ∃r,k r=some z/\eC KK η 171 ys r:=
 B5 du (λ{R} xs k z h=>by
  match xs,h with
  | .cons s (.cons pid .nil),h=>
   obtain⟨r,j,hk⟩:=bind_some h;refine⟨_,hk,cR a8 ηd rfl,λA O w vs l hO i=>?_⟩;obtain⟨v0,_,rfl,d,v1,_,rfl,h1,f⟩:=l;rw[show _=[] from f];refine(ZL hO (g0 i) (DO d) (F4 h1) (FN.symm.trans j)).mono ?_;rintro e w' ⟨v,rfl,⟨a,b,c,rfl,n,o,p⟩,g⟩;exact⟨⟨_,rfl,[a,b,c],rfl,a,[b,c],rfl,hM du (t:=58) rfl rfl n,b,[c],rfl,hM du (t:=35) rfl rfl o,c,[],rfl,hM du (t:=27) rfl rfl p,rfl⟩,g⟩) ys k z hp m
theorem VF {R:Type} (ys:List (ay SS)) (k:Rs SS->Option R) (z:R) (hp:ys.all ay.pure=true) (m:(B6 shut).out ys k=some z): ∃r,k r=some z/\eC KK η 152 ys r:=
 B5 du (λ{R} xs k z h=>by
  match xs,h with
  | .cons s (.cons pid .nil),h=>
   obtain⟨r,j,hk⟩:=bind_some h;refine⟨_,hk,cR a8 ηc rfl,λA O w vs l hO i=>?_⟩;obtain⟨v0,_,rfl,d,v1,_,rfl,h1,f⟩:=l;rw[show _=[] from f];refine(ZK hO (g0 i) (DO d) (F4 h1) (FN.symm.trans j)).mono ?_;rintro e w' ⟨v,rfl,⟨a,b,c,rfl,n,o,p⟩,g⟩;exact⟨⟨_,rfl,[a,b,c],rfl,a,[b,c],rfl,hM du (t:=58) rfl rfl n,b,[c],rfl,hM du (t:=3) rfl rfl o,c,[],rfl,hM du (t:=27) rfl rfl p,rfl⟩,g⟩) ys k z hp m
noncomputable def yp (sh:Sh):bw SS:= {yE sh with C:=B7 sh::(yE sh).C}
theorem SD:ak (yp shut) η:=ak.ga (c:=B7 shut) SF VG
noncomputable def yq (sh:Sh):bw SS:= {yp sh with C:=B8 sh::(yp sh).C}
theorem SE:ak (yq shut) η:=ak.ga (c:=B8 shut) SD VH
noncomputable def x8 (sh:Sh):bw SS:= {yq sh with C:=B6 sh::(yq sh).C}
theorem x9:ak (x8 shut) η:=ak.ga (c:=B6 shut) SE VF
end Go.Proofs.YtoggponeookhbaaGreatDoor
end
section
namespace Go.Proofs.YtoggponeookhbaaGreatDoor
open Go.RowKit Go.Dc Go.Vx
variable (sh:Sh)
def uk (a:List aq) (b:List aw) (c d:Int) (e:List aq):AS SS:=⟨[(5,(va 0 0)),(20,(vd 56 a)),(21,(vi c)),(22,(vi d))],[(bX 262 [(.own 1),(.own 2)]),(rX 127 b),(rX 132 e)],0,none,false,[],[]⟩
def W' (b:List aq) (d:List aw) (a:Int) (a0:Bool) (c:Int) (a2:List aq):AS SS:= {uk b d a a a2 with env:=[(23,(vb a0)),(5,(va 0 0)),(20,(vd 56 b)),(21,(vi a)),(22,(vi c))]}
def Ir (sh:Sh) (c:List aq) (e:List aw) (b:Int) (a:Int×List aq):T ((Int×List aq)⊕(Bool×Int×List aq)):=.bf (decide (a.1<b)) (.bd (idx c a.1) λz0=>.bd (app 8 [] z0.bc) λd=>.bd (app 32 a.2 [aq.mk z0.aa d]) λz2=>.ok (.inl ((γ.wrap (a.1+1)),z2)))<|.ok (.inr ((decide (a.1<b)),a.1,a.2))
def zK (a:List aq) (b:List aw) (c d:Int) (e:List aq):=bM sh (Ir sh a b c) 1000000 (d,e)
def T5 {R} (k:KX SS R) (a:List aq) (b:List aw) (c:Int) (x:(Bool×Int×List aq)):Option R:=(λv=>k (.exit 0) (W' a b c v.1 v.2.1 v.2.2)) x
def Ly:bh SS:=gm (λst=>gc (ar 219 7) (fR 0 1 132 (st)))<|bt 7 (λst=>(ba 56 (aK st 20 0)).bind λa=>(cd st 1 127).bind λb=>(aU (aK st 21 0)).bind λc=>(aU (aK st 22 0)).bind λd=>(cd st 2 132).bind λe=>some (a,b,c,d,e)) (u5 uk) (u5 (zK shut)) (λk p=>T5 k p.1 p.2.1 p.2.2.1)
theorem acq:LS KK η ar ζG 219 7 Ly:=aX.pre (bT.comp (bT.gc (ar 219 7)) (bT.fR 0 1 132))<|
 aX.bM (π:=List aq×List aw×Int×Int×List aq) (σ:=Int×List aq) (ak.all x9 rfl) (aJ.nil) rfl 60 (λp a=>uk p.1 p.2.1 p.2.2.1 a.1 a.2) (λp=>(p.2.2.2.1,p.2.2.2.2)) (St:=λp=>Ir shut p.1 p.2.1 p.2.2.1) (λp=>1000000) (λp=>rfl)
  (λm p a k=>by kernel_rfl)
def uv (b:Int) (a:List aw) (c d:Int):AS SS:=⟨[(0,(vo 0)),(1,(vu b)),(2,(vc 1)),(8,(vl a)),(9,(vi c)),(10,(vi d))],[(rX 127 a),(some (.aD 270 [] [(.one (.an 2 0))])),(bX 284 [(.v (.func (.func 221) (.mk []) (.mk [])))])],3,none,false,[],[]⟩
def Xr (a:Int) (c:List aw) (a0:Bool) (b a2:Int):AS SS:= {uv a c a a with env:=[(17,(vb a0)),(16,(vi b)),(15,(vi a2)),(0,(vo 0)),(1,(vu a)),(2,(vc 1)),(8,(vl c)),(9,(vi a2)),(10,(vi b))]}
def o4 (c:Int) (b:List aw) (a:Int×Int):T ((Int×Int)⊕(Bool×Int×Int)):=.bf (decide (a.1<a.2)) (.bd (idx b (γ.wrap ((ο.wrap (γ.wrap (a.1+a.2))).fdiv 2))) λz0=>.bd (b[(γ.wrap ((ο.wrap (γ.wrap (a.1+a.2))).fdiv 2)).toNat]?) λd=>.bd (hW sh d.bb c) λz2=>.bf (decide (z2<0)) (.ok (.inl ((γ.wrap (γ.wrap ((ο.wrap (γ.wrap (a.1+a.2))).fdiv 2)+1)),a.2)))<|.ok (.inl (a.1,(γ.wrap ((ο.wrap (γ.wrap (a.1+a.2))).fdiv 2)))))<|.ok (.inr ((decide (a.1<a.2)),a.2,a.1))
def zS (a:Int) (b:List aw) (c d:Int):=bM sh (o4 sh a b) 1000000 (c,d)
def Ue {R} (k:KX SS R) (a:Int) (b:List aw) (x:(Bool×Int×Int)):Option R:=(λv=>k (.exit 0) (Xr a b v.1 v.2.1 v.2.2)) x
def LI:bh SS:=bt 4 (λst=>(b9 st 1 270).bind λ_=>(aU (aK st 1 0)).bind λa=>(cd st 0 127).bind λb=>(aU (aK st 9 0)).bind λc=>(aU (aK st 10 0)).bind λd=>some (a,b,c,d)) (u4 uv) (u4 (zS shut)) (λk p=>Ue k p.1 p.2.1)
def GS:=bO (x8 shut) ar ζG 219 [Ly]
theorem GU:a_ GS η:=bQ (ak.all x9 rfl) ζb rfl a8 (by kernel_rfl) acq
theorem acA:LS KK η ar ζc 269 4 LI:=
 aX.bM (π:=Int×List aw×Int×Int) (σ:=Int×Int) GU (aJ.nil) rfl 60 (λp a=>uv p.1 p.2.1 a.1 a.2) (λp=>(p.2.2.1,p.2.2.2)) (St:=λp=>o4 shut p.1 p.2.1) (λp=>1000000) (λp=>rfl)
  (λm p a k=>by kernel_rfl)
def Ro:=bO GS ar ζc 269 [LI]
theorem Rp:a_ Ro η:=bQ GU ζz rfl a8 (by kernel_rfl) acA
def AW (s:aO) (name:Int):T (aO×Int):=.bd (jA sh s) λz0=>.bf (z0 !=0) (.bf (z0 !=0) (.ok (⟨[],[]⟩,z0))<|.bd (jx sh name) λa=>.bf (!a) (.ok (⟨[],[]⟩,351))<|.no)<|.bd (app 16 [] s.ax) λa=>.gd (uk s.au a ((↑s.au.length:Int)) 0 [])<|.bd (zK sh s.au a ((↑s.au.length:Int)) 0 []) λc=>.bd (jx sh name) λz3=>.bf (!z3) (.ok (⟨[],[]⟩,351))<|.gd (uv name a 0 (↑a.length:Int))<|.bd (zS sh name a 0 ((↑a.length:Int))) λb=>.bf (decide (b.2.2<(↑a.length:Int))) (.bd (idx a b.2.2) λz5=>.bd (a[b.2.2.toNat]?) λd=>.bd (hW sh d.bb name) λe=>.bf (!e==0) (.ok (⟨[],[]⟩,4))<|.bd (pE a [ζJ γ b.2.2,ζJ γ (γ.wrap (b.2.2+1))]) λf=>.ok (⟨f,c.2.2⟩,0))<|.ok (⟨[],[]⟩,4)
def tI (s:aO) (name:Int):=sh.s _ (AW sh s name).val
def Hz:=bP (db KK 168 58 35 (tI sh) (eP KK 58 27)) (x8 sh)
theorem HA:ak (Hz shut) η:=dp (rs:=[58,27]) x9 Rp rfl rfl λs name k=>by kernel_rfl
def Bg (s:aZ) (x:cJ):T (aZ×cV):=.bf (decide (x.bq>=1)) (.bf (!decide (x.bq<=14)) (.ok (s,⟨361,0⟩))<|.bd (CG sh x) λz0=>.bf (z0) (.bf (x.bq==0) (.no)<|.bf (x.bq==1) (.bd (tt sh s.az (aE x.fArgs 0)) λa=>.bf (!a.snd.snd==0) (.ok (s,⟨a.snd.snd,0⟩))<|.ok (⟨a.fst,s.aQ,s.aF,s.aA⟩,⟨0,a.snd.fst⟩))<|.bf (x.bq==2) (.bd (tu sh s.az (aE x.fArgs 0) (aE x.fArgs 1)) λa=>.bf (!a.snd==0) (.ok (s,⟨a.snd,0⟩))<|.bd (tv sh s.aA (aE x.fArgs 0)) λz2=>.bf (!(↑z2.length:Int)==0) (.ok (s,⟨341,0⟩))<|.bd (tw sh s.aQ (aE x.fArgs 0)) λz3=>.bd (tz sh s.aA (aE x.fArgs 0)) λz4=>.bf (!z4.snd.snd==0) (.ok (s,⟨z4.snd.snd,0⟩))<|.ok (⟨a.fst,z3.fst,s.aF,z4.fst⟩,⟨0,0⟩))<|.bf (x.bq==3) (.bd (tA sh s.az (aE x.fArgs 0) (aE x.fArgs 1)) λa=>.bf (!a.snd.snd==0) (.ok (s,⟨a.snd.snd,0⟩))<|.ok (⟨a.fst,s.aQ,s.aF,s.aA⟩,⟨0,a.snd.fst⟩))<|.bf (x.bq==4) (.bd (nf sh s.aF (aE x.fArgs 1)) λa=>.bf (!a.snd==0) (.ok (s,⟨a.snd,0⟩))<|.bd (pM sh s.aQ (aE x.fArgs 0) a.fst) λz2=>.bf (!z2.snd.snd==0) (.ok (s,⟨z2.snd.snd,0⟩))<|.ok (⟨s.az,z2.fst,s.aF,s.aA⟩,⟨0,(ο.wrap z2.snd.fst)⟩))<|.bf (x.bq==5) (.bf (!decide (aE x.fArgs 1<8)) (.ok (s,⟨4,0⟩))<|.bd (km sh s.aQ (aE x.fArgs 0) (γ.wrap (aE x.fArgs 1))) λa=>.bf (!a.snd) (.ok (s,⟨4,0⟩))<|.bd (tB sh s.aQ (aE x.fArgs 0) [γ.wrap (aE x.fArgs 1)]) λz2=>.bf (!z2.snd==0) (.ok (s,⟨z2.snd,0⟩))<|.ok (⟨s.az,z2.fst,s.aF,s.aA⟩,⟨0,0⟩))<|.bf (x.bq==6) (.bf (!decide (aE x.fArgs 1<8)) (.ok (s,⟨4,0⟩))<|.bd (km sh s.aQ (aE x.fArgs 0) (γ.wrap (aE x.fArgs 1))) λa=>.bf (!a.snd) (.ok (s,⟨4,0⟩))<|.bd (tC sh s.aQ (aE x.fArgs 0) (γ.wrap (aE x.fArgs 1))) λz2=>.bf (!z2.snd.snd==0) (.ok (s,⟨z2.snd.snd,0⟩))<|.ok (⟨s.az,z2.fst,s.aF,s.aA⟩,⟨0,(ο.wrap z2.snd.fst)⟩))<|.bf (x.bq==7) (.bd (tD sh s.aF (aE x.fArgs 1)) λa=>.bf (!a.snd.snd==0) (.ok (s,⟨a.snd.snd,0⟩))<|.ok (⟨s.az,s.aQ,a.fst,s.aA⟩,⟨0,a.snd.fst⟩))<|.bf (x.bq==8) (.bd (tE sh s.aF (aE x.fArgs 1)) λa=>.bf (!a.snd==0) (.ok (s,⟨a.snd,0⟩))<|.bd (tF sh s.aQ a.fst) λz2=>.bf (!z2==0) (.ok (s,⟨341,0⟩))<|.bd (tG sh s.aF (aE x.fArgs 1)) λz3=>.bf (!z3.snd==0) (.ok (s,⟨z3.snd,0⟩))<|.ok (⟨s.az,s.aQ,z3.fst,s.aA⟩,⟨0,0⟩))<|.bf (x.bq==9) (.bd (nf sh s.aF (aE x.fArgs 1)) λa=>.bf (!a.snd==0) (.ok (s,⟨a.snd,0⟩))<|.ok (s,⟨0,a.fst⟩))<|.bf (x.bq==10) (.bd (tH sh s.aA (aE x.fArgs 1) (aE x.fArgs 0)) λa=>.bf (!a.snd==0) (.ok (s,⟨a.snd,0⟩))<|.ok (⟨s.az,s.aQ,s.aF,a.fst⟩,⟨0,0⟩))<|.bf (x.bq==11) (.bd (ng sh s.aA (aE x.fArgs 1)) λa=>.bf (!a.snd==0) (.ok (s,⟨a.snd,0⟩))<|.bf (!a.fst==aE x.fArgs 0) (.ok (s,⟨362,0⟩))<|.bd (tI sh s.aA (aE x.fArgs 1)) λb=>.bf (!b.2==0) (.ok (s,⟨b.2,0⟩))<|.ok (⟨s.az,s.aQ,s.aF,b.1⟩,⟨0,0⟩))<|.bf (x.bq==12) (.bd (ng sh s.aA (aE x.fArgs 1)) λa=>.bf (!a.snd==0) (.ok (s,⟨a.snd,0⟩))<|.ok (s,⟨0,a.fst⟩))<|.bf (x.bq==13) (.bd (pS sh s.az (aE x.fArgs 1)) λa=>.bf (!a) (.ok (s,⟨4,0⟩))<|.bd (tJ sh s.aA (aE x.fArgs 1) [aE x.fArgs 2]) λz2=>.bf (!z2.snd !=6) (.ok (s,⟨322,0⟩))<|.bf (!z2.snd==0) (.ok (s,⟨z2.snd,0⟩))<|.ok (⟨s.az,s.aQ,s.aF,z2.fst⟩,⟨0,0⟩))<|.bf (x.bq==14) (.bd (tK sh s.aA (aE x.fArgs 0)) λa=>.bf (!a.snd.snd !=4) (.ok (s,⟨322,0⟩))<|.bf (!a.snd.snd==0) (.ok (s,⟨a.snd.snd,0⟩))<|.ok (⟨s.az,s.aQ,s.aF,a.fst⟩,⟨0,a.snd.fst⟩))<|.no)<|.bd (pS sh s.az (aE x.fArgs 0)) λa=>.bf (!a) (.ok (s,⟨321,0⟩))<|.bf (x.bq==0) (.no)<|.bf (x.bq==1) (.bd (tt sh s.az (aE x.fArgs 0)) λz2=>.bf (!z2.snd.snd==0) (.ok (s,⟨z2.snd.snd,0⟩))<|.ok (⟨z2.fst,s.aQ,s.aF,s.aA⟩,⟨0,z2.snd.fst⟩))<|.bf (x.bq==2) (.bd (tu sh s.az (aE x.fArgs 0) (aE x.fArgs 1)) λz2=>.bf (!z2.snd==0) (.ok (s,⟨z2.snd,0⟩))<|.bd (tv sh s.aA (aE x.fArgs 0)) λz3=>.bf (!(↑z3.length:Int)==0) (.ok (s,⟨341,0⟩))<|.bd (tw sh s.aQ (aE x.fArgs 0)) λz4=>.bd (tz sh s.aA (aE x.fArgs 0)) λz5=>.bf (!z5.snd.snd==0) (.ok (s,⟨z5.snd.snd,0⟩))<|.ok (⟨z2.fst,z4.fst,s.aF,z5.fst⟩,⟨0,0⟩))<|.bf (x.bq==3) (.bd (tA sh s.az (aE x.fArgs 0) (aE x.fArgs 1)) λz2=>.bf (!z2.snd.snd==0) (.ok (s,⟨z2.snd.snd,0⟩))<|.ok (⟨z2.fst,s.aQ,s.aF,s.aA⟩,⟨0,z2.snd.fst⟩))<|.bf (x.bq==4) (.bd (nf sh s.aF (aE x.fArgs 1)) λz2=>.bf (!z2.snd==0) (.ok (s,⟨z2.snd,0⟩))<|.bd (pM sh s.aQ (aE x.fArgs 0) z2.fst) λz3=>.bf (!z3.snd.snd==0) (.ok (s,⟨z3.snd.snd,0⟩))<|.ok (⟨s.az,z3.fst,s.aF,s.aA⟩,⟨0,(ο.wrap z3.snd.fst)⟩))<|.bf (x.bq==5) (.bf (!decide (aE x.fArgs 1<8)) (.ok (s,⟨4,0⟩))<|.bd (km sh s.aQ (aE x.fArgs 0) (γ.wrap (aE x.fArgs 1))) λz2=>.bf (!z2.snd) (.ok (s,⟨4,0⟩))<|.bd (tB sh s.aQ (aE x.fArgs 0) [γ.wrap (aE x.fArgs 1)]) λz3=>.bf (!z3.snd==0) (.ok (s,⟨z3.snd,0⟩))<|.ok (⟨s.az,z3.fst,s.aF,s.aA⟩,⟨0,0⟩))<|.bf (x.bq==6) (.bf (!decide (aE x.fArgs 1<8)) (.ok (s,⟨4,0⟩))<|.bd (km sh s.aQ (aE x.fArgs 0) (γ.wrap (aE x.fArgs 1))) λz2=>.bf (!z2.snd) (.ok (s,⟨4,0⟩))<|.bd (tC sh s.aQ (aE x.fArgs 0) (γ.wrap (aE x.fArgs 1))) λz3=>.bf (!z3.snd.snd==0) (.ok (s,⟨z3.snd.snd,0⟩))<|.ok (⟨s.az,z3.fst,s.aF,s.aA⟩,⟨0,(ο.wrap z3.snd.fst)⟩))<|.bf (x.bq==7) (.bd (tD sh s.aF (aE x.fArgs 1)) λz2=>.bf (!z2.snd.snd==0) (.ok (s,⟨z2.snd.snd,0⟩))<|.ok (⟨s.az,s.aQ,z2.fst,s.aA⟩,⟨0,z2.snd.fst⟩))<|.bf (x.bq==8) (.bd (tE sh s.aF (aE x.fArgs 1)) λz2=>.bf (!z2.snd==0) (.ok (s,⟨z2.snd,0⟩))<|.bd (tF sh s.aQ z2.fst) λz3=>.bf (!z3==0) (.ok (s,⟨341,0⟩))<|.bd (tG sh s.aF (aE x.fArgs 1)) λz4=>.bf (!z4.snd==0) (.ok (s,⟨z4.snd,0⟩))<|.ok (⟨s.az,s.aQ,z4.fst,s.aA⟩,⟨0,0⟩))<|.bf (x.bq==9) (.bd (nf sh s.aF (aE x.fArgs 1)) λz2=>.bf (!z2.snd==0) (.ok (s,⟨z2.snd,0⟩))<|.ok (s,⟨0,z2.fst⟩))<|.bf (x.bq==10) (.bd (tH sh s.aA (aE x.fArgs 1) (aE x.fArgs 0)) λz2=>.bf (!z2.snd==0) (.ok (s,⟨z2.snd,0⟩))<|.ok (⟨s.az,s.aQ,s.aF,z2.fst⟩,⟨0,0⟩))<|.bf (x.bq==11) (.bd (ng sh s.aA (aE x.fArgs 1)) λz2=>.bf (!z2.snd==0) (.ok (s,⟨z2.snd,0⟩))<|.bf (!z2.fst==aE x.fArgs 0) (.ok (s,⟨362,0⟩))<|.bd (tI sh s.aA (aE x.fArgs 1)) λc=>.bf (!c.2==0) (.ok (s,⟨c.2,0⟩))<|.ok (⟨s.az,s.aQ,s.aF,c.1⟩,⟨0,0⟩))<|.bf (x.bq==12) (.bd (ng sh s.aA (aE x.fArgs 1)) λz2=>.bf (!z2.snd==0) (.ok (s,⟨z2.snd,0⟩))<|.ok (s,⟨0,z2.fst⟩))<|.bf (x.bq==13) (.bd (pS sh s.az (aE x.fArgs 1)) λz2=>.bf (!z2) (.ok (s,⟨4,0⟩))<|.bd (tJ sh s.aA (aE x.fArgs 1) [aE x.fArgs 2]) λz3=>.bf (!z3.snd !=6) (.ok (s,⟨322,0⟩))<|.bf (!z3.snd==0) (.ok (s,⟨z3.snd,0⟩))<|.ok (⟨s.az,s.aQ,s.aF,z3.fst⟩,⟨0,0⟩))<|.bf (x.bq==14) (.bd (tK sh s.aA (aE x.fArgs 0)) λz2=>.bf (!z2.snd.snd !=4) (.ok (s,⟨322,0⟩))<|.bf (!z2.snd.snd==0) (.ok (s,⟨z2.snd.snd,0⟩))<|.ok (⟨s.az,s.aQ,s.aF,z2.fst⟩,⟨0,z2.snd.fst⟩))<|.no)<|.ok (s,⟨361,0⟩)
def Cy (s:aZ) (x:cJ):=sh.s _ (Bg sh s x).val
def HQ:=bP (db KK 42 60 38 (Cy sh) (eP KK 60 40)) (Hz sh)
theorem HR:ak (HQ shut) η:=dp (rs:=[60,40]) HA (ak.all HA rfl) rfl rfl λs x k=>by kernel_rfl
def A5 (s:aZ) (c:cJ):T (aZ×cV×Int):=.bd (tN sh s) λz0=>.bf (z0 !=0) (.ok (⟨⟨[0,0,0,0,0,0,0,0,0,0,0,0,0,0,0,0],[]⟩,[],⟨[],0⟩,⟨[],[]⟩⟩,⟨0,0⟩,z0))<|.bd (Cz sh s) λb=>.bd (Cy sh b c) λa=>.ok (a.1,a.2,0)
def Cu (s:aZ) (c:cJ):=sh.s _ (A5 sh s c).val
def HF:=bP (db KK 19 60 38 (Cu sh) (nF KK 60 40 27)) (HQ sh)
theorem HG:ak (HF shut) η:=dp (rs:=[60,40,27]) HR (ak.all HR rfl) rfl rfl λs c k=>by kernel_rfl
end Go.Proofs.YtoggponeookhbaaGreatDoor
end
section
namespace Go.Proofs.YtoggponeookhbaaGreatDoor
open Go.RowKit Go.Dc Go.Vx
theorem dy {x:Int} (a: -9223372036854775808<=x) (h1:x<9223372036854775808):γ.wrap x=x:=by
 simp[ηg,ζQ,ηh];omega
theorem kZ {x:Int} (a:0<=x) (h1:x<18446744073709551616):ο.wrap x=x:=by
 simp[ηg,ζQ,ηh];omega
def ix (pid:Int):Int:=γ.wrap (pid.tmod 64)
theorem qc {pid:Int} (h:0<=pid):ix pid=pid%64:=by
 unfold ix;rw[Int.tmod_eq_emod_of_nonneg h];exact dy (by omega) (by omega)
@[simp] theorem v93 (pid:Int):lE ab pid=some (ix pid):=rfl
def ft (l:List ah) (pid:Int):Option ah:=l.find? λz=>z.aa==pid
def b7 (l:List ah) (pid:Int):Bool:=match ft l pid with|some z=>!z.bp|none=>false
def hK (p:bI) (x:ah):Bool:=decide (1<=ix x.aa)&&(decide (ix x.aa<=16)&&((x.aa/64+1==aE p.aM (ix x.aa-1).toNat)&&(!(x.aW==x.aa)&&((x.aW==0||b7 p.ag x.aW)&&bif x.bp then x.aW !=0 else x.cg==0))))
def ks (g:Γa):Bool:=(ξi 16).all λi=>decide (0<=aE g i)&&decide (aE g i<=65536)
def hc (l:List ah) (i:Nat) (x:ah):Bool:=i==0||(match l[i-1]? with|some y=>decide (ix y.aa<ix x.aa)|none=>false)
def iT (p:bI):Bool:=ks p.aM&&(allI (λi x=>hK p x&&hc p.ag i x) 0 p.ag&&(match p.ag with|z::_=>fP z ⟨1,0,false,0⟩|[]=>false))
structure xK (p:bI):Prop where
 pid: ∀x∈p.ag,0<=x.aa/\x.aa<18446744073709551616
 len:p.ag.length<=maxLen
theorem Z_ {pid:Int} (h:0<=pid):0<=ix pid/\ix pid<64:=by rw[qc h];omega
theorem lM {j:Int} {n:Nat} (a:0<=j) (h1:j<n):c' j n=some j.toNat:=by
 unfold c';rw[if_pos ⟨a,h1⟩]
theorem KG {α:Type} {l:List α} {i:Nat} (h:i<l.length) (hm:l.length<=maxLen) (a:0<i):idx l (γ.wrap ((i:Int)-1))=l[i-1]? :=by
 unfold maxLen at hm;rw[dy (by omega) (by omega)];unfold idx;rw[if_pos (by omega)]
 congr 1
 omega
theorem Y9 {S:Int->T (Int⊕Int⊕(Bool×Int))} {g:Γa} (e: ∀a:Int,(S a).val=bif decide (a<16) then(c' a 16).bind λz0=>bif decide (aE g z0<0) then some (.inr (.inl a)) else bif decide (aE g z0>65536) then some (.inr (.inl a)) else some (.inl (γ.wrap (a+1))) else some (.inr (.inr (decide (a<16),a)))):
  ∃n:Nat,cf (λa=>(S a).val) 1000000 (0:Int)=some (bif ks g then .inr (false,16) else .inl (n:Int)):=by
 have h:=w6 (step:=λa=>(S a).val) (q:=λa=>decide (0<=aE g a)&&decide (aE g a<=65536)) (x:=λa=>.inl (a:Int)) (y:=.inr (false,16)) (N:=16) (λa j=>by
  rw[e,decide_eq_true (by omega:(a:Int)<16),cond_true,lM (by omega) (by omega),β,ι]
  by_cases h1:aE g a<0
  ·simp[h1,show ¬(0<=aE g a) by omega]
  by_cases c:aE g a>65536
  ·simp[h1,c,show ¬(aE g a<=65536) by omega]
  ·rw[dy (by omega) (by omega)];simp[h1,c,show(0<=aE g a) by omega,show(aE g a<=65536) by omega]) (by rw[e];rfl) (k:=16) (n:=1000000) (a:=0) rfl (by omega)
 rw[show((0:Nat):Int)=0 from rfl] at h;unfold ks;rw[List.range_eq_range'];cases d:List.find? (λb=>!(decide (0<=aE g b)&&decide (aE g b<=65536))) (ζ4 0 16) with
 |none=>
  have:((ζ4 0 16).all λi=>decide (0<=aE g i)&&decide (aE g i<=65536))=true:=by
   rw[ξv];intro i hi;have:=ζs.1 d i hi;simpa using this
  rw[this];rw[d] at h;exact⟨0,h⟩
 |some b=>
  have:((ζ4 0 16).all λi=>decide (0<=aE g i)&&decide (aE g i<=65536))=false:=by
   rw[Bool.eq_false_iff];intro f;rw[ξv] at f;have h1:=f b (ξZ d);have c:=ζL d;rw[h1] at c;cases c
  rw[this];rw[d] at h;exact⟨b,h⟩
theorem YY (g:Γa) (l:List ah) (pid:Int):h_ ab g l pid=some (match ft l pid with|some z=>.inl z|none=>.inr (false,(l.length:Int))):=by
 show bV (λi z a=>(sn ab g l pid i z a).val) (λi a=>(re ab g l pid i a).val) 0 l ()=_;unfold ft;rw[qL (p:=λz=>z.aa==pid) (e:=λz=>.inl z)]
 ·cases List.find? (λz=>z.aa==pid) l with
  |none=>unfold re;simp
  |some z=>rfl
 ·intro i z _;unfold sn;cases z.aa==pid<;>rfl
theorem v46 {p:bI} (hp:xK p):kn ab p=some (bif iT p then 0 else 320):=by
 show(Bp ab p).val=_;unfold Bp iT;simp only[T.bL,T.aS,T.cN,T.aI,T.aH];cases b:p.ag with
 |nil=>
  have:(match([]:List ah) with|z::_=>fP z ⟨1,0,false,0⟩|[]=>false)=false:=rfl;simp
 |cons z0 r=>
  rw[<-b];have o:((p.ag.length:Int)==0)=false:=by rw[b];simp;omega
  have h1:idx p.ag 0=some z0:=by rw[b];rfl
  rw[o,h1];simp only[cond_false,β];cases he:fP z0 ⟨1,0,false,0⟩ with
  |false=>simp[b,he]
  |true=>
   have hm:(match p.ag with|z::_=>fP z ⟨1,0,false,0⟩|[]=>false)=true:=by rw[b];exact he
   rw[hm,ζU];simp only[ξP,cond_false];obtain⟨n,c⟩:=Y9 (S:=Ao ab p.aM p.ag) (g:=p.aM) λa=>rfl;have c:zk ab p.aM p.ag 0=some (bif ks p.aM then .inr (false,16) else .inl (n:Int)):=c;rw[c];cases d:ks p.aM with
   |false=>
    have:decide ((n:Int)>=0)=true:=decide_eq_true (by omega);simp[this]
   |true=>
    simp only[cond_true,β,φ];have hl:r9 ab p.aM p.ag=bif allI (λi x=>hK p x&&hc p.ag i x) 0 p.ag then some (.inr (false,(p.ag.length:Int))) else some (.inl ()):=by
     show bV (λi z a=>(sm ab p.aM p.ag i z a).val) (λi a=>(q' ab p.aM p.ag i a).val) 0 p.ag ()=_;rw[oc (q:=λi x=>hK p x&&hc p.ag i x) (x:=.inl ())]
     ·congr 1
      unfold q';simp
     ·intro i z l;have u:=(δ.1 l).1;have f:=hp.pid z (ξ3 l);have B:=Z_ f.1;unfold sm hK hc b7;simp only[T.aS,T.aI,T.aH,T.bL,T.cN,v93,β,YY]
      by_cases h1:1<=ix z.aa
      rotate_left
      ·simp[show ¬(ix z.aa>=1) from h1,h1]
      by_cases j:ix z.aa<=16
      rotate_left
      ·simp[show(ix z.aa>=1) from h1,h1,j]
      have hw:γ.wrap (ix z.aa-1)=ix z.aa-1:=dy (by omega) (by omega);have hi:c' (ix z.aa-1) 16=some (ix z.aa-1).toNat:=lM (by omega) (by omega);have A:0<=aE p.aM (ix z.aa-1).toNat/\aE p.aM (ix z.aa-1).toNat<=65536:=by
       unfold ks at d;rw[ξv] at d;have:=d (ix z.aa-1).toNat (by simp;omega);simpa using this
      have t:ο.wrap (z.aa.tdiv 64)=z.aa/64:=by
       rw[Int.tdiv_eq_ediv_of_nonneg f.1];exact kZ (by omega) (by omega)
      have s:(ο.wrap (ο.wrap (z.aa.tdiv 64)+1) !=ο.wrap (aE p.aM (ix z.aa-1).toNat))=!(z.aa/64+1==aE p.aM (ix z.aa-1).toNat):=by
       rw[t,kZ (by omega) (by omega),kZ (by omega) (by omega)];rfl
      rw[hw,hi];simp only[β];rw[s];have w:(z.aW !=0)=!(z.aW==0):=rfl;have v:(z.cg !=0)=!(z.cg==0):=rfl;have k:(z.aW==0)=true->(z.aW==z.aa)=false:=λh=>by
       rw[qc f.1] at h1;simp at h ⊢;omega
      simp only[show(ix z.aa>=1) from h1,h1,j,decide_true,cond_true,φ,w,v];cases i with
      |zero=>
       rw[show(((0:Nat):Int)==0)=true from rfl,show((0:Nat)==0)=true from rfl];simp only[cond_true,ζZ,ζU];cases e:z.aW==0 with
       |true=>rw[k e];cases z.aa/64+1==aE p.aM (ix z.aa-1).toNat<;>cases z.bp<;>cases z.cg==0<;>simp
       |false=>
        cases z.aa/64+1==aE p.aM (ix z.aa-1).toNat<;>cases z.aW==z.aa<;>cases z.bp<;>cases z.cg==0<;>(cases ft p.ag z.aW with|none=>simp|some y=>cases y.bp<;>simp)
      |succ i=>
       have m:((((i+1:Nat):Int))==0)=false:=by simp;omega
       rw[m,show(i+1==0)=false from rfl,KG u hp.len (by omega)];have hi:i<p.ag.length:=by omega
       simp only[ξX,ε hi,β,v93,cond_false,ξp];cases e:z.aW==0 with
       |true=>rw[k e];cases decide (ix p.ag[i].aa<ix z.aa)<;>cases z.aa/64+1==aE p.aM (ix z.aa-1).toNat<;>cases z.bp<;>cases z.cg==0<;>simp
       |false=>
        cases decide (ix p.ag[i].aa<ix z.aa)<;>cases z.aa/64+1==aE p.aM (ix z.aa-1).toNat<;>cases z.aW==z.aa<;>cases z.bp<;>cases z.cg==0<;>(cases ft p.ag z.aW with|none=>simp|some y=>cases y.bp<;>simp)
    rw[hl];cases allI (λi x=>hK p x&&hc p.ag i x) 0 p.ag<;>rfl
def hF (d:aj):Bool:=decide (d.aa<4294967296)&&(decide (d.bF>=0)&&decide (d.bF<=7))
def dH (a b:aj):Bool:=decide (a.aa<b.aa)||(a.aa==b.aa&&decide (a.bF<b.bF))
def fG {α:Type} (q:α->α->Bool) (l:List α) (i:Nat) (z:α):Bool:=i==0||(match l[i-1]? with|some y=>q y z|none=>false)
def vL (l:List aj) (i:Nat) (x:aj):Bool:=fG dH l i x
theorem eI {σ X:Type} {step:σ->Option (σ⊕X)} {n:Nat} {a:σ}:cf step (n+1) a=(step a).bind λy=>match y with| .inl a'=>cf step n a'| .inr x=>some x:=rfl
def l6 (l:List aj):Bool:=allI (λi x=>hF x&&vL l i x) 0 l&&decide (l.length<=64)
@[simp] theorem v94 (d:aj):Cq ab d=some (hF d):=by
 show(Aw ab d).val=_;unfold Aw hF;have:decide (d.bF<8)=decide (d.bF<=7):=by rw[κ];simp;omega
 simp only[T.aI,T.aH,this];cases decide (d.aa<4294967296)<;>cases decide (d.bF>=0)<;>rfl
def f' (x y:Int):Int:=if x<y then -1 else if x>y then 1 else 0
@[simp] theorem hR (x y:Int):hW ab x y=some (f' x y):=by
 show(AB ab x y).val=_;unfold AB f';simp only[T.aI,T.aH]
 by_cases h1:x<y
 ·simp[h1]
 ·by_cases a:x>y
  ·simp[h1,a]
  ·simp[h1,a]
@[simp] theorem v130 (x y:Int):nk ab x y=some (f' x y):=hR x y
def pC (a b:aj):Int:=if f' a.aa b.aa=0 then f' a.bF b.bF else f' a.aa b.aa
@[simp] theorem F_ (a b:aj):pK ab a b=some (pC a b):=by
 show(Ax ab a b).val=_;unfold Ax pC;simp only[T.aS,hR,v130,β,T.bL,T.cN,T.aH];generalize f' a.aa b.aa=c1;generalize f' a.bF b.bF=c2;have h:zp ab [c1,c2] 0=some (if c1=0 then(if c2=0 then .inr (false,2) else .inl c2) else .inl c1):=by
  show cf (λa=>(j9 ab [c1,c2] a).val) 1000000 0=_;have d:(j9 ab [c1,c2] 0).val=if c1=0 then some (.inl 1) else some (.inr (.inl c1)):=by
   unfold j9;simp only[T.aI,T.aS,T.aH]
   by_cases h:c1=0
   ·simp[idx,h];rfl
   ·have:(c1 !=0)=true:=by simp[h]
    simp[idx,h,this]
  have e:(j9 ab [c1,c2] 1).val=if c2=0 then some (.inl 2) else some (.inr (.inl c2)):=by
   unfold j9;simp only[T.aI,T.aS,T.aH]
   by_cases h:c2=0
   ·simp[idx,h];rfl
   ·have:(c2 !=0)=true:=by simp[h]
    simp[idx,h,this]
  have f:(j9 ab [c1,c2] 2).val=some (.inr (.inr (false,2))):=rfl;rw[show(1000000:Nat)=999997+1+1+1 from rfl,eI,d]
  by_cases h:c1=0
  ·rw[if_pos h,if_pos h,β];simp only;rw[eI,e]
   by_cases c:c2=0
   ·rw[if_pos c,if_pos c,β];simp only;rw[eI,f,β]
   ·rw[if_neg c,if_neg c,β]
  ·rw[if_neg h,if_neg h,β]
 rw[h]
 by_cases h1:c1=0
 ·by_cases c:c2=0<;>simp[h1,c]
 ·simp[h1]
theorem I_ (a b:aj):decide (pC a b>=0)=!dH a b:=by
 unfold pC dH f';rw[κ]
 by_cases h1:a.aa<b.aa
 ·simp[h1]
 ·by_cases e:a.aa>b.aa
  ·have: ¬a.aa=b.aa:=by omega
   simp[h1,e,this]
  ·have c:a.aa=b.aa:=by omega
   by_cases d:a.bF<b.bF
   ·simp[c,d]
   ·by_cases f:b.bF<a.bF<;>simp[c,d,f]<;>omega
theorem EM {α X:Type} {S:T (Unit⊕Unit⊕X)} {l:List α} {i:Nat} {z:α} {g:α->Bool} {q:α->α->Bool} (hm:l.length<=maxLen) (c:l[i]? =some z)
  (a:S.val=bif !g z then some (.inr (.inl ())) else bif decide ((i:Int)>0) then(idx l (γ.wrap ((i:Int)-1))).bind λy=>bif !q y z then some (.inr (.inl ())) else some (.inl ()) else some (.inl ())):
  S.val=bif g z&&fG q l i z then some (.inl ()) else some (.inr (.inl ())):=by
 have b:=(δ.1 c).1;rw[a];unfold fG;cases g z with
 |false=>rfl
 |true=>
  cases i with
  |zero=>rfl
  |succ i=>
   have h1:decide (((i+1:Nat):Int)>0)=true:=decide_eq_true (by omega);have hi:i<l.length:=by omega
   rw[h1,KG b hm (by omega)];simp only[ξP,cond_false,cond_true,φ,show(i+1==0)=false from rfl,ξp,ξX,ε hi,β];cases q l[i] z<;>rfl
theorem P8 {l:List aj} (hm:l.length<=maxLen):iB ab l=some (bif l6 l then 0 else 330):=by
 show(Bq ab l).val=_;unfold Bq l6;simp only[T.bL,T.aS,T.cN,T.aH,T.aI];have hl:Aa ab l=bif allI (λi x=>hF x&&vL l i x) 0 l then some (.inr (false,(l.length:Int))) else some (.inl ()):=by
  show bV (λi z a=>(o8 ab l i z a).val) (λi a=>(rH ab l i a).val) 0 l ()=_;rw[oc (q:=λi x=>hF x&&vL l i x) (x:=.inl ())]
  ·congr 1
   unfold rH;simp
  ·intro i z b;exact EM (S:=o8 ab l i z ()) (g:=hF) (q:=dH) hm b (by unfold o8;simp only[T.aS,T.aI,T.aH,v94,F_,I_,β])
 rw[hl]
 by_cases h:l.length<=64
 ·have h1:decide ((l.length:Int)>64)=false:=decide_eq_false (by omega);rw[h1,decide_eq_true h];cases allI (λi x=>hF x&&vL l i x) 0 l<;>rfl
 ·have h1:decide ((l.length:Int)>64)=true:=decide_eq_true (by omega);rw[h1,decide_eq_false h];simp
def dZ (s:ByteArray) (j:Nat):Nat:=((s.data.toList[j]?).map ζM).getD 0
def e5 (c:Nat->Nat):Nat->Nat
 |0=>0
 |i+1=>e5 c i+256^i*c i
def il (s:ByteArray):Int×Int:=if 8<s.size then(0,111) else if(ξi s.size).any (λj=>dZ s j==0) then(0,2) else((e5 (dZ s) 8:Nat),0)
theorem Vh (s:ByteArray) (j:Nat):dZ s j<256:=by
 unfold dZ;cases s.data.toList[j]? with
 |none=>simp
 |some b=>simpa using b.toNat_lt
theorem EJ {c:Nat->Nat} (a: ∀j,c j<256): ∀i,e5 c i<256^i
 |0=>by simp[e5]
 |i+1=>by
  have h1:=EJ a i;have b:256^i*c i<=256^i*255:=Nat.mul_le_mul_left _ (by have:=a i;omega);simp only[e5,ζh];generalize (256:Nat)^i=q at*
  generalize q*c i=r at*
  omega
theorem ad9 (c i:Nat) (d:c<256) (hi:i<8):mc .u64 (c:Int) ((8*i:Nat):Int)=some ((256^i*c:Nat):Int):=by
 unfold mc;rw[if_neg (by omega)];have b:ο.bits=64:=rfl;have hm:min ((8*i:Nat):Int).toNat ο.bits=8*i:=by rw[b,ι];omega
 have hp:(2:Nat)^(8*i)=256^i:=by rw[Nat.pow_mul]
 have hle:256^i<=256^7:=ζj (by omega) (by omega);have a:(256:Nat)^7=72057594037927936:=by decide
 have e:(c:Int)*2^(8*i)=((256^i*c:Nat):Int):=by rw[<-hp,Int.natCast_mul,Int.natCast_pow,Int.mul_comm];rfl
 rw[hm,ζE,e];have f:256^i*c<18446744073709551616:=by
  have h1:256^i*c<=256^7*c:=ζk _ hle;rw[a] at h1;omega
 generalize 256^i*c=q at*
 rw[ξq];omega
theorem abw {c:Nat->Nat} (a: ∀j,c j<256) (i:Nat) (hi:i<8):bits .or .u64 (e5 c i:Int) ((256^i*c i:Nat):Int)=(e5 c (i+1):Int):=by
 have h1:=EJ a i;have f:=EJ a (i+1);have hle:256^(i+1)<=256^8:=ζj (by omega) (by omega);have d:(256:Nat)^8=18446744073709551616:=by decide
 rw[d] at hle;have e:e5 c (i+1)=e5 c i+256^i*c i:=rfl;rw[bits_or_u64_nat _ _ (by omega) (by omega),Nat.or_comm,e];have hp:(2:Nat)^(8*i)=256^i:=by rw[Nat.pow_mul]
 have:=Nat.two_pow_add_eq_or_of_lt (i:=8*i) (b:=e5 c i) (by rw[hp];exact h1) (c i);rw[hp] at this;rw[<-this,Nat.add_comm]
theorem s6 {α:Type} {b:Nat} {xs ys:List α} (h:(xs.length+ys.length)*b<=140737488355328):app b xs ys=some (xs++ys):=by
 unfold app;rw[if_pos h]
def dg:Nat->Nat->Γ
 |0,_=>[]
 |k+1,n=>if n%256=0 then[] else n%256::dg k (n/256)
def hg:Nat->Nat->Nat
 |0,n=>n
 |k+1,n=>if n%256=0 then n else hg k (n/256)
def bs (l:Γ):ByteArray:=⟨(l.map ξn).toArray⟩
theorem pF: ∀(k n:Nat),(dg k n).length<=k
 |0,_=>by simp[dg]
 |k+1,n=>by
  simp only[dg];split
  ·simp
  ·have:=pF k (n/256);simp;omega
theorem th: ∀(k n:Nat),∀x∈dg k n,0<x/\x<256
 |0,_,x,h=>by simp[dg] at h
 |k+1,n,x,h=>by
  simp only[dg] at h;split at h
  ·cases h
  ·rcases ξB.1 h with e|h
   ·omega
   ·exact th k _ x h
theorem eY (l:Γ):(bs l).size=l.length:=by simp[bs,ByteArray.size]
theorem Vf (l m:Γ):bs l++bs m=bs (l++m):=by
 apply ζ7;simp[bs,ByteArray.data_append]
theorem foldl_push: ∀(xs:Γa) (r:ByteArray),(xs.foldl (λr n=>r.push (ξn n.toNat)) r).data.toList=r.data.toList++xs.map (λn=>ξn n.toNat)
 |[],r=>by simp
 |x::xs,r=>by
  rw[ξU,foldl_push xs];simp[ByteArray.data_push]
theorem aen (l:Γ):strOf (l.map λ(n:Nat)=>(n:Int))=bs l:=by
 apply ζ7;apply ζT;unfold strOf;rw[foldl_push];show[]++_=_;simp[bs]
theorem Pr {l m:Γ} (h:l.length+m.length<=1000):ma (bs l) (bs m)=some (bs (l++m)):=by
 unfold ma;rw[eY,eY,if_pos (by omega),Vf]
theorem U2 {n:Nat} (h:n<18446744073709551616):bits .and .u64 (n:Int) 255=((n%256:Nat):Int):=by
 have e:bits .and .u64 (n:Int) ((255:Nat):Int)=((n&&&255:Nat):Int):=bits_and_u64_nat n 255 h (by omega);have a:n&&&255=n%256:=by
  have:=Nat.and_two_pow_sub_one_eq_mod n 8;simpa using this
 rw[a] at e;exact e
def pk:Γ->Nat
 |[]=>0
 |x::r=>x+256*pk r
theorem EK (c:Nat->Nat): ∀k,e5 c (k+1)=c 0+256*e5 (λi=>c (i+1)) k
 |0=>by simp[e5]
 |k+1=>by
  rw[e5,EK c k];simp only[e5,ζh,Nat.mul_add];rw[ζD (256^k) 256];simp only[ζV,Nat.add_assoc]
theorem EI: ∀(k:Nat) (l:Γ),l.length<=k->e5 (λi=>(l[i]?).getD 0) k=pk l
 |0,l,h=>by
  have:l=[]:=ξM (by omega);subst this;rfl
 |k+1,[],h=>by
  rw[EK];have:=EI k [] (by simp);simp only[List.getElem?_nil,ξw] at this ⊢;rw[this];rfl
 |k+1,x::r,h=>by
  rw[EK];have:=EI k r (by simpa using h);simp only[List.getElem?_cons_succ,ξ9,ξ1] at this ⊢;rw[this];rfl
theorem ER: ∀(k n:Nat),pk (dg k n)+256^(dg k n).length*hg k n=n
 |0,n=>by simp[dg,hg,pk]
 |k+1,n=>by
  simp only[dg,hg];split
  ·simp[pk]
  ·have:=ER k (n/256);simp only[pk,ξc,ζh];rw[ζD (256^_) 256,ζV];omega
theorem IW {l:Γ} (h: ∀x∈l,x<256) (j:Nat):dZ (bs l) j=(l[j]?).getD 0:=by
 unfold dZ bs;simp only[ζy];cases a:l[j]? with
 |none=>simp
 |some x=>
  have:=h x (ξ3 a);simp;omega
theorem BJ {l:Γ} (h: ∀x∈l,0<x/\x<256) (hl:l.length<=8):il (bs l)=(((pk l:Nat):Int),0):=by
 unfold il;rw[eY,if_neg (by omega)];have e:(ξi l.length).any (λj=>dZ (bs l) j==0)=false:=by
  rw[ξo];intro j a;have a:j<l.length:=by simpa using a
  rw[IW (λx b=>(h x b).2),ε a];have:=(h _ (List.getElem_mem a)).1;simp;omega
 rw[e,if_neg (by simp)];rw[show dZ (bs l)=λi=>(l[i]?).getD 0 from funext λj=>IW (λx b=>(h x b).2) j,EI 8 l hl]
theorem J3 {l:Γ} (h: ∀x∈l,x<256) {i x:Nat} (a:l[i]? =some x):((bs l).get! i).toNat=x:=by
 have hl:=(δ.1 a).1;have b:=h x (ξ3 a);have e:(bs l).get! i=ξn x:=by
  unfold ByteArray.get! bs;have:((l.map ξn).toArray)[i]? =some (ξn x):=by simp[a]
  simp[getElem!_def,this]
 rw[e];simp;omega
theorem B_ {s:ByteArray} {i:Nat} (h:(s.get! i).toNat<128):ζ0 s i=((s.get! i).toNat,1):=by
 unfold ζ0;simp only[ξy];rw[if_pos h]
theorem decode_high {s:ByteArray} {i:Nat} (h: ¬(s.get! i).toNat<128):128<=(ζ0 s i).1:=by
 unfold ζ0;simp only[ξy];rw[if_neg h];have b:128<=Go.Utf8.runeError:=by decide
 repeat' split
 all_goals first|exact b|skip
 ·assumption
 ·rename_i a;simp only[ξ5,decide_eq_true_eq] at a;have:=a.1;show 128<=_;omega
 ·rename_i a;simp only[ξ5,decide_eq_true_eq] at a;have:=a.1;show 128<=_;omega
def gB (c:Nat):Bool:=decide (97<=c/\c<=122\/48<=c/\c<=57)
theorem ta {c:Nat} (h:128<=c):gB c=false:=by
 unfold gB;simp;omega
theorem Ca (n:Nat): ∀x∈dg 8 n,x<256:=λx a=>(th 8 n x a).2
theorem Cf (l:Γ):((bs l).toList==(⟨#[]⟩:ByteArray).toList)=l.isEmpty:=by
 have a: ∀x:ByteArray,x.toList=x.data.toList:=λx=>ζn x;rw[a,a];cases l<;>simp[bs]
def eD (n:Int):Bool:=(hg 8 n.toNat==0)&&!(dg 8 n.toNat).isEmpty&&(dg 8 n.toNat).all gB
theorem aaS {s:ByteArray} (c:s.size<=8) {i:Nat} (hi:i<8):aE (c3 [0,0,0,0,0,0,0,0] (s.data.toList.map λb=>(b.toNat:Int))) i=(dZ s i:Int):=by
 have hl:s.data.toList.length=s.size:=by rw[χ];rfl
 unfold aE c3 dZ;simp only[ρ,ξc,List.length_nil,hl]
 by_cases h:i<s.size
 ·rw[ξ (by rw[ξh,ρ];omega),List.getElem?_take,if_pos (by omega),ζy,ε (by omega)];rfl
 ·have hn:s.data.toList[i]? =none:=ξH (by omega);rw[hn,ξb (by rw[ξh,ρ];omega)];have: ∀(k:Nat) (l:Γa),(∀x∈l,x=0)->(l[k]?).getD 0=0:=λk l hl=>by
   cases hk:l[k]? with
   |none=>rfl
   |some x=>exact hl x (ξ3 hk)
  exact this _ _ λx a=>by
   have:=List.mem_of_mem_drop a;simp only[ξB,List.not_mem_nil,or_false] at this;omega
theorem KM: ∀l:Γa,iJ KK 5 .u8 l=some l
 |[]=>rfl
 |x::l=>by
  have a:=KM l;show(match iJ KK 5 .u8 l with|some zs=>some (x::zs)|none=>none)=_;rw[a]
theorem Tb {s:ByteArray} (f:s.size<=8) {i:Nat} (hi:i<8):(oV ab s (c3 [0,0,0,0,0,0,0,0] (s.data.toList.map λb=>(b.toNat:Int))) (((e5 (dZ s) i:Nat):Int),(i:Int))).val=if dZ s i=0/\i<s.size then some (.inr (.inl ())) else some (.inl (((e5 (dZ s) (i+1):Nat):Int),((i+1:Nat):Int))):=by
 have c:=Vh s;unfold oV;simp only[T.aI,T.aS,T.aH];have h1:decide ((i:Int)<8)=true:=decide_eq_true (by omega);have g:ο.wrap (dZ s i:Int)=(dZ s i:Int):=by have:=c i;rw[ζE];omega
 have j:γ.wrap (8*(i:Int))=((8*i:Nat):Int):=by rw[dy (by omega) (by omega)];omega
 have k:γ.wrap ((i:Int)+1)=((i+1:Nat):Int):=by rw[dy (by omega) (by omega)];omega
 rw[h1,lM (by omega) (by omega)];simp only[cond_true,β,ι];rw[aaS f hi,g,j,k,ad9 _ i (c i) hi];simp only[β];rw[abw c i hi]
 by_cases a:dZ s i=0
 ·by_cases d:i<s.size
  ·have e:decide ((i:Int)<(s.size:Int))=true:=decide_eq_true (by omega);rw[a,e,if_pos ⟨rfl,d⟩];rfl
  ·have e:decide ((i:Int)<(s.size:Int))=false:=decide_eq_false (by omega);rw[a,e,if_neg (λh=>d h.2)];rfl
 ·have e:((dZ s i:Int)==0)=false:=by simp;omega
  rw[e,if_neg (λh=>a h.1)];rfl
theorem P_ {s:ByteArray} (l:s.size<=8): ∀(k f i:Nat),i+k=8->(∀j,j<i->j<s.size->dZ s j≠0)->
  cf (λa=>(oV ab s (c3 [0,0,0,0,0,0,0,0] (s.data.toList.map λb=>(b.toNat:Int))) a).val) (k+1+f) (((e5 (dZ s) i:Nat):Int),(i:Int))=some (if(ξi s.size).any (λj=>dZ s j==0) then .inl () else .inr (false,((e5 (dZ s) 8:Nat):Int),8))
 |0,f,i,e,h=>by
  obtain rfl:i=8:=by omega
  have m:(ξi s.size).any (λj=>dZ s j==0)=false:=by
   rw[ξo];intro j d;have d:j<s.size:=by simpa using d
   have:=h j (by omega) d;simpa using this
  rw[m,show 0+1+f=f+1 by omega,eI];rfl
 |k+1,f,i,e,h=>by
  rw[show k+1+1+f=(k+1+f)+1 by omega,eI,Tb l (by omega)]
  by_cases c:dZ s i=0/\i<s.size
  ·have n:(ξi s.size).any (λj=>dZ s j==0)=true:=by
    rw[ζF];exact⟨i,by simpa using c.2,by simpa using c.1⟩
   rw[if_pos c,n];rfl
  ·rw[if_neg c,β];simp only;exact P_ l k f (i+1) (by omega) λj d g=>by
    rcases ζ3.1 d with h1|h1
    ·exact h j h1 g
    ·subst h1;exact λo=>c ⟨o,g⟩
theorem v79 (s:ByteArray):tL ab s=some (il s):=by
 show(A4 ab s).val=_;unfold A4 il;simp only[T.bL,T.aS,T.cN,T.aH,T.aI]
 by_cases h:8<s.size
 ·have e:decide ((s.size:Int)>8)=true:=decide_eq_true (by omega);rw[e,if_pos h];rfl
 ·have e:decide ((s.size:Int)>8)=false:=decide_eq_false (by omega);have c:ηk s.size 8=true:=ξe (by omega);rw[e,if_neg h];simp only[cond_false,wI,sameKind,c,φ,cond_true,β];have a:zy ab s (c3 [0,0,0,0,0,0,0,0] (s.data.toList.map λb=>(b.toNat:Int))) 0 0=_:=P_ (by omega) 8 999991 0 rfl λj d=>by omega
  rw[a];cases (ξi s.size).any (λj=>dZ s j==0)<;>rfl
def ints (l:Γ):Γa:=l.map λ(n:Nat)=>(n:Int)
theorem Ih (b:Int) {n:Nat} {l:Γ} (hn:n<18446744073709551616) (hl:l.length<=100):(oR ab b ((n:Int),ints l)).val=if n%256=0 then some (.inr (false,0,(n:Int),ints l)) else some (.inl (((n/256:Nat):Int),ints (l++[n%256]))):=by
 unfold oR;simp only[T.aI,T.aS,T.aH];rw[U2 hn]
 by_cases hm:n%256=0
 ·have e:(((n%256:Nat):Int) !=0)=false:=by rw[hm];rfl
  rw[e,if_pos hm,hm];rfl
 ·have e:(((n%256:Nat):Int) !=0)=true:=by simp;omega
  rw[e,if_neg hm];simp only[cond_true];have hw:IntKind.u8.wrap (n:Int)=((n%256:Nat):Int):=by rw[IntKind.wrap_u8];omega
  have a:(n:Int).fdiv 256=((n/256:Nat):Int):=by
   rw[Int.fdiv_eq_ediv_of_nonneg _ (by omega)];omega
  rw[hw,a,s6 (by simp[ints];omega)];simp only[β];rw[ints,ints,ξC];rfl
theorem P3 (b:Int): ∀(k f n:Nat) (l:Γ),n<256^k->n<18446744073709551616->l.length+k<=100->
  ∃m,cf (λa=>(oR ab b a).val) (k+1+f) ((n:Int),ints l)=some (false,0,m,ints (l++dg k n))
 |0,f,n,l,h,_,_=>by
  have:n=0:=by simpa using h
  subst this;rw[show 0+1+f=f+1 by omega,eI,Ih b (by omega) (by omega)];exact⟨0,by simp[dg]⟩
 |k+1,f,n,l,h,hn,hl=>by
  rw[show k+1+1+f=(k+1+f)+1 by omega,eI,Ih b hn (by omega)]
  by_cases hm:n%256=0
  ·rw[if_pos hm];exact⟨(n:Int),by simp[dg,hm]⟩
  ·rw[if_neg hm,β];simp only;obtain⟨m,c⟩:=P3 b k f (n/256) (l++[n%256]) (by rw[ζh] at h;omega) (by omega) (by simp;omega);rw[c];exact⟨m,by simp only[dg,if_neg hm,ξs,List.singleton_append]⟩
theorem P2 {n:Nat} (h:n<18446744073709551616):ts ab (n:Int)=some (if hg 8 n=0 then(bs (dg 8 n),0) else(⟨#[]⟩,2)):=by
 show(AE ab (n:Int)).val=_;unfold AE;simp only[T.bL,T.aS,T.aI,T.aH];obtain⟨m,hm⟩:=P3 (n:Int) 8 999991 n [] (by omega) h (by simp);rw[ζi] at hm;have b:zq ab (n:Int) (n:Int) []=_:=hm;rw[b];simp only[β,KM,v79];rw[show strOf (ints (dg 8 n))=bs (dg 8 n) from aen _,BJ (th 8 n) (pF 8 n)];have:=ER 8 n;simp only[bne_self_eq_false,cond_false]
 by_cases a:hg 8 n=0
 ·rw[a,ηi,ξy] at this;rw[this,if_pos a];simp
 ·have h1:0<256^(dg 8 n).length*hg 8 n:=Nat.mul_pos (Nat.pow_pos (by omega)) (by omega);have e:(((pk (dg 8 n):Nat):Int) !=(n:Int))=true:=by simp;omega
  rw[e,if_neg a];rfl
theorem I5 (c:Nat):gB c=(bif decide ((c:Int)>=97) then(bif decide ((c:Int)<=122) then true else(bif decide ((c:Int)>=48) then decide ((c:Int)<=57) else false)) else(bif decide ((c:Int)>=48) then decide ((c:Int)<=57) else false)):=by
 unfold gB
 by_cases h1:(c:Int)>=97<;>by_cases a:(c:Int)<=122<;>by_cases b:(c:Int)>=48<;>by_cases d:(c:Int)<=57<;>simp[h1,a,b,d]<;>omega
def vN:((Bool×Bool×Int×Bool×Bool×Bool×Bool×Int×Nat)⊕(Bool×Int×Bool×Bool×Bool×Int×Nat)⊕(Bool×Bool×Int×Bool×Bool×Bool×Int×Nat)⊕(Bool×Int×Bool×Bool×Int×Nat)⊕(Bool×Int×Int×Nat)⊕(Bool×Nat))->Bool
 | .inl y=>y.2.1
 | .inr (.inl _)=>false
 | .inr (.inr (.inl y))=>y.2.1
 | .inr (.inr (.inr (.inl _)))=>false
 | .inr (.inr (.inr (.inr (.inl _))))=>false
 | .inr (.inr (.inr (.inr (.inr y))))=>y.1
theorem Tc {s:ByteArray} {pos:Nat} (ok:Bool) (hp:pos<s.size):(ok&&gB (ξ6 s pos).1)=true/\(j8 ab s (ok,pos)).val=some (.inl (true,pos+(ξ6 s pos).2))\/(ok&&gB (ξ6 s pos).1)=false/\ ∃x,(j8 ab s (ok,pos)).val=some (.inr x)/\vN x=false:=by
 unfold j8;simp only[T.aI,T.aH];rw[decide_eq_true hp,I5];cases ok with
 |false=>exact .inr ⟨rfl,_,rfl,rfl⟩
 |true=>
  simp only[cond_true,φ];cases decide (((ξ6 s pos).1:Int)>=97) with
  |true=>
   cases decide (((ξ6 s pos).1:Int)<=122) with
   |true=>exact .inl ⟨rfl,rfl⟩
   |false=>
    cases decide (((ξ6 s pos).1:Int)>=48) with
    |false=>exact .inr ⟨rfl,_,rfl,rfl⟩
    |true=>
     cases decide (((ξ6 s pos).1:Int)<=57) with
     |true=>exact .inl ⟨rfl,rfl⟩
     |false=>exact .inr ⟨rfl,_,rfl,rfl⟩
  |false=>
   cases decide (((ξ6 s pos).1:Int)>=48) with
   |false=>exact .inr ⟨rfl,_,rfl,rfl⟩
   |true=>
    cases decide (((ξ6 s pos).1:Int)<=57) with
    |true=>exact .inl ⟨rfl,rfl⟩
    |false=>exact .inr ⟨rfl,_,rfl,rfl⟩
theorem F' {l:Γ} (h: ∀x∈l,x<256): ∀(k f pos:Nat) (ok:Bool),pos+k=l.length-> ∃x,cf (λa=>(j8 ab (bs l) a).val) (k+1+f) (ok,pos)=some x/\vN x=(ok&&(l.drop pos).all gB)
 |0,f,pos,ok,e=>by
  obtain rfl:pos=l.length:=by omega
  rw[show 0+1+f=f+1 by omega,eI];have:(j8 ab (bs l) (ok,l.length)).val=some (.inr (.inr (.inr (.inr (.inr (.inr (ok,l.length))))))):=by
   unfold j8;simp[eY]
  rw[this];exact⟨_,rfl,by simp[vN]⟩
 |k+1,f,pos,ok,e=>by
  have hp:pos<l.length:=by omega
  have m:=ε hp;have g:=J3 h m;rw[show k+1+1+f=(k+1+f)+1 by omega,eI,ξt hp,ζt];rcases Tc (s:=bs l) ok (pos:=pos) (by rw[eY];exact hp) with⟨h1,d⟩|⟨h1,x,d,i⟩
  ·have b:((bs l).get! pos).toNat<128:=by
    apply Classical.byContradiction;intro b;rw[ta (decode_high b)] at h1;simp at h1
   rw[B_ b,g] at h1 d;rw[d,β];simp only;obtain⟨x,n,o⟩:=F' h k f (pos+1) true (by omega);refine⟨x,n,?_⟩;rw[o,<-ζR,h1]
  ·rw[d,β];refine⟨x,rfl,?_⟩;rw[i,<-ζR]
   by_cases b:((bs l).get! pos).toNat<128
   ·rw[B_ b,g] at h1;rw[h1];rfl
   ·have j:=ta (c:=l[pos]) (by rw[<-g];omega);rw[j];simp
theorem P' (x:(Bool×Bool×Int×Bool×Bool×Bool×Bool×Int×Nat)⊕(Bool×Int×Bool×Bool×Bool×Int×Nat)⊕(Bool×Bool×Int×Bool×Bool×Bool×Int×Nat)⊕(Bool×Int×Bool×Bool×Int×Nat)⊕(Bool×Int×Int×Nat)⊕(Bool×Nat)):
  (T.cs x (λa=>.ok a.2.1) λb=>.cs b (λ_=>.ok false) λc=>.cs c (λa=>.ok a.2.1) λd=>.cs d (λ_=>.ok false) λe=>.cs e (λ_=>.ok false) λa=>.ok a.1:T Bool).val=some (vN x):=by
 rcases x with x|x|x|x|x|x<;>rfl
theorem v98 {n:Nat} (h:n<18446744073709551616):jx ab (n:Int)=some (eD (n:Int)):=by
 show(Az ab (n:Int)).val=_;unfold Az eD;simp only[T.bL,T.aS,T.aI,P2 h,β,ι];have hl:=pF 8 n
 by_cases a:hg 8 n=0
 ·rw[if_pos a,a];obtain⟨x,h1,b⟩:=F' (Ca n) (dg 8 n).length (999999-(dg 8 n).length) 0 (!(dg 8 n).isEmpty) (by omega);rw[show(dg 8 n).length+1+(999999-(dg 8 n).length)=1000000 by omega] at h1;rw[ζm] at b;simp only[Cf];have c:oK ab (!(dg 8 n).isEmpty) (bs (dg 8 n)) 0=some x:=h1;rw[c];simp only[β,beq_self_eq_true,cond_true,φ];exact(P' x).trans (by rw[b])
 ·rw[if_neg a];have e:(hg 8 n==0)=false:=by simp[a]
  obtain⟨x,h1,b⟩:=F' (l:=[]) (by simp) 0 999999 0 false rfl;have c:oK ab false (ξ0 #[]) 0=some x:=h1;rw[e];simp only[show((2:Int)==0)=false from rfl,cond_false];rw[c];simp only[β,ζS];exact(P' x).trans (by rw[b];rfl)
abbrev dd (x:Int):Prop:=0<=x/\x<18446744073709551616
def ec (p:Int):Bool:=decide (p>=1)&&decide (p<4294967296)
@[simp] theorem Ga (p:Int):m_ ab p=some (ec p):=by
 show(mK ab p).val=_;unfold mK ec;simp only[T.aI,T.aH];cases decide (p>=1)<;>rfl
theorem wZ {w:Int} (h:dd w):jx ab w=some (eD w):=by
 obtain⟨n,rfl⟩:=ζ8 h.1;exact v98 (by have:=h.2;omega)
def nS (z:aw):Bool:=eD z.bb&&ec z.aa
def okB (z:aq):Bool:=ec z.aa&&(decide (1<=z.bc.length)&&decide (z.bc.length<=4))
def nK (l:List aw):Bool:=allI (λi z=>nS z&&fG (λy z=>decide (y.bb<z.bb)) l i z) 0 l
def mP (l:List aq):Bool:=allI (λi z=>okB z&&fG (λy z=>decide (y.aa<z.aa)) l i z) 0 l
def l7 (s:aO):Bool:=nK s.ax&&(mP s.au&&decide (s.ax.length<=16))
structure Hk (s:aO):Prop where
 names: ∀z∈s.ax,dd z.bb
 ln:s.ax.length<=maxLen
 lb:s.au.length<=maxLen
theorem J0 (a b:Int):decide (a>=b)=!decide (a<b):=by rw[κ];simp
theorem aay {S:Int->aw->Unit->T (Unit⊕Unit⊕(Bool×Int))} {F:Int->Unit->T (Unit⊕(Bool×Int))} {l:List aw} (hm:l.length<=maxLen)
  (c:(F (l.length:Int) ()).val=some (.inr (false,(l.length:Int))))
  (d: ∀(i:Int) z,z∈l->(S i z ()).val=bif !eD z.bb then some (.inr (.inl ())) else bif !ec z.aa then some (.inr (.inl ())) else bif decide (i>0) then(idx l (γ.wrap (i-1))).bind λy=>bif decide (y.bb>=z.bb) then some (.inr (.inl ())) else some (.inl ()) else some (.inl ())):
  bV (λi z a=>(S i z a).val) (λi a=>(F i a).val) 0 l ()=bif nK l then some (.inr (false,(l.length:Int))) else some (.inl ()):=by
 unfold nK;rw[oc (q:=λi z=>nS z&&fG (λy z=>decide (y.bb<z.bb)) l i z) (x:=.inl ()),c];intro i z b;refine EM (S:=S i z ()) (g:=nS) (q:=λy z=>decide (y.bb<z.bb)) hm b ?_;rw[d _ z (ξ3 b)];unfold nS;simp only[J0];cases eD z.bb<;>cases ec z.aa<;>rfl
theorem Vc {S:Int->aq->Unit->T (Unit⊕Unit⊕(Bool×Int))} {F:Int->Unit->T (Unit⊕(Bool×Int))} {l:List aq} (hm:l.length<=maxLen)
  (d:(F (l.length:Int) ()).val=some (.inr (false,(l.length:Int))))
  (e: ∀(i:Int) z,(S i z ()).val=bif !ec z.aa then some (.inr (.inl ())) else bif decide ((z.bc.length:Int)<1) then some (.inr (.inl ())) else bif decide ((z.bc.length:Int)>4) then some (.inr (.inl ())) else bif decide (i>0) then(idx l (γ.wrap (i-1))).bind λy=>bif decide (y.aa>=z.aa) then some (.inr (.inl ())) else some (.inl ()) else some (.inl ())):
  bV (λi z a=>(S i z a).val) (λi a=>(F i a).val) 0 l ()=bif mP l then some (.inr (false,(l.length:Int))) else some (.inl ()):=by
 unfold mP;rw[oc (q:=λi z=>okB z&&fG (λy z=>decide (y.aa<z.aa)) l i z) (x:=.inl ()),d];intro i z f;refine EM (S:=S i z ()) (g:=okB) (q:=λy z=>decide (y.aa<z.aa)) hm f ?_;rw[e];unfold okB;have b:decide ((z.bc.length:Int)<1)=!decide (1<=z.bc.length):=by
  by_cases h:1<=z.bc.length
  ·rw[decide_eq_true h,decide_eq_false (by omega)];rfl
  ·rw[decide_eq_false h,decide_eq_true (by omega)];rfl
 have c:decide ((z.bc.length:Int)>4)=!decide (z.bc.length<=4):=by
  by_cases h:z.bc.length<=4
  ·rw[decide_eq_true h,decide_eq_false (by omega)];rfl
  ·rw[decide_eq_false h,decide_eq_true (by omega)];rfl
 simp only[J0,b,c];cases ec z.aa<;>cases decide (1<=z.bc.length)<;>cases decide (z.bc.length<=4)<;>rfl
theorem v49 {s:aO} (h:Hk s):jA ab s=some (bif l7 s then 0 else 350):=by
 show(sY ab s).val=_;unfold sY l7;simp only[T.bL,T.aS,T.cN,T.aH,T.aI];have h1:Ac ab s.ax s.au=_:=aay (S:=sO ab s.ax s.au) (F:=rK ab s.ax s.au) h.ln (by unfold rK;simp) (λi z b=>by
  unfold sO;simp only[T.aS,T.aI,T.aH,wZ (h.names z b),Ga,β])
 have a:Ab ab s.au s.ax=_:=Vc (S:=sN ab s.au s.ax) (F:=rJ ab s.au s.ax) h.lb (by unfold rJ;simp) (λi z=>by
  unfold sN;simp only[T.aS,T.aI,T.aH,Ga,β])
 rw[h1,a]
 by_cases hl:s.ax.length<=16
 ·rw[decide_eq_false (by omega: ¬(s.ax.length:Int)>16),decide_eq_true hl];cases nK s.ax<;>cases mP s.au<;>rfl
 ·rw[decide_eq_true (by omega:(s.ax.length:Int)>16),decide_eq_false hl];cases nK s.ax<;>cases mP s.au<;>rfl
theorem mV {α:Type} [DecidableEq α] {S:Int->α->Unit->T (Unit⊕Unit⊕(Bool×Int))} {F:Int->Unit->T (Unit⊕(Bool×Int))} {l m:List α} {e:α->α->Bool} (he: ∀x y,e x y=decide (x=y)) (hl:l.length=m.length)
  (c:(F (l.length:Int) ()).val=some (.inr (false,(l.length:Int))))
  (d: ∀(i:Int) z,(S i z ()).val=(idx m i).bind λy=>bif !e z y then some (.inr (.inl ())) else some (.inl ())):
  bV (λi z a=>(S i z a).val) (λi a=>(F i a).val) 0 l ()=bif decide (l=m) then some (.inr (false,(l.length:Int))) else some (.inl ()):=by
 rw[oc (q:=λi z=>decide (m[i]? =some z)) (x:=.inl ()),c]
 ·congr 1
  rw[κ,lj];constructor
  ·intro h;refine decide_eq_true (ζx λi=>?_);cases b:l[i]? with
   |none=>rw[List.getElem?_eq_none_iff] at b;rw[ξH (by omega)]
   |some z=>
    have:=h i z b;rw[ψ] at this;exact(of_decide_eq_true this).symm
  ·intro h k z hk;have h:=of_decide_eq_true h;rw[ψ,<-h];exact decide_eq_true hk
 ·intro i z b;have f:=(δ.1 b).1;have hm:m[i]? =some m[i]:=ε (by omega);have hi:idx m (i:Int)=some m[i]:=cW hm;rw[d,hi,hm];simp only[β,he,ξq]
  by_cases h:z=m[i]
  ·rw[decide_eq_true h,decide_eq_true h.symm];rfl
  ·rw[decide_eq_false h,decide_eq_false (λx=>h x.symm)];rfl
theorem mW {L:Option (Unit⊕(Bool×Int))} {p:Bool} {n:Int} (h:L=bif p then some (.inr (false,n)) else some (.inl ())):(T.bd L λx=>.cs x (λ_=>.ok false) λ_=>.ok true:T Bool).val=some p:=by
 rw[h];cases p<;>rfl
theorem nH {α:Type} {l m:List α}:((l.length:Int) !=(m.length:Int))=!decide (l.length=m.length):=by
 by_cases h:l.length=m.length
 ·rw[decide_eq_true h,h];simp
 ·rw[decide_eq_false h];simp;omega
theorem nL {α:Type} [DecidableEq α] {l m:List α} (h:l.length≠m.length):decide (l=m)=false:=decide_eq_false λe=>h (by rw[e])
theorem YD (x y:ah):fP x y=decide (x=y):=by
 rw[κ];cases x;cases y;simp[fP,and_assoc]
theorem Yz (x y:aj):hB x y=decide (x=y):=by
 rw[κ];cases x;cases y;simp[hB,and_assoc]
theorem YB (x y:av):ju x y=decide (x=y):=by
 rw[κ];cases x;cases y;simp[ju]
theorem YC (x y:aw):jv x y=decide (x=y):=by
 rw[κ];cases x;cases y;simp[jv]
theorem YA (x y:Int):(x==y)=decide (x=y):=by rw[κ];simp
@[simp] theorem v57 (a b:List aj):CB ab a b=some (decide (a=b)):=by
 show(Bj ab a b).val=_;unfold Bj;simp only[T.aI,T.aH,T.bL,nH]
 by_cases h:a.length=b.length
 ·rw[decide_eq_true h];exact mW (mV (S:=Aq ab a b) (F:=rF ab a b) (e:=hB) Yz h (by unfold rF;simp) (λi z=>rfl))
 ·rw[decide_eq_false h,nL h];rfl
@[simp] theorem aeV (a b:List ah):CH ab a b=some (decide (a=b)):=by
 show(Bu ab a b).val=_;unfold Bu;simp only[T.aI,T.aH,T.bL,nH]
 by_cases h:a.length=b.length
 ·rw[decide_eq_true h];exact mW (mV (S:=Ar ab a b) (F:=rL ab a b) (e:=fP) YD h (by unfold rL;simp) (λi z=>rfl))
 ·rw[decide_eq_false h,nL h];rfl
@[simp] theorem aeW (a b:List av):CI ab a b=some (decide (a=b)):=by
 show(Bv ab a b).val=_;unfold Bv;simp only[T.aI,T.aH,T.bL,nH]
 by_cases h:a.length=b.length
 ·rw[decide_eq_true h];exact mW (mV (S:=As ab a b) (F:=rM ab a b) (e:=ju) YB h (by unfold rM;simp) (λi z=>rfl))
 ·rw[decide_eq_false h,nL h];rfl
@[simp] theorem aeX (a b:List aw):CJ ab a b=some (decide (a=b)):=by
 show(Bw ab a b).val=_;unfold Bw;simp only[T.aI,T.aH,T.bL,nH]
 by_cases h:a.length=b.length
 ·rw[decide_eq_true h];exact mW (mV (S:=Au ab a b) (F:=rN ab a b) (e:=jv) YC h (by unfold rN;simp) (λi z=>rfl))
 ·rw[decide_eq_false h,nL h];rfl
@[simp] theorem v105 (a b:Γa):CK ab a b=some (decide (a=b)):=by
 show(Bx ab a b).val=_;unfold Bx;simp only[T.aI,T.aH,T.bL,nH]
 by_cases h:a.length=b.length
 ·rw[decide_eq_true h];exact mW (mV (S:=Av ab a b) (F:=rP ab a b) (e:=(λx y=>x==y)) YA h (by unfold rP;simp) (λi z=>rfl))
 ·rw[decide_eq_false h,nL h];rfl
theorem v56 (a b:bI):CA ab a b=some (decide (a=b)):=by
 show(Bi ab a b).val=_;unfold Bi;simp only[T.aI,T.aS,T.aH,aeV,β];obtain⟨g,l⟩:=a;obtain⟨d,l'⟩:=b
 by_cases c:g=d
 ·subst c;simp
 ·have e:(g==d)=false:=by simp[c]
  simp[c,e]
theorem v58 (a b:bR):CC ab a b=some (decide (a=b)):=by
 show(Bm ab a b).val=_;unfold Bm;simp only[T.aI,T.aS,T.aH,aeW,β];obtain⟨l,g⟩:=a;obtain⟨l',d⟩:=b
 by_cases c:g=d
 ·subst c;simp
 ·have e:(g==d)=false:=by simp[c]
  simp[c,e]
def tk (x y:aq):Bool:=(x.aa==y.aa)&&decide (x.bc=y.bc)
theorem Yy (x y:aq):tk x y=decide (x=y):=by
 rw[κ];cases x;cases y;simp[tk]
theorem Z6 (a b:aO):decide (a=b)=(decide (a.ax=b.ax)&&decide (a.au=b.au)):=by
 rw[κ];cases a;cases b;simp
theorem v59 (a b:aO):CD ab a b=some (decide (a=b)):=by
 show(Bn ab a b).val=_;unfold Bn;rw[Z6];simp only[T.aI,T.aH,T.bL,T.aS,aeX,β,nH];cases decide (a.ax=b.ax) with
 |false=>rfl
 |true=>
  simp only[cond_true,φ]
  by_cases c:a.au.length=b.au.length
  rotate_left
  ·rw[decide_eq_false c,nL c];rfl
  rw[decide_eq_true c];have d:Ae ab b.au a.au=_:=mV (S:=sP ab b.au a.au) (F:=rO ab b.au a.au) (l:=a.au) (m:=b.au) (e:=tk) Yy c (by unfold rO;simp) (λi z=>by
   unfold sP tk;simp only[T.aS,T.aI,T.aH,v105,β];cases idx b.au i with
   |none=>rfl
   |some y=>
    simp only[β];cases h:z.aa==y.aa<;>simp)
  exact mW d
theorem aek (a b:aZ):decide (a=b)=(decide (a.az=b.az)&&(decide (a.aQ=b.aQ)&&(decide (a.aF=b.aF)&&decide (a.aA=b.aA)))):=by
 rw[κ];cases a;cases b;simp
theorem v12 (a b:aZ):kk ab a b=some (decide (a=b)):=by
 show(A6 ab a b).val=_;unfold A6;rw[aek];simp only[T.aI,T.aH,T.aS,v56,v57,v58,v59,β];cases decide (a.az=b.az)<;>cases decide (a.aQ=b.aQ)<;>cases decide (a.aF=b.aF)<;>rfl
def dJ:aZ:=⟨⟨[1,0,0,0,0,0,0,0,0,0,0,0,0,0,0,0],[ah.mk 1 0 false 0]⟩,[],⟨[],1⟩,⟨[],[]⟩⟩
theorem VO {α:Type} (l:List α) (n:Nat) (k:Int) (hk:k=n):ep l none (some (if k<(l.length:Int) then k else(l.length:Int))) none=some (l.take n):=by
 subst hk;unfold ep
 by_cases h:(n:Int)<(l.length:Int)
 ·rw[if_pos h];simp only[ξw,ξ1];rw[if_pos ⟨by omega,by omega,by omega,by omega,by omega,by simp⟩];simp
 ·rw[if_neg h];simp only[ξw,ξ1];rw[if_pos ⟨by omega,by omega,by omega,by omega,by omega,by simp⟩,ι];show some ((l.take l.length).drop 0)=_;rw[ζm,List.take_length,ξD (by omega)]
theorem lq {α:Type} {b n:Nat} {xs ys:List α} (h:xs.length+ys.length<=n) (a:b*n<=140737488355328):app b xs ys=some (xs++ys):=by
 refine s6 ?_;have:(xs.length+ys.length)*b<=n*b:=ζk _ h;rw[ζD n b] at this;omega
theorem F9:pN ab=some dJ:=rfl
theorem nI (p:Int×Int) (r:Γc) (j:Int):bD (p::r) j=bif j==p.1 then some p.2 else bD r j:=by
 unfold bD;rw[List.find?_cons];cases j==p.1<;>rfl
theorem Pv (p:Int×Int) (r:Γc) (k v:Int):ck (p::r) k v=bif k==p.1 then(k,v)::r else p::ck r k v:=by
 unfold ck;rw[List.findIdx?_cons];cases k==p.1 with
 |true=>rfl
 |false=>
  simp only[cond_false,ζu,if_false];cases List.findIdx? (λp=>k==p.1) r<;>rfl
theorem nJ (k v j:Int): ∀m:Γc,bD (ck m k v) j=if j=k then some v else bD m j
 |[]=>by
  show bD [(k,v)] j=_;rw[nI]
  by_cases h:j=k
  ·simp[h]
  ·have e:(j==k)=false:=by simp[h]
   simp[h,e]
 |p::r=>by
  rw[Pv];cases hk:k==p.1 with
  |true=>
   have hk:=eq_of_beq hk;simp only[cond_true];rw[nI,nI]
   by_cases h:j=k
   ·simp[h]
   ·have a:(j==p.1)=false:=by rw[<-hk];simp[h]
    have e:(j==k)=false:=by simp[h]
    simp[h,a,e]
  |false=>
   simp only[cond_false];rw[nI,nI,nJ k v j r]
   by_cases h:j=k
   ·subst h;rw[hk];simp
   ·simp[h]
theorem Mi {α:Type} (c:α->Bool) (key:α->Int) (j:Int): ∀(l:List α) (m:Γc),bD (l.foldl (λa z=>bif c z then ck a (key z) 1 else a) m) j=if l.any (λz=>c z&&(key z==j)) then some 1 else bD m j
 |[],m=>by simp
 |z::l,m=>by
  rw[ξU,Mi c key j l,ζW];cases c z with
  |false=>simp
  |true=>
   simp only[cond_true,φ,nJ]
   by_cases h:j=key z
   ·subst h;simp
   ·have:(key z==j)=false:=by simp;exact λe=>h e.symm
    simp[h,this]
theorem Mj {α:Type} (c:α->Bool) (key:α->Int) (j:Int) (l:List α):((bD (l.foldl (λa z=>bif c z then ck a (key z) 1 else a) []) j).getD 0==1)=l.any (λz=>c z&&(key z==j)):=by
 rw[Mi];cases l.any (λz=>c z&&(key z==j))<;>rfl
theorem EG {l:List ah} (h: ∀i x,l[i]? =some x->hc l i x=true): ∀(j i:Nat) (x y:ah),i<j->l[i]? =some x->l[j]? =some y->ix x.aa<ix y.aa
 |0,i,x,y,d,_,_=>by omega
 |j+1,i,x,y,d,c,e=>by
  have h1:=h (j+1) y e;have f:=(δ.1 e).1;have b:l[j]? =some l[j]:=ε (by omega);unfold hc at h1;rw[show(j+1==0)=false from rfl,ξp,ξX,b] at h1;have h1:ix l[j].aa<ix y.aa:=of_decide_eq_true h1;rcases ζ3.1 d with a|a
  ·have:=EG h j i x l[j] a c b;omega
  ·subst a;rw[b] at c;cases c;exact h1
theorem adT {p:bI} (h:allI (λi x=>hK p x&&hc p.ag i x) 0 p.ag=true) (pid:Int):b7 p.ag pid=p.ag.any (λz=>!z.bp&&(z.aa==pid)):=by
 have g: ∀i x,p.ag[i]? =some x->hc p.ag i x=true:=λi x m=>by
  have:=lj.1 h i x m;rw[ψ,ξ5] at this;exact this.2
 unfold b7 ft;cases d:p.ag.find? (λz=>z.aa==pid) with
 |none=>
  symm
  rw[ξo];intro z f;have:=ζs.1 d z f;simp only[ξ5,not_and];exact λ_=>this
 |some z0=>
  have l:=ξZ d;have k:(z0.aa==pid)=true:=ζL (p:=λz:ah=>z.aa==pid) d;rw[κ,ζF];constructor
  ·intro c;have c:(!z0.bp)=true:=c;exact⟨z0,l,by rw[c,k];rfl⟩
  ·rintro ⟨z,f,b⟩;rw[ξ5] at b;obtain⟨i,hi⟩:=ζl f;obtain⟨j,a⟩:=ζl l;have e:z.aa=z0.aa:=(eq_of_beq b.2).trans (eq_of_beq k).symm;rcases Nat.lt_trichotomy i j with h1|h1|h1
   ·have:=EG g j i z z0 h1 hi a;rw[e] at this;omega
   ·subst h1;rw[hi] at a;cases a;exact b.1
   ·have:=EG g i j z0 z h1 a hi;rw[e] at this;omega
def vM {A B C D:Type}:(A×Bool×B)⊕(C×Bool×D)->Bool
 | .inl y=>y.2.1
 | .inr y=>y.2.1
theorem wk {α X:Type} {step:Int->α->Bool->Option (Bool⊕X)} {fin:Int->Bool->Option X} {out:X->Bool} {q:α->Bool} (c: ∀i a,∃x,fin i a=some x/\out x=a):
  ∀ {l:List α} {i:Nat},(∀i z a,z∈l->(q z=true/\step i z a=some (.inl true))\/(q z=false/\ ∃x,step i z a=some (.inr x)/\out x=false))-> ∃x,bV step fin i l true=some x/\out x=l.all q
 |[],i,_=>by
  obtain⟨x,h1,b⟩:=c i true;exact⟨x,h1,b⟩
 |z::l,i,h=>by
  rw[hf,ζt];rcases h i z true τ with⟨h1,b⟩|⟨h1,x,b,d⟩
  ·rw[h1,b,β];obtain⟨x,e,f⟩:=wk c (l:=l) (i:=i+1) λi z a g=>h i z a (ξ4 _ g);exact⟨x,e,by simpa using f⟩
  ·rw[h1,b,β];exact⟨x,rfl,by simpa using d⟩
def qH (s:aZ):Bool:=(s.aQ.all λd=>b7 s.az.ag d.aa&&s.aF.ag.any λm=>m.a6==d.cp)&&((s.aA.ax.all λn=>b7 s.az.ag n.aa)&&s.aA.au.all λb=>b7 s.az.ag b.aa)
structure Hm (s:aZ):Prop where
 p:xK s.az
 d:s.aQ.length<=maxLen
 i:Hk s.aA
theorem S9 (l:List aj) (b M2:Γc) (i:Int) (z:aj) (a:Bool):(mH ab l b M2 i z a).val=bif ((bD b z.aa).getD 0==1) then(bif !((bD M2 z.cp).getD 0==1) then some (.inr (.inl (!((bD M2 z.cp).getD 0==1),((bD M2 z.cp).getD 0==1),z.aa,z.bF,z.cp,z,decide (i<l.length),a,i))) else some (.inl ((bD M2 z.cp).getD 0==1))) else some (.inr (.inl (true,false,z.aa,z.bF,z.cp,z,decide (i<l.length),a,i))):=by
 unfold mH;cases bD b z.aa<;>cases bD M2 z.cp<;>rfl
theorem S_ (l:List aw) (b:Γc) (i:Int) (z:aw) (a:Bool):(mI ab l b i z a).val=bif !((bD b z.aa).getD 0==1) then some (.inr (.inl (!((bD b z.aa).getD 0==1),((bD b z.aa).getD 0==1),z.bb,z.aa,z,decide (i<l.length),a,i))) else some (.inl ((bD b z.aa).getD 0==1)):=by
 unfold mI;cases bD b z.aa<;>rfl
theorem Ta (l:List aq) (b:Γc) (i:Int) (z:aq) (a:Bool):(mJ ab l b i z a).val=bif !((bD b z.aa).getD 0==1) then some (.inr (.inl (!((bD b z.aa).getD 0==1),((bD b z.aa).getD 0==1),z.aa,z.bc,z,decide (i<l.length),a,i))) else some (.inl ((bD b z.aa).getD 0==1)):=by
 unfold mJ;cases bD b z.aa<;>rfl
theorem v11 {s:aZ} (h:Hm s) {m:Bool} (hm:pR ab s.aF=some (bif m then 0 else 340)):tN ab s=some (bif iT s.az&&(l6 s.aQ&&(m&&(l7 s.aA&&qH s))) then 0 else 360):=by
 show(Bf ab s).val=_;unfold Bf;simp only[T.aS,T.aI,T.aH,T.bL,v46 h.p,P8 h.d,hm,v49 h.i,β];cases hp:iT s.az
 ·rfl
 cases l6 s.aQ
 ·rfl
 cases m
 ·rfl
 cases l7 s.aA
 ·rfl
 have A:allI (λi x=>hK s.az x&&hc s.az.ag i x) 0 s.az.ag=true:=by
  unfold iT at hp;rw[ξ5,ξ5] at hp;exact hp.2.1
 have C:=adT A;simp only[cond_true,cond_false,φ,show((0:Int) !=0)=false from rfl];obtain⟨b,n⟩: ∃M,M=s.az.ag.foldl (λa z=>bif !z.bp then ck a z.aa 1 else a) []:=⟨_,rfl⟩;obtain⟨M2,o⟩: ∃M,M=s.aF.ag.foldl (λa z=>bif (λ_:av=>true) z then ck a z.a6 1 else a) []:=⟨_,rfl⟩;have h1:sa ab s.az.ag s.az.aM s.aQ s.aF.ag s.aF.bm s.aA.ax s.aA.au []=some (false,(s.az.ag.length:Int),b):=by
  have:=od (g:=λa (z:ah)=>bif !z.bp then ck a z.aa 1 else a) (l:=s.az.ag) (i:=0) (a:=[]) (step:=λi z a=>(o7 ab s.az.ag s.az.aM s.aQ s.aF.ag s.aF.bm s.aA.ax s.aA.au i z a).val) (fin:=λi a=>(rE ab s.az.ag s.az.aM s.aQ s.aF.ag s.aF.bm s.aA.ax s.aA.au i a).val) (λi z a _=>by
   show(o7 ab s.az.ag s.az.aM s.aQ s.aF.ag s.aF.bm s.aA.ax s.aA.au i z a).val=_;unfold o7;cases z.bp<;>rfl)
  have c:sa ab s.az.ag s.az.aM s.aQ s.aF.ag s.aF.bm s.aA.ax s.aA.au []=_:=this;rw[c,n];unfold rE;simp
 have c:r' ab s.aF.ag s.az.aM s.az.ag s.aQ s.aF.bm s.aA.ax s.aA.au b []=some (false,(s.aF.ag.length:Int),M2):=by
  have:=od (g:=λa (z:av)=>bif (λ_:av=>true) z then ck a z.a6 1 else a) (l:=s.aF.ag) (i:=0) (a:=[]) (step:=λi z a=>(Ap ab s.aF.ag s.az.aM s.az.ag s.aQ s.aF.bm s.aA.ax s.aA.au b i z a).val) (fin:=λi a=>(rD ab s.aF.ag s.az.aM s.az.ag s.aQ s.aF.bm s.aA.ax s.aA.au b i a).val) (λi z a _=>rfl);have c:r' ab s.aF.ag s.az.aM s.az.ag s.aQ s.aF.bm s.aA.ax s.aA.au b []=_:=this;rw[c,o];unfold rD;simp
 have k: ∀pid,((bD b pid).getD 0==1)=b7 s.az.ag pid:=λpid=>by rw[n,Mj (λz:ah=>!z.bp) (λz=>z.aa),C pid]
 have B: ∀id,((bD M2 id).getD 0==1)=s.aF.ag.any λm=>m.a6==id:=λid=>by rw[o,Mj (λ_:av=>true) (λz=>z.a6)];simp
 obtain⟨r,e,D⟩:=wk (out:=vM) (q:=λd:aj=>b7 s.az.ag d.aa&&s.aF.ag.any λm=>m.a6==d.cp) (step:=λi z a=>(mH ab s.aQ b M2 i z a).val) (fin:=λi a=>(xy ab s.aQ b M2 i a).val) (λi a=>⟨_,rfl,rfl⟩) (l:=s.aQ) (i:=0) (λi z a _=>by
  show _/\(mH ab s.aQ b M2 i z a).val=_\/_;rw[S9,k,B];cases b7 s.az.ag z.aa with
  |false=>exact .inr ⟨rfl,_,rfl,rfl⟩
  |true=>
   cases (s.aF.ag.any λm=>m.a6==z.cp) with
   |false=>exact .inr ⟨rfl,_,rfl,rfl⟩
   |true=>exact .inl ⟨rfl,rfl⟩)
 obtain⟨t,f,E⟩:=wk (out:=vM) (q:=λd:aw=>b7 s.az.ag d.aa) (step:=λi z a=>(mI ab s.aA.ax b i z a).val) (fin:=λi a=>(xz ab s.aA.ax b i a).val) (λi a=>⟨_,rfl,rfl⟩) (l:=s.aA.ax) (i:=0) (λi z a _=>by
  show _/\(mI ab s.aA.ax b i z a).val=_\/_;rw[S_,k];cases b7 s.az.ag z.aa with
  |false=>exact .inr ⟨rfl,_,rfl,rfl⟩
  |true=>exact .inl ⟨rfl,rfl⟩)
 obtain⟨u,j,F⟩:=wk (out:=vM) (q:=λd:aq=>b7 s.az.ag d.aa) (step:=λi z a=>(mJ ab s.aA.au b i z a).val) (fin:=λi a=>(xA ab s.aA.au b i a).val) (λi a=>⟨_,rfl,rfl⟩) (l:=s.aA.au) (i:=0) (λi z a _=>by
  show _/\(mJ ab s.aA.au b i z a).val=_\/_;rw[Ta,k];cases b7 s.az.ag z.aa with
  |false=>exact .inr ⟨rfl,_,rfl,rfl⟩
  |true=>exact .inl ⟨rfl,rfl⟩)
 have e:Ad ab s.aQ b M2 true=some r:=e;have f:sc ab s.aA.ax b true=some t:=f;have j:mA ab s.aA.au b true=some u:=j;unfold qH;rw[h1];simp only[β];rw[c];simp only[β];rw[e,f,j,<-D,<-E,<-F];simp only[β];rcases r with v|v<;>rcases t with w|w<;>rcases u with y|y<;>simp only[T.cN,T.aS,T.bL,T.aI,T.aH,vM,β]<;>cases v.2.1<;>cases w.2.1<;>cases y.2.1<;>rfl
abbrev Am (w:Int) (b:Bool):Prop:=pL ab w=some (bif b then 0 else 310)
structure Hl (P:Int->Bool) (m:bR):Prop where
 path: ∀z∈m.ag,Am z.bl (P z.bl)
 len:m.ag.length<=maxLen
def qp (P:Int->Bool) (next:Int) (z:av):Bool:=P z.bl&&(decide (1<=z.a6)&&decide (z.a6<next))
def nM (l:List av) (i:Nat) (z:av):Bool:=!(l.take i).any λy=>y.bl==z.bl
def vm (P:Int->Bool) (next:Int) (l:List av):Bool:=allI (λi z=>(qp P next z&&fG (λy z=>decide (y.a6<z.a6)) l i z)&&nM l i z) 0 l
def qJ (P:Int->Bool) (m:bR):Bool:=vm P m.bm m.ag&&(decide (m.ag.length<=16)&&(decide (m.bm>=1)&&decide (m.bm<=1073741825)))
theorem VM {α:Type} {l:List α} {i:Nat} (h:i<=l.length):ep l none (some (i:Int)) none=some (l.take i):=by
 unfold ep;simp only[ξw,ξ1];rw[if_pos ⟨by omega,by omega,by omega,by omega,by omega,by simp⟩,ι];rfl
def mb (P:Int->Bool) (next:Int):Int->List av->Bool
 |_,[]=>true
 |a,z::r=>(P z.bl&&(decide (a<z.a6)&&decide (z.a6<next)))&&mb P next z.a6 r
theorem Pu {P:Int->Bool} {l0:List av} {next:Int}: ∀(l:List av) (i:Nat) (a:Int),(∀z∈l,Am z.bl (P z.bl))->(mb P next a l=true/\ ∃b,bV (λi z a=>(j_ ab l0 next i z a).val) (λi a=>(rI ab l0 next i a).val) i l a=some (.inr b))\/(mb P next a l=false/\bV (λi z a=>(j_ ab l0 next i z a).val) (λi a=>(rI ab l0 next i a).val) i l a=some (.inl ()))
 |[],i,a,_=>.inl ⟨rfl,_,rfl⟩
 |z::l,i,a,h=>by
  have e:(j_ ab l0 next i z a).val=bif P z.bl&&(decide (a<z.a6)&&decide (z.a6<next)) then some (.inl z.a6) else some (.inr (.inl ())):=by
   unfold j_;simp only[T.aS,T.aI,T.aH,h z τ,β];have c:decide (z.a6<=a)=!decide (a<z.a6):=by rw[κ];simp
   have d:decide (z.a6>=next)=!decide (z.a6<next):=by rw[κ];simp
   rw[c,d];cases P z.bl<;>cases decide (a<z.a6)<;>cases decide (z.a6<next)<;>rfl
  rw[hf];show _/\(∃b,((j_ ab l0 next i z a).val.bind _)=_)\/_/\((j_ ab l0 next i z a).val.bind _)=_;rw[e];unfold mb;cases P z.bl&&(decide (a<z.a6)&&decide (z.a6<next)) with
  |false=>exact .inr ⟨rfl,rfl⟩
  |true=>
   simp only[cond_true,β,φ];exact Pu l (i+1) z.a6 λy f=>h y (ξ4 _ f)
theorem Pt {P:Int->Bool} {next:Int} {l0:List av}: ∀(r pre:List av) (a:Int),l0=pre++r->(pre=[]->a=0)->(∀y,pre.getLast? =some y->a=y.a6/\1<=y.a6)->mb P next a r=allI (λi z=>qp P next z&&fG (λy z=>decide (y.a6<z.a6)) l0 i z) pre.length r
 |[],_,_,_,_,_=>rfl
 |z::r,pre,a,e,d,h1=>by
  unfold mb allI qp;have k:(P z.bl&&(decide (a<z.a6)&&decide (z.a6<next)))=((P z.bl&&(decide (1<=z.a6)&&decide (z.a6<next)))&&fG (λy z=>decide (y.a6<z.a6)) l0 pre.length z):=by
   unfold fG;rcases List.eq_nil_or_concat pre with hp|⟨p,y,hp⟩
   ·subst hp;rw[d rfl];have:decide ((0:Int)<z.a6)=decide (1<=z.a6):=by rw[κ];simp;omega
    rw[this];simp
   ·subst hp;obtain⟨l,m⟩:=h1 y (by simp);have f:l0[(p++[y]).length-1]? =some y:=by rw[e];simp
    have j:((p++[y]).length==0)=false:=by simp
    have:decide (a<z.a6)=(decide (1<=z.a6)&&decide (y.a6<z.a6)):=by rw[κ];simp;omega
    simp only[List.concat_eq_append] at*
    rw[f,j,this];simp only[ξp];cases P z.bl<;>cases decide (1<=z.a6)<;>cases decide (y.a6<z.a6)<;>cases decide (z.a6<next)<;>rfl
  rw[k];cases b:(P z.bl&&(decide (1<=z.a6)&&decide (z.a6<next)))&&fG (λy z=>decide (y.a6<z.a6)) l0 pre.length z with
  |false=>rfl
  |true=>
   have g:1<=z.a6:=by
    simp only[ξ5,decide_eq_true_eq] at b;exact b.1.2.1
   have:=Pt (P:=P) (next:=next) (l0:=l0) r (pre++[z]) z.a6 (by rw[e];simp) (λh=>by simp at h) (λy c=>by simp at c;subst c;exact⟨rfl,g⟩);rw[show(pre++[z]).length=pre.length+1 by simp] at this;rw[this];rfl
def mapM:Γc->List av->Γc
 |m,[]=>m
 |m,z::r=>mapM (ck m z.bl z.a6) r
def gZ:Γc->List av->Bool
 |_,[]=>true
 |m,z::r=>!(bD m z.bl).isSome&&gZ (ck m z.bl z.a6) r
theorem Mg (k v:Int): ∀m:Γc,(ck m k v).length=if(bD m k).isSome then m.length else m.length+1
 |[]=>rfl
 |p::r=>by
  rw[Pv,nI];cases k==p.1 with
  |true=>simp
  |false=>
   simp only[cond_false,ξc,Mg k v r];split<;>rfl
theorem Mr: ∀(l:List av) (m:Γc),(mapM m l).length<=m.length+l.length/\(gZ m l=true->(mapM m l).length=m.length+l.length)/\(gZ m l=false->(mapM m l).length<m.length+l.length)
 |[],m=>by simp[mapM,gZ]
 |z::r,m=>by
  obtain⟨h1,b,c⟩:=Mr r (ck m z.bl z.a6);have hl:=Mg z.bl z.a6 m;simp only[mapM,gZ,ξc];cases a:(bD m z.bl).isSome with
  |true=>
   rw[a,if_pos rfl] at hl;simp only[ξP,ζS];refine⟨by omega,λh=>(by cases h),λ_=>by omega⟩
  |false=>
   rw[a,if_neg (by simp)] at hl;simp only[ξY,φ];exact⟨by omega,λh=>by have:=b h;omega,λh=>by have:=c h;omega⟩
theorem Ms (j:Int): ∀(l:List av) (m:Γc),(bD (mapM m l) j).isSome=(l.any (λy=>y.bl==j)||(bD m j).isSome)
 |[],m=>by simp[mapM]
 |z::r,m=>by
  simp only[mapM,ζW];rw[Ms j r,nJ]
  by_cases h:j=z.bl
  ·subst h;simp
  ·have:(z.bl==j)=false:=by simp;exact λe=>h e.symm
   simp[h,this]
theorem Mq: ∀(l r:List av) (m:Γc),mapM m (l++r)=mapM (mapM m l) r
 |[],r,m=>rfl
 |z::l,r,m=>Mq l r _
theorem JU {l0:List av}: ∀(r pre:List av),l0=pre++r->gZ (mapM [] pre) r=allI (λi z=>nM l0 i z) pre.length r
 |[],_,_=>rfl
 |z::r,pre,e=>by
  unfold gZ allI nM;rw[Ms];have a:l0.take pre.length=pre:=by rw[e];simp
  have hn:(bD ([]:Γc) z.bl).isSome=false:=rfl;rw[a,hn,ζp];have:=JU (l0:=l0) r (pre++[z]) (by rw[e];simp);rw[show(pre++[z]).length=pre.length+1 by simp,Mq] at this;have this:gZ (ck (mapM [] pre) z.bl z.a6) r=_:=this;rw[this];rfl
theorem Iy {α:Type} {p q:Nat->α->Bool}: ∀ {l:List α} {i:Nat},allI (λi z=>p i z&&q i z) i l=(allI p i l&&allI q i l)
 |[],_=>rfl
 |z::l,i=>by
  simp only[allI];rw[Iy];cases p i z<;>cases q i z<;>cases allI p (i+1) l<;>simp
theorem aam {P:Int->Bool} {next:Int} {l:List av}:vm P next l=(mb P next 0 l&&gZ [] l):=by
 unfold vm;rw[Iy,Pt (l0:=l) l [] 0 rfl (λ_=>rfl) (λy a=>by simp at a)];have:=JU (l0:=l) l [] rfl;have this:gZ [] l=_:=this;rw[this];rfl
theorem fold_map: ∀(l:List av) (m:Γc),l.foldl (λa z=>ck a z.bl z.a6) m=mapM m l
 |[],_=>rfl
 |z::r,m=>fold_map r _
theorem P9 {P:Int->Bool} {m:bR} (h:Hl P m):pR ab m=some (bif qJ P m then 0 else 340):=by
 show(Br ab m).val=_;unfold Br qJ;rw[aam];simp only[T.bL,T.aS,T.cN,T.aI,T.aH];have d:r4 ab m.ag []=some (false,(m.ag.length:Int),mapM [] m.ag):=by
  have:=od (g:=λa (z:av)=>ck a z.bl z.a6) (l:=m.ag) (i:=0) (a:=[]) (step:=λi z a=>(An ab m.ag i z a).val) (fin:=λi a=>(q6 ab m.ag i a).val) (λi z a _=>rfl);have d:r4 ab m.ag []=_:=this;rw[d,fold_map];unfold q6;simp
 obtain⟨r,p,q⟩:=Mr m.ag [];have o:decide (((mapM [] m.ag).length:Int)<(m.ag.length:Int))=!gZ [] m.ag:=by
  cases f:gZ [] m.ag with
  |true=>have:=p f;simp at this;exact decide_eq_false (by omega)
  |false=>have:=q f;simp at this;exact decide_eq_true (by omega)
 have j:decide ((m.ag.length:Int)>16)=!decide (m.ag.length<=16):=by
  by_cases h:m.ag.length<=16
  ·rw[decide_eq_true h,decide_eq_false (by omega)];rfl
  ·rw[decide_eq_false h,decide_eq_true (by omega)];rfl
 have k:decide (m.bm<1)=!decide (m.bm>=1):=by rw[κ];simp
 have n:decide (m.bm>1073741825)=!decide (m.bm<=1073741825):=by rw[κ];simp
 rcases Pu (P:=P) (l0:=m.ag) (next:=m.bm) m.ag 0 0 h.path with⟨e,b,c⟩|⟨e,c⟩
 ·have c:sb ab m.ag m.bm 0=some (.inr b):=c;rw[c,e,d];simp only[β,φ];rw[o,j,k,n];cases gZ [] m.ag<;>cases decide (m.ag.length<=16)<;>cases decide (m.bm>=1)<;>cases decide (m.bm<=1073741825)<;>rfl
 ·have c:sb ab m.ag m.bm 0=some (.inl ()):=c;rw[c,e];rfl
def fl (l:Γ):Bool:=l.all gB&&!l.isEmpty
theorem S5 {s:ByteArray} {pos:Nat} (hp:pos<s.size):(mE ab s pos).val=bif gB (ξ6 s pos).1 then some (.inl (pos+(ξ6 s pos).2)) else some (.inr (.inl ())):=by
 unfold mE;simp only[T.aI,T.aH];rw[decide_eq_true hp,I5];cases decide (((ξ6 s pos).1:Int)>=97)<;>cases decide (((ξ6 s pos).1:Int)<=122)<;>cases decide (((ξ6 s pos).1:Int)>=48)<;>cases decide (((ξ6 s pos).1:Int)<=57)<;>rfl
theorem P4 {l:Γ} (h: ∀x∈l,x<256): ∀(k f pos:Nat),pos+k=l.length->cf (λa=>(mE ab (bs l) a).val) (k+1+f) pos=some (bif (l.drop pos).all gB then .inr l.length else .inl ())
 |0,f,pos,e=>by
  obtain rfl:pos=l.length:=by omega
  rw[show 0+1+f=f+1 by omega,eI];unfold mE;simp[eY]
 |k+1,f,pos,e=>by
  have hp:pos<l.length:=by omega
  have d:=J3 h (ε hp);rw[show k+1+1+f=(k+1+f)+1 by omega,eI,S5 (by rw[eY];exact hp),ξt hp,ζt]
  by_cases b:((bs l).get! pos).toNat<128
  ·rw[B_ b,d];cases gB l[pos] with
   |false=>rfl
   |true=>
    simp only[cond_true,β,φ];exact P4 h k f (pos+1) (by omega)
  ·have g:=ta (c:=l[pos]) (by rw[<-d];omega);rw[ta (decode_high b),g];rfl
theorem v175 {l:Γ} (h: ∀x∈l,x<256) (hl:l.length<=100):pO ab (bs l)=some (fl l):=by
 show(AZ ab (bs l)).val=_;unfold AZ fl;simp only[T.bL,T.aS,T.cN,T.aH];have:=P4 h l.length (999999-l.length) 0 (by omega);rw[show l.length+1+(999999-l.length)=1000000 by omega,ζm] at this;have a:zx ab (bs l) 0=some (bif l.all gB then .inr l.length else .inl ()):=this;rw[a];cases l.all gB with
 |false=>rfl
 |true=>
  simp only[cond_true,β,φ];rw[Cf]
def fx (acc:List (Γ)) (x:Nat):List (Γ):=if x=47 then acc++[[]] else match acc[acc.length-1]? with|some y=>acc.set (acc.length-1) (y++[x])|none=>acc
theorem JS: ∀(a:Γ) (acc:List (Γ)) (y:Γ),(∀x∈a,x≠47)->a.foldl fx (acc++[y])=acc++[y++a]
 |[],acc,y,_=>by simp
 |x::a,acc,y,h=>by
  have b:fx (acc++[y]) x=acc++[y++[x]]:=by
   unfold fx;rw[if_neg (h x τ)];simp
  rw[ξU,b,JS a acc (y++[x]) λz c=>h z (ξ4 _ c)];simp
def wd (t:Γ):Γ:=t.takeWhile λx=>x !=47
def rs (t:Γ):Γ:=t.dropWhile λx=>x !=47
theorem Qj: ∀(t:Γ) (x:Nat),x∈wd t->x≠47
 |[],x,h=>by simp[wd] at h
 |z::t,x,h=>by
  unfold wd at h;rw[ζo] at h;cases a:z !=47 with
  |true=>
   rw[a] at h;rcases ξB.1 h with rfl|h
   ·simpa using a
   ·exact Qj t x h
  |false=>rw[a] at h;simp at h
theorem tS (t:Γ) (acc:List (Γ)):(47::t).foldl fx acc=(rs t).foldl fx (acc++[wd t]):=by
 rw[ξU];have h1:fx acc 47=acc++[[]]:=by unfold fx;rw[if_pos rfl]
 rw[h1]
 conv=>lhs;rw[<-ξE (p:=λx=>x !=47) (l:=t)]
 rw[List.foldl_append];show List.foldl fx (List.foldl fx (acc++[[]]) (wd t)) (rs t)=_;rw[JS _ acc [] λx a=>Qj t x a];rfl
theorem oe (t:Γ):rs t=[]\/ ∃u,rs t=47::u:=by
 unfold rs;cases h:t.dropWhile λx=>x !=47 with
 |nil=>exact .inl rfl
 |cons x u=>
  right;have:=List.head?_dropWhile_not (λx=>x !=47) t;rw[h] at this;simp at this;exact⟨u,by rw[this]⟩
theorem tR: ∀(k:Nat) (r:Γ) (acc:List (Γ)),r.length<=k->(r=[]\/ ∃t,r=47::t)->r.foldl fx acc=acc++r.foldl fx []
 |0,r,acc,hk,_=>by
  have:r=[]:=ξM (by omega);subst this;simp
 |k+1,r,acc,hk,a=>by
  rcases a with rfl|⟨t,rfl⟩
  ·simp
  ·have hl:(rs t).length<=k:=by
    have:(rs t).length<=t.length:=(ξj _).length_le;simp at hk;omega
   rw[tS,tS,tR k (rs t) _ hl (oe t),tR k (rs t) ([]++[wd t]) hl (oe t)];simp
theorem DE: ∀(t:Γ),(∀x∈t,x<256)->ζX (bs t).data.toList (Nat.toUInt8 47)=if rs t=[] then -1 else((wd t).length:Int)
 |[],_=>rfl
 |x::t,h=>by
  have b:=DE t λz g=>h z (ξ4 _ g);have j:=h x τ;have c:(bs (x::t)).data.toList=ξn x::(bs t).data.toList:=by simp[bs]
  rw[c];unfold ζX rs wd;rw[List.dropWhile_cons,ζo]
  by_cases a:x=47
  ·subst a;rfl
  ·have d:(ξn x==Nat.toUInt8 47)=false:=by
    rw[beq_eq_false_iff_ne];intro e;have:=congrArg ζM e;simp at this;omega
   have f:(x !=47)=true:=by simp[a]
   rw[d,f];simp only[ζu,if_false,if_true];unfold rs wd at b;rw[b];split
   ·rfl
   ·rename_i i;rw[if_neg (by simp)];simp
theorem Qk (t:Γ):wd t++rs t=t:=ξE
theorem VN {l:Γ} {i j:Nat} (a:i<=j) (b:j<=l.length):(bs l).extract i j=bs ((l.take j).drop i):=by
 apply ζ7;rw[ByteArray.data_extract];unfold bs;apply ζT;rw[Array.toList_extract];simp[List.extract,ζr,ζ6,List.take_drop,show i+(j-i)=j by omega]
theorem iw {l:Γ} {i j:Nat} (b:i<=j) (c:j<=l.length) {lo hi:Option Int} (h1:lo.getD 0=(i:Int)) (a:hi.getD ((bs l).size:Int)=(j:Int)):eZ (bs l) lo hi=some (bs ((l.take j).drop i)):=by
 unfold eZ;rw[h1,a,if_pos ⟨by omega,by omega,by rw[eY];omega⟩,ι,ι,VN b c]
theorem S6 {d t:Γ} {w:Int} {acc:List (Γ)} (o:((bs d).toList==(ξ0 #[47]).toList)=false) (h: ∀x∈t,x<256) (hl:t.length<=50) (s:acc.length<=50):
  (gy ab (bs d) w (true,bs (47::t),acc.map bs)).val=bif fl (wd t) then some (.inl (true,bs (rs t),(acc++[wd t]).map bs)) else some (.inr (.inl (false,bs (47::t),acc.map bs))):=by
 have a:=Qk t;have hlen:(wd t).length+(rs t).length=t.length:=by rw[<-ν,a]
 have hw: ∀x∈wd t,x<256:=λx r=>h x (by rw[<-a];exact ξN _ r);have k:decide (((bs (47::t)).size:Int)>=1)=true:=decide_eq_true (by rw[eY];simp;omega);have c1:eZ (bs (47::t)) none (some 1)=some (bs [47]):=iw (i:=0) (j:=1) (by omega) (by simp) rfl rfl;have c2:eZ (bs (47::t)) (some 1) none=some (bs t):=by
  have:=iw (l:=47::t) (i:=1) (j:=t.length+1) (lo:=some 1) (hi:=none) (by omega) (by simp) rfl (by rw[eY];simp);rw[this];simp
 have m:((bs [47]).toList==(ξ0 #[47]).toList)=true:=by
  have:bs [47]=ξ0 #[47]:=rfl;rw[this];exact beq_self_eq_true _
 have g:app 16 (acc.map bs) [bs (wd t)]=some ((acc++[wd t]).map bs):=by
  rw[lq (n:=200) (by simp;omega) (by omega),ξC];rfl
 unfold gy;simp only[T.aI,T.aH,T.aS];rw[k,c1];simp only[cond_true,β];rw[m,c2];simp only[cond_true,β];rw[DE t h,o]
 by_cases b:rs t=[]
 ·have q:wd t=t:=by rw[b,ζd] at a;exact a
  rw[if_pos b];have f:(γ.wrap (-1+1)==0)=true:=rfl;have c:eZ (bs (47::t)) (some 1) (some ((bs (47::t)).size:Int))=some (bs (wd t)):=by
   have:=iw (l:=47::t) (i:=1) (j:=t.length+1) (lo:=some 1) (hi:=some ((bs (47::t)).size:Int)) (by omega) (by simp) rfl (by rw[eY];simp);rw[this,q];simp
  have e:eZ (bs (47::t)) (some ((bs (47::t)).size:Int)) none=some (bs (rs t)):=by
   have:=iw (l:=47::t) (i:=t.length+1) (j:=t.length+1) (lo:=some ((bs (47::t)).size:Int)) (hi:=none) (by omega) (by simp) (by rw[eY];simp) (by rw[eY];simp);rw[this,b];simp
  rw[f];simp only[cond_true];rw[c];simp only[β,cond_false];rw[v175 hw (by omega),g,e];cases fl (wd t)<;>rfl
 ·rw[if_neg b];have u:0<(rs t).length:=List.length_pos_iff.2 b;have p:γ.wrap (((wd t).length:Int)+1)=(((wd t).length+1:Nat):Int):=by rw[dy (by omega) (by omega)];omega
  rw[p];have f:((((wd t).length+1:Nat):Int)==0)=false:=by simp;omega
  have c:eZ (bs (47::t)) (some 1) (some (((wd t).length+1:Nat):Int))=some (bs (wd t)):=by
   have:=iw (l:=47::t) (i:=1) (j:=(wd t).length+1) (lo:=some 1) (hi:=some (((wd t).length+1:Nat):Int)) (by omega) (by simp;omega) rfl rfl;rw[this];have:t.take (wd t).length=wd t:=by
    have:=List.take_left (l₁:=wd t) (l₂:=rs t)
    rwa [a] at this
   simp[this]
  have e:eZ (bs (47::t)) (some (((wd t).length+1:Nat):Int)) none=some (bs (rs t)):=by
   have:=iw (l:=47::t) (i:=(wd t).length+1) (j:=t.length+1) (lo:=some (((wd t).length+1:Nat):Int)) (hi:=none) (by omega) (by simp) rfl (by rw[eY];simp);rw[this];have:t.drop (wd t).length=rs t:=by
    have:=List.drop_left (l₁:=wd t) (l₂:=rs t)
    rwa [a] at this
   simp[this]
  rw[f];simp only[cond_false];rw[c];simp only[β,cond_false];rw[v175 hw (by omega),g,e];cases fl (wd t)<;>rfl
theorem P7 {d:Γ} {w:Int} (i:((bs d).toList==(ξ0 #[47]).toList)=false): ∀(k f:Nat) (r:Γ) (acc:List (Γ)),r.length<=k->(∀x∈r,x<256)->r.length+acc.length<=50->acc.all fl=true->(r=[]\/ ∃t,r=47::t)->
  ((r.foldl fx []).all fl=true/\ ∃b s0,cf (λa=>(gy ab (bs d) w a).val) (k+1+f) (true,bs r,acc.map bs)=some (.inr (b,s0,true,(acc++r.foldl fx []).map bs)))\/
  ((r.foldl fx []).all fl=false/\ ∃s0 ps,ps.all fl=true/\(∃q,acc++r.foldl fx []=ps++q)/\cf (λa=>(gy ab (bs d) w a).val) (k+1+f) (true,bs r,acc.map bs)=some (.inl (false,s0,ps.map bs)))
 |k,f,[],acc,_,_,_,_,_=>by
  left;refine⟨rfl,false,bs [],?_⟩;rw[show k+1+f=(k+f)+1 by omega,eI];have:(gy ab (bs d) w (true,bs [],acc.map bs)).val=some (.inr (.inr (false,bs [],true,acc.map bs))):=by
   unfold gy;rfl
  rw[this];simp
 |0,f,x::r,acc,hk,_,_,_,_=>by simp at hk
 |k+1,f,x::t,acc,hk,h,hl,g,p=>by
  rcases p with n|⟨t',e⟩
  ·cases n
  cases e;have j: ∀x∈t,x<256:=λx c=>h x (ξ4 _ c);simp only[ξc] at hk hl;have hlen:(rs t).length<=t.length:=(ξj _).length_le;rw[show k+1+1+f=(k+1+f)+1 by omega,eI,S6 i j (by omega) (by omega),tS,ζi,tR (rs t).length (rs t) _ (ξa _) (oe t)];rw[ζN];cases hp:fl (wd t) with
  |false=>
   right;refine⟨by simp[hp],bs (47::t),acc,g,⟨_,rfl⟩,rfl⟩
  |true=>
   simp only[cond_true,β];have o:(acc++[wd t]).all fl=true:=by rw[ζN,g];simp[hp]
   have s: ∀x∈rs t,x<256:=λx c=>j x ((ξj (λx=>x !=47)).subset c);have l:acc++([wd t]++(rs t).foldl fx [])=(acc++[wd t])++(rs t).foldl fx []:=by simp
   have m:[wd t].all fl=true:=by simp[hp]
   rw[l,m,φ];exact P7 i k f (rs t) (acc++[wd t]) (by omega) s (by simp;omega) o (oe t)
def jt (ps:List (Γ)):Γ:=(ps.map λp=>47::p).flatten
def tx (ps:List (Γ)):Γ:=match ps with|[]=>[47]|_=>jt ps
theorem Z' (p:Γ) (ps:List (Γ)):g' ((p::ps).map bs) (ξ0 #[47])=bs (p++jt ps):=by
 unfold g';apply ζ7;apply ζT;show Lib.join (((p::ps).map bs).map (·.data.toList)) [47]=_;rw[ξz,ξz,Lib.join_cons];unfold Lib.joinTail jt bs;simp only[ξC,ηj]
 congr 1
 rw[List.map_flatten,ηj]
 congr 1
theorem ad': ∀(ps:List (Γ)),(tx ps).length<=500->ma (ξ0 #[47]) (g' (ps.map bs) (ξ0 #[47]))=some (bs (tx ps))/\(g' (ps.map bs) (ξ0 #[47])).size<=500
 |[],_=>by
  have e:g' [] (ξ0 #[47])=bs []:=rfl;rw[ξV,e];exact⟨Pr (l:=[47]) (m:=[]) (by simp),by rw[eY];simp⟩
 |p::ps,h=>by
  rw[Z'];have h:(47::p++jt ps).length<=500:=by simpa[tx,jt] using h
  refine⟨?_,by rw[eY];simp at h ⊢;omega⟩;have:=Pr (l:=[47]) (m:=p++jt ps) (by simp at h ⊢;omega);have e:bs [47]=ξ0 #[47]:=rfl;rw[e] at this;rw[this];rfl
theorem wX {ps:List (Γ)} (d:ps.all fl=true) (h: ∀p∈ps,(∀x∈p,x<256)/\p.length<=100) (hl:(tx ps).length<=500) (hn:ps.length<=100):jy ab (ps.map bs)=some ((il (bs (tx ps))).1,(il (bs (tx ps))).2==0&&decide (ps.length<=4)):=by
 show(A3 ab (ps.map bs)).val=_;unfold A3;obtain⟨h1,f⟩:=ad' ps hl;simp only[T.aI,T.aS,T.aH,T.bL,T.cN];rw[h1,decide_eq_true (by simp;omega:(ps.map bs).length<=140737488355328),decide_eq_true (by omega:(g' (ps.map bs) (ξ0 #[47])).size<=140737488355328)];simp only[Bool.and_self,cond_true,β,v79];have b:decide (((ps.map bs).length:Int)<=4)=decide (ps.length<=4):=by rw[κ];simp;omega
 have c:zU ab (ps.map bs)=some (.inr (false,((ps.map bs).length:Int))):=by
  show bV (λi z a=>(sH ab (ps.map bs) i z a).val) (λi a=>(rA ab (ps.map bs) i a).val) 0 (ps.map bs) ()=_;rw[od (g:=λa _=>a)]
  ·unfold rA;simp
  ·intro i z a e;obtain⟨p,hp,rfl⟩:=ζC.1 e;unfold sH;have:=ξv.1 d p hp;simp only[T.aI,T.aS,T.aH,v175 (h p hp).1 (h p hp).2,this,β];rfl
 rw[b,c];cases (il (bs (tx ps))).2==0<;>cases decide (ps.length<=4)<;>rfl
def fc (d:Γ):List (Γ):=d.foldl fx []
theorem Ni (t:Γ):fc (47::t)=wd t::fc (rs t):=by
 unfold fc;rw[tS,ζi,tR (rs t).length (rs t) _ (ξa _) (oe t)];rfl
theorem u0: ∀(k:Nat) (r:Γ),r.length<=k->(r=[]\/ ∃t,r=47::t)->jt (fc r)=r
 |_,[],_,_=>rfl
 |0,x::r,hk,_=>by simp at hk
 |k+1,x::t,hk,c=>by
  rcases c with b|⟨t',e⟩
  ·cases b
  cases e;have hlen:(rs t).length<=t.length:=(ξj _).length_le;simp only[ξc] at hk;have a:=u0 k (rs t) (by omega) (oe t);rw[Ni];unfold jt at a ⊢;rw[ξz,List.flatten_cons,a];show 47::(wd t++rs t)=_;rw[Qk]
theorem PB {d:Γ} (h: ∀x∈d,x<256):((bs d).toList==(ξ0 #[47]).toList)=decide (d=[47]):=by
 have a: ∀x:ByteArray,x.toList=x.data.toList:=λx=>ζn x;rw[a,a,κ];simp only[beq_iff_eq,decide_eq_true_eq];constructor
 ·intro e;have e:d.map ξn=[47]:=by simpa[bs] using e
  obtain⟨x,rfl⟩:=List.length_eq_one_iff.1 (by simpa using congrArg ζ5 e);have b:=h x (by simp);simp at e;have:=congrArg ζM e;simp at this;rw[show x=47 by omega]
 ·rintro rfl;rfl
def nB (d:Γ):Bool:=decide (d=[47])||(match d with|47::_=>(fc d).all fl&&decide ((fc d).length<=4)|_=>false)
def cA (w:Int):Bool:=(hg 8 w.toNat==0)&&nB (dg 8 w.toNat)
def EU (d:Γ):List (Γ):=if d=[47] then[] else fc d
def c4 (w:Int):List (Γ):=EU (dg 8 w.toNat)
theorem aaw {ps:List (Γ)} {p:Γ} {x:Nat} (hp:p∈ps) (a:x∈p):x∈jt ps:=by
 unfold jt;rw[List.mem_flatten];exact⟨47::p,ζC.2 ⟨p,hp,rfl⟩,ξ4 _ a⟩
theorem KR: ∀ {ps:List (Γ)} {p:Γ},p∈ps->p.length+1<=(jt ps).length
 |q::ps,p,h=>by
  have e:(jt (q::ps)).length=q.length+1+(jt ps).length:=by simp[jt];omega
  rcases ξB.1 h with rfl|h
  ·omega
  ·have:=KR h;omega
theorem DU: ∀(ps:List (Γ)),ps.length<=(jt ps).length
 |[]=>by simp
 |q::ps=>by
  have e:(jt (q::ps)).length=q.length+1+(jt ps).length:=by simp[jt];omega
  have:=DU ps;simp only[ξc];omega
theorem KQ (ps q:List (Γ)):jt (ps++q)=jt ps++jt q:=by simp[jt]
theorem Mu {d:Γ} (b: ∀x∈d,x<256) (hl:d.length<=8) (c: ∃t,d=47::t) {p:Γ} (hp:p∈fc d):(∀x∈p,x<256)/\p.length<=100:=by
 have a:=u0 d.length d (ξa _) (.inr c);refine⟨λx e=>b x (by rw[<-a];exact aaw hp e),?_⟩;have:=KR hp;rw[a] at this;omega
theorem aeJ:il (bs (tx []))=(47,0):=BJ (l:=[47]) (by simp) (by simp)
theorem P5:jy ab []=some (47,true):=by
 have:=wX (ps:=[]) rfl (by simp) (by simp[tx]) (by simp);rw[ξV] at this;rw[this,aeJ];rfl
theorem wS {α:Type} {w:Int} {ps:List ByteArray} {b:Bool} {s0:α} {r:Int×Bool} (c:jy ab ps=some r):(T.bd (jy ab ps) λa=>.bf (!b) (.ok (ja.mk [] 0,false))<|.bf (!a.2) (.ok (ja.mk [] 0,false))<|.bf (a.1 !=w) (.ok (ja.mk [] 0,false))<|.ok (ja.mk ps w,true):T (ja×Bool)).val=some (bif b&&(r.2&&r.1==w) then⟨ps,w⟩ else⟨[],0⟩,b&&(r.2&&r.1==w)):=by
 rw[T.aS,c,β];simp only[T.aI,T.aH];have e:(r.1 !=w)=!(r.1==w):=rfl;rw[e];cases b<;>cases r.2<;>cases r.1==w<;>rfl
theorem v131 {n:Nat} (h:n<18446744073709551616):lF ab (n:Int)=some (bif cA (n:Int) then⟨(c4 (n:Int)).map bs,(n:Int)⟩ else⟨[],0⟩,cA (n:Int)):=by
 show(AD ab (n:Int)).val=_;unfold AD cA c4;simp only[T.aS,T.aI,T.aH,T.bL,P2 h,β,ι]
 by_cases f:hg 8 n=0
 rotate_left
 ·rw[if_neg f];have e:(hg 8 n==0)=false:=by simp[f]
  rw[e];rfl
 rw[if_pos f,f];simp only[show((0:Int) !=0)=false from rfl,cond_false,Cf,beq_self_eq_true,φ];have g:=Ca n;have hl:=pF 8 n;have r:=ER 8 n;rw[f,ηi,ξy] at r;have K:=th 8 n;generalize dg 8 n=d at*
 cases d with
 |nil=>rfl
 |cons x t=>
  simp only[List.isEmpty_cons,cond_false]
  by_cases s:x=47
  ·subst s;cases t with
   |nil=>
    have hn:(n:Int)=47:=by simp[pk] at r;omega
    have c:mz ab (bs [47]) (n:Int) true (bs [47]) []=some (.inl (true,bs [47],[])):=by
     show cf (λa=>(gy ab (bs [47]) (n:Int) a).val) 1000000 (true,bs [47],[])=_;rw[show(1000000:Nat)=999999+1 from rfl,eI];have:(gy ab (bs [47]) (n:Int) (true,bs [47],[])).val=some (.inr (.inl (true,bs [47],[]))):=by
      have u:decide (((bs [47]).size:Int)>=1)=true:=decide_eq_true (by rw[eY];simp);have c1:eZ (bs [47]) none (some 1)=some (bs [47]):=iw (l:=[47]) (i:=0) (j:=1) (by omega) (by simp) rfl rfl;have c2:eZ (bs [47]) (some 1) none=some (bs []):=iw (l:=[47]) (i:=1) (j:=1) (by omega) (by simp) rfl (by rw[eY];simp);have H:eZ (bs [47]) (some 1) (some ((bs [47]).size:Int))=some (bs []):=iw (l:=[47]) (i:=1) (j:=1) (by omega) (by simp) rfl (by rw[eY];simp);have v:((bs [47]).toList==(ξ0 #[47]).toList)=true:=by
       have:bs [47]=ξ0 #[47]:=rfl;rw[this];exact beq_self_eq_true _
      unfold gy;simp only[T.aI,T.aS,T.aH];rw[u,c1];simp only[cond_true,β];rw[v,c2];simp only[cond_true,β];rw[DE [] (by simp),if_pos (show rs []=[] from rfl),show(γ.wrap (-1+1)==0)=true from rfl];simp only[cond_true];rw[H];simp only[β]
     rw[this];rfl
    rw[c];simp only[β,T.cN];refine(wS (s0:=()) (b:=true) (w:=(n:Int)) P5).trans ?_;rw[hn];rfl
   |cons y t=>
    have D:decide (47::y::t=[47])=false:=decide_eq_false (by simp);have F:=PB g;rw[D] at F;have k:=u0 _ (47::y::t) (ξa _) (.inr ⟨_,rfl⟩);have B:nB (47::y::t)=((fc (47::y::t)).all fl&&decide ((fc (47::y::t)).length<=4)):=by
     unfold nB;rw[D];rfl
    rw[B];have C:=P7 (w:=(n:Int)) F (47::y::t).length (999999-(47::y::t).length) (47::y::t) [] (ξa _) g (by simp at hl ⊢;omega) rfl (.inr ⟨_,rfl⟩);rw[show(47::y::t).length+1+(999999-(47::y::t).length)=1000000 by omega] at C;have E: ∀p∈fc (47::y::t),(∀x∈p,x<256)/\p.length<=100:=λp hp=>Mu g hl ⟨_,rfl⟩ hp;have J:=DU (fc (47::y::t));rw[k] at J;rcases C with⟨h1,b,s0,A⟩|⟨h1,s0,ps,I,⟨q,o⟩,A⟩
    ·have c:mz ab (bs (47::y::t)) (n:Int) true (bs (47::y::t)) []=some (.inr (b,s0,true,(fc (47::y::t)).map bs)):=A;have h1:(fc (47::y::t)).all fl=true:=h1;rw[c,h1];simp only[β,T.cN];have G:tx (fc (47::y::t))=47::y::t:=by
      rw[Ni] at k ⊢;exact k
     have m:=wX h1 E (by rw[G];omega) (by omega);rw[G,BJ K hl,r] at m;refine(wS (s0:=()) (b:=true) (w:=(n:Int)) m).trans ?_;rw[show EU (47::y::t)=fc (47::y::t) from if_neg (by simp)];simp
    ·have c:mz ab (bs (47::y::t)) (n:Int) true (bs (47::y::t)) []=some (.inl (false,s0,ps.map bs)):=A;have h1:(fc (47::y::t)).all fl=false:=h1;have o:fc (47::y::t)=ps++q:=by simpa[fc] using o
     rw[c,h1];simp only[β,T.cN];have M:(jt ps).length<=8:=by
      rw[o,KQ] at k;have:=congrArg ζ5 k;rw[ν] at this;omega
     have m:=wX I (λp hp=>E p (by rw[o];exact ξN _ hp)) (by
      cases ps with
      |nil=>simp[tx]
      |cons a b=>show(jt (a::b)).length<=500;omega) (by have:=DU ps;omega)
     exact wS (s0:=()) (b:=false) (w:=(n:Int)) m
  ·have B:nB (x::t)=false:=by
    unfold nB;rw[decide_eq_false (by simp;intro e;exact absurd e s),ξp];split
    ·rename_i h;cases h;exact absurd rfl s
    ·rfl
   have c:mz ab (bs (x::t)) (n:Int) true (bs (x::t)) []=some (.inr (false,bs (x::t),true,[])):=by
    show cf (λa=>(gy ab (bs (x::t)) (n:Int) a).val) 1000000 (true,bs (x::t),[])=_;rw[show(1000000:Nat)=999999+1 from rfl,eI];have:(gy ab (bs (x::t)) (n:Int) (true,bs (x::t),[])).val=some (.inr (.inr (false,bs (x::t),true,[]))):=by
     have u:decide (((bs (x::t)).size:Int)>=1)=true:=decide_eq_true (by rw[eY];simp;omega);have c1:eZ (bs (x::t)) none (some 1)=some (bs [x]):=iw (i:=0) (j:=1) (by omega) (by simp) rfl rfl;have v:((bs [x]).toList==(ξ0 #[47]).toList)=false:=by
      rw[PB (λz L=>by have:z=x:=by simpa using L
                      subst this;exact g z τ)]
      exact decide_eq_false (by simp;exact s)
     unfold gy;simp only[T.aI,T.aS,T.aH];rw[u,c1];simp only[cond_true,β];rw[v];rfl
    rw[this];rfl
   rw[c,B];simp only[β,T.cN];refine(wS (s0:=()) (b:=true) (w:=(n:Int)) P5).trans ?_;have hn:((47:Int)==(n:Int))=false:=by
    have N:=g x τ;simp[pk] at r;simp;omega
   rw[hn];rfl
theorem v96 {n:Nat} (h:n<18446744073709551616):pL ab (n:Int)=some (bif cA (n:Int) then 0 else 310):=by
 show(Ay ab (n:Int)).val=_;unfold Ay;simp only[T.aS,T.aI,T.aH,v131 h,β];cases cA (n:Int)<;>rfl
theorem Nh {w:Int} (h:dd w):Am w (cA w):=by
 obtain⟨n,rfl⟩:=ζ8 h.1;have hn:n<18446744073709551616:=by have:=h.2;omega
 exact v96 hn
abbrev fN (α:Type):=Except Int α
def b3 {α:Type} (lt:α->Bool) (x:α) (l:List α):List α:=l.takeWhile lt++x::l.dropWhile lt
def h0 (p:bI):Option Nat:=(ξi 16).find? λi=>!(p.ag.any λx=>ix x.aa==(i:Int)+1)&&decide (aE p.aM i<=65535)
def dB (p:bI) (i:Nat):Int:=aE p.aM i*64+i+1
def iV (p:bI) (parent:Int):fN (bI×Int):=
 bif b7 p.ag parent then match h0 p with
  |some i=>.ok (⟨p.aM.set i (aE p.aM i+1),b3 (λy=>decide (ix y.aa<=i+1)) ⟨dB p i,parent,false,0⟩ p.ag⟩,dB p i)
  |none=>.error 322
 else .error 321
def gf (pid code:Int) (y:ah):Option ah:=bif y.aa==pid then bif y.aW==0 then none else some ⟨y.aa,y.aW,true,code⟩ else bif y.aW==pid then bif y.bp then none else some ⟨y.aa,0,y.bp,y.cg⟩ else some y
def iA (p:bI) (pid code:Int):fN bI:=bif b7 p.ag pid then bif pid==1 then .error 323 else .ok ⟨p.aM,p.ag.filterMap (gf pid code)⟩ else .error 321
def i_ (p:bI) (pid child:Int):fN (bI×Int):=
 bif b7 p.ag pid then match ft p.ag child with
  |some x=>bif x.aW==pid then bif x.bp then .ok (⟨p.aM,p.ag.filter λy=>!(y.aa==child)⟩,x.cg) else .error 322 else .error 324
  |none=>.error 324
 else .error 321
def dc (l:List aj) (pid fd:Int):Option Int:=(l.find? λd=>d.aa==pid&&d.bF==fd).map aj.cp
def hC (l:List aj) (pid:Int):Option Nat:=(ξi 8).find? λ(i:Nat)=>(dc l pid i).isNone
def hL (l:List aj) (pid bC:Int):fN (List aj×Int):=
 match hC l pid with
 |some i=>bif l.length==64 then .error 6 else .ok (b3 (λy=>dH y ⟨pid,i,bC⟩) ⟨pid,i,bC⟩ l,i)
 |none=>.error 6
def hA (l:List aj) (pid fd:Int):fN (List aj×Int):=
 match dc l pid fd with
 |some bC=>hL l pid bC
 |none=>.error 4
def gW (l:List aj) (pid fd:Int):fN (List aj):=
 match dc l pid fd with
 |some _=>.ok (l.filter λd=>!(d.aa==pid&&d.bF==fd))
 |none=>.error 4
def pG (l:List aj) (pid:Int):List aj:=l.filter λd=>!(d.aa==pid)
def lC (l:List aj) (bC:Int):Nat:=(l.filter λd=>d.cp==bC).length
def di (m:bR) (w:Int):Option Int:=(m.ag.find? λx=>x.bl==w).map av.a6
def q3 (ps:List (Γ)):Int:=(il (bs (tx ps))).1
def mN (a b:Int):Bool:=cA a&&(cA b&&(c4 a).isPrefixOf (c4 b))
def ih (m:bR) (w:Int):fN (bR×Int):=
 bif cA w then match di m w with
  |some _=>.error 5
  |none=>bif m.ag.length==16||decide (m.bm>1073741824) then .error 6 else .ok (⟨m.ag++[⟨w,m.bm⟩],m.bm+1⟩,m.bm)
 else .error 310
def iO (m:bR) (w:Int):fN Int:=
 bif cA w then match di m w with
  |some i=>.ok i
  |none=>.error 4
 else .error 310
def kd (m:bR) (w:Int):Bool:=m.ag.any λx=>!(x.bl==w)&&mN w x.bl
def iY (m:bR) (w:Int):fN bR:=
 bif cA w then match di m w with
  |some _=>bif kd m w then .error 341 else .ok ⟨m.ag.filter λx=>!(x.bl==w),m.bm⟩
  |none=>.error 4
 else .error 310
def mi (w:Int):Γa:=(ξi ((c4 w).length+1)).reverse.map λk=>q3 ((c4 w).take k)
def wW (m:bR) (w:Int):Option Int:=(mi w).findSome? (di m)
def fV (m:bR) (w:Int):fN Int:=
 bif cA w then match wW m w with
  |some i=>.ok i
  |none=>.error 4
 else .error 310
def fq (l:List aw) (n:Int):Option Int:=(l.find? λz=>z.bb==n).map aw.aa
def iS (s:aO) (n pid:Int):fN aO:=
 bif eD n then bif ec pid then match fq s.ax n with
  |some _=>.error 5
  |none=>bif s.ax.length==16 then .error 6 else .ok ⟨b3 (λy=>decide (y.bb<n)) ⟨n,pid⟩ s.ax,s.au⟩
 else .error 2 else .error 351
def gH (s:aO) (n:Int):fN Int:=
 bif eD n then match fq s.ax n with
  |some p=>.ok p
  |none=>.error 4
 else .error 351
def qY (s:aO) (n:Int):aO:=⟨s.ax.filter λy=>!(y.bb==n),s.au⟩
def ku (s:aO) (pid:Int):Γa:=(s.ax.filter λy=>y.aa==pid).map aw.bb
def dq (s:aO) (pid:Int):Γa:=match s.au.find? λb=>b.aa==pid with|some b=>b.bc|none=>[]
def fK (s:aO) (pid:Int) (ws:Γa):aO:=
 ⟨s.ax,(s.au.filter λb=>decide (b.aa<pid))++((if ws=[] then[] else[⟨pid,ws⟩])++s.au.filter λb=>decide (pid<b.aa))⟩
def kU (s:aO) (pid w:Int):fN aO:=bif (dq s pid).length==4 then .error 322 else .ok (fK s pid (dq s pid++[w]))
def kQ (s:aO) (pid:Int):fN (aO×Int):=
 match dq s pid with
 |w::r=>.ok (fK s pid r,w)
 |[]=>.error 322
def lY (c:cJ):Bool:=c.bq==9||c.bq==12
def nE (s:aZ) (k p a b:Int):fN (aZ×Int):=
 if k=1 then match iV s.az p with| .ok (q,v)=>.ok (⟨q,s.aQ,s.aF,s.aA⟩,v)| .error e=>.error e
 else if k=2 then match iA s.az p a with
  | .ok q=>if ku s.aA p=[] then .ok (⟨q,pG s.aQ p,s.aF,fK s.aA p []⟩,0) else .error 341
  | .error e=>.error e
 else if k=3 then match i_ s.az p a with| .ok (q,v)=>.ok (⟨q,s.aQ,s.aF,s.aA⟩,v)| .error e=>.error e
 else if k=4 then match fV s.aF a with
  | .ok i=>match hL s.aQ p i with| .ok (l,v)=>.ok (⟨s.az,l,s.aF,s.aA⟩,v)| .error e=>.error e
  | .error e=>.error e
 else if k=5 then match gW s.aQ p a with| .ok l=>.ok (⟨s.az,l,s.aF,s.aA⟩,0)| .error e=>.error e
 else if k=6 then match hA s.aQ p a with| .ok (l,v)=>.ok (⟨s.az,l,s.aF,s.aA⟩,v)| .error e=>.error e
 else if k=7 then match ih s.aF a with| .ok (m,v)=>.ok (⟨s.az,s.aQ,m,s.aA⟩,v)| .error e=>.error e
 else if k=8 then match iO s.aF a with
  | .ok i=>if lC s.aQ i=0 then match iY s.aF a with| .ok m=>.ok (⟨s.az,s.aQ,m,s.aA⟩,0)| .error e=>.error e else .error 341
  | .error e=>.error e
 else if k=9 then match fV s.aF a with| .ok i=>.ok (s,i)| .error e=>.error e
 else if k=10 then match iS s.aA a p with| .ok i=>.ok (⟨s.az,s.aQ,s.aF,i⟩,0)| .error e=>.error e
 else if k=11 then match gH s.aA a with
  | .ok q=>if q=p then .ok (⟨s.az,s.aQ,s.aF,qY s.aA a⟩,0) else .error 362
  | .error e=>.error e
 else if k=12 then match gH s.aA a with| .ok q=>.ok (s,q)| .error e=>.error e
 else if k=13 then bif b7 s.az.ag a then match kU s.aA a b with| .ok i=>.ok (⟨s.az,s.aQ,s.aF,i⟩,0)| .error e=>.error e else .error 4
 else match kQ s.aA p with| .ok (i,v)=>.ok (⟨s.az,s.aQ,s.aF,i⟩,v)| .error e=>.error e
def ly (s:aZ) (c:cJ):fN (aZ×Int):=
 if 1<=c.bq/\c.bq<=14 then bif lY c||b7 s.az.ag (aE c.fArgs 0) then nE s c.bq (aE c.fArgs 0) (aE c.fArgs 1) (aE c.fArgs 2) else .error 321
 else .error 361
def hz (s:aZ) (c:cJ):aZ×cV:=
 match ly s c with
 | .ok (n,v)=>(n,⟨0,v⟩)
 | .error e=>(s,⟨e,0⟩)
end Go.Proofs.YtoggponeookhbaaGreatDoor
end
