/- A part of the proof that ModelDoes returns true for every input: the machine of values, its soundness, the program as plain functions, the law. Conditions: those of the given rows. -/
import Derived.Test.YtdhaaaeffhaadaaGreatDoorD3
set_option linter.unusedVariables false
set_option linter.unusedSimpArgs false
noncomputable section
set_option maxRecDepth 1000000
set_option maxHeartbeats 12000000
open Array renaming getD_eq_getD_getElem?→η,length_toList→υ,getElem?_setIfInBounds_ne→ψ,getElem?_eq_getElem→ω,all_eq_true_iff_forall_mem→ξ5,toArray_toList→ξs,getElem?_modify→ξM,replicate→ζ9
open Bool renaming true_and→ξ7,false_or→ξt,not_true→ξF,not_false→ξQ,not_eq_true'→ξX,eq_false_iff→ζ0,true_or→ζ2,and_eq_true→ζ7,eq_iff_iff→ζg,or_false→ζm,and_true→ζr,or_true→ζs
open ByteArray renaming mk→ξ4
open Go.Builtin renaming zeroCells→φ,append_→ζe,clear_→ζi
open Go.IntKind renaming i64→γ,u64→ζ,signed→ζk,wrap→ζI,bits→ζJ
open Go.Proofs.Tryz renaming prog→β,func118→ξJ,f262→ξK,func262→ζ1,f118→ζ8,f154→ζf,f42→ζp,f10→ζq,func119→ζv,func120→ζw,func121→ζx,func198→ζB,func197→ζC,func241→ζD,f116→ζE,f200→ζF,f164→ζG,f152→ζH,func75→ζL,func76→ζM,func78→ζN,func30→ζP,f31→ζQ,f63→ζR,f40→ζS,f43→ζT
open Go.Region renaming ready→ζ3
open Go.Result renaming andThen_ok→ξd
open Go.Sem renaming run_bind→ξh,run_pure→ξL
open Go.Value renaming oneCell'→ξ,int→ζc,agg→ζA,slice→ζO
open Go.World renaming setRow→ζz
open Int renaming toNat_natCast→κ,tdiv_eq_ediv_of_nonneg→ξz,natCast_nonneg→ξS
open List renaming getElem?_eq_some_iff→ε,getElem?_eq_getElem→θ,getElem?_append_left→μ,length_append→ν,length_map→ρ,mem_cons_self→ξ0,all_eq_true→ξ2,take_append_drop→ξ3,mem_of_getElem?→ξ6,getElem?_cons_zero→ξ8,take_append_of_le_length→ξ9,getElem?_zipWith→ξa,mem_append_right→ξb,getElem?_append_right→ξe,mem_or_eq_of_mem_set→ξf,range'→ξg,mem_append→ξi,append_assoc→ξk,zipWith→ξn,drop_append_of_le_length→ξo,filter_cons→ξp,length_drop→ξq,length_take→ξr,mem_filter→ξv,toList_toArray→ξw,take_left'→ξx,length_set→ξy,getElem?_drop→ξA,mem_of_find?_eq_some→ξB,nodup_append→ξD,size_toArray→ξE,map_toArray→ξG,take_of_length_le→ξI,mem_cons_of_mem→ξO,range_eq_range'→ξP,map_cons→ξR,map_take→ξT,find?_eq_none→ξU,any_eq_false→ξW,take_add_one→ξY,find?→ξZ,map_nil→ζ5,map_append→ζb,length→ζd,find?_some→ζh,drop_drop→ζj,mem_cons→ζn,map_drop→ζo,map_set→ζy
open Nat renaming lt_of_lt_of_le→δ,le_trans→ι,zero_add→χ,ble_eq_true_of_le→ξc,le_refl→ξj,le_of_ble_eq_true→ξl,eq_of_beq_eq_true→ξm,beq→ξu,lt_succ_self→ξH,add_sub_cancel→ξV,lt_or_ge→ζ4,add_zero→ζ6,beq_refl→ζt,sub_self→ζu,blt→ζK
open Option renaming bind_some→ο,map_some→τ,getD_some→ξ1,map_none→ξN,map→ζl
open Option.some renaming injEq→ξC,inj→ζa
section
namespace Go.Proofs.YtdhaaaeffhaadaaGreatDoor
open Go.RowKit Go.Dc Go.Vx
variable (U:Sh)
def wz (a:List av) (p1:List aq) (p2 p3 p4:Int) (p5:Γa):AS SS:=⟨[(0,vs .c_),(2,va 3 0),(7,vd 31 a),(8,vi p3),(9,vi p4)],[bX 76 [.own 4],some (.bA 122 [] [.one (.bl 2 0),.one (.bl 3 0)]),bX 34 [.aG 31 a,.aG 32 p1],bX 28 [lu p2],rX 28 p5],4,some ⟨⟨ζQ,ay 31⟩,[13],eW (ct ζQ) 7,eX (ct ζQ) 7,[(5,va 0 0),(12,vc 1)],none⟩,false,[],[0]⟩
def oO (U:Sh) (b:List av) (p1:List aq) (p2 p3:Int) (a:Int×Γa):T ((Int×Γa)⊕(Bool×Int×Γa)):=.bf (decide (a.1<p3)) (.bd (idx b a.1) λz0=>.bf (z0.aa==p2) (.bd (app 8 a.2 [z0.aY]) λc=>.ok (.inl (γ.wrap (a.1+1),c)))<|.ok (.inl (γ.wrap (a.1+1),a.2)))<|.ok (.inr (decide (a.1<p3),a.1,a.2))
def B9 (a:List av) (p1:List aq) (p2 p3 p4:Int) (p5:Γa):=bU U (oO U a p1 p2 p3) 1000000 (p4,p5)
def YZ {R} (k:KX SS R) (a:List av) (p1:List aq) (p2 p3:Int) (x:(Bool×Int×Γa)):Option R:=(λv=>k (.exit 0) {wz a p1 p2 p3 p2 v.2.2 with env:=[(10,vb v.1),(0,vs .c_),(2,va 3 0),(7,vd 31 a),(8,vi p3),(9,vi v.2.1)]}) x
def Py:a7 SS:=hs (λst=>gc (ay 122 2) (gn [0] (eb 0 0 28 (st))))<|bc 2 (λst=>((dd st 1 122).bind λ_=>gv st 19 7).bind λ_=>(ez 31 (c9 st 7 0)).bind λa=>(ez 32 (dQ st 2 1)).bind λp1=>(db (dQ st 3 0)).bind λp2=>(db (c9 st 8 0)).bind λp3=>(db (c9 st 9 0)).bind λp4=>(eh st 4 28).bind λp5=>some (a,p1,p2,p3,p4,p5)) (u6 wz) (u6 (B9 shut)) (λk=>w4 (YZ k))
theorem afu:LS KK β ay Tryz.f122 122 2 Py:=aW.pre (b5.comp (b5.gc (ay 122 2)) (b5.comp (b5.gn [0]) (b5.eb 0 0 28)))<|
 aW.bU (π:=List av×List aq×Int×Int×Int×Γa) (σ:=Int×Γa) (aj.all Av rfl) (aO.nil) rfl 60 (λp a=>w4 wz p a.1 a.2) (λp=>(p.2.2.2.2.1,p.2.2.2.2.2)) (St:=w4 (oO shut)) (λp=>1000000) (λp=>rfl)
  (λm p a k=>by kernel_rfl)
def Xb:=bo (Au shut) ay Tryz.f122 122 [Py]
theorem Xc:aX Xb β:=bw (aj.all Av rfl) Tryz.func122 rfl aU (by kernel_rfl) afu
def ES (s:aC) (pid:Int):T (Γa):=.bd (jU U s) λa=>.bf (a !=0) (.ok [])<|.gd (wz s.an s.ak pid ((↑s.an.length:Int)) 0 [])<|.bd (B9 U s.an s.ak pid ((↑s.an.length:Int)) 0 []) λb=>.ok b.2.2
def vZ (s:aC) (pid:Int):=U.s _ (ES U s pid).val
def Bi:=a_ (bY KK 31 34 28 (vZ U) (bD KK 76)) (Au U)
theorem Bj:aj (Bi shut) β:=bZ (rs:=[76]) Av Xc rfl rfl λs pid k=>by kernel_rfl
def wx (a:List aq) (p1:List av) (p2 p3:Int) (p4:List aq):AS SS:=⟨[(5,va 0 0),(20,vd 32 a),(21,vi p2),(22,vi p3)],[bX 128 [.own 1,.own 2],rX 93 p1,rX 82 p4],0,none,false,[],[]⟩
def MN (U:Sh) (b:List aq) (p1:List av) (p2:Int) (a:Int×List aq):T ((Int×List aq)⊕(Bool×Int×List aq)):=.bf (decide (a.1<p2)) (.bd (idx b a.1) λz0=>.bd (app 8 [] z0.a6) λc=>.bd (app 32 a.2 [aq.mk z0.aa c]) λz2=>.ok (.inl (γ.wrap (a.1+1),z2)))<|.ok (.inr (decide (a.1<p2),a.1,a.2))
def B7 (a:List aq) (p1:List av) (p2 p3:Int) (p4:List aq):=bU U (MN U a p1 p2) 1000000 (p3,p4)
def YV {R} (k:KX SS R) (a:List aq) (p1:List av) (p2:Int) (x:(Bool×Int×List aq)):Option R:=(λv=>k (.exit 0) {wx a p1 p2 p2 v.2.2 with env:=[(23,vb v.1),(5,va 0 0),(20,vd 32 a),(21,vi p2),(22,vi v.2.1)]}) x
def Pu:a7 SS:=hs (λst=>gc (ay 118 7) (eb 0 1 82 (st)))<|bc 7 (λst=>(ez 32 (c9 st 20 0)).bind λa=>(eh st 1 93).bind λp1=>(db (c9 st 21 0)).bind λp2=>(db (c9 st 22 0)).bind λp3=>(eh st 2 82).bind λp4=>some (a,p1,p2,p3,p4)) (u5 wx) (u5 (B7 shut)) (λk=>w3 (YV k))
theorem afq:LS KK β ay ζ8 118 7 Pu:=aW.pre (b5.comp (b5.gc (ay 118 7)) (b5.eb 0 1 82))<|
 aW.bU (π:=List aq×List av×Int×Int×List aq) (σ:=Int×List aq) (aj.all Bj rfl) (aO.nil) rfl 60 (λp a=>w3 wx p a.1 a.2) (λp=>(p.2.2.2.1,p.2.2.2.2)) (St:=w3 (MN shut)) (λp=>1000000) (λp=>rfl)
  (λm p a k=>by kernel_rfl)
def xb (a:Int) (p1:List av) (p2 p3:Int):AS SS:=⟨[(0,vo 0),(1,vu a),(2,vc 1),(8,vl p1),(9,vi p2),(10,vi p3)],[rX 93 p1,some (.bA 263 [] [.one (.bl 2 0)]),bX 276 [.v (.func (.func 239) (.mk []) (.mk []))]],3,none,false,[],[]⟩
def o3 (b:Int) (p1:List av) (a:Int×Int):T ((Int×Int)⊕(Bool×Int×Int)):=.bf (decide (a.1<a.2)) (.bd (idx p1 (γ.wrap ((ζ.wrap (γ.wrap (a.1+a.2))).fdiv 2))) λz0=>.bd (p1[(γ.wrap ((ζ.wrap (γ.wrap (a.1+a.2))).fdiv 2)).toNat]?) λd=>.bd (ik U d.aY b) λc=>.bf (decide (c<0)) (.ok (.inl (γ.wrap (γ.wrap ((ζ.wrap (γ.wrap (a.1+a.2))).fdiv 2)+1),a.2)))<|.ok (.inl (a.1,γ.wrap ((ζ.wrap (γ.wrap (a.1+a.2))).fdiv 2))))<|.ok (.inr (decide (a.1<a.2),a.2,a.1))
def CY (a:Int) (p1:List av) (p2 p3:Int):=bU U (o3 U a p1) 1000000 (p2,p3)
def ZU {R} (k:KX SS R) (a:Int) (p1:List av) (x:(Bool×Int×Int)):Option R:=(λv=>k (.exit 0) {xb a p1 a a with env:=[(17,vb v.1),(16,vi v.2.1),(15,vi v.2.2),(0,vo 0),(1,vu a),(2,vc 1),(8,vl p1),(9,vi v.2.2),(10,vi v.2.1)]}) x
def Qo:a7 SS:=bc 4 (gq (λst=>dd st 1 263) (sq (sI 1) (sq (hR 0 93) (sq (sI 9) (sI 10))))) (u4 xb) (u4 (CY shut)) (λk p=>ZU k p.1 p.2.1)
def KT:=bo (Bi shut) ay ζ8 118 [Pu]
theorem KU:aX KT β:=bw (aj.all Bj rfl) ξJ rfl aU (by kernel_rfl) afq
theorem agj:LS KK β ay ξK 262 4 Qo:=
 aW.bU (π:=Int×List av×Int×Int) (σ:=Int×Int) KU (aO.nil) rfl 60 (λp a=>xb p.1 p.2.1 a.1 a.2) (λp=>(p.2.2.1,p.2.2.2)) (St:=λp=>o3 shut p.1 p.2.1) (λp=>1000000) (λp=>rfl)
  (λm p a k=>by kernel_rfl)
def WK:=bo KT ay ξK 262 [Qo]
theorem WL:aX WK β:=bw KU ζ1 rfl aU (by kernel_rfl) agj
def Ey (s:aC) (name pid:Int):T (aC×Int):=.bd (jU U s) λd=>.bf (d !=0) (.bf (d !=0) (.ok (⟨[],[]⟩,d))<|.bd (jW U name) λf=>.bf (!f) (.ok (⟨[],[]⟩,351))<|.bd (nF U pid) λc=>.bf (!c) (.ok (⟨[],[]⟩,2))<|.no)<|.bd (app 16 [] s.an) λa=>.gd (wx s.ak a ((↑s.ak.length:Int)) 0 [])<|.bd (B7 U s.ak a ((↑s.ak.length:Int)) 0 []) λc=>.bd (jW U name) λg=>.bf (!g) (.ok (⟨[],[]⟩,351))<|.bd (nF U pid) λh=>.bf (!h) (.ok (⟨[],[]⟩,2))<|.gd (xb name a 0 (↑a.length:Int))<|.bd (CY U name a 0 ((↑a.length:Int))) λb=>.bf (decide (b.2.2<(↑a.length:Int))) (.bd (idx a b.2.2) λe=>.bd (a[b.2.2.toNat]?) λj=>.bd (ik U j.aY name) λi=>.bf (i==0) (.ok (⟨[],[]⟩,5))<|.bf ((↑a.length:Int)==16) (.ok (⟨[],[]⟩,6))<|.bd (nP a b.2.2 [av.mk name pid]) λz9=>.ok (⟨z9,c.2.2⟩,0))<|.bf ((↑a.length:Int)==16) (.ok (⟨[],[]⟩,6))<|.bd (nP a b.2.2 [av.mk name pid]) λe=>.ok (⟨e,c.2.2⟩,0)
def vP (s:aC) (name pid:Int):=U.s _ (Ey U s name pid).val
def AI:=a_ (fV KK 194 34 28 28 (vP U) (ea KK 34 40)) (Bi U)
theorem AJ:aj (AI shut) β:=gI (rs:=[34,40]) Bj WL rfl rfl λs name pid k=>by kernel_rfl
def xd (a:List av) (p1 p2 p3:Int):AS SS:=⟨[(0,vd 31 a),(1,vu p1),(2,vc 0),(8,vl a),(9,vi p2),(10,vi p3)],[some (.bA 263 [] [.one (.bl 1 0)]),bX 276 [.v (.func (.func 239) (.mk []) (.mk []))]],2,none,false,[],[]⟩
def o5 (b:List av) (p1:Int) (a:Int×Int):T ((Int×Int)⊕(Bool×Int×Int)):=.bf (decide (a.1<a.2)) (.bd (idx b (γ.wrap ((ζ.wrap (γ.wrap (a.1+a.2))).fdiv 2))) λz0=>.bd (ik U z0.aY p1) λc=>.bf (decide (c<0)) (.ok (.inl (γ.wrap (γ.wrap ((ζ.wrap (γ.wrap (a.1+a.2))).fdiv 2)+1),a.2)))<|.ok (.inl (a.1,γ.wrap ((ζ.wrap (γ.wrap (a.1+a.2))).fdiv 2))))<|.ok (.inr (decide (a.1<a.2),a.2,a.1))
def C0 (a:List av) (p1 p2 p3:Int):=bU U (o5 U a p1) 1000000 (p2,p3)
def ZW {R} (k:KX SS R) (a:List av) (p1:Int) (x:(Bool×Int×Int)):Option R:=(λv=>k (.exit 0) {xd a p1 p1 p1 with env:=[(17,vb v.1),(16,vi v.2.1),(15,vi v.2.2),(0,vd 31 a),(1,vu p1),(2,vc 0),(8,vl a),(9,vi v.2.2),(10,vi v.2.1)]}) x
def Qq:a7 SS:=bc 4 (gq (λst=>dd st 0 263) (sq (sD 31 0) (sq (sI 1) (sq (sI 9) (sI 10))))) (u4 xd) (u4 (C0 shut)) (λk p=>ZW k p.1 p.2.1)
theorem agl:LS KK β ay ξK 262 4 Qq:=
 aW.bU (π:=List av×Int×Int×Int) (σ:=Int×Int) (aj.all AJ rfl) (aO.nil) rfl 60 (λp a=>xd p.1 p.2.1 a.1 a.2) (λp=>(p.2.2.1,p.2.2.2)) (St:=λp=>o5 shut p.1 p.2.1) (λp=>1000000) (λp=>rfl)
  (λm p a k=>by kernel_rfl)
def WR:=bo (AI shut) ay ξK 262 [Qq]
theorem WS:aX WR β:=bw (aj.all AJ rfl) ζ1 rfl aU (by kernel_rfl) agl
def EA (s:aC) (name:Int):T (Int×Int):=.bd (jU U s) λb=>.bf (b !=0) (.ok (0,350))<|.bd (jW U name) λc=>.bf (!c) (.ok (0,351))<|.gd (xd s.an name 0 (↑s.an.length:Int))<|.bd (C0 U s.an name 0 ((↑s.an.length:Int))) λa=>.bf (decide (a.2.2<(↑s.an.length:Int))) (.bd (idx s.an a.2.2) λz3=>.bd (ik U z3.aY name) λd=>.bf (!d==0) (.ok (0,4))<|.bd (idx s.an a.2.2) λz5=>.ok (z5.aa,0))<|.ok (0,4)
def nD (s:aC) (name:Int):=U.s _ (EA U s name).val
def LL:=a_ (bY KK 196 34 28 (nD U) (ea KK 28 40)) (AI U)
theorem LM:aj (LL shut) β:=bZ (rs:=[28,40]) AJ WS rfl rfl λs name k=>by kernel_rfl
end Go.Proofs.YtdhaaaeffhaadaaGreatDoor
end
section
namespace Go.Proofs.YtdhaaaeffhaadaaGreatDoor
open Go.RowKit Go.Dc Go.Vx
variable (U:Sh)
def YB (U:Sh) (b:aq):T Int:=.ok b.aa
def vE (b:aq):=U.s _ (YB U b).val
def ti:=a_ (cK KK 168 82 (vE U) (bD KK 28)) (LL U)
theorem Ah:aj (ti shut) β:=cR (rs:=[28]) LM (aj.all LM rfl) rfl rfl λb k=>by kernel_rfl
def wV (a:List aq) (p1 p2 p3:Int):AS SS:=⟨[(0,vd 32 a),(1,vu p1),(2,vc 0),(8,vl a),(9,vi p2),(10,vi p3)],[some (.bA 205 [] [.one (.bl 1 0)]),bX 220 [.v (.func (.func 168) (.mk []) (.mk []))]],2,none,false,[],[]⟩
def oY (b:List aq) (p1:Int) (a:Int×Int):T ((Int×Int)⊕(Bool×Int×Int)):=.bf (decide (a.1<a.2)) (.bd (idx b (γ.wrap ((ζ.wrap (γ.wrap (a.1+a.2))).fdiv 2))) λz0=>.bd (vE U z0) λc=>.bd (ik U c p1) λd=>.bf (decide (d<0)) (.ok (.inl (γ.wrap (γ.wrap ((ζ.wrap (γ.wrap (a.1+a.2))).fdiv 2)+1),a.2)))<|.ok (.inl (a.1,γ.wrap ((ζ.wrap (γ.wrap (a.1+a.2))).fdiv 2))))<|.ok (.inr (decide (a.1<a.2),a.2,a.1))
def CL (a:List aq) (p1 p2 p3:Int):=bU U (oY U a p1) 1000000 (p2,p3)
def ZG {R} (k:KX SS R) (a:List aq) (p1:Int) (x:(Bool×Int×Int)):Option R:=(λv=>k (.exit 0) {wV a p1 p1 p1 with env:=[(17,vb v.1),(16,vi v.2.1),(15,vi v.2.2),(0,vd 32 a),(1,vu p1),(2,vc 0),(8,vl a),(9,vi v.2.2),(10,vi v.2.1)]}) x
def Qd:a7 SS:=bc 4 (gq (λst=>dd st 0 205) (sq (sD 32 0) (sq (sI 1) (sq (sI 9) (sI 10))))) (u4 wV) (u4 (CL shut)) (λk p=>ZG k p.1 p.2.1)
theorem af9:LS KK β ay Tryz.f204 204 4 Qd:=
 aW.bU (π:=List aq×Int×Int×Int) (σ:=Int×Int) (aj.all Ah rfl) (aO.nil) rfl 60 (λp a=>wV p.1 p.2.1 a.1 a.2) (λp=>(p.2.2.1,p.2.2.2)) (St:=λp=>oY shut p.1 p.2.1) (λp=>1000000) (λp=>rfl)
  (λm p a k=>by kernel_rfl)
def y0:=bo (ti shut) ay Tryz.f204 204 [Qd]
theorem V9:aX y0 β:=bw (aj.all Ah rfl) Tryz.func204 rfl aU (by kernel_rfl) af9
def uT (l:List aq) (pid:Int):T (Int×Bool):=.gd (wV l pid 0 (↑l.length:Int))<|.bd (CL U l pid 0 ((↑l.length:Int))) λa=>.bf (decide (a.2.2<(↑l.length:Int))) (.bd (idx l a.2.2) λd=>.bd (vE U d) λb=>.bd (ik U b pid) λc=>.ok (a.2.2,c==0))<|.ok (a.2.2,false)
def GJ (l:List aq) (pid:Int):=U.s _ (uT U l pid).val
theorem aid {R:Type} (l:List aq) (pid:Int) (k:Rs SS->Option R):gE y0 100 167 [KK.bg 32 l,KK.bg 28 pid,(.one (.v (.func (.func 168) #[] #[])):aE SS)] [] (k1 KK [3,4] k)=(uT shut l pid).run (λr=>k (.ret (.bG [KK.bg 3 r.1,KK.bg 4 r.2]))):=by kernel_rfl
theorem abt (l:List aq) (pid:Int) {x:Int×Bool} (h:GJ shut l pid=some x):d_ KK β 167 [KK.bg 32 l,KK.bg 28 pid,(.one (.v (.func (.func 168) #[] #[])):aE SS)] (.ret (.bG [KK.bg 3 x.1,KK.bg 4 x.2])):=om (G:=y0) V9 (kf:=λ{R} (k:Rs SS->Option R)=>(λr=>k (.ret (.bG [KK.bg 3 r.1,KK.bg 4 r.2])))) (λk=>aid l pid k) rfl (lU h) λk=>rfl
end Go.Proofs.YtdhaaaeffhaadaaGreatDoor
end
section
namespace Go.Dc
open Go.RowKit
section
variable {P:Program} {r:Option Nat} {N:Nat} {ops:Array Oper} {Q:Exit->Act->World->Prop} {ds:List Deferred}
theorem ai6 {id:Nat} {E:Env} {w:World} (hm:P.follows .mixedOrders=true) (b:List cv) (Φ:List (Bool->World->Value->Prop)) (g:Nat) (cl:Γ) (I:Bool->World->Prop) (hlen:Nat.ble b.length ops.size=true) (av:rM ops b.length=true) (ba:Φ.length=b.length) (ai:n9 N ops b b 0=true)
  (aB:g<b.length) (aJ: ∀o,ops[g]? =some o-> ∀x∈cl,x∈lH ops 12 (cQ o)) (hI:I false w.drew)
  (a7: ∀i p l,b[i]? =some p->Φ[i]? =some l-> ∀f a w',(f=true->i≠g/\i∉cl)->I f w'->a.tmps.size=N->a.defers=ds->(∀s,p.base.contains s=true-> ∀v,E.get s=some v->a.tmps.getD s undef=v)->
   (∀(j:Nat),p.lK.contains j=true-> ∀(q:cv) (y:Bool->World->Value->Prop),b[j]? =some q->Φ[j]? =some y->y f w' (a.tmps.getD q.d undef))->e1 P r ops Q i p.d a w' (λv b8=>l (f||ξu i g) b8 v/\I (f||ξu i g) b8/\ ∀(j:Nat) (y:Bool->World->Value->Prop) u,j≠i->Φ[j]? =some y->y f w' u->y (f||ξu i g) b8 u))
  (az: ∀a w',I true w'->a.tmps.size=N->a.defers=ds->(∀s v,E.get s=some v->(b.any λp=>ξu p.d s)=false->a.tmps.getD s undef=v)->
   (∀(i:Nat) (p:cv) (l:Bool->World->Value->Prop),b[i]? =some p->Φ[i]? =some l->l true w' (a.tmps.getD p.d undef))->wpOpsIn (fw r) 0 P ops Q (ξg b.length (ops.size-b.length)) a w'):
  WC P r N (.region id ops true) Q E ds w:=by
 have hle:=ξl hlen;intro a al;refine wpIn_region_draw λt=>?_;simp only[Region.schedule,hm,ζ2,if_true];refine wpAnyIn_sound ops.size t _ a _ ?_;have key: ∀(fuel:Nat) (listed:Array Bool) (f:Bool) (a:Act) (w':World),listed.getD g true=f->listed.size=ops.size->eB listed b.length+(ops.size-b.length)=fuel->(∀k,b.length<=k->k<ops.size->listed.getD k true=false)->I f w'->a.tmps.size=N->a.defers=ds->
   (∀(k:Nat) (o:Oper),ops[k]? =some o->listed.getD k true=true-> ∀x∈cQ o,listed.getD x true=true)->
   (∀s v,E.get s=some v->(∀(k:Nat) (p:cv),b[k]? =some p->p.d=s->listed.getD k true=false)->a.tmps.getD s undef=v)->
   (∀(i:Nat) (p:cv) (l:Bool->World->Value->Prop),b[i]? =some p->Φ[i]? =some l->listed.getD i true=true->l f w' (a.tmps.getD p.d undef))->
   wpAnyIn (fw r) 0 P .any ops Q fuel listed a w':=by
  intro fuel
  induction fuel with
  |zero=>
   intro listed f a w' J aj hl ak af hN X F U ab;have T:eB listed b.length=0:=by omega
   have C:=nT _ T;have aa:f=true:=by rw[<-J];exact C g aB
   subst aa;have aI:ops.size-b.length=0:=by omega
   refine yK av 0 b.length listed a w' (ξj _) (by omega) aj (λk c=>C k c) ak F ?_;have Y:=az a w' af hN X (λs v D m=>U s v D λk p hp e=>by
    rw[ξW] at m;have:=m p (ξ6 hp);rw[e] at this;simp at this) λi p l hp R=>ab i p l hp R (C i (ε.1 hp).1)
   rw[aI] at Y;exact Y
  |succ fuel aw=>
   intro listed f a w' J aj hl ak af hN X F U ab
   by_cases T:eB listed b.length=0
   .have C:=nT _ T;have aa:f=true:=by rw[<-J];exact C g aB
    subst aa;refine yK av (fuel+1) b.length listed a w' (ξj _) (by omega) aj (λk c=>C k c) ak F ?_;have Y:=az a w' af hN X (λs v D m=>U s v D λk p hp e=>by
     rw[ξW] at m;have:=m p (ξ6 hp);rw[e] at this;simp at this) λi p l hp R=>ab i p l hp R (C i (ε.1 hp).1)
    rw[show ops.size-b.length=fuel+1 by omega] at Y;exact Y
   refine⟨λaZ=>?_,λi hi=>?_⟩
   .exfalso;obtain⟨i,B,L,M⟩:=q3 b.length T;have ag:i<b.length:=B;obtain⟨⟨o,z,_,W,_⟩,_⟩:=k3 ai i b[i] (θ ag);simp only[χ] at z W;have:i∈ζ3 .any ops listed:=by
     unfold ζ3;rw[ξv];refine⟨by simp;omega,?_⟩;rw[L,z];simp only[ξQ,ξ7,τ,ξ1,ξ5];intro e he;cases V:Region.binds .any e with
     |false=>simp
     |true=>
      have G:=W e.on (jf.2 ⟨e,he,V,rfl⟩);have:=M e.on G;have ae:e.on<listed.size:=by omega
      simp only[η,ω ae,ξ1] at this ⊢;simp[this]
    rw[aZ] at this;cases this
   .unfold ζ3 at hi;rw[ξv] at hi;obtain⟨aN,O⟩:=hi;have aO:i<ops.size:=by simpa using aN
    have ag:i<b.length:=by
     rcases ζ4 i b.length with h|aA
     .exact h
     .exfalso;obtain⟨o,z,C,aH⟩:=yI av i aA aO;rw[z] at O;simp only[ζ7,ξX,τ,ξ1,ξ5] at O;obtain⟨k,B,L,_⟩:=q3 b.length T;have aF:=lI F 12 (cQ o) (λx A=>by
       obtain⟨e,he,V,aX⟩:=jf.1 A;have M:=O.2 e he;rw[V] at M;simp only[ξF,ξt] at M;have a':=aH x A;have ae:e.on<listed.size:=by omega
       rw[<-aX];simp only[η,ω ae,ξ1] at M ⊢;exact M) k (C k (by omega))
      rw[aF] at L;cases L
    have aR:i<Φ.length:=by omega
    have hp:=θ ag;have R:=θ aR;obtain⟨⟨o,z,a_,W,aM⟩,aK,ay,_⟩:=k3 ai i b[i] hp;simp only[χ] at z W ay;rw[z] at O;simp only[ζ7,ξX,τ,ξ1,ξ5] at O;obtain⟨H,aY⟩:=O;have ax: ∀x∈cQ o,listed.getD x true=true:=by
     intro x A;obtain⟨e,he,V,rfl⟩:=jf.1 A;have B:=aY e he;rw[V] at B;simp only[ξF,ξt] at B;have G:=W e.on A;have ae:e.on<listed.size:=by omega
     simp only[η,ω ae,ξ1] at B ⊢;exact B
    refine a7 i _ _ hp R f a w' ?_ af hN X ?_ ?_ _ ?_
    .intro aa;rw[aa] at J;refine⟨λe=>by(rw[e,J] at H;cases H),λaP=>?_⟩;have aC:g<ops.size:=by omega
     have aU:=aJ _ (ω aC) i aP;have:=lI F 12 (cQ ops[g]) (λx A=>F g _ (ω aC) J x A) i aU;rw[this] at H;cases H
    .intro s a1 v D;have au:s∈b[i].base:=by simpa using a1
     refine U s v D λk p ar ao=>?_;rcases Nf ay s au k p ar ao with rfl|⟨o',Z,aQ⟩
     .exact H
     .cases c:listed.getD k true with
      |false=>rfl
      |true=>rw[F k o' Z c i aQ] at H;cases H
    .intro j aS q y K S;have ah:j∈b[i].lK:=by simpa using aS
     exact ab j q y K S (ax j (aM j ah))
    .rintro v b8 ⟨D,aG,a8⟩;have aL:b[i].d<a.tmps.size:=by rw[hN];exact aK
     have aE:i<listed.size:=by omega
     have ad: ∀k,(listed.setIfInBounds i true).getD k true=true↔k=i\/listed.getD k true=true:=by
      intro k
      by_cases c:i=k
      .subst c;simp[η,aE]
      .simp only[η,ψ c];constructor
       .exact λh=>.inr h
       .rintro (h|h)
        .exact absurd h.symm c
        .exact h
     have aD: ∀s,s≠b[i].d->(a.put (some b[i].d) v).tmps.getD s undef=a.tmps.getD s undef:=by
      intro s au;simp only[Act.put,η,ψ (Ne.symm au)]
     have a6:(a.put (some b[i].d) v).tmps.getD b[i].d undef=v:=by
      simp[Act.put,η,aL]
     have aV:=Ij aE H b.length;simp only[ag,if_true] at aV;refine aw _ (f||ξu i g) _ b8 ?_ (by simpa using aj) (by omega) (λk c aT=>by
      have:=ak k c aT;simp only[η,ψ (show i≠k by omega)] at this ⊢;exact this) aG (by simp[Act.put,hN]) X ?_ ?_ ?_
     .cases an:ξu i g with
      |true=>
       have:=ξm an;subst this;rw[ζs];exact(ad i).2 (.inl rfl)
      |false=>
       rw[ζm,<-J];have m:i≠g:=λe=>by rw[e,ζt] at an;cases an
       simp only[η,ψ m]
     .intro k o' Z c x A;rw[ad] at c ⊢;right;rcases c with rfl|c
      .rw[z] at Z;cases Z;exact ax x A
      .exact F k o' Z c x A
     .intro s u hu m;have B:s≠b[i].d:=λe=>by
       have:=m i _ hp e.symm;have L:=(ad i).2 (.inl rfl);rw[L] at this;cases this
      rw[aD s B];refine U s u hu λk p ar ao=>?_;have:=m k p ar ao;cases c:listed.getD k true with
      |false=>rfl
      |true=>rw[(ad k).2 (.inr c)] at this;cases this
     .intro j q y K S ah;rw[ad] at ah
      by_cases aq:j=i
      .subst aq;rw[hp] at K;rw[R] at S;cases K;cases S;rw[a6];exact D
      .have aW:listed.getD j true=true:=ah.resolve_left aq;have m:q.d≠b[i].d:=by
        rcases ζ4 i j with G|aA
        .exact(k3 ai i _ hp).2.2.2 j q G K
        .exact λe=>(k3 ai j q K).2.2.2 i _ (by omega) hp e.symm
       rw[aD _ m];exact a8 j y _ aq S (ab j q y K S aW)
 refine key ops.size _ false a _ (by simp[η,show g<ops.size by omega]) (by simp) ?_ (λk _ c=>by simp[η,c]) hI al.size al.defers ?_ ?_ ?_
 .have: ∀n,n<=ops.size->eB (ζ9 ops.size false) n=n:=by
   intro n
   induction n with
   |zero=>intro _;rfl
   |succ n aw=>
    intro hn;simp only[eB,aw (by omega)];have:(ζ9 ops.size false).getD n true=false:=by simp[η,show n<ops.size by omega]
    simp[this]
  rw[this _ hle];omega
 .intro k o z c;have G:=(Array.getElem?_eq_some_iff.1 z).1;simp[η,G] at c
 .intro s v D _;exact al.get s v D
 .intro i p l hp _ hi;have G:i<ops.size:=by have:=(ε.1 hp).1;omega
  simp[η,G] at hi
def b7 (b:SP) (k:Option Value):Bool->World->Value->Prop:=λa w u=>bif a then ∀v,k=some v->u=v else b.p w u
def mH (w:World) (b:World->World->Value->Prop):Bool->World->Value->Prop:=λa w' u=>a=true-> ∃w1 w2,Fr [] w w1/\b w1 w2 u/\Fr [] w2 w'
def JR (a:List cv) (keep:List (Option Value)) (k:Nat) (F:Nat->cv->Option Value->Prop):Prop:=
 match a,keep with
 |p::ps,v::vs=>F k p v/\JR ps vs (k+1) F
 |_,_=>True
theorem T8: ∀ {b:List cv} {keep:List (Option Value)} {k:Nat} {F:Nat->cv->Option Value->Prop},JR b keep k F-> ∀(i:Nat) (p:cv) (v:Option Value),b[i]? =some p->keep[i]? =some v->F (k+i) p v
 |[],_,_,_,_,i,p,v,hp,_=>by simp at hp
 |_::_,[],_,_,_,i,p,v,_,a=>by simp at a
 |q::c,u::us,k,F,h,i,p,v,hp,a=>by
  cases i with
  |zero=>
   simp only[ξ8,ξC] at hp a;subst hp;subst a;exact h.1
  |succ i=>
   have:=T8 h.2 i p v (by simpa using hp) (by simpa using a);have e:k+1+i=k+(i+1):=by omega
   rwa [e] at this
def xG:List SP->List (Option Value)->Prop
 |b::a,some v::ks=>(∀w u,b.p w u->u=v)/\xG a ks
 |_::a,none::ks=>xG a ks
 |_,_=>True
theorem H7: ∀ {Φ:List SP} {keep:List (Option Value)},xG Φ keep-> ∀(j:Nat) (b:SP) (v:Value),Φ[j]? =some b->keep[j]? =some (some v)-> ∀w u,b.p w u->u=v
 |[],_,_,j,b,v,c,_=>by simp at c
 |_::_,[],_,j,b,v,_,a=>by simp at a
 |e::d,some u::ks,h,j,b,v,c,a=>by
  cases j with
  |zero=>
   simp only[ξ8,ξC] at c a;subst c;subst a;exact h.1
  |succ j=>exact H7 h.2 j b v (by simpa using c) (by simpa using a)
 |e::d,none::ks,h,j,b,v,c,a=>by
  cases j with
  |zero=>simp at a
  |succ j=>exact H7 (Φ:=d) (keep:=ks) h j b v (by simpa using c) (by simpa using a)
theorem ai7 {id:Nat} {E:Env} {w:World} (hm:P.follows .mixedOrders=true) (b:List cv) (Φ:List SP) (keep:List (Option Value)) (f:Nat) (g cl:Γ) (l:World->World->Value->Prop)
  (hlen:Nat.ble (b++[cv.mk f g []]).length ops.size=true) (au:rM ops (b++[cv.mk f g []]).length=true) (aa:Φ.length=b.length) (X:keep.length=b.length) (al:n9 N ops (b++[cv.mk f g []]) (b++[cv.mk f g []]) 0=true)
  (W:(match ops[b.length]? with|some o=>cl.all λx=>(lH ops 12 (cQ o)).contains x|none=>false)=true)
  (ai:xG Φ keep)
  (ao:po b Φ 0 λi p C=> ∀a w',Fr [] w w'->a.tmps.size=N->a.defers=ds->(∀s,p.base.contains s=true-> ∀v,E.get s=some v->a.tmps.getD s undef=v)->
   (∀(j:Nat),p.lK.contains j=true-> ∀(q:cv) (c:SP),b[j]? =some q->Φ[j]? =some c->c.p w' (a.tmps.getD q.d undef))->e1 P r ops Q i p.d a w' (λv b8=>C.p b8 v/\Fr [] w' b8))
  (ar: ∀a w',Fr [] w w'->a.tmps.size=N->a.defers=ds->(∀(j:Nat),g.contains j=true-> ∀(q:cv) (c:SP),b[j]? =some q->Φ[j]? =some c->c.p w' (a.tmps.getD q.d undef))->e1 P r ops Q b.length f a w' (λv b8=>l w' b8 v))
  (aq:JR b keep 0 λi p k=>match k with
   |none=>cl.contains i=true
   |some v=> ∀w1 w2 u,Fr [] w w1->l w1 w2 u-> ∀a w',Fr [] w2 w'->a.tmps.size=N->a.defers=ds->(∀s,p.base.contains s=true-> ∀v,E.get s=some v->a.tmps.getD s undef=v)->e1 P r ops Q i p.d a w' (λx b8=>x=v/\Fr [] w' b8))
  (af: ∀w1 w2 u a w',Fr [] w w1->l w1 w2 u->Fr [] w2 w'->a.tmps.size=N->a.defers=ds->(∀s v,E.get s=some v->((b++[cv.mk f g []]).any λp=>ξu p.d s)=false->a.tmps.getD s undef=v)->
   (∀(i:Nat) (p:cv) (v:Value),b[i]? =some p->keep[i]? =some (some v)->a.tmps.getD p.d undef=v)->a.tmps.getD f undef=u->
   wpOpsIn (fw r) 0 P ops Q (ξg (b++[cv.mk f g []]).length (ops.size-(b++[cv.mk f g []]).length)) a w'):
  WC P r N (.region id ops true) Q E ds w:=by
 have aC:(b++[cv.mk f g []]:List cv).length=b.length+1:=by simp
 have Z:(ξn b7 Φ keep).length=b.length:=by simp[aa,X]
 have I: ∀(j:Nat) c,(ξn b7 Φ keep++[mH w l])[j]? =some c->(j<b.length/\ ∃C k,Φ[j]? =some C/\keep[j]? =some k/\c=b7 C k)\/(j=b.length/\c=mH w l):=by
  intro j c h;rcases ζ4 j b.length with n|n
  .left;rw[μ (by omega)] at h;have A:j<Φ.length:=by omega
   have B:j<keep.length:=by omega
   refine⟨n,Φ[j],keep[j],θ A,θ B,?_⟩;rw[ξa,θ A,θ B] at h;exact(ζa h).symm
  .right;rw[ξe (by omega),Z] at h;rcases Nat.eq_or_lt_of_le n with e|aB
   .subst e;simp only[ζu,ξ8,ξC] at h;exact⟨rfl,h.symm⟩
   .rw[List.getElem?_eq_none (by simp;omega)] at h;cases h
 have an: ∀(j:Nat) p,(b++[cv.mk f g []])[j]? =some p->j<b.length->b[j]? =some p:=λj p h n=>by rwa [μ n] at h
 refine ai6 hm (b++[cv.mk f g []]) (ξn b7 Φ keep++[mH w l]) b.length cl (λR w'=>bif R then ∃w1 w2 u,Fr [] w w1/\l w1 w2 u/\Fr [] w2 w' else Fr [] w w') hlen au (by simp[aa,X]) al (by omega) ?_ (Fr.drew [] w) ?_ ?_
 .intro o ak x aw;rw[ak] at W;simpa using ξ2.1 W x aw
 .intro i p C hp ax R a w' Y hI hN D J G;rcases I i C ax with⟨hi,aA,k0,A,B,rfl⟩|⟨rfl,rfl⟩
  .have M:=an i p hp hi;have aj:ξu i b.length=false:=by
    cases ae:ξu i b.length with
    |false=>rfl
    |true=>have:=ξm ae;omega
   rw[aj,ζm];cases R with
   |false=>
    have hI:Fr [] w w':=hI;refine e1.weaken (M5 ao i p aA M A a w' hI hN D J (λj n q c F t=>?_)) λv b8 m=>⟨m.1,hI.trans m.2,λj c u _ t hu=>?_⟩
    .have U:=(ε.1 F).1;have H:(ξn b7 Φ keep++[mH w l])[j]? =some (b7 c (keep[j]'(by omega))):=by
      rw[μ (by omega),ξa,t,θ (by omega)]
     exact G j n q _ (by rw[μ U];exact F) H
    .rcases I j c t with⟨_,S,ab,_,_,rfl⟩|⟨_,rfl⟩
     .exact S.st m.2 hu
     .intro m;cases m
   |true=>
    obtain⟨w1,w2,u,K,z,L⟩:=hI;have T:=T8 aq i p k0 M B;rw[χ] at T;cases k0 with
    |none=>
     have:cl.contains i=true:=T;exact absurd (by simpa using this) (Y rfl).2
    |some v=>
     refine e1.weaken (T w1 w2 u K z a w' L hN D J) λx b8 m=>⟨?_,⟨w1,w2,u,K,z,L.trans m.2⟩,λj c y _ t O=>?_⟩
     .intro ad V;cases V;exact m.1
     .rcases I j c t with⟨_,S,ab,_,_,rfl⟩|⟨_,rfl⟩
      .exact O
      .intro _;obtain⟨ay,az,g1,g2,g3⟩:=O rfl;exact⟨ay,az,g1,g2,g3.trans m.2⟩
  .cases R with
   |true=>exact absurd rfl (Y rfl).1
   |false=>
    have M:p=⟨f,g,[]⟩:=by
     rw[ξe (ξj _),ζu] at hp;exact(ζa hp).symm
    subst M;have hI:Fr [] w w':=hI;rw[ζt,ζs];refine e1.weaken (ar a w' hI hN D (λj n q c F t=>?_)) λv b8 z=>⟨λ_=>⟨w',b8,hI,z,Fr.refl [] _⟩,⟨w',b8,v,hI,z,Fr.refl [] _⟩,λj c y ah t O=>?_⟩
    .have U:=(ε.1 F).1;have H:(ξn b7 Φ keep++[mH w l])[j]? =some (b7 c (keep[j]'(by omega))):=by
      rw[μ (by omega),ξa,t,θ (by omega)]
     exact G j n q _ (by rw[μ U];exact F) H
    .rcases I j c t with⟨_,S,ab,A,B,rfl⟩|⟨e,_⟩
     .intro ad V;subst V;exact H7 ai j S ad A B _ _ O
     .exact absurd e ah
 .intro a w' hI hN D J G;obtain⟨w1,w2,K,z,L⟩:=G b.length ⟨f,g,[]⟩ (mH w l) (by simp) (by rw[ξe (by omega),Z];simp) rfl;refine af w1 w2 _ a w' K z L hN D J (λi p v hp av=>?_) rfl;have ag:=(ε.1 hp).1;have H:(ξn b7 Φ keep++[mH w l])[i]? =some (b7 (Φ[i]'(by omega)) (some v)):=by
   rw[μ (by omega),ξa,av,θ (by omega)]
  exact G i p _ (by rw[μ ag];exact hp) H v rfl
theorem aek {Θ:cE} {O:Γ} {w:World} {i d:Nat} {o:Oper} {E:Env} (K:Θ.ok P) {a:Act} (g:Has N E ds a) (A:ops[i]? =some o) (hw:want N ops E o.guard=some true) (s:o.dst=some d) {t:Nat} {x y:Operand} {f c:TI}
  (j:o.op= .call {callee:=.builtin .append,args:= #[x,y],argTypes:= #[t,t]}) (D:Θ.get t=some f) (k:f.tag=5) (F:Θ.get f.e=some c) {α:Type} {T:Ty α} (hn:T.n=c.size) (B:ζK 0 c.size=true) (J:c.zero.cells.size=c.size) (q:Nat.ble 1 c.bytes=true) {e nb:Nat} (he:f.e=e) (z:c.bytes=nb)
  {w0:World} {v u:Value} {xs ys zs:List α} (H:ev E x=some v) (I:ev E y=some u) (l:Fr [] w0 w) (m:OB O w) (G:Own T e w0.heap.size O w v xs) (hu:T.slice.is O w u ys) (hlen:app nb xs ys=some zs):
  e1 P r ops Q i d a w (λh w'=> ∃O',dI T e w0.heap.size O w v zs O' w' h):=by
 subst he z;obtain⟨hle,rfl⟩:=u1 hlen;obtain⟨h,w',O',C,p⟩:=S_ (P:=P) (ty:=o.type) K D k F hn (ξl B) J l.size m G hu hle (ξl q);refine l_ A (gX g hw) s (b:=true) (v:=h) (w':=w') ?_ ⟨O',p⟩;simp only[if_true];refine⟨by rw[j];simp,?_⟩;simp only[execOp,j,ξh,resolve,ξL,ξd,invoke,builtin,ξG,ξR,ζ5,g.eval H,g.eval I,C]
end
end Go.Dc
end
section
namespace Go.Proofs.YtdhaaaeffhaadaaGreatDoor
open Go.RowKit Go.Dc Go.Vx
theorem abV:et β 38:=cp aU Tryz.func38 rfl
theorem abW:et β 39:=cp aU Tryz.func39 rfl
theorem abX:et β 49:=cp aU Tryz.func49 rfl
theorem F':et β 75:=cp aU ζL rfl
theorem Ga:et β 76:=cp aU ζM rfl
theorem abY:et β 78:=cp aU ζN rfl
theorem abZ:et β 99:=cp aU Tryz.func99 rfl
theorem abQ:et β 118:=cp aU ξJ rfl
theorem abR:et β 119:=cp aU ζv rfl
theorem abS:et β 120:=cp aU ζw rfl
theorem NT:et β 121:=cp aU ζx rfl
theorem abT:et β 167:=cp aU Tryz.func167 rfl
theorem abU:et β 169:=cp aU Tryz.func169 rfl
theorem aim {O:Γ} {w:World} {v:Value} {x:aq}:eI.is O w v x↔ ∃s1,v= .agg #[.int .u64 x.aa,s1]/\(Ty.slice (Ty.int .u64)).is O w s1 x.a6:=by
 constructor
 .rintro ⟨cs,⟨_,_,rfl,rfl,c⟩,rfl⟩;obtain⟨a,rfl,b⟩:=hA rfl c;exact⟨a,rfl,b⟩
 .rintro ⟨a,rfl,b⟩;exact⟨[.int .u64 x.aa,a],⟨[.int .u64 x.aa],[a],rfl,rfl,gf rfl b⟩,rfl⟩
theorem iD {O:Γ} {w:World} {v:Value} {x:aC}:dY.is O w v x↔ ∃s0 s1,v= .agg #[s0,s1]/\(Ty.slice cY).is O w s0 x.an/\(Ty.slice eI).is O w s1 x.ak:=by
 constructor
 .rintro ⟨cs,⟨_,_,rfl,d,e⟩,rfl⟩;obtain⟨a,rfl,b⟩:=hA rfl d;obtain⟨z2,rfl,c⟩:=hA rfl e;exact⟨a,z2,rfl,b,c⟩
 .rintro ⟨a,z2,rfl,b,c⟩;exact⟨[a,z2],⟨[a],[z2],rfl,gf rfl b,gf rfl c⟩,rfl⟩
theorem aib {O:Γ} {w:World} {cs:Γb} {x:av} (h:cY.rep O w cs x):cs=[.int .u64 x.aY,.int .u64 x.aa]:=by
 obtain⟨_,_,rfl,rfl,rfl⟩:=h;exact rfl
theorem xC {O:Γ} {w:World} {v:Value} {x:aC} (h:dY.is (O++[0]) w v x):k'.is O w v x:=by
 obtain⟨cs,⟨c1,c2,e,a,b⟩,c⟩:=h;obtain⟨u,rfl,hu⟩:=hA rfl b;exact⟨cs,⟨c1,_,e,a,gf rfl (FG hu)⟩,c⟩
theorem adg {O:Γ} {w:World} {v:Value} {x:aC} (h:k'.is O w v x):dY.is (O++[0]) w v x:=by
 obtain⟨cs,⟨c1,c2,e,a,b⟩,c⟩:=h;obtain⟨u,rfl,hu⟩:=hA rfl b;exact⟨cs,⟨c1,_,e,a,gf rfl (FF hu)⟩,c⟩
noncomputable def kV:Pl:=⟨λ_=>none,none⟩
noncomputable def HK (U:Sh) (x:aC):Option Int:=jU U x
theorem acY {O:Γ} {w:World} (g:OB O w) (f:cB KK O w) {v0:Value} {a:aC} (b:dY.is (O++[0]) w v0 a) {r:Int} (h:HK shut a=some r):Calls β 49 #[v0] w (gi (mv (Ty.int .i64)) O w r):=by
 have i:d_ KK β 49 [KK.bg 34 a] (.ret (.s (KK.bg 40 r))):=om (G:=y3) K1 (kf:=λ{R} (k:Rs SS->Option R)=>(λr=>k (.ret (.s (KK.bg 40 r))))) (λk=>Uc a k) rfl (lU h) λk=>rfl;refine(i.2 kV O w [v0] ⟨v0,[],rfl,e3 cH (t:=34) rfl rfl (xC b),rfl⟩ g f).mono ?_;rintro e w' ⟨⟨v,rfl,c,_⟩,d⟩;cases c;exact⟨_,rfl,dx.2 rfl,d⟩
noncomputable def kN (p:Int):Bool:=bif decide (p>=1) then decide (p<4294967296) else false
theorem adk (p:Int):(m8 shut p).val=some (kN p):=by
 unfold m8 kN;cases h:decide (p>=1)<;>simp
theorem ac4 {O:Γ} {w:World} (g:OB O w) (f:cB KK O w) {v0:Value} {a:Int} (b:(Ty.int .u64).is O w v0 a):Calls β 99 #[v0] w (gi (mv Ty.bool) O w (kN a)):=by
 have h:d_ KK β 99 [KK.bg 28 a] (.ret (.s (KK.bg 4 (kN a)))):=om (G:=tp shut) (aj.all Bo rfl) (kf:=λ{R} (k:Rs SS->Option R)=>(λr=>k (.ret (.s (KK.bg 4 r))))) (λk=>Ue a k) rfl (adk a) λk=>rfl;refine(h.2 kV O w [v0] ⟨v0,[],rfl,e3 cH (t:=28) rfl rfl b,rfl⟩ g f).mono ?_;rintro e w' ⟨⟨v,rfl,c,_⟩,d⟩;cases c;exact⟨_,rfl,jE.2 rfl,d⟩
noncomputable def HM (U:Sh) (l:List aq) (pid:Int):Option (Int×Bool):=GJ U l pid
theorem ac3 {O:Γ} {w:World} (l:OB O w) (k:cB KK O w) {v0:Value} {c:List aq} (d:(Ty.slice eI).is (O++[0]) w v0 c) {pid:Int} {r:Int×Bool} (h:HM shut c pid=some r):Calls β 167 #[v0,.int .u64 pid,.func (.func 168) #[] #[]] w (gi (S8 (Ty.int .i64) Ty.bool) O w r):=by
 refine((abt c pid h).2 kV O w [v0,.int .u64 pid,.func (.func 168) #[] #[]] ⟨v0,_,rfl,e3 cH (t:=32) rfl rfl (FG d),_,_,rfl,⟨rfl,rfl⟩,_,_,rfl,⟨rfl,rfl⟩,rfl⟩ l k).mono ?_;rintro e w' ⟨⟨v,rfl,xs,rfl,a,_,rfl,⟨f,_⟩,b,_,rfl,⟨g,_⟩,i⟩,j⟩;cases f;cases g;rw[show _=[] from i];exact⟨_,rfl,⟨_,_,rfl,dx.2 rfl,jE.2 rfl⟩,j⟩
noncomputable def JG (x:Γa):Option (Γa):=app 8 [] x
theorem ahI {O:Γ} {w:World} (c:OB O w) (_:w.heap.size<=w.heap.size) {v0:Value} {a:Γa} (b:(Ty.slice (Ty.int .u64)).is O w v0 a) {r:Γa} (h:JG a=some r):Calls β 39 #[v0] w (eR (Ty.int .u64) 28 w.heap.size O w (.slice none 0 0) r):=FL c b h
noncomputable def JH (x:List av):Option (List av):=app 16 [] x
theorem ahH {O:Γ} {w:World} (c:OB O w) (_:w.heap.size<=w.heap.size) {v0:Value} {a:List av} (b:(Ty.slice cY).is O w v0 a) {r:List av} (h:JH a=some r):Calls β 38 #[v0] w (eR cY 93 w.heap.size O w (.slice none 0 0) r):=FK c b h
abbrev TR:Ty (Int×Value):=k5 .u64
abbrev TW:Ty Int:=Ty.int .u64
theorem gY:TW.Flat:=λh=>h
noncomputable def bx (z:aq):Int×Γa:=(z.aa,z.a6)
structure ff (B:Nat) (O:Γ) (w:World) (b:Nat) (nv rv:Value) (S:Γ) (aI:Γd) (x:aC):Prop where
 mem:b∈O
 ge:B<=b
 bI:bK w b 128 [nv,rv]
 ns:Go.Dc.Own cY 93 B O w nv x.an
 row:Go.Dc.Own TR 82 B O w rv aI
 fo:c6 TW 28 B w S aI (x.ak.map bx)
 nd:S.Nodup
 out: ∀g∈S,g∉O
 nb:nv.ownBlock≠some b
 rb:rv.ownBlock≠some b
 dj:Dj nv rv
noncomputable def kq (B:Nat) (O:Γ) (w:World) (b:Nat) (x:aC):Prop:= ∃nv rv S aI,ff B O w b nv rv S aI x
structure bL (B:Nat) (O:Γ) (w:World) (O':Γ) (w':World):Prop where
 tr:Tr O w O' w'
 ob:OB O' w'
 sub:Sub O O'
 below: ∀k,k<B->w'.heap[k]? =w.heap[k]?
theorem bL.refl {B:Nat} {O:Γ} {w:World} (h:OB O w):bL B O w O w:=⟨Tr.refl _ _,h,Sub.refl _,λ_ _=>rfl⟩
theorem bL.trans {B:Nat} {O O' a:Γ} {w w' b8:World} (h:bL B O w O' w') (k:bL B O' w' a b8):bL B O w a b8:=
 ⟨h.tr.trans k.tr,k.ob,h.sub.trans k.sub,λi hi=>(k.below i hi).trans (h.below i hi)⟩
theorem bL.fr {O O':Γ} {w w':World} (h:bL w.heap.size O w O' w'):Fr [] w w':=⟨h.tr.os,h.tr.tape,h.tr.output,h.tr.size,λk a _=>h.below k a⟩
theorem bL.n4 {B:Nat} {O:Γ} {w w':World} (b:OB O w) (a:B<=w.heap.size) (h:Fr [] w w'):bL B O w O w':=
 ⟨h.eo,h.ob b,Sub.refl _,λk c=>h.block k (δ c a) (by simp)⟩
theorem bL.jk {B:Nat} {O:Γ} {w w':World} {b t:Nat} {cs:Γb} (a:B<=w.heap.size) (h:kr O w b t cs w'):bL B O w (b::O) w':=
 ⟨h.tr,h.ob,Sub.cons (Sub.refl _) _,λk c=>h.fr.block k (δ c a) (by simp)⟩
theorem bL.IM {α:Type} {T:Ty α} {e B:Nat} {O O':Γ} {w w':World} {v d:Value} {xs zs:List α} (a:B<=w.heap.size) (c:Go.Dc.Own T e B O w v xs) (h:dI T e B O w v zs O' w' d):bL B O w O' w':=
 ⟨h.tr,h.ob,h.sub,λk b=>h.fr k (δ b a) λe=>by have:=(c.lt k e).1;omega⟩
theorem bL.gx {B b:Nat} {O:Γ} {w w':World} (a:OB O w) (c:b∈O) (d:B<=b) (h:Fr [b] w w'):bL B O w O w':=
 ⟨h.tr (hx c),h.ob a,Sub.refl _,λk e=>h.block k (by have:=a b c;omega) (by simp;omega)⟩
theorem bL.ad8 {α:Type} {T:Ty α} {e B:Nat} {O:Γ} {w w':World} {v:Value} {xs:List α} (d:OB O w) (c:B<=w.heap.size) (b:cZ T e w.heap.size w' v xs) (h:Fr [] w w'):bL B O w (v.ownBlock.toList++O) w':=
 ⟨⟨h.os,h.tape,h.output,h.size,λk a f=>⟨λhm=>by
  rcases ξi.1 hm with hm|hm
  .have:=(b.lt k (by simpa using hm)).1;omega
  .exact f hm,h.block k a (by simp)⟩⟩,λk a=>by
  rcases ξi.1 a with a|a
  .exact(b.lt k (by simpa using a)).2
  .exact δ (d k a) h.size,λk a=>ξb _ a,λk a=>h.block k (δ a c) (by simp)⟩
section
variable {B:Nat} {O O':Γ} {w w' b8:World} {b:Nat} {nv rv:Value} {S:Γ} {aI:Γd} {x:aC}
theorem ff.b6 (h:ff B O w b nv rv S aI x) (a:Fr [] w w'):ff B O w' b nv rv S aI x:=
 ⟨h.mem,h.ge,h.bI.b6 a,h.ns.b6 a,h.row.b6 a,h.fo.b6 gY a,h.nd,h.out,h.nb,h.rb,h.dj⟩
theorem ff.new (h:ff B O w b nv rv S aI x) {a t:Nat} {cs:Γb} (hn:kr O w a t cs w'):ff B (a::O) w' b nv rv S aI x:=
 ⟨ξO _ h.mem,h.ge,h.bI.b6 hn.fr,h.ns.new hn,h.row.new hn,h.fo.b6 gY hn.fr,h.nd,λg c hm=>by
  rcases ζn.1 hm with rfl|hm
  .have:=(h.fo.lt g c).2;have:=hn.ge;omega
  .exact h.out g c hm,h.nb,h.rb,h.dj⟩
theorem ff.st (h:ff B O w b nv rv S aI x) {a:Nat} (d:a∈O) (c:Fr [a] w w') (i:a≠b) (j:nv.ownBlock≠some a) (k:rv.ownBlock≠some a):ff B O w' b nv rv S aI x:=
 ⟨h.mem,h.ge,h.bI.fr c (by simp;exact λe=>i e.symm),h.ns.st c d j,h.row.st c d k,h.fo.keep gY λg f=>c.block g (h.fo.lt g f).2 (by simp;rintro rfl;exact h.out _ f d),h.nd,h.out,h.nb,h.rb,h.dj⟩
theorem dI.later {α:Type} {T:Ty α} {e B:Nat} {O O':Γ} {w w2 w3:World} {v b:Value} {zs:List α} (ap:dI T e B O w v zs O' w2 b) (f:Fr [] w2 w3):dI T e B O w v zs O' w3 b:=
 ⟨ap.own.b6 f,ap.tr.trans f.eo,f.ob ap.ob,ap.sub,λk a c=>(f.block k (δ a ap.tr.size) (by simp)).trans (ap.fr k a c),ap.ne⟩
theorem ff.boxes (h:ff B O w b nv rv S aI x) {i:Value} {S':Γ} {f:Γd} {x':aC} (ap:dI TR 82 B O w rv f O' w' i) (l:bK b8 b 128 [nv,i]) (d:Fr [b] w' b8)
  (c:c6 TW 28 B w S' f (x'.ak.map bx)) (m:S'.Nodup) (e: ∀g∈S',g∉O) (hn:x'.an=x.an):ff B O' b8 b nv i S' f x':=by
 have hm:=ap.sub _ h.mem;have j:=ap.ne _ h.bI.lt h.rb;have n:=ap.other h.ns λg a=>h.dj g a;refine⟨hm,h.ge,l,by rw[hn];exact n.st d hm h.nb,ap.own.st d hm j,?_,m,λg a=>(ap.tr.keep g (c.lt g a).2 (e g a)).1,h.nb,j,λg a=>ap.ne _ (h.ns.lt g a).2 (h.dj g a)⟩;refine c.keep gY λg a=>?_;have k:=(ap.tr.keep g (c.lt g a).2 (e g a)).2;rw[d.block g (δ (c.lt g a).2 ap.tr.size) (by simp;rintro rfl;exact e _ a h.mem),k]
end
noncomputable def nL:List aq->List aq->Option (List aq)
 |[],acc=>some acc
 |z::r,acc=>(JG z.a6).bind λws=>(app 32 acc [aq.mk z.aa ws]).bind λa=>nL r a
noncomputable def qW (fuel:Sh) (x:aC):Option (aC×Int):=(HK fuel x).bind λe=>bif (!(e==0)) then some (aC.mk [] [],e) else(JH x.an).bind λns=>(nL x.ak []).bind λbs=>some (aC.mk ns bs,0)
noncomputable def Yj (O:Γ) (w:World) (r:aC×Int) (c:Ending) (w':World):Prop:= ∃a O',c= .returned (.tuple #[a,.int .i64 r.2])/\bL w.heap.size O w O' w'/\(r.2=0-> ∃b,a= .pointer (some ⟨b,0,none⟩)/\kq w.heap.size O' w' b r.1)
theorem M8 {aI:Γd} {acc a:List aq} {z:aq} {p:Int×Value} (hl:aI.length=acc.length) (h:app 32 acc [z]=some a):app 32 aI [p]=some (aI++[p])/\a=acc++[z]:=by
 obtain⟨b,c⟩:=u1 h;refine⟨?_,c⟩;unfold app;rw[if_pos (by rw[hl];exact b)]
noncomputable def SP.agw (p:Int) (B:Nat) (ws:Γa):SP:=⟨λw u=> ∃v,u= .agg #[.int .u64 p,v]/\cZ TW 28 B w v ws,λa ⟨v,h,k⟩=>⟨v,h,k.b6 gY a⟩⟩
noncomputable def SP.agr (p:Int) (B:Nat) (O:Γ) (ws:Γa):SP:=⟨λw u=> ∃v,TR.slice.is O w u [(p,v)]/\cZ TW 28 B w v ws,λa ⟨v,h,k⟩=>⟨v,h.tr a.eo,k.b6 gY a⟩⟩
theorem acn {O:Γ} {w1 w:World} {v:Value} {ws:Γa} (h:cZ TW 28 w1.heap.size w v ws) (a:OB O w1): ∀g,v.ownBlock=some g->g∉O:=λg b hm=>by
 have:=(h.lt g b).1;have:=a g hm;omega
set_option maxRecDepth 100000 in
set_option maxHeartbeats 4000000 in
theorem ac5 {O:Γ} {w:World} (az:OB O w) (aT:cB KK [] w) {v0:Value} {f:aC} (aN:dY.is [0] w v0 f) {r:aC×Int} (h:qW shut f=some r):Calls β 118 #[v0] w (Yj O w r):=by
 have ao:dY.is [] w v0 f:=aN.tr (Tr.less (mA _));obtain⟨R,U,rfl,aS,aw⟩:=iD.1 ao;have aB:bL w.heap.size O w O w:=bL.refl az;refine e8 (args:=[.agg #[R,U]]) (N:=45) ξJ rfl rfl rfl ?_;unfold qW at h;refine aJ (aR (l:=[0,1,2]) rfl (ld rfl rfl rfl rfl rfl rfl [R,U] rfl az (λs w1 n1=>?_)));have x:=n1.bI;have ab:=aB.trans (bL.jk aB.tr.size n1);refine aA ah [1,2] [(1,.pointer (some ⟨s,0,none⟩))] rfl ⟨rfl,trivial⟩ (aQ (aK (aJ (aJ (aR (l:=[0,1,2]) rfl (cS ah rfl rfl rfl rfl rfl rfl rfl x [R,U] rfl rfl (.inl rfl) (.agg #[R,U]) rfl ?_))))));obtain⟨e,he,h⟩:=bind_some h;refine yV rfl rfl rfl rfl rfl abX rfl (acY (l7 _) (aT.tr ab.fr.eo) (aN.tr ab.fr.eo) he) (λv2 w2 g2 f2=>?_);obtain rfl:=dx.1 g2;have J:=ab.trans (bL.n4 ab.ob ab.tr.size f2);have x:=x.b6 f2;refine aA ah [2] [(1,.pointer (some ⟨s,0,none⟩)),(4,.int .i64 e)] rfl ⟨rfl,rfl,trivial⟩ (aQ (aK (aJ (aR (l:=[0,1]) rfl (aA ah [0,1] [(1,.pointer (some ⟨s,0,none⟩)),(4,.int .i64 e),(11,.bool (!(e==0)))] rfl ⟨rfl,rfl,rfl,trivial⟩ (aQ (aK ?_)))))));rcases iR h with⟨A,h⟩|⟨A,h⟩
 .refine eJ rfl A (aJ (aR (l:=[0,1,2]) rfl (aA ah [0,1,2] [(2,.pointer none),(3,.int .i64 e)] rfl ⟨rfl,rfl,trivial⟩ (aQ (aK (cO ?_))))));cases h;exact eQ (dv rfl ⟨_,_,rfl,J,λao=>by simp at A;exact absurd ao A⟩)
 refine eP rfl A (dh (aK (aJ (aR (l:=[0,1,2,3,4,5,6]) rfl (aA ah [0] [(1,.pointer (some ⟨s,0,none⟩)),(13,.pointer (some ⟨s,0,none⟩))] rfl ⟨rfl,rfl,trivial⟩ (cS ah rfl rfl rfl rfl rfl rfl rfl x [R] rfl rfl (.inr rfl) R rfl ?_))))));obtain⟨ns,a',h⟩:=bind_some h;refine jx rfl rfl rfl rfl rfl abV rfl (ahH (l7 _) (ξj _) (aS.tr J.fr.eo) a') (λ_ w3 n=>?_);obtain⟨nv,rfl,M,f3⟩:=OD rfl n;refine⟨_,rfl,?_⟩;have ag:=J.trans (bL.ad8 J.ob J.tr.size M f3);have M:=M.less J.tr.size;obtain⟨al,c3,rfl,bq,bw⟩:=M.form;refine aA ah [3,4] [(1,.pointer (some ⟨s,0,none⟩)),(17,.agg #[.slice al ns.length c3,.slice none 0 0])] rfl ⟨rfl,rfl,trivial⟩ ?_;have x:=x.b6 f3;refine ld rfl rfl rfl rfl rfl rfl [.slice al ns.length c3,.slice none 0 0] rfl ag.ob (λb w4 Q=>?_);generalize bA:(ζO al ns.length c3)=nv at*
 have C:ff w.heap.size (b::(nv.ownBlock.toList++(s::O))) w4 b nv (.slice none 0 0) [] [] (aC.mk ns []):=
  ⟨ξ0,ι ag.tr.size Q.ge,Q.bI,(M.own (λh=>h) λg n=>List.mem_append_left _ (by rw[n];simp)).new Q,Own.f',rfl,List.nodup_nil,λg n=>(by cases n),λe=>by
   have:=(M.lt b e).2;have:=Q.ge;omega,adZ _,aby _⟩
 have aW:=ag.trans (bL.jk ag.tr.size Q);have x:=x.b6 Q.fr;refine aA ah [6] [(1,.pointer (some ⟨s,0,none⟩)),(5,.pointer (some ⟨b,0,none⟩))] rfl ⟨rfl,rfl,trivial⟩ (aQ (aK (aJ (aJ (aR (l:=[0,1,2,3]) rfl (aA ah [0] [(5,.pointer (some ⟨b,0,none⟩)),(19,.pointer (some ⟨s,1,none⟩))] rfl ⟨rfl,rfl,trivial⟩ (cS ah rfl rfl rfl rfl rfl rfl rfl x [U] rfl rfl (.inr rfl) U rfl ?_)))))));obtain⟨B,c5,rfl,a8,a_⟩:=dr aw;refine aA ah [2,3] [(5,.pointer (some ⟨b,0,none⟩)),(20,.slice B f.ak.length c5),(21,.int .i64 (f.ak.length:Int)),(22,.int .i64 ((0:Nat):Int))] rfl ⟨rfl,rfl,rfl,rfl,trivial⟩ (aQ (aK ?_));obtain⟨bs,y,h⟩:=bind_some h;refine fx ?_;refine kj (λm E W=> ∃(rest:List aq) (i:Nat) (O':Γ) (acc:List aq) (rv:Value) (S:Γ) (aI:Γd),rest.length=m/\f.ak.drop i=rest/\E=[(5,.pointer (some ⟨b,0,none⟩)),(20,.slice B f.ak.length c5),(21,.int .i64 (f.ak.length:Int)),(22,.int .i64 (i:Int))]/\bL w.heap.size O w O' W/\ff w.heap.size O' W b nv rv S aI (aC.mk ns acc)/\nL rest acc=some bs) _
  [(5,.pointer (some ⟨b,0,none⟩)),(20,.slice B f.ak.length c5),(21,.int .i64 (f.ak.length:Int)),(22,.int .i64 ((0:Nat):Int))] ⟨rfl,rfl,rfl,rfl,trivial⟩ ⟨f.ak,0,_,[],_,[],[],rfl,rfl,rfl,aW,C,y⟩ ?_
 rintro m E W ⟨rest,i,an,acc,rv,S,aI,rfl,aj,rfl,K,C,y⟩;rcases rest with _|⟨z,rest⟩
 .have hl:=drop_nil aj;have A:(decide ((i:Int)<(f.ak.length:Int)))=false:=decide_eq_false (by omega);refine aJ (aR (l:=[0]) rfl (aA ah [0] [(5,.pointer (some ⟨b,0,none⟩)),(23,.bool (decide ((i:Int)<(f.ak.length:Int))))] rfl ⟨rfl,rfl,trivial⟩ (aQ (aK (aJ (eP rfl A (ki (fI (fI (kk (aK ?_)))))))))));refine aJ (aR (l:=[0,1,2]) rfl (aA ah [0,1,2] [(2,.pointer (some ⟨b,0,none⟩)),(3,.int .i64 0)] rfl ⟨rfl,rfl,trivial⟩ (aQ (aK (cO ?_)))));cases y;cases h;exact dv rfl ⟨_,_,rfl,K,λ_=>⟨b,rfl,_,_,_,_,C⟩⟩
 obtain⟨hl,n,aj⟩:=drop_cons aj;have A:(decide ((i:Int)<(f.ak.length:Int)))=true:=decide_eq_true (by omega);refine aJ (aR (l:=[0]) rfl (aA ah [0] [(5,.pointer (some ⟨b,0,none⟩)),(20,.slice B f.ak.length c5),(21,.int .i64 (f.ak.length:Int)),(22,.int .i64 (i:Int)),(23,.bool (decide ((i:Int)<(f.ak.length:Int))))] rfl ⟨rfl,rfl,rfl,rfl,rfl,trivial⟩ (aQ (aK (aJ (eJ rfl A (dh (aK (aJ (fx (aJ (aR (l:=[0,1,2,3]) rfl (Kk ah rfl rfl rfl rfl rfl rfl rfl rfl rfl rfl aw rfl (ξS _) (by rw[κ];exact n) (λp6 bb=>?_))))))))))))));refine U4 ah rfl rfl rfl rfl rfl rfl rfl bb K.fr rfl rfl (λv6 bf=>?_);obtain⟨bC,rfl,aM⟩:=aim.1 bf;obtain⟨G,H,rfl,bt,bz⟩:=dr aM;refine oA ah rfl rfl rfl rfl rfl rfl [.int .u64 0,.slice none 0 0] rfl K.ob (λq w7 F=>?_);have ay:=C.new F;have ar:=K.trans (bL.jk K.tr.size F);have bh:q≠b:=by have:=C.bI.lt;have:=F.ge;omega
 have bc:=C.ns.Rk F;have bd:=C.row.Rk F;refine eZ ah rfl rfl rfl rfl rfl rfl rfl F.bI [.int .u64 z.aa,.slice G z.a6.length H] rfl rfl (by simp[ξ]) rfl [.int .u64 z.aa,.slice G z.a6.length H] rfl (λw8 aH f8=>?_);have I:=ay.st ξ0 f8 bh bc bd;have L:=ar.trans (bL.gx ar.ob ξ0 (ι K.tr.size F.ge) f8);clear ay ar;refine aQ (aK ?_);rw[nL] at y;obtain⟨ws,bg,y⟩:=bind_some y;obtain⟨bk,aF,y⟩:=bind_some y;obtain⟨X,Z,rfl,br,bx⟩:=I.row.form;have af:=L.ob;have hlen:aI.length=acc.length:=by have:=I.fo.len;simpa using this
 refine ai7 mixed [⟨26,[],[5]⟩,⟨27,[],[5]⟩,⟨28,[1],[]⟩,⟨29,[2],[]⟩,⟨30,[3],[]⟩,⟨31,[4],[]⟩,⟨32,[],[7]⟩,⟨33,[6],[]⟩,⟨34,[],[7]⟩,⟨35,[8],[]⟩,⟨36,[9],[]⟩,⟨37,[7,10],[]⟩,⟨38,[11],[]⟩]
  [SP.eq (.pointer (some ⟨b,0,none⟩)),SP.eq (.pointer (some ⟨b,0,none⟩)),SP.eq (.pointer (some ⟨b,0,none⟩)),SP.eq (.pointer (some ⟨b,0,none⟩)),SP.eq (.pointer (some ⟨b,1,none⟩)),SP.eq (.slice X aI.length Z),SP.eq (.pointer (some ⟨q,0,none⟩)),SP.eq (.int .u64 z.aa),SP.eq (.pointer (some ⟨q,1,none⟩)),SP.eq (.slice G z.a6.length H),SP.iY TW gY 28 w8.heap.size ws,SP.agw z.aa w8.heap.size ws,SP.agr z.aa w8.heap.size (q::an) ws] [some (.pointer (some ⟨b,0,none⟩)),none,none,none,none,none,none,none,none,none,none,none,none] 39 [5,12] [1,2,3,4,5,6,7,8,9,10,11,12] (λw1 w2 u=> ∃o O',cZ TW 28 w8.heap.size w1 o ws/\dI TR 82 w.heap.size (q::an) w1 (.slice X aI.length Z) (aI++[(z.aa,o)]) O' w2 u) rfl rfl rfl rfl rfl rfl ⟨λ_ _ h=>h,trivial⟩ ⟨?_,?_,?_,?_,?_,?_,?_,?_,?_,?_,?_,?_,?_,trivial⟩ ?_ ⟨?_,rfl,rfl,rfl,rfl,rfl,rfl,rfl,rfl,rfl,rfl,rfl,rfl,trivial⟩ ?_
 .intro a w2 j hN c k d;exact cX ah ⟨hN,c,b4 (E:=[(5,.pointer (some ⟨b,0,none⟩))]) ⟨k 5 rfl _ rfl,trivial⟩⟩ rfl rfl rfl rfl rfl
 .intro a w2 j hN c k d;exact cX ah ⟨hN,c,b4 (E:=[(5,.pointer (some ⟨b,0,none⟩))]) ⟨k 5 rfl _ rfl,trivial⟩⟩ rfl rfl rfl rfl rfl
 .intro a w2 j hN c k d;exact cX ah ⟨hN,c,b4 (E:=[(27,.pointer (some ⟨b,0,none⟩))]) ⟨d 1 rfl _ _ rfl rfl,trivial⟩⟩ rfl rfl rfl rfl rfl
 .intro a w2 j hN c k d;exact cX ah ⟨hN,c,b4 (E:=[(28,.pointer (some ⟨b,0,none⟩))]) ⟨d 2 rfl _ _ rfl rfl,trivial⟩⟩ rfl rfl rfl rfl rfl
 .intro a w2 j hN c k d;exact cX ah ⟨hN,c,b4 (E:=[(29,.pointer (some ⟨b,0,none⟩))]) ⟨d 3 rfl _ _ rfl rfl,trivial⟩⟩ rfl rfl rfl rfl rfl
 .intro a w2 j hN c k d;exact n7 ah ⟨hN,c,b4 (E:=[(30,.pointer (some ⟨b,1,none⟩))]) ⟨d 4 rfl _ _ rfl rfl,trivial⟩⟩ rfl rfl rfl rfl rfl rfl (I.bI.b6 j) [.slice X aI.length Z] rfl rfl (.inr rfl) (.slice X aI.length Z) rfl
 .intro a w2 j hN c k d;exact cX ah ⟨hN,c,b4 (E:=[(7,.pointer (some ⟨q,0,none⟩))]) ⟨k 7 rfl _ rfl,trivial⟩⟩ rfl rfl rfl rfl rfl
 .intro a w2 j hN c k d;exact n7 ah ⟨hN,c,b4 (E:=[(32,.pointer (some ⟨q,0,none⟩))]) ⟨d 6 rfl _ _ rfl rfl,trivial⟩⟩ rfl rfl rfl rfl rfl rfl (aH.b6 j) [.int .u64 z.aa] rfl rfl (.inr rfl) (.int .u64 z.aa) rfl
 .intro a w2 j hN c k d;exact cX ah ⟨hN,c,b4 (E:=[(7,.pointer (some ⟨q,0,none⟩))]) ⟨k 7 rfl _ rfl,trivial⟩⟩ rfl rfl rfl rfl rfl
 .intro a w2 j hN c k d;exact n7 ah ⟨hN,c,b4 (E:=[(34,.pointer (some ⟨q,1,none⟩))]) ⟨d 8 rfl _ _ rfl rfl,trivial⟩⟩ rfl rfl rfl rfl rfl rfl (aH.b6 j) [.slice G z.a6.length H] rfl rfl (.inr rfl) (.slice G z.a6.length H) rfl
 .intro a w2 j hN c k d;exact(ael (O:=[]) ⟨hN,c,b4 (E:=[(35,.slice G z.a6.length H)]) ⟨d 9 rfl _ _ rfl rfl,trivial⟩⟩ rfl rfl rfl rfl abW rfl ((ahI (l7 _) (ξj _) (aM.tr (L.fr.trans j).eo) bg).mono λ_ _ a1=>OD rfl a1)).weaken (λu w3 ⟨hu,D⟩=>⟨hu.less j.size,D⟩)
 .intro a w2 j hN c k d;have d88:cZ TW 28 w8.heap.size w2 (a.tmps.getD 36 undef) ws:=d 10 rfl _ _ rfl rfl;obtain⟨u,av⟩: ∃v,a.tmps.getD 36 undef=v:=⟨_,rfl⟩;rw[av] at d88;obtain⟨V,Y,rfl,_,_⟩:=d88.form;exact(cX ah ⟨hN,c,b4 (E:=[(33,.int .u64 z.aa),(36,.slice V ws.length Y)]) ⟨d 7 rfl _ _ rfl rfl,av,trivial⟩⟩ rfl rfl rfl rfl rfl).weaken (λu w3 ⟨hu,D⟩=>by subst hu;exact⟨⟨_,rfl,d88.b6 gY D⟩,D⟩)
 .intro a w2 j hN c k d;have d96: ∃v,(a.tmps.getD 37 undef)= .agg #[.int .u64 z.aa,v]/\cZ TW 28 w8.heap.size w2 v ws:=d 11 rfl _ _ rfl rfl;obtain⟨bB,aP,ax⟩:=d96;obtain⟨V,Y,rfl,_,_⟩:=ax.form;exact(aeo ah ⟨hN,c,b4 (E:=[(37,.agg #[.int .u64 z.aa,.slice V ws.length Y])]) ⟨aP,trivial⟩⟩ rfl rfl rfl rfl rfl rfl rfl rfl rfl (T:=TR) (xs:=[(z.aa,.slice V ws.length Y)]) (vs:=[.agg #[.int .u64 z.aa,.slice V ws.length Y]]) rfl ⟨⟨_,⟨rfl,_,_,_,rfl⟩,rfl⟩,trivial⟩ rfl rfl rfl (j.ob af)).weaken (λu w3 ⟨hu,D⟩=>⟨⟨_,hu,ax.b6 gY D⟩,D⟩)
 .intro a w2 j hN c d;obtain⟨o,aL,P⟩: ∃v,TR.slice.is (q::an) w2 (a.tmps.getD 38 undef) [(z.aa,v)]/\cZ TW 28 w8.heap.size w2 v ws:=d 12 rfl _ _ rfl rfl;obtain⟨bj,au⟩: ∃v,a.tmps.getD 38 undef=v:=⟨_,rfl⟩;rw[au] at aL;obtain⟨aG,_⟩:=M8 (p:=(z.aa,o)) hlen aF;exact e1.weaken (aek ah ⟨hN,c,b4 (E:=[(31,.slice X aI.length Z),(38,bj)]) ⟨d 5 rfl _ _ rfl rfl,au,trivial⟩⟩ rfl rfl rfl rfl rfl rfl rfl rfl rfl rfl rfl rfl rfl rfl rfl (L.fr.trans j) (j.ob af) (I.row.b6 j) aL aG) (λ_ _ ⟨O',h⟩=>⟨o,O',P,h⟩)
 .rintro w1 w2 u bo ⟨o,O',P,ap⟩ a w' j hN c k;exact cX ah ⟨hN,c,b4 (E:=[(5,.pointer (some ⟨b,0,none⟩))]) ⟨k 5 rfl _ rfl,trivial⟩⟩ rfl rfl rfl rfl rfl
 rintro w9 bD u a bE f9 ⟨o,aO,P,ap⟩ f10 hN c ai a7 hu;have ap:=dI.later ap f10;have t:=I.b6 f9;have aE:=L.trans (bL.n4 af L.tr.size f9);obtain⟨aG,rfl⟩:=M8 (p:=(z.aa,o)) hlen aF;have aD:=aE.trans (bL.IM aE.tr.size t.row ap);obtain⟨ad,ae,rfl,bp,bu⟩:=ap.own.form;refine rV (E:=[(5,.pointer (some ⟨b,0,none⟩)),(20,.slice B f.ak.length c5),(21,.int .i64 (f.ak.length:Int)),(22,.int .i64 (i:Int)),(26,.pointer (some ⟨b,0,none⟩)),(39,.slice ad (aI++[(z.aa,o)]).length ae)]) (l:=[14,15,16,17]) hN c ⟨ai 5 _ rfl rfl,ai 20 _ rfl rfl,ai 21 _ rfl rfl,ai 22 _ rfl rfl,a7 0 _ _ rfl rfl,hu,trivial⟩ rfl (aA ah [14,15,16] [(5,.pointer (some ⟨b,0,none⟩)),(20,.slice B f.ak.length c5),(21,.int .i64 (f.ak.length:Int)),(22,.int .i64 (i:Int)),(39,.slice ad (aI++[(z.aa,o)]).length ae),(42,.pointer (some ⟨b,1,none⟩))] rfl ⟨rfl,rfl,rfl,rfl,rfl,rfl,trivial⟩ ?_);have aX:=ap.bI t.bI t.rb;refine eZ ah rfl rfl rfl rfl rfl rfl rfl aX [.slice ad (aI++[(z.aa,o)]).length ae] rfl rfl (by simp[ξ]) rfl [nv,.slice ad (aI++[(z.aa,o)]).length ae] rfl (λbF aY f11=>?_);have aV:=aD.trans (bL.gx aD.ob (ap.sub _ t.mem) t.ge f11);have ba:=acn P af;have aU:=t.boxes (x':=aC.mk ns (acc++[aq.mk z.aa ws])) (S':=S++(o.ownBlock.toList++[])) ap aY f11
  (by rw[ζb];exact t.fo.app ⟨[],rfl,rfl,P.less (ι L.tr.size (ξj _)),rfl⟩)
  (by
   rw[List.append_nil];refine ξD.2 ⟨t.nd,by cases o.ownBlock<;>simp,λg n bl aZ e=>?_⟩;subst e;have bm:=(I.fo.lt _ n).2;have bn:=(P.lt g (by simpa using aZ)).1;omega)
  (λg n=>by
   rcases ξi.1 n with n|n
   .exact t.out g n
   .exact ba g (by simpa using n)) rfl
 refine aQ (iH (aK ?_));refine aR (l:=[0,1]) rfl (aA ah [0,1] [(5,.pointer (some ⟨b,0,none⟩)),(20,.slice B f.ak.length c5),(21,.int .i64 (f.ak.length:Int)),(22,.int .i64 (γ.wrap ((i:Int)+(1:Int))))] rfl ⟨rfl,rfl,rfl,rfl,trivial⟩ (aQ ?_));exact jy rest.length [(5,.pointer (some ⟨b,0,none⟩)),(20,.slice B f.ak.length c5),(21,.int .i64 (f.ak.length:Int)),(22,.int .i64 ((i+1:Nat):Int))] (ξH _) ⟨rfl,rfl,rfl,congrArg (λz=>some (ζc .i64 z)) (hG hl (ι a8 a_)),trivial⟩ ⟨rest,i+1,aO,_,_,_,_,rfl,aj,rfl,aV,aU,y⟩
noncomputable def pc (L:List (Value×Value)):Γb:=L.flatMap λp=>[p.1,p.2]
theorem fE: ∀(L:List (Value×Value)),(pc L).length=L.length*2
 |[]=>rfl
 |_::r=>by have:=fE r;unfold pc at this ⊢;simp[this];omega
theorem I4 (L M:List (Value×Value)):pc (L++M)=pc L++pc M:=by simp[pc]
theorem x3: ∀(L:List (Value×Value)) (k:Nat),(pc L).take (k*2)=pc (L.take k)
 |[],k=>by simp[pc]
 |x::r,0=>by simp[pc]
 |x::r,k+1=>by
  have:=x3 r k;show([x.1,x.2]++pc r).take ((k+1)*2)=[x.1,x.2]++pc (r.take k);rw[show(k+1)*2=2+k*2 by omega,List.take_append,<-this,ξI (by simp)];simp
theorem x2: ∀(L:List (Value×Value)) (k:Nat),(pc L).drop (k*2)=pc (L.drop k)
 |[],k=>by simp[pc]
 |x::r,0=>by simp
 |x::r,k+1=>by
  have:=x2 r k;show([x.1,x.2]++pc r).drop ((k+1)*2)=pc (r.drop k);rw[show(k+1)*2=2+k*2 by omega,List.drop_append,<-this];simp
theorem ae5 {L:List (Value×Value)} {R:Γb} {k:Nat} {x:Value×Value} (h:L[k]? =some x):((pc L++R).drop (k*2)).take 2=[x.1,x.2]:=by
 have a:=(ε.1 h).1;rw[ξo (by rw[fE];omega),x2,List.drop_eq_getElem_cons a,(ε.1 h).2];rfl
theorem ae6 {L:List (Value×Value)} {R:Γb} {k:Nat} {x:Value×Value} (a:k<L.length):putAt (pc L++R) (k*2) [x.1,x.2]=pc (L.set k x)++R:=by
 unfold putAt;have e:L.set k x=L.take k++[x]++L.drop (k+1):=by
  rw[List.set_eq_take_append_cons_drop,if_pos a];simp
 rw[e,I4,I4,ξ9 (by rw[fE];omega),x3,ξo (by rw[fE];simp;omega)];rw[show k*2+[x.1,x.2].length=(k+1)*2 by simp;omega,x2];simp[pc]
noncomputable def rp (r:Int×Value):Value×Value:=(.int .u64 r.1,r.2)
noncomputable def rc (aI:Γd):Γb:=pc (aI.map rp)
theorem Jd {L:Γd} {R:Γb} {k:Nat} {x:Int×Value} (h:L[k]? =some x):((rc L++R).drop (k*2)).take 2=[.int .u64 x.1,x.2]:=
 ae5 (x:=rp x) (by simp[h])
theorem Sl {L:Γd} {R:Γb} {k:Nat} {x:Int×Value} (a:k<L.length):putAt (rc L++R) (k*2) [.int .u64 x.1,x.2]=rc (L.set k x)++R:=by
 have:=ae6 (L:=L.map rp) (R:=R) (x:=rp x) (k:=k) (by simpa using a);rw[show[(rp x).1,(rp x).2]=[.int .u64 x.1,x.2] from rfl] at this;rw[rc,this,rc];simp[ζy]
theorem Jf {O:Γ} {w:World}: ∀ {L:Γd},(∀r∈L,∃A n c,r.2= .slice A n c)->bN TR O w (rc L) L
 |[],_=>rfl
 |r::L,h=>⟨[.int .u64 r.1,r.2],rc L,rfl,⟨rfl,h r ξ0⟩,Jf λx a=>h x (ξO _ a)⟩
theorem JA {O:Γ} {w:World}: ∀ {L:Γd} {cs:Γb},bN TR O w cs L->cs=rc L/\ ∀r∈L,∃A n c,r.2= .slice A n c
 |[],_,h=>⟨h,by simp⟩
 |r::L,cs,⟨c1,c2,d,b,g⟩=>by
  obtain⟨e,f⟩:=JA g;subst d;rw[b.1,e];refine⟨rfl,λx a=>?_⟩;rcases ζn.1 a with rfl|a
  .exact b.2
  .exact f x a
noncomputable def S3:Value->Nat
 | .slice _ n _=>n
 |_=>0
noncomputable def emp (r:Int×Value):Bool:=S3 r.2==0
noncomputable def ij:Γd->Nat->Int
 |[],_=> -1
 |r::rest,k=>bif emp r then(k:Int) else ij rest (k+1)
theorem abF {n:Nat} {A:Option Addr} {c:Nat} {p:Int}:emp (p,.slice A n c)=((n:Int)==0):=by
 unfold emp S3;cases h:n==0<;>simp_all
set_option maxRecDepth 100000 in
set_option maxHeartbeats 4000000 in
theorem OW {O:Γ} {w:World} (b:OB O w) {p:Int} {A:Option Addr} {n c:Nat}:Calls β 121 #[.agg #[.int .u64 p,.slice A n c]] w (gi (mv Ty.bool) O w (emp (p,.slice A n c))):=by
 refine e8 (args:=[.agg #[.int .u64 p,.slice A n c]]) (N:=7) ζx rfl rfl rfl (aJ (aR (l:=[0,1]) rfl (ld rfl rfl rfl rfl rfl rfl [.int .u64 p,.slice A n c] rfl b (λa w1 n1=>?_))));refine aA ah [1] [(1,.pointer (some ⟨a,0,none⟩))] rfl ⟨rfl,trivial⟩ (aQ (aK (aJ (aR (l:=[0,1,2,3,4]) rfl (aA ah [0] [(3,.pointer (some ⟨a,1,none⟩))] rfl ⟨rfl,trivial⟩ (cS ah rfl rfl rfl rfl rfl rfl rfl n1.bI [.slice A n c] rfl rfl (.inr rfl) (.slice A n c) rfl (aA ah [2,3,4] [(2,.bool ((n:Int)==0))] rfl ⟨rfl,trivial⟩ (aQ (aK (cO (dv rfl ⟨_,rfl,?_,n1.fr⟩)))))))))));exact jE.2 (by rw[abF];rfl)
set_option maxRecDepth 100000 in
set_option maxHeartbeats 4000000 in
theorem ahL {O:Γ} {w:World} (j:OB O w) {v:Value} {aI:Γd} (h:TR.slice.is [] w v aI):Calls β 78 #[v,.func (.func 121) #[] #[]] w (gi (mv (Ty.int .i64)) O w (ij aI 0)):=by
 obtain⟨A,c,rfl,o,r⟩:=dr h;refine e8 (args:=[.slice A aI.length c,.func (.func 121) #[] #[]]) (N:=19) ζN rfl rfl rfl (aJ (aR (l:=[0]) rfl (aA ah [0] [(0,.slice A aI.length c),(1,.func (.func 121) #[] #[])] rfl ⟨rfl,rfl,trivial⟩ (aQ (aK (aJ (aJ (aR (l:=[0,1,2]) rfl (aA ah [0,1,2] [(0,.slice A aI.length c),(1,.func (.func 121) #[] #[]),(7,.int .i64 (aI.length:Int)),(8,.int .i64 ((0:Nat):Int))] rfl ⟨rfl,rfl,rfl,rfl,trivial⟩ (aQ (aK (fx ?_))))))))))));refine kj (λm E W=> ∃(rest:Γd) (i:Nat),rest.length=m/\aI.drop i=rest/\E=[(0,.slice A aI.length c),(1,.func (.func 121) #[] #[]),(7,.int .i64 (aI.length:Int)),(8,.int .i64 (i:Int))]/\Fr [] w W/\ij rest i=ij aI 0) _
  [(0,.slice A aI.length c),(1,.func (.func 121) #[] #[]),(7,.int .i64 (aI.length:Int)),(8,.int .i64 ((0:Nat):Int))] ⟨rfl,rfl,rfl,rfl,trivial⟩ ⟨aI,0,rfl,rfl,rfl,Fr.refl _ _,rfl⟩ ?_
 rintro m E W ⟨rest,i,rfl,g,rfl,a,b⟩;rcases rest with _|⟨z,rest⟩
 .have hl:=drop_nil g;have d:(decide ((i:Int)<(aI.length:Int)))=false:=decide_eq_false (by omega);refine aJ (aR (l:=[0]) rfl (aA ah [0] [(9,.bool (decide ((i:Int)<(aI.length:Int))))] rfl ⟨rfl,trivial⟩ (aQ (aK (aJ (eP rfl d (ki (fI (fI (kk (aK ?_)))))))))));refine aJ (aR (l:=[0]) rfl (aA ah [0] [(4,.int .i64 (-1))] rfl ⟨rfl,trivial⟩ (aQ (aK (cO ?_)))));exact dv rfl ⟨_,rfl,dx.2 (by rw[<-b];rfl),a⟩
 obtain⟨hl,n,k⟩:=drop_cons g;have d:(decide ((i:Int)<(aI.length:Int)))=true:=decide_eq_true (by omega);refine aJ (aR (l:=[0]) rfl (aA ah [0] [(0,.slice A aI.length c),(1,.func (.func 121) #[] #[]),(7,.int .i64 (aI.length:Int)),(8,.int .i64 (i:Int)),(9,.bool (decide ((i:Int)<(aI.length:Int))))] rfl ⟨rfl,rfl,rfl,rfl,rfl,trivial⟩ (aQ (aK (aJ (eJ rfl d (dh (aK (aJ (fx (aJ (aR (l:=[0,1]) rfl (aA ah [0,1] [(0,.slice A aI.length c),(1,.func (.func 121) #[] #[]),(5,.int .i64 (i:Int)),(7,.int .i64 (aI.length:Int)),(8,.int .i64 (i:Int))] rfl ⟨rfl,rfl,rfl,rfl,rfl,trivial⟩ (aQ (aK (aJ (aR (l:=[0,1,2,3,4,5]) rfl (aA ah [0,1,2] [(0,.slice A aI.length c),(1,.func (.func 121) #[] #[]),(5,.int .i64 (i:Int)),(7,.int .i64 (aI.length:Int)),(8,.int .i64 (i:Int)),(11,.func (.func 121) #[] #[]),(12,.slice A aI.length c),(13,.int .i64 (i:Int))] rfl ⟨rfl,rfl,rfl,rfl,rfl,rfl,rfl,rfl,trivial⟩ (Kk ah rfl rfl rfl rfl rfl rfl rfl rfl rfl rfl h rfl (ξS _) (by rw[κ];exact n) (λp6 s=>?_))))))))))))))))))));refine U4 ah rfl rfl rfl rfl rfl rfl rfl s a rfl rfl (λv6 t=>?_);obtain⟨cs,⟨rfl,A2,n2,c2,e⟩,rfl⟩:=t;obtain⟨p,q⟩:=z;simp only at e;subst e;refine U3 (O:=O) (first:=[]) (cap:=[]) rfl rfl rfl rfl rfl rfl rfl NT (OW (a.ob j)) (λu w7 g7 f7=>?_);obtain rfl:=jE.1 g7;have a:=a.trans f7;rw[ij] at b;refine aQ (aK ?_);rcases f:emp (p,.slice A2 n2 c2) with _|_
 .refine hF rfl (dh (iH (aK ?_)));refine aR (l:=[0,1]) rfl (aA ah [0,1] [(0,.slice A aI.length c),(1,.func (.func 121) #[] #[]),(7,.int .i64 (aI.length:Int)),(8,.int .i64 (γ.wrap ((i:Int)+(1:Int))))] rfl ⟨rfl,rfl,rfl,rfl,trivial⟩ (aQ ?_));rw[f] at b;exact jy rest.length [(0,.slice A aI.length c),(1,.func (.func 121) #[] #[]),(7,.int .i64 (aI.length:Int)),(8,.int .i64 ((i+1:Nat):Int))] (ξH _) ⟨rfl,rfl,rfl,congrArg (λz=>some (ζc .i64 z)) (hG hl (ι o r)),trivial⟩ ⟨rest,i+1,rfl,k,rfl,a,b⟩
 .refine iF rfl (aJ (aR (l:=[0,1]) rfl (aA ah [0,1] [(4,.int .i64 (i:Int))] rfl ⟨rfl,trivial⟩ (aQ (aK (cO ?_))))));rw[f] at b;exact yW (eQ (eQ (yW (eQ (dv rfl ⟨_,rfl,dx.2 (by rw[<-b];rfl),a⟩)))))
theorem N5: ∀(L:Γd) (k:Nat),(ij L k= -1/\L.filter (λr=>!emp r)=L)\/ ∃i x,ij L k=((k+i:Nat):Int)/\L[i]? =some x/\emp x=true/\(L.take i).filter (λr=>!emp r)=L.take i
 |[],k=>.inl ⟨rfl,rfl⟩
 |r::L,k=>by
  rw[ij];cases c:emp r with
  |true=>exact .inr ⟨0,r,rfl,rfl,c,rfl⟩
  |false=>
   rcases N5 L (k+1) with⟨a,b⟩|⟨i,x,a,b,d,e⟩
   .exact .inl ⟨a,by rw[ξp,c];simp only[ξQ,if_true];rw[b]⟩
   .exact .inr ⟨i+1,x,by rw[show k+(i+1)=k+1+i by omega];exact a,by simpa using b,d,by
     rw[List.take_succ_cons,ξp,c];simp only[ξQ,if_true];rw[e]⟩
theorem Oe {p:Int×Value->Bool} {L:Γd} {j:Nat} {x:Int×Value} (h:L[j]? =some x):(L.take (j+1)).filter p=(L.take j).filter p++bif p x then[x] else[]:=by
 rw[ξY,h,List.filter_append];cases hp:p x<;>simp[hp]
theorem U2 {P:Program} {r:Option Nat} {N:Nat} {Θ:cE} {ops:Array Oper} {Q:Exit->Act->World->Prop} {l:Γ} {E:Env} {ds:List Deferred} {w:World} {i:Nat} {o:Oper} (p:Θ.ok P) (B:ops[i]? =some o) (hw:want N ops E o.guard=some true) (z:o.dst=none) {t:Nat} {x:Operand} {j b:TI}
  (n:o.op= .call {callee:=.builtin .clear,args:= #[x],argTypes:= #[t]}) (D:Θ.get t=some j) (s:j.tag=5) (F:Θ.get j.e=some b) {g of m c e k:Nat} {cur:Array Value} (G:ev E x=some (.slice (some ⟨g,of,none⟩) (m+1) c)) (d:w.heap[g]? =some (.cells cur e (0,0))) (H:b.zero.cells.size=k) (q: ∀u∈(φ b.zero.cells (m+1)).toList,u.oneCell'=true) (I:of+(m+1)*k<=cur.size)
  (h: ∀(W:World) (new:Array Value),Fr [g] w W->W.heap[g]? =some (.cells new e (0,0))->new=(cur.toList.take of++(φ b.zero.cells (m+1)).toList++cur.toList.drop (of+(m+1)*k)).toArray->WO P r N ops Q l E ds W):WO P r N ops Q (i::l) E ds w:=by
 have hu:=(p.fits D).slice s;have hl:(φ b.zero.cells (m+1)).toList.length=(m+1)*k:=by rw[υ,size_zeroCells,H]
 have f:=run_storeCells_at P g of e (φ b.zero.cells (m+1)).toList 0 cur w d (by rw[hl];omega) q;rw[hl] at f;simp only[ζ6] at f;have C:(ζi #[t] o.type #[.slice (some ⟨g,of,none⟩) (m+1) c]).run P w= .ok (.tuple #[]) (w.setRow g (cur.toList.take of++(φ b.zero.cells (m+1)).toList++cur.toList.drop (of+(m+1)*k)).toArray):=by
  simp only[ζi,ξh,List.getElem?_toArray,ξ8,run_underlying hu,ξd];simp[mQ (p.fits F),f]
 have A:=h (w.setRow g (cur.toList.take of++(φ b.zero.cells (m+1)).toList++cur.toList.drop (of+(m+1)*k)).toArray) _ (kc d) (by simp only[ζz,ξM,d,if_true,τ]) rfl;refine ajd (v:=.tuple #[]) B hw z (by rw[n];simp) (λa y=>?_) A;simp only[execOp,n,ξh,resolve,ξL,ξd,invoke,builtin,ξG,ξR,ζ5,y.eval G,C]
theorem U8 {n:Nat} {a b u:Value} (c:a.oneCell'=true) (d:b.oneCell'=true) (h:u∈(φ (ζA #[a,b]).cells n).toList):u.oneCell'=true:=by
 simp only[φ,Value.cells,Array.toList_map,List.mem_map] at h;obtain⟨i,_,rfl⟩:=h;rcases Nat.mod_two_eq_zero_or_one i with h|h<;>simp[h,c,d]
set_option maxRecDepth 100000 in
set_option maxHeartbeats 4000000 in
theorem ahJ {O:Γ} {w:World} (f:OB O w) {B:Nat} {v:Value} {aI:Γd} (s:Go.Dc.Own TR 82 B O w v aI):Calls β 120 #[v,.func (.func 121) #[] #[]] w (eR TR 82 B O w v (aI.filter λr=>!emp r)):=by
 obtain⟨A,c,rfl,bb,a7⟩:=s.form;refine e8 (args:=[.slice A aI.length c,.func (.func 121) #[] #[]]) (N:=42) ζw rfl rfl rfl (aJ (aR (l:=[0]) rfl (aA ah [0] [(0,.slice A aI.length c),(1,.func (.func 121) #[] #[])] rfl ⟨rfl,rfl,trivial⟩ (aQ (aK (aJ (aR (l:=[0,1,2,3]) rfl (aA ah [0,1] [(0,.slice A aI.length c),(1,.func (.func 121) #[] #[]),(8,.slice A aI.length c),(9,.func (.func 121) #[] #[])] rfl ⟨rfl,rfl,rfl,rfl,trivial⟩ ?_))))))));refine yV rfl rfl rfl rfl rfl abY rfl (ahL f (s.iY.data (Jc _) (λ_ _ h=>by cases h))) (λv2 w2 g2 f2=>?_);obtain rfl:=dx.1 g2;refine aA ah [3] [(0,.slice A aI.length c),(1,.func (.func 121) #[] #[]),(5,.int .i64 (ij aI 0))] rfl ⟨rfl,rfl,rfl,trivial⟩ (aQ (aK (aJ (aJ (aR (l:=[0,1]) rfl (aA ah [0,1] [(0,.slice A aI.length c),(1,.func (.func 121) #[] #[]),(5,.int .i64 (ij aI 0)),(12,.bool ((ij aI 0)== -1))] rfl ⟨rfl,rfl,rfl,rfl,trivial⟩ (aQ (aK ?_))))))));rcases N5 aI 0 with⟨o,aD⟩|⟨i0,bf,o,ai,aB,aC⟩
 .refine eJ rfl (by rw[o];rfl) ?_;refine aJ (aR (l:=[0,1]) rfl (aA ah [0,1] [(4,.slice A aI.length c)] rfl ⟨rfl,trivial⟩ (aQ (aK (cO (eQ (dv rfl ⟨_,O,rfl,?_⟩)))))));rw[aD];exact⟨s.b6 f2,f2.eo,f2.ob f,Sub.refl _,λk F _=>f2.block k F (by simp),λ_ _ h=>h⟩
 rw[χ] at o;refine eP rfl (by rw[o];exact beq_eq_false_iff_ne.2 (by omega)) ?_;rw[o];refine dh (aK ?_);obtain⟨cs,⟨a6,I⟩,aO⟩:=s.ex;have ae:=(ε.1 ai).1;rcases I with⟨_,a'⟩|⟨g,cap,cur,I,al,aF,af,ay,Z,aa⟩
 .omega
 injection I with ak ba ax;subst ak;subst ax;have aE:=s.mem g rfl;obtain⟨az,ad⟩:=JA aO;have aq:TR.n=2:=rfl;rw[aq] at Z aa;obtain⟨R,hR⟩: ∃R,R=cur.toList.drop (aI.length*2):=⟨_,rfl⟩;have ab:cur.toList=rc aI++R:=by
  rw[hR,<-az,<-aa];exact(ξ3 _ _).symm
 have a1:aI.length*2+R.length=c*2:=by
  have:=congrArg ζd ab;rw[υ,Z] at this;simp only[ν,rc,fE,ρ] at this;omega
 have y:bK w g 82 (rc aI++R):=by
  unfold bK;rw[<-ab,ξs];exact aF
 have au:=y.b6 f2;have aU:γ.wrap ((i0:Int)+1)=((i0+1:Nat):Int):=hG ae (by omega);refine aJ (aJ (aR (l:=[0,1,2]) rfl (aA ah [0,1,2] [(0,.slice (some ⟨g,0,none⟩) aI.length c),(1,.func (.func 121) #[] #[]),(5,.int .i64 (i0:Int)),(6,.int .i64 (γ.wrap ((i0:Int)+1)))] rfl ⟨rfl,rfl,rfl,rfl,trivial⟩ ?_)));rw[aU];refine aQ (aK (fx ?_));refine kj (λm E W=> ∃(i j:Nat) (M:Γd),aI.length-j=m/\i<j/\j<=aI.length/\E=[(0,.slice (some ⟨g,0,none⟩) aI.length c),(1,.func (.func 121) #[] #[]),(5,.int .i64 (i:Int)),(6,.int .i64 (j:Int))]/\Fr [g] w W/\bK W g 82 (rc M++R)/\M.length=aI.length/\M.take i=(aI.take j).filter (λr=>!emp r)/\M.drop j=aI.drop j) _
  [(0,.slice (some ⟨g,0,none⟩) aI.length c),(1,.func (.func 121) #[] #[]),(5,.int .i64 (i0:Int)),(6,.int .i64 ((i0+1:Nat):Int))] ⟨rfl,rfl,rfl,rfl,trivial⟩ ⟨i0,i0+1,aI,rfl,ξH _,ae,rfl,f2.more (by simp),au,rfl,by rw[Oe ai,aC,aB];simp,rfl⟩ ?_
 rintro m E W ⟨i,j,M,hm,a8,a_,rfl,b,C,V,d,S⟩;refine aJ (aJ (aR (l:=[0,1,2,3]) rfl (aA ah [0,1,2,3] [(0,.slice (some ⟨g,0,none⟩) aI.length c),(1,.func (.func 121) #[] #[]),(5,.int .i64 (i:Int)),(6,.int .i64 (j:Int)),(19,.bool (decide ((j:Int)<(aI.length:Int))))] rfl ⟨rfl,rfl,rfl,rfl,rfl,trivial⟩ (aQ (aK ?_)))))
 by_cases H:j<aI.length
 case neg=>
  refine eP rfl (decide_eq_false (by omega)) ?_;refine ki (fI (fI (kk (aK ?_))));refine aJ (aR (l:=[0,1,2,3]) rfl (aA ah [0,1] [(0,.slice (some ⟨g,0,none⟩) aI.length c),(5,.int .i64 (i:Int)),(36,.slice (some ⟨g,0,none⟩) aI.length c),(37,.int .i64 (i:Int))] rfl ⟨rfl,rfl,rfl,rfl,trivial⟩ (rU ah rfl rfl rfl rfl rfl rfl rfl rfl rfl rfl af (by omega) ?_)));rw[if_neg (by omega),τ,fg,χ];obtain⟨q,aN⟩: ∃q,aI.length-i=q+1:=⟨aI.length-i-1,by omega⟩;rw[aN];have aT:(rc M++R).length=c*2:=by simp only[ν,rc,fE,ρ];omega
  refine U2 (k:=2) ah rfl rfl rfl rfl rfl rfl rfl rfl C rfl (λu hu=>U8 rfl rfl hu) (by simp only[ξE,aT];show i*2+(q+1)*2<=c*2;omega) (λaj new aS aP aL=>?_);have an:Fr [g] w aj:=b.trans aS;have bc:(rc M++R).take (i*2)=rc (M.take i):=by
   unfold rc;rw[ξ9 (by rw[fE,ρ];omega),x3,ξT]
  have ag:new.toList=rc (M.take i)++((φ (ζA #[.int .u64 0,.slice none 0 0]).cells (q+1)).toList++(rc M++R).drop (i*2+(q+1)*2)):=by
   rw[aL];simp only[ξw,ξk]
   congr 1
  have aM:new.size=c*2:=by
   rw[<-υ,ag];simp only[ν,ξq,υ,size_zeroCells,rc,fE,ρ,ξr];show min i M.length*2+((q+1)*2+(M.length*2+R.length-(i*2+(q+1)*2)))=c*2;omega
  refine aQ (aK (aJ (aR (l:=[0,1,2,3]) rfl (aA ah [0,1] [(39,.slice (some ⟨g,0,none⟩) aI.length c),(40,.int .i64 (i:Int))] rfl ⟨rfl,rfl,trivial⟩ (Ki ah rfl rfl rfl rfl rfl rfl rfl rfl rfl rfl af (by omega) ?_)))));refine aA ah [3] [(4,.slice (some ⟨g,0,none⟩) i c)] rfl ⟨rfl,trivial⟩ (aQ (aK (cO (dv rfl ⟨_,O,rfl,?_⟩))));have aH:aI.take j=aI:=ξI (by omega);rw[aH] at d;have aG:(aI.filter λr=>!emp r).length=i:=by rw[<-d,ξr];omega
  have:=Kl (T:=TR) (e:=82) (B:=B) (n0:=aI.length) (zs:=aI.filter λr=>!emp r) (cap:=c) f aE al an aP aM ay (by omega) (Jf λx aV=>ad x (ξv.1 aV).1) (by
   rw[ag,d];refine ξx ?_;rw[rc,fE,ρ];rfl)
  rw[aG] at this;exact this
 refine eJ rfl (decide_eq_true (by omega)) ?_;refine dh (aK ?_);obtain⟨z,J⟩: ∃x,aI[j]? =some x:=⟨_,θ H⟩;have ao:M[j]? =some z:=by
  have:=congrArg (·[0]?) S;simp only[ξA,ζ6] at this;rw[this,J]
 obtain⟨A2,n2,c2,L⟩:=ad z (ξ6 J);obtain⟨p,q⟩:=z;simp only at L;subst L;have U: ∀(G:Γd),(∀k,j<k->G[k]? =M[k]?)->G.drop (j+1)=aI.drop (j+1):=by
  intro G h;apply List.ext_getElem?;intro k;have:=congrArg (·[k+1]?) S;simp only[ξA] at this ⊢;rw[h _ (by omega),show j+1+k=j+(k+1) by omega,this]
 have K: ∀j:Nat,(j:Int).toNat*({tag:=8,k:=0,e:=0,fs:=[(29,0),(40,1)],size:=2,bytes:=32,zero:=.agg #[.int .u64 0,.slice none 0 0]}:TI).size=j*2:=λj=>by rw[κ]
 refine aJ (fx (aJ (aR (l:=[0,1,2,3,4,5]) rfl (aA ah [0,1] [(0,.slice (some ⟨g,0,none⟩) aI.length c),(1,.func (.func 121) #[] #[]),(5,.int .i64 (i:Int)),(6,.int .i64 (j:Int)),(22,.slice (some ⟨g,0,none⟩) aI.length c),(23,.int .i64 (j:Int))] rfl ⟨rfl,rfl,rfl,rfl,rfl,rfl,trivial⟩ (mM ah rfl rfl rfl rfl rfl rfl rfl rfl rfl rfl (by omega) (by rw[κ];omega) ?_)))));rw[K,fg,χ];refine cS ah rfl rfl rfl rfl rfl rfl rfl C [.int .u64 p,.slice A2 n2 c2] (Jd ao) rfl (.inl rfl) (.agg #[.int .u64 p,.slice A2 n2 c2]) rfl (oA ah rfl rfl rfl rfl rfl rfl [.int .u64 0,.slice none 0 0] rfl (b.ob f) (λt w7 a=>?_));refine eZ ah rfl rfl rfl rfl rfl rfl rfl a.bI [.int .u64 p,.slice A2 n2 c2] rfl rfl (by simp[ξ]) rfl [.int .u64 p,.slice A2 n2 c2] rfl (λw8 X f8=>?_);have aW:g≠t:=by have:=C.lt;have:=a.ge;omega
 have aw:=(C.b6 a.fr).fr f8 (by simp;exact aW);have P:Fr [g] w w8:=by
  refine⟨f8.os.trans (a.fr.os.trans b.os),f8.tape.trans (a.fr.tape.trans b.tape),f8.output.trans (a.fr.output.trans b.output),ι b.size (ι a.fr.size f8.size),λk F hn=>?_⟩;have aX:=b.size;have aY:=a.ge;have aZ:=a.fr.size;rw[f8.block k (by omega) (by simp;omega),a.fr.block k (by omega) (by simp),b.block k F hn]
 refine aQ (aK (aJ (aR (l:=[0,1,2,3]) rfl (aA ah [0] [(0,.slice (some ⟨g,0,none⟩) aI.length c),(1,.func (.func 121) #[] #[]),(5,.int .i64 (i:Int)),(6,.int .i64 (j:Int)),(7,.pointer (some ⟨t,0,none⟩)),(26,.func (.func 121) #[] #[])] rfl ⟨rfl,rfl,rfl,rfl,rfl,rfl,trivial⟩ (cS ah rfl rfl rfl rfl rfl rfl rfl X [.int .u64 p,.slice A2 n2 c2] rfl rfl (.inl rfl) (.agg #[.int .u64 p,.slice A2 n2 c2]) rfl (U3 (O:=O) (first:=[]) (cap:=[]) rfl rfl rfl rfl rfl rfl rfl NT (OW (P.ob f)) (λv9 w9 g9 f9=>?_)))))));obtain rfl:=jE.1 g9;have Q:=P.trans (f9.more (by simp));have Y:=aw.b6 f9;have av:=X.b6 f9;refine aA ah [3] [(0,.slice (some ⟨g,0,none⟩) aI.length c),(1,.func (.func 121) #[] #[]),(5,.int .i64 (i:Int)),(6,.int .i64 (j:Int)),(7,.pointer (some ⟨t,0,none⟩)),(29,.bool (!emp (p,.slice A2 n2 c2)))] rfl ⟨rfl,rfl,rfl,rfl,rfl,rfl,trivial⟩ (aQ (aK ?_));have D:=Oe (p:=λr=>!emp r) J;rcases y:emp (p,.slice A2 n2 c2) with _|_
 .rw[y] at D;refine iF rfl (aJ (aR (l:=[0,1,2,3,4]) rfl (aA ah [0,1] [(0,.slice (some ⟨g,0,none⟩) aI.length c),(1,.func (.func 121) #[] #[]),(5,.int .i64 (i:Int)),(6,.int .i64 (j:Int)),(7,.pointer (some ⟨t,0,none⟩)),(30,.slice (some ⟨g,0,none⟩) aI.length c),(31,.int .i64 (i:Int))] rfl ⟨rfl,rfl,rfl,rfl,rfl,rfl,rfl,trivial⟩ (cS ah rfl rfl rfl rfl rfl rfl rfl av [.int .u64 p,.slice A2 n2 c2] rfl rfl (.inl rfl) (.agg #[.int .u64 p,.slice A2 n2 c2]) rfl (mM ah rfl rfl rfl rfl rfl rfl rfl rfl rfl rfl (by omega) (by rw[κ];omega) ?_)))));rw[K,fg,χ];refine eZ ah rfl rfl rfl rfl rfl rfl rfl Y [.int .u64 p,.slice A2 n2 c2] rfl rfl (by simp[ξ]) (ξc (by simp only[ν,rc,fE,ρ];show i*2+2<=_;omega)) (rc (M.set i (p,.slice A2 n2 c2))++R) (Sl (x:=(p,.slice A2 n2 c2)) (by omega)) (λbd ar f10=>?_);refine aQ (aK (aR (l:=[0,1,2]) rfl (aA ah [0,1,2] [(0,.slice (some ⟨g,0,none⟩) aI.length c),(1,.func (.func 121) #[] #[]),(5,.int .i64 (γ.wrap ((i:Int)+1))),(6,.int .i64 (j:Int))] rfl ⟨rfl,rfl,rfl,rfl,trivial⟩ ?_)));rw[hG (show i<aI.length by omega) (by omega)];refine aQ (iH (aK ?_));refine aR (l:=[0,1,2]) rfl (aA ah [0,1,2] [(0,.slice (some ⟨g,0,none⟩) aI.length c),(1,.func (.func 121) #[] #[]),(5,.int .i64 ((i+1:Nat):Int)),(6,.int .i64 (γ.wrap ((j:Int)+1)))] rfl ⟨rfl,rfl,rfl,rfl,trivial⟩ ?_);rw[hG H (by omega)];refine aQ ?_;refine jy (aI.length-(j+1)) [(0,.slice (some ⟨g,0,none⟩) aI.length c),(1,.func (.func 121) #[] #[]),(5,.int .i64 ((i+1:Nat):Int)),(6,.int .i64 ((j+1:Nat):Int))] (by omega) ⟨rfl,rfl,rfl,rfl,trivial⟩ ⟨i+1,j+1,M.set i (p,.slice A2 n2 c2),rfl,by omega,by omega,rfl,Q.trans f10,ar,by rw[ξy];exact V,?_,U _ (λk F=>List.getElem?_set_ne (by omega))⟩;rw[D,<-d,ξY,List.take_set_of_le (by omega),List.getElem?_set_self (by omega)];rfl
 .rw[y] at D;refine hF rfl (dh (iH (aK ?_)));refine aR (l:=[0,1,2]) rfl (aA ah [0,1,2] [(0,.slice (some ⟨g,0,none⟩) aI.length c),(1,.func (.func 121) #[] #[]),(5,.int .i64 (i:Int)),(6,.int .i64 (γ.wrap ((j:Int)+1)))] rfl ⟨rfl,rfl,rfl,rfl,trivial⟩ ?_);rw[hG H (by omega)];refine aQ ?_;refine jy (aI.length-(j+1)) [(0,.slice (some ⟨g,0,none⟩) aI.length c),(1,.func (.func 121) #[] #[]),(5,.int .i64 (i:Int)),(6,.int .i64 ((j+1:Nat):Int))] (by omega) ⟨rfl,rfl,rfl,rfl,trivial⟩ ⟨i,j+1,M,rfl,by omega,by omega,rfl,Q,Y,V,?_,U M (λ_ _=>rfl)⟩;rw[D,<-d];simp
end Go.Proofs.YtdhaaaeffhaadaaGreatDoor
end
section


end
section
namespace Go.Proofs.YtdhaaaeffhaadaaGreatDoor
open Go.RowKit Go.Dc Go.Vx
theorem On: ∀ {S:Γ} {rs:Γd} {xs:List (Int×Γa)} {B:Nat} {w:World} {k:Nat} {r:Int×Value} {y:Int×Γa},c6 TW 28 B w S rs xs->rs[k]? =some r->xs[k]? =some y->r.1=y.1/\cZ TW 28 B w r.2 y.2/\ ∀g,r.2.ownBlock=some g->g∈S
 |_,x::rs,z::xs,_,_,0,r,y,⟨n,j,f,l,m⟩,d,e=>by
  simp at d e;subst d;subst e;exact⟨j,l,λg i=>by rw[f,i];simp⟩
 |_,x::rs,z::xs,_,_,k+1,r,y,⟨n,j,f,l,m⟩,d,e=>by
  obtain⟨a,b,c⟩:=On m (by simpa using d) (by simpa using e);exact⟨a,b,λg i=>by rw[f];exact ξb _ (c g i)⟩
 |_,[],_,_,_,_,_,_,_,d,_=>by simp at d
 |_,_::_,[],_,_,_,_,_,h,_,_=>h.elim
theorem agY {B:Nat} {a:Γ} {w:World} {rv:Value} {S:Γ} {aI:Γd} {bs:List aq} (s:cZ TR 82 B w rv aI) (b:c6 TW 28 B w S aI (bs.map bx)) (j: ∀g,rv.ownBlock=some g->g∉a) (l: ∀g∈S,g∉a):(Ty.slice eI).is a w rv bs:=by
 have hlen:aI.length=bs.length:=by have:=b.len;simpa using this
 obtain⟨cs,⟨A,c,o,hl,v⟩,u⟩:=s.data (Jc _) j;refine⟨cs,⟨A,c,by rw[<-hlen];exact o,by rw[<-hlen];exact hl,λk z d=>?_⟩,u⟩;have e:k<aI.length:=by rw[hlen];exact(ε.1 d).1
 obtain⟨ad,es,m,n,r,t,p⟩:=v k _ (θ e);obtain⟨f,h,i⟩:=On b (θ e) (show(bs.map bx)[k]? =some (bx z) by simp[d]);refine⟨ad,es,m,n,r,?_,p⟩;refine⟨[.int .u64 z.aa],[aI[k].2],?_,rfl,gf rfl (h.data gY λg q=>l g (i g q))⟩;rw[t.1,f];rfl
theorem ff.aaP {B:Nat} {O d:Γ} {w:World} {b:Nat} {nv rv:Value} {S:Γ} {aI:Γd} {x:aC} (h:ff B O w b nv rv S aI x) (e: ∀g∈d,g<B):(Ty.slice eI).is d w rv x.ak:=
 agY h.row.iY h.fo (λg a c=>by have:=(h.row.lt g a).1;have:=e g c;omega) (λg a c=>by have:=(h.fo.lt g a).1;have:=e g c;omega)
theorem yG:cY.Flat:=λh=>h
noncomputable def mC (x:aC):aC:=aC.mk x.an (x.ak.filter λz=>!(z.a6.length==0))
noncomputable def xv (fuel:Sh) (x:aC) (pid:Int):Option (aC×Int):=(HM fuel x.ak pid).bind λf=>bif (!f.2) then(hW 32 x.ak f.1 [aq.mk pid []]).bind λbs=>some (aC.mk x.an bs,f.1) else some (x,f.1)
set_option maxRecDepth 100000 in
set_option maxHeartbeats 4000000 in
theorem ac2 {O:Γ} {w:World} (p:OB O w) {B b:Nat} {x:aC} (o:cB KK [] w) (K:0<B) (e:B<=w.heap.size) (h:kq B O w b x) {pid:Int} {r:aC×Int} (a:xv shut x pid=some r):
  Calls β 119 #[.pointer (some ⟨b,0,none⟩),.int .u64 pid] w (λn w'=>n= .returned (.int .i64 r.2)/\ ∃O',bL B O w O' w'/\kq B O' w' b r.1):=by
 obtain⟨nv,rv,S,aI,h⟩:=h;unfold xv at a;refine e8 (args:=[.pointer (some ⟨b,0,none⟩),.int .u64 pid]) (N:=34) ζv rfl rfl rfl (aJ (aR (l:=[0]) rfl (aA ah [0] [(0,.pointer (some ⟨b,0,none⟩)),(1,.int .u64 pid)] rfl ⟨rfl,rfl,trivial⟩ (aQ (aK (aJ (aR (l:=[0,1,2,3,4,5,6,7,8,9,10,11]) rfl (aA ah [0,1,2,3] [(0,.pointer (some ⟨b,0,none⟩)),(1,.int .u64 pid),(11,.pointer (some ⟨b,1,none⟩))] rfl ⟨rfl,rfl,rfl,trivial⟩ ?_))))))));obtain⟨A1,c1,rfl,_,_⟩:=h.row.form;refine cS ah rfl rfl rfl rfl rfl rfl rfl h.bI [.slice A1 aI.length c1] rfl rfl (.inr rfl) (.slice A1 aI.length c1) rfl (aA ah [5] [(0,.pointer (some ⟨b,0,none⟩)),(1,.int .u64 pid),(12,.slice A1 aI.length c1),(13,.int .u64 pid)] rfl ⟨rfl,rfl,rfl,rfl,trivial⟩ ?_);obtain⟨f,y,a⟩:=bind_some a;refine yV rfl rfl rfl rfl rfl abT rfl (ac3 (l7 _) o (h.aaP (λg A=>by simp at A;omega)) y) (λv2 w2 g2 f2=>?_);obtain⟨_,_,rfl,H,I⟩:=g2;obtain rfl:=dx.1 H;obtain rfl:=jE.1 I;have h:=h.b6 f2;have c:bL B O w O w2:=bL.n4 p e f2;refine aA ah [7,8,9,10,11] [(0,.pointer (some ⟨b,0,none⟩)),(1,.int .u64 pid),(5,.int .i64 f.1),(6,.bool f.2)] rfl ⟨rfl,rfl,rfl,rfl,trivial⟩ (aQ (aK (aJ (aJ (aR (l:=[0,1]) rfl (aA ah [0,1] [(0,.pointer (some ⟨b,0,none⟩)),(1,.int .u64 pid),(5,.int .i64 f.1),(18,.bool (!f.2))] rfl ⟨rfl,rfl,rfl,rfl,trivial⟩ (aQ (aK ?_))))))));rcases iR a with⟨j,a⟩|⟨j,a⟩
 rotate_left
 .refine eP rfl j (dh (aK (aJ (aR (l:=[0,1]) rfl (aA ah [0,1] [(4,.int .i64 f.1)] rfl ⟨rfl,trivial⟩ (aQ (aK (cO ?_))))))));cases a;exact dv rfl ⟨rfl,_,c,_,_,_,_,h⟩
 refine eJ rfl j ?_;obtain⟨bs,u,a⟩:=bind_some a;cases a;refine aR (l:=[0,1,2,3,4,5,6,7,8,9,10,11,12,13,14]) rfl (aA ah [0,1,2,3,4] [(1,.int .u64 pid),(5,.int .i64 f.1),(19,.pointer (some ⟨b,0,none⟩)),(23,.pointer (some ⟨b,1,none⟩))] rfl ⟨rfl,rfl,rfl,rfl,trivial⟩ (cS ah rfl rfl rfl rfl rfl rfl rfl h.bI [.slice A1 aI.length c1] rfl rfl (.inr rfl) (.slice A1 aI.length c1) rfl (aA ah [6,7,8] [(5,.int .i64 f.1),(19,.pointer (some ⟨b,0,none⟩)),(24,.slice A1 aI.length c1),(25,.int .i64 f.1),(27,.agg #[.int .u64 pid,.slice none 0 0])] rfl ⟨rfl,rfl,rfl,rfl,rfl,trivial⟩ (mN ah rfl rfl rfl rfl rfl rfl rfl rfl rfl rfl (T:=TR) (xs:=[(pid,.slice none 0 0)]) (vs:=[.agg #[.int .u64 pid,.slice none 0 0]]) rfl ⟨⟨_,⟨rfl,_,_,_,rfl⟩,rfl⟩,trivial⟩ rfl rfl rfl c.ob (λJ w3 d=>?_)))));have h:=h.b6 d.fr;have i:=c.trans (bL.n4 c.ob (ι e c.tr.size) d.fr);have v:=d.data c.ob;have D:=(d.own (B:=0) (Nat.zero_le _)).plain;have k:B<=w3.heap.size:=ι e i.tr.size;obtain⟨E,F,G,rfl⟩:=O2 u;have hlen:aI.length=x.ak.length:=by have:=h.fo.len;simpa using this
 have C:yv aI f.1 [(pid,.slice none 0 0)]=some (aI.take f.1.toNat++[(pid,.slice none 0 0)]++aI.drop f.1.toNat):=by
  unfold yv hW;rw[if_pos ⟨E,by rw[hlen];exact F,by rw[hlen];exact G⟩]
 refine U5 rfl rfl rfl rfl rfl abU rfl (ahM i.ob k h.row (dx.2 rfl) v D C) (λP w' O' ap=>?_);have m:=i.trans (bL.IM k h.row ap);have s:=ap.bI h.bI h.rb;obtain⟨A2,c2,rfl,_,_⟩:=ap.own.form;have z:=h.fo.ins f.1.toNat pid (by rw[hlen];omega);generalize M:(aI.take f.1.toNat++[(pid,.slice none 0 0)]++aI.drop f.1.toNat)=L at*
 refine aA ah [11,12,13] [(5,.int .i64 f.1),(29,.slice A2 L.length c2),(32,.pointer (some ⟨b,1,none⟩))] rfl ⟨rfl,rfl,rfl,trivial⟩ (eZ ah rfl rfl rfl rfl rfl rfl rfl s [.slice A2 L.length c2] rfl rfl (by simp[ξ]) rfl [nv,.slice A2 L.length c2] rfl (λw5 t f5=>?_));have q:=m.trans (bL.gx m.ob (ap.sub _ h.mem) h.ge f5);refine aQ (aK (aJ (aR (l:=[0,1]) rfl (aA ah [0,1] [(4,.int .i64 f.1)] rfl ⟨rfl,trivial⟩ (aQ (aK (cO (dv rfl ⟨rfl,_,q,_,_,_,_,h.boxes (x':=aC.mk x.an (x.ak.take f.1.toNat++[aq.mk pid []]++x.ak.drop f.1.toNat)) ap t f5 ?_ h.nd h.out rfl⟩))))))));simpa[ξT,ζo,bx] using z
theorem ajh {P:Program} {r:Option Nat} {N:Nat} {ops:Array Oper} {Q:Exit->Act->World->Prop} {l:Γ} {E:Env} {ds:List Deferred} {w:World} {i d:Nat} {o:Oper} (k:ops[i]? =some o) (hw:want N ops E o.guard=some true) (j:o.dst=some d) (hN:ζK d N=true) {x:Operand} {args:Array Operand} {p:Array TypeId} (b:o.op= .call {callee:=.value x,args:=args,argTypes:=p})
  {g:FuncId} {first cap vs:Γb} (n:ev E x=some (.func (.func g) first.toArray cap.toArray)) (m:g_ E args.toList=some vs) (he: ∀(vs:Array Value) (u:World),(callFunc g vs).run P u= .ok (.enter g vs) u)
  {R:Ending->World->Prop} (f:Calls P g (first++vs++cap).toArray w R) (h: ∀e w',R e w'-> ∃v,e= .returned v/\WO P r N ops Q l ((d,v)::E) ds w'):WO P r N ops Q (i::l) E ds w:=
 Kj k hw j hN (by rw[b];simp) (λa c=>by simpa using Te (w:=w) c b n m he) f h
noncomputable def lY (fuel:Sh) (x:aC) (pid:Int):Option (aC×Int×Int):=(qW fuel x).bind λh=>bif (!(h.2==0)) then some (aC.mk [] [],0,h.2) else bif (!(kN pid)) then some (aC.mk [] [],0,2) else(xv fuel h.1 pid).bind λq=>some (q.1,q.2,0)
noncomputable def Va (O:Γ) (w:World) (r:aC×Int×Int) (c:Ending) (w':World):Prop:= ∃a O',c= .returned (.tuple #[a,.int .i64 r.2.1,.int .i64 r.2.2])/\bL w.heap.size O w O' w'/\(r.2.2=0-> ∃b,a= .pointer (some ⟨b,0,none⟩)/\kq w.heap.size O' w' b r.1)
theorem bL.to {O O1 O':Γ} {w w1 w':World} (h:bL w.heap.size O w O1 w1) (k:bL w1.heap.size O1 w1 O' w'):bL w.heap.size O w O' w':=
 h.trans ⟨k.tr,k.ob,k.sub,λi hi=>k.below i (δ hi h.tr.size)⟩
theorem kq.less {B c:Nat} {O:Γ} {w:World} {b:Nat} {x:aC} (h:kq B O w b x) (i:c<=B):kq c O w b x:=by
 obtain⟨nv,rv,S,aI,h⟩:=h;have less: ∀ {α:Type} {T:Ty α} {e:Nat} {v:Value} {xs:List α},Go.Dc.Own T e B O w v xs->Go.Dc.Own T e c O w v xs:=λh=>by
  obtain⟨⟨cs,⟨l,a⟩,d⟩,f⟩:=h;refine⟨⟨cs,⟨l,?_⟩,d⟩,f⟩;rcases a with a|⟨g,cap,cur,o,n,r⟩
  .exact .inl a
  .exact .inr ⟨g,cap,cur,o,ι i n,r⟩
 have k: ∀ {S:Γ} {rs:Γd} {xs:List (Int×Γa)},c6 TW 28 B w S rs xs->c6 TW 28 c w S rs xs:=λ{S rs xs} h=>by
  induction rs generalizing S xs with
  |nil=>cases xs with
   |nil=>exact h
   |cons _ _=>exact h.elim
  |cons r rs p=>cases xs with
   |nil=>exact h.elim
   |cons y ys=>obtain⟨j,a,d,f,m⟩:=h;exact⟨j,a,d,f.less i,p m⟩
 exact⟨nv,rv,S,aI,h.mem,ι i h.ge,h.bI,less h.ns,less h.row,k h.fo,h.nd,h.out,h.nb,h.rb,h.dj⟩
set_option maxRecDepth 100000 in
set_option maxHeartbeats 4000000 in
theorem HL {O:Γ} {w:World} (s:OB O w) (j:cB KK [] w) {v0:Value} {p:aC} (u:dY.is [0] w v0 p) {pid:Int} {r:aC×Int×Int} (h:lY shut p pid=some r):Calls β 75 #[v0,.int .u64 pid] w (Va O w r):=by
 have c:dY.is [] w v0 p:=u.tr (Tr.less (mA _));obtain⟨m,n,rfl,H,I⟩:=iD.1 c;have t:bL w.heap.size O w O w:=bL.refl s;refine e8 (args:=[.agg #[m,n],.int .u64 pid]) (N:=29) ζL rfl rfl rfl ?_;unfold lY at h;refine aJ (aR (l:=[0,1,2,3]) rfl (ld rfl rfl rfl rfl rfl rfl [m,n] rfl s (λy w1 n1=>?_)));have D:=n1.bI;have f:=t.trans (bL.jk t.tr.size n1);refine aA ah [1,2,3] [(1,.int .u64 pid),(2,.pointer (some ⟨y,0,none⟩))] rfl ⟨rfl,rfl,trivial⟩ (aQ (aK (aJ (aR (l:=[0,1,2,3,4,5,6]) rfl (cS ah rfl rfl rfl rfl rfl rfl rfl D [m,n] rfl rfl (.inl rfl) (.agg #[m,n]) rfl ?_)))));obtain⟨e,he,h⟩:=bind_some h;refine jx rfl rfl rfl rfl rfl abQ rfl (ac5 f.ob (j.tr f.fr.eo) (u.tr f.fr.eo) he) (λ_ w2 o=>?_);obtain⟨v,x,rfl,B,z⟩:=o;refine⟨_,rfl,?_⟩;have g:=f.to B;refine aA ah [2,3,4,5,6] [(1,.int .u64 pid),(7,v),(8,.int .i64 e.2)] rfl ⟨rfl,rfl,rfl,trivial⟩ (aQ (aK (aJ (fx (aJ (aR (l:=[0,1,2]) rfl (aA ah [0,1,2] [(1,.int .u64 pid),(7,v),(8,.int .i64 e.2),(15,.bool (!(e.2==0)))] rfl ⟨rfl,rfl,rfl,rfl,trivial⟩ (aQ (aK ?_)))))))));rcases iR h with⟨a,h⟩|⟨a,h⟩
 .refine eJ rfl a (aJ (aR (l:=[0,1,2,3]) rfl (aA ah [0,1,2,3] [(4,.pointer none),(5,.int .i64 0),(6,.int .i64 e.2)] rfl ⟨rfl,rfl,rfl,trivial⟩ (aQ (aK (cO ?_))))));cases h;exact yW (eQ (dv rfl ⟨_,_,rfl,g,λc=>by simp at a;exact absurd c a⟩))
 refine eP rfl a ?_;have E:e.2=0:=by simpa using a
 obtain⟨b,rfl,d⟩:=z E;have d:=d.less f.tr.size;refine aJ (aR (l:=[0,1,2,3]) rfl (aA ah [0] [(1,.int .u64 pid),(7,.pointer (some ⟨b,0,none⟩)),(8,.int .i64 e.2),(20,.int .u64 pid)] rfl ⟨rfl,rfl,rfl,rfl,trivial⟩ (yV rfl rfl rfl rfl rfl abZ rfl (ac4 (l7 _) (j.tr g.fr.eo) (dx.2 rfl)) (λv4 w4 g4 f4=>?_))));obtain rfl:=jE.1 g4;have i:=g.trans (bL.n4 g.ob g.tr.size f4);have d:kq w.heap.size x w4 b e.1:=let⟨_,_,_,_,k⟩:=d;⟨_,_,_,_,k.b6 f4⟩
 refine aA ah [2,3] [(1,.int .u64 pid),(7,.pointer (some ⟨b,0,none⟩)),(19,.bool (!(kN pid)))] rfl ⟨rfl,rfl,rfl,trivial⟩ (aQ (aK ?_));rcases iR h with⟨a,h⟩|⟨a,h⟩
 .refine eJ rfl a (aJ (aR (l:=[0,1,2]) rfl (aA ah [0,1,2] [(4,.pointer none),(5,.int .i64 0),(6,.int .i64 2)] rfl ⟨rfl,rfl,rfl,trivial⟩ (aQ (aK (cO ?_))))));cases h;exact yW (eQ (dv rfl ⟨_,_,rfl,i,λc=>by cases c⟩))
 refine eP rfl a (dh (iH (aK ?_)));refine aJ (aR (l:=[0,1,2]) rfl (aA ah [0,1,2] [(1,.int .u64 pid),(7,.pointer (some ⟨b,0,none⟩)),(9,.func (.func 119) #[.pointer (some ⟨b,0,none⟩)] #[])] rfl ⟨rfl,rfl,rfl,trivial⟩ (aQ (aK (aJ (aR (l:=[0,1,2,3,4,5,6]) rfl (aA ah [0,1,2] [(25,.pointer (some ⟨b,0,none⟩)),(26,.func (.func 119) #[.pointer (some ⟨b,0,none⟩)] #[]),(27,.int .u64 pid)] rfl ⟨rfl,rfl,rfl,trivial⟩ ?_)))))));obtain⟨q,F,h⟩:=bind_some h;cases h;refine ajh (first:=[.pointer (some ⟨b,0,none⟩)]) (cap:=[]) rfl rfl rfl rfl rfl rfl rfl abR (ac2 i.ob (j.tr i.fr.eo) j.1 i.tr.size d F) (λ_ w5 o=>?_);obtain⟨rfl,G,C,A⟩:=o;refine⟨_,rfl,?_⟩;refine aA ah [4,5,6] [(4,.pointer (some ⟨b,0,none⟩)),(5,.int .i64 q.2),(6,.int .i64 0)] rfl ⟨rfl,rfl,rfl,trivial⟩ (aQ (aK (cO ?_)));exact dv rfl ⟨_,_,rfl,i.trans C,λ_=>⟨b,rfl,A⟩⟩
noncomputable def Safe (S:Γ) (w:World) (v:Value) (ys:Γa):Prop:= ∀a:Γ,(∀g∈S,g∉a)->TW.slice.is a w v ys
theorem Safe.keep {S:Γ} {w w':World} {O O':Γ} {v:Value} {ys:Γa} (h:Safe S w v ys) (a:Tr O w O' w') (i: ∀g∈S,w'.heap[g]? =w.heap[g]?):Safe S w' v ys:=λl e=>by
 refine(h ((List.range w.heap.size).filter λk=>!S.contains k) (λg f hm=>?_)).tr ⟨a.os,a.tape,a.output,a.size,λk j d=>?_⟩
 .simp[f] at hm
 .have b:k∈S:=by
   rw[ξv] at d
   by_cases c:k∈S
   .exact c
   .exact absurd ⟨by simpa using j,by simpa using c⟩ d
  exact⟨e k b,i k b⟩
noncomputable def dL (S:Γ) (w:World):Γd->List aq->Prop
 |[],[]=>True
 |r::rs,z::bs=>r.1=z.aa/\Safe S w r.2 z.a6/\dL S w rs bs
 |_,_=>False
theorem dL.imp {S S':Γ} {w w':World} (h: ∀v ys,Safe S w v ys->Safe S' w' v ys): ∀ {rs:Γd} {bs:List aq},dL S w rs bs->dL S' w' rs bs
 |[],[],_=>trivial
 |_::_,_::_,⟨a,b,c⟩=>⟨a,h _ _ b,dL.imp h c⟩
 |[],_::_,k=>k.elim
 |_::_,[],k=>k.elim
theorem dL.len {S:Γ} {w:World}: ∀ {rs:Γd} {bs:List aq},dL S w rs bs->rs.length=bs.length
 |[],[],_=>rfl
 |_::_,_::_,⟨_,_,a⟩=>by simp[dL.len a]
 |[],_::_,k=>k.elim
 |_::_,[],k=>k.elim
theorem dL.of {B:Nat} {w:World}: ∀ {S:Γ} {rs:Γd} {bs:List aq} (a:Γ),c6 TW 28 B w S rs (bs.map bx)->(∀g∈S,g∈a)->dL a w rs bs
 |_,[],[],_,_,_=>trivial
 |_,r::rs,z::bs,a,⟨l,e,c,f,i⟩,d=>by
  refine⟨e,λk j=>f.data gY λg b=>j g (d g (by rw[c,b];simp)),dL.of a i λg b=>d g (by rw[c];exact ξb _ b)⟩
 |_,[],_::_,_,h,_=>h.elim
 |_,_::_,[],_,h,_=>h.elim
theorem dL.at_ {S:Γ} {w:World}: ∀ {rs:Γd} {bs:List aq} {k:Nat} {z:aq},dL S w rs bs->bs[k]? =some z-> ∃v,rs[k]? =some (z.aa,v)/\Safe S w v z.a6
 |r::rs,y::bs,0,z,⟨d,e,_⟩,c=>by
  simp at c;subst c;exact⟨r.2,by simp[<-d],e⟩
 |r::rs,y::bs,k+1,z,⟨_,_,f⟩,c=>by
  obtain⟨v,a,b⟩:=dL.at_ f (by simpa using c);exact⟨v,by simpa using a,b⟩
 |[],[],_,_,_,c=>by simp at c
 |[],_::_,_,_,h,_=>h.elim
 |_::_,[],_,_,h,_=>h.elim
theorem dL.set {S:Γ} {w:World}: ∀ {rs:Γd} {bs:List aq} (k:Nat) {v:Value} {p:Int} {ys:Γa},dL S w rs bs->Safe S w v ys->dL S w (rs.set k (p,v)) (bs.set k (aq.mk p ys))
 |[],[],_,_,_,_,h,_=>h
 |r::rs,y::bs,0,v,p,ys,⟨_,_,a⟩,b=>⟨rfl,b,a⟩
 |r::rs,y::bs,k+1,v,p,ys,⟨c,d,a⟩,b=>⟨c,d,dL.set k a b⟩
 |[],_::_,_,_,_,_,h,_=>h.elim
 |_::_,[],_,_,_,_,h,_=>h.elim
theorem ahR {S:Γ} {w:World}:Safe S w (.slice none 0 0) []:=λ_ _=>fR _ _ _
theorem dL.filter {S:Γ} {w:World}: ∀ {rs:Γd} {bs:List aq},dL S w rs bs->dL S w (rs.filter λr=>!emp r) (bs.filter λz=>!(z.a6.length==0))
 |[],[],_=>trivial
 |r::rs,z::bs,⟨d,a,b⟩=>by
  obtain⟨A,c,e,_,_⟩:=dr (a [] (λ_ _ h=>by cases h));have he:emp r=(z.a6.length==0):=by unfold emp;rw[e];rfl
  rw[ξp,ξp,he];cases f:z.a6.length==0 with
  |true=>exact dL.filter b
  |false=>exact⟨d,a,dL.filter b⟩
 |[],_::_,k=>k.elim
 |_::_,[],k=>k.elim
structure gB (B:Nat) (O:Γ) (w:World) (b:Nat) (nv rv:Value) (S:Γ) (aI:Γd) (x:aC):Prop where
 mem:b∈O
 ge:B<=b
 bI:bK w b 128 [nv,rv]
 ns:Go.Dc.Own cY 93 B O w nv x.an
 row:Go.Dc.Own TR 82 B O w rv aI
 fo:dL S w aI x.ak
 lt: ∀g∈S,B<=g/\g<w.heap.size
 out: ∀g∈S,g∉O
 nb:nv.ownBlock≠some b
 rb:rv.ownBlock≠some b
 dj:Dj nv rv
noncomputable def Mx (B:Nat) (O:Γ) (w:World) (b:Nat) (x:aC):Prop:= ∃nv rv S aI,gB B O w b nv rv S aI x
theorem ff.Kf {B:Nat} {O:Γ} {w:World} {b:Nat} {nv rv:Value} {S:Γ} {aI:Γd} {x:aC} (h:ff B O w b nv rv S aI x):gB B O w b nv rv S aI x:=
 ⟨h.mem,h.ge,h.bI,h.ns,h.row,dL.of S h.fo (λ_ h=>h),h.fo.lt,h.out,h.nb,h.rb,h.dj⟩
section
variable {B:Nat} {O O':Γ} {w w' b8:World} {b:Nat} {nv rv:Value} {S:Γ} {aI:Γd} {x:aC}
theorem gB.b6 (h:gB B O w b nv rv S aI x) (a:Fr [] w w'):gB B O w' b nv rv S aI x:=
 ⟨h.mem,h.ge,h.bI.b6 a,h.ns.b6 a,h.row.b6 a,h.fo.imp λ_ _ k=>k.keep (O:=[]) (O':=[]) a.eo λg c=>a.block g (h.lt g c).2 (by simp),λg c=>⟨(h.lt g c).1,δ (h.lt g c).2 a.size⟩,h.out,h.nb,h.rb,h.dj⟩
theorem gB.cell (h:gB B O w b nv rv S aI x) {c:Nat} (f:c∈O) (i:c<B) (a:Fr [c] w w'):gB B O w' b nv rv S aI x:=
 ⟨h.mem,h.ge,h.bI.fr a (by simp;have:=h.ge;omega),h.ns.st a f (λe=>by have:=(h.ns.lt c e).1;omega),h.row.st a f (λe=>by have:=(h.row.lt c e).1;omega),
  h.fo.imp λ_ _ k=>k.keep (a.tr (hx f)) λg d=>a.block g (h.lt g d).2 (by simp;have:=(h.lt g d).1;omega),λg d=>⟨(h.lt g d).1,δ (h.lt g d).2 a.size⟩,h.out,h.nb,h.rb,h.dj⟩
theorem gB.boxes (h:gB B O w b nv rv S aI x) {e:Value} {d:Γd} {x':aC} (ap:dI TR 82 B O w rv d O' w' e) (i:bK b8 b 128 [nv,e]) (c:Fr [b] w' b8)
  (j:dL S w d x'.ak) (hn:x'.an=x.an):gB B O' b8 b nv e S d x':=by
 have hm:=ap.sub _ h.mem;have f:=ap.ne _ h.bI.lt h.rb;have l:=ap.other h.ns λg a=>h.dj g a;refine⟨hm,h.ge,i,by rw[hn];exact l.st c hm h.nb,ap.own.st c hm f,?_,λg a=>⟨(h.lt g a).1,δ (h.lt g a).2 (ι ap.tr.size c.size)⟩,λg a=>(ap.tr.keep g (h.lt g a).2 (h.out g a)).1,h.nb,f,λg a=>ap.ne _ (h.ns.lt g a).2 (h.dj g a)⟩;refine j.imp λ_ _ k=>k.keep (ap.tr.trans (c.tr (hx hm))) λg a=>?_;rw[c.block g (δ (h.lt g a).2 ap.tr.size) (by simp;rintro rfl;exact h.out _ a h.mem),(ap.tr.keep g (h.lt g a).2 (h.out g a)).2]
theorem gB.data {e:Γ} (h:gB B O w b nv rv S aI x) (f: ∀g∈e,g<B):dY.is e w (.agg #[nv,rv]) x:=by
 refine iD.2 ⟨_,_,rfl,h.ns.iY.data yG (λg d a=>by have:=(h.ns.lt g d).1;have:=f g a;omega),?_⟩;have hlen:=h.fo.len;obtain⟨cs,⟨A,c,l,hl,s⟩,r⟩:=h.row.iY.data (O:=e) (Jc _) (λg d a=>by have:=(h.row.lt g d).1;have:=f g a;omega);refine⟨cs,⟨A,c,by rw[<-hlen];exact l,by rw[<-hlen];exact hl,λk z n=>?_⟩,r⟩;obtain⟨v,o,q⟩:=h.fo.at_ n;obtain⟨ad,es,i,j,a,p,m⟩:=s k _ o;refine⟨ad,es,i,j,a,?_,m⟩;refine⟨[.int .u64 z.aa],[v],?_,rfl,gf rfl (q e λg d a=>by have:=(h.lt g d).1;have:=f g a;omega)⟩;rw[p.1];rfl
end
set_option maxRecDepth 100000 in
set_option maxHeartbeats 4000000 in
theorem HN {O:Γ} {w:World} (e:OB O w) {B b:Nat} {x:aC} (d:B<=w.heap.size) (h:Mx B O w b x):Calls β 76 #[.pointer (some ⟨b,0,none⟩)] w (λc w'=>c= .returned (.tuple #[])/\ ∃O',bL B O w O' w'/\Mx B O' w' b (mC x)):=by
 obtain⟨nv,rv,S,aI,h⟩:=h;refine e8 (args:=[.pointer (some ⟨b,0,none⟩)]) (N:=12) ζM rfl rfl rfl (aR (l:=[0,1,2,3,4,5,6,7,8,9,10]) rfl (aA ah [0,1,2,3,4] [(2,.pointer (some ⟨b,0,none⟩)),(6,.pointer (some ⟨b,1,none⟩))] rfl ⟨rfl,rfl,trivial⟩ ?_));obtain⟨A1,c1,rfl,_,_⟩:=h.row.form;refine cS ah rfl rfl rfl rfl rfl rfl rfl h.bI [.slice A1 aI.length c1] rfl rfl (.inr rfl) (.slice A1 aI.length c1) rfl (U5 rfl rfl rfl rfl rfl abS rfl (ahJ e h.row) (λm w' O' ap=>?_));have a:=bL.IM d h.row ap;have g:=ap.bI h.bI h.rb;obtain⟨A2,c2,rfl,_,_⟩:=ap.own.form;have j:=h.fo.filter;generalize k:(aI.filter λr=>!emp r)=L at*
 refine aA ah [7,8,9] [(8,.slice A2 L.length c2),(11,.pointer (some ⟨b,1,none⟩))] rfl ⟨rfl,rfl,trivial⟩ (eZ ah rfl rfl rfl rfl rfl rfl rfl g [.slice A2 L.length c2] rfl rfl (by simp[ξ]) rfl [nv,.slice A2 L.length c2] rfl (λw3 i f3=>?_));have f:=a.trans (bL.gx a.ob (ap.sub _ h.mem) h.ge f3);refine aQ ?_;exact U7 rfl ⟨rfl,_,f,_,_,_,_,h.boxes (x':=mC x) ap i f3 j rfl⟩
theorem JC {B:Nat} {O:Γ} {w:World} {A:Option Addr} {c:Nat} {aI:Γd} (f:Go.Dc.Own TR 82 B O w (.slice A aI.length c) aI) (t:0<aI.length):
  ∃g R,A=some ⟨g,0,none⟩/\g∈O/\B<=g/\bK w g 82 (rc aI++R)/\aI.length*2+R.length=c*2/\aI.length<=c/\c<=maxLen/\ ∀r∈aI,∃A n c,r.2= .slice A n c:=by
 obtain⟨cs,⟨u,b⟩,s⟩:=f.ex;rcases b with⟨_,v⟩|⟨g,cap,cur,b,i,p,q,l,d,a⟩
 .omega
 injection b with h x k;subst h;subst k;obtain⟨m,o⟩:=JA s;have j:TR.n=2:=rfl;rw[j] at d a;have e:cur.toList=rc aI++cur.toList.drop (aI.length*2):=by
  rw[<-m,<-a,a]
  conv=>lhs;rw[<-ξ3 (aI.length*2) cur.toList]
  rw[a]
 refine⟨g,cur.toList.drop (aI.length*2),rfl,f.mem g rfl,i,?_,?_,q,l,o⟩
 .unfold bK;rw[<-e,ξs];exact p
 .have:=congrArg ζd e;rw[υ,d] at this;simp only[ν,rc,fE,ρ] at this;omega
theorem ahi {B:Nat} {O:Γ} {w':World} {g c:Nat} {L:Γd} {R:Γb} (f:g∈O) (a:B<=g) (b:bK w' g 82 (rc L++R)) (hl:L.length*2+R.length=c*2) (d:L.length<=c) (hm:c<=maxLen) (e: ∀r∈L,∃A n c,r.2= .slice A n c):
  Go.Dc.Own TR 82 B O w' (.slice (some ⟨g,0,none⟩) L.length c) L:=by
 refine⟨⟨rc L,⟨by rw[rc,fE,ρ];rfl,.inr ⟨g,c,(rc L++R).toArray,rfl,a,b,d,hm,?_,?_⟩⟩,Jf e⟩,λk h=>by cases h;exact f⟩
 .rw[ξE,ν,rc,fE,ρ];exact hl
 .exact ξx (by rw[rc,fE,ρ];rfl)
theorem k6 {L:Γd} {R:Γb} {k:Nat} {x:Int×Value} (h:L[k]? =some x):((rc L++R).drop (k*2+1)).take 1=[x.2]:=by
 have:=Jd (R:=R) h;have e:=congrArg (List.drop 1) this;rw[List.drop_take,ζj] at e;simpa using e
theorem Je {L:Γd} {R:Γb} {k:Nat} {x:Int×Value} {v:Value} (h:L[k]? =some x):putAt (rc L++R) (k*2+1) [v]=rc (L.set k (x.1,v))++R:=by
 have c:=(ε.1 h).1;rw[<-Sl (x:=(x.1,v)) c];have a:=Jd (R:=R) h;have b:((rc L++R).drop (k*2))= .int .u64 x.1::x.2::(rc L++R).drop (k*2+2):=by
  have:=ξ3 2 ((rc L++R).drop (k*2));rw[a,ζj] at this;exact this.symm
 unfold putAt;have d:(rc L++R).take (k*2+1)=(rc L++R).take (k*2)++[.int .u64 x.1]:=by
  rw[List.take_add,b];rfl
 rw[d];simp
noncomputable def qT (fuel:Sh) (x:aC) (pid:Int):Option (aC×Int×Int):=(lY fuel x pid).bind λh=>bif (!(h.2.2==0)) then some (aC.mk [] [],0,h.2.2) else(idx h.1.ak h.2.1).bind λz=>some (mC (aC.mk h.1.an (h.1.ak.set h.2.1.toNat (aq.mk z.aa []))),(z.a6.length:Int),0)
noncomputable def qU (fuel:Sh) (x:aC) (pid:Int):Option (aC×Int×Int):=(lY fuel x pid).bind λh=>bif (!(h.2.2==0)) then some (aC.mk [] [],0,h.2.2) else(idx h.1.ak h.2.1).bind λz=>bif ((z.a6.length:Int)==0) then some (aC.mk [] [],0,4) else(idx z.a6 0).bind λw0=>some (mC (aC.mk h.1.an (h.1.ak.set h.2.1.toNat (aq.mk z.aa (z.a6.drop 1)))),w0,0)
noncomputable def qV (fuel:Sh) (x:aC) (pid:Int) (words:Γa):Option (aC×Int):=(lY fuel x pid).bind λh=>bif (!(h.2.2==0)) then some (aC.mk [] [],h.2.2) else(idx h.1.ak h.2.1).bind λz=>bif (decide (γ.wrap ((z.a6.length:Int)+(words.length:Int))>4)) then some (aC.mk [] [],6) else(app 8 z.a6 words).bind λws=>some (mC (aC.mk h.1.an (h.1.ak.set h.2.1.toNat (aq.mk z.aa ws))),0)
theorem I_ {B:Nat} {O:Γ} {w w':World} {b g c:Nat} {nv:Value} {S:Γ} {aI L:Γd} {R:Γb} {names:List av} {bs:List aq} (mem:b∈O) (ge:B<=b) (bI:bK w b 128 [nv,.slice (some ⟨g,0,none⟩) aI.length c]) (ns:Go.Dc.Own cY 93 B O w nv names) (nb:nv.ownBlock≠some b) (dj:Dj nv (.slice (some ⟨g,0,none⟩) aI.length c))
  (i:g≠b) (d:g∈O) (l:B<=g) (hl:aI.length*2+R.length=c*2) (p:aI.length<=c) (hm:c<=maxLen) (f:Fr [g] w w') (o:bK w' g 82 (rc L++R)) (h:L.length=aI.length) (m: ∀r∈L,∃A n c,r.2= .slice A n c) (q:dL S w L bs) (lt: ∀j∈S,B<=j/\j<w.heap.size) (out: ∀j∈S,j∉O):
  gB B O w' b nv (.slice (some ⟨g,0,none⟩) aI.length c) S L (aC.mk names bs):=by
 refine⟨mem,ge,bI.fr f (by simp;exact λe=>i e.symm),ns.st f d (λe=>dj g e rfl),?_,q.imp λ_ _ k=>k.keep (f.tr (hx d)) λj a=>f.block j (lt j a).2 (by simp;rintro rfl;exact out _ a d),λj a=>⟨(lt j a).1,δ (lt j a).2 f.size⟩,out,nb,λe=>i (by injection e),dj⟩;rw[<-h];exact ahi d l o (by rw[h];exact hl) (by rw[h];exact p) hm m
noncomputable def SP.safe (S:Γ) (ys:Γa):SP:=⟨λw u=>(∀g∈S,g<w.heap.size)/\Safe S w u ys,λa ⟨c,d⟩=>⟨λg b=>δ (c g b) a.size,d.keep (O:=[]) (O':=[]) a.eo λg b=>a.block g (c g b) (by simp)⟩⟩
theorem aem {P:Program} {r:Option Nat} {N:Nat} {Θ:cE} {ops:Array Oper} {Q:Exit->Act->World->Prop} {E:Env} {ds:List Deferred} {w:World} {i d:Nat} {o:Oper} {S:Γ} (s:Θ.ok P) {a:Act} (c:Has N E ds a) (I:ops[i]? =some o) (hw:want N ops E o.guard=some true) (D:o.dst=some d) {t:Nat} {x:Operand} {lo hi mx:Option Operand} {f y:TI} (j:o.op= .slice t x lo hi mx) (m:Θ.get t=some f)
  (g:f.tag=5) (p:Θ.get f.e=some y) {v:Value} (L:ev E x=some v) {l' h' m':Option (IntKind×Int)} (G:jN E lo=some l') (F:jN E hi=some h') (H:jN E mx=some m') {xs ys:Γa} (hn:TW.n=y.size) (q:Safe S w v xs)
  (h:dn xs (l'.map (·.2)) (h'.map (·.2)) (m'.map (·.2))=some ys):e1 P r ops Q i d a w (λu w'=>Safe S w' u ys/\Fr [] w w'):=by
 obtain⟨z,k,O⟩:=yq (w:=w) s m g p hn (q [] λ_ _ hm=>by cases hm) h;have J:Safe S w z ys:=λA C=>by
  obtain⟨R,l,K⟩:=yq (w:=w) s m g p hn (q A C) h;rw[k] at l;injection l with B M;rw[B];exact K
 refine l_ I (gX c hw) D (b:=true) (v:=z) (w':=w) ?_ ⟨J,Fr.refl _ _⟩;simp only[if_true];refine⟨by rw[j];simp,?_⟩;simp only[execOp,j,ξh,c.eval L,nA c G,nA c F,nA c H,k];rfl
set_option maxRecDepth 100000 in
set_option maxHeartbeats 4000000 in
theorem acZ {O:Γ} {w:World} (I:OB O w) (au:cB KK [] w) {v0:Value} {M:aC} (F:dY.is [0] w v0 M) {v1:Value} {f:Int} (aj:(Ty.int .u64).is [] w v1 f) {r:aC×Int×Int} (h:qT shut M f=some r):Calls β 30 #[v0,v1] w (gi (S9 dY (Ty.int .i64) (Ty.int .i64)) O w r):=by
 have ai:dY.is [] w v0 M:=F.tr (Tr.less (mA _));obtain rfl:=dx.1 aj;obtain⟨u,v,rfl,aY,aZ⟩:=iD.1 ai;have U:bL w.heap.size O w O w:=bL.refl I;refine e8 (args:=[.agg #[u,v],.int .u64 f]) (N:=47) ζP rfl rfl rfl ?_;unfold qT at h;refine aJ (aR (l:=[0,1,2,3]) rfl (ld rfl rfl rfl rfl rfl rfl [u,v] rfl I (λP w1 n1=>?_)));have J:=n1.bI;have A:=U.trans (bL.jk U.tr.size n1);refine oA ah rfl rfl rfl rfl rfl rfl [.slice none 0 0,.slice none 0 0] rfl A.ob (λa w2 n2=>?_);have J:=J.b6 n2.fr;have d:=n2.bI;have Y:w.heap.size<=a:=ι A.tr.size n2.ge;have i:=A.trans (bL.jk A.tr.size n2);have i2:a∈a::P::O:=ξ0;have L:a<w2.heap.size:=d.lt;have aw: ∀g∈O,g<w2.heap.size:=λg t=>δ (I g t) i.tr.size;refine aA ah [2,3] [(1,.int .u64 f),(2,.pointer (some ⟨P,0,none⟩)),(4,.pointer (some ⟨a,0,none⟩))] rfl ⟨rfl,rfl,rfl,trivial⟩ (aQ (aK (aJ (aR (l:=[0,1,2,3,4,5,6,7,8,9]) rfl (cS ah rfl rfl rfl rfl rfl rfl rfl J [u,v] rfl rfl (.inl rfl) (.agg #[u,v]) rfl ?_)))));obtain⟨e,he,h⟩:=bind_some h;refine aA ah [1] [(1,.int .u64 f),(4,.pointer (some ⟨a,0,none⟩)),(12,.agg #[u,v]),(13,.int .u64 f)] rfl ⟨rfl,rfl,rfl,rfl,trivial⟩ (jx rfl rfl rfl rfl rfl F' rfl (HL i.ob (au.tr i.fr.eo) (F.tr i.fr.eo) he) (λ_ w3 t=>?_));obtain⟨af,aU,rfl,B,av⟩:=t;refine⟨_,rfl,?_⟩;have d:bK w3 a 34 [.slice none 0 0,.slice none 0 0]:=(B.below _ L).trans d;have C:=i.to B;have i2:=B.sub _ i2;refine aA ah [3,4,5,6,7,8,9] [(1,.int .u64 f),(4,.pointer (some ⟨a,0,none⟩)),(7,af),(8,.int .i64 e.2.1),(9,.int .i64 e.2.2)] rfl ⟨rfl,rfl,rfl,rfl,rfl,trivial⟩ (aQ (aK (aJ (aJ (aR (l:=[0,1]) rfl (aA ah [0,1] [(1,.int .u64 f),(4,.pointer (some ⟨a,0,none⟩)),(7,af),(8,.int .i64 e.2.1),(9,.int .i64 e.2.2),(19,.bool (!(e.2.2==0)))] rfl ⟨rfl,rfl,rfl,rfl,rfl,rfl,trivial⟩ (aQ (aK ?_))))))));rcases iR h with⟨E,h⟩|⟨E,h⟩
 .refine eJ rfl E ?_;cases h;refine aJ (aR (l:=[0,1,2,3,4]) rfl (aA ah [0,1] [(4,.pointer (some ⟨a,0,none⟩)),(20,.agg #[.slice none 0 0,.slice none 0 0]),(21,.int .i64 e.2.2)] rfl ⟨rfl,rfl,rfl,trivial⟩ (eZ ah rfl rfl rfl rfl rfl rfl rfl d [.slice none 0 0,.slice none 0 0] rfl rfl (by simp[ξ]) rfl [.slice none 0 0,.slice none 0 0] rfl (λaO K y=>?_))));refine aA ah [3,4] [(4,.pointer (some ⟨a,0,none⟩)),(5,.int .i64 0),(6,.int .i64 e.2.2)] rfl ⟨rfl,rfl,rfl,trivial⟩ (aQ (aK (cO ?_)));exact eQ (lh ah (vs:=[.agg #[.slice none 0 0,.slice none 0 0],.int .i64 0,.int .i64 e.2.2]) ⟨_,_,rfl,⟨_,_,_,_,rfl,K,rfl,rfl,.inl rfl,rfl⟩,_,_,rfl,rfl,_,_,rfl,rfl,rfl⟩ ⟨_,rfl,⟨_,_,_,rfl,iD.2 ⟨_,_,rfl,fR _ _ _,fR _ _ _⟩,dx.2 rfl,dx.2 rfl⟩,(C.trans (bL.gx C.ob i2 Y y)).fr⟩)
 refine eP rfl E ?_;have aB:e.2.2=0:=by simpa using E
 obtain⟨b,rfl,nv,rv,S,aI,c⟩:=av aB;refine dh (aK ?_);obtain⟨z,F,h⟩:=bind_some h;obtain⟨a1,ad⟩:=nN F;obtain⟨k,ab⟩: ∃k:Nat,k=e.2.1.toNat:=⟨_,rfl⟩;rw[<-ab] at ad;have aD:e.2.1=(k:Int):=by omega
 rw[aD];rw[<-ab] at h;have D:=c.Kf;obtain⟨a',m,aN⟩:=D.fo.at_ ad;obtain⟨G,H,rfl,a7,a8⟩:=dr (aN [] λ_ _ hm=>by cases hm);obtain⟨aP,n,rfl,_,_⟩:=c.row.form;have aH:=(ε.1 m).1;obtain⟨g,R,rfl,Z,T,X,aL,az,aM,aE⟩:=JC c.row (by omega);have aF:g≠b:=λe=>c.rb (by rw[<-e];rfl);have Q:(k:Int).toNat*({tag:=8,k:=0,e:=0,fs:=[(29,0),(40,1)],size:=2,bytes:=32,zero:=.agg #[.int .u64 0,.slice none 0 0]}:TI).size=k*2:=by rw[κ]
 have ae:(k:Int).toNat<aI.length:=by rw[κ];exact aH
 refine aJ (aR (l:=[0,1,2,3,4,5,6,7,8,9,10]) rfl (aA ah [0,1,2,3] [(4,.pointer (some ⟨a,0,none⟩)),(7,.pointer (some ⟨b,0,none⟩)),(8,.int .i64 (k:Int)),(25,.pointer (some ⟨b,1,none⟩))] rfl ⟨rfl,rfl,rfl,rfl,trivial⟩ (cS ah rfl rfl rfl rfl rfl rfl rfl c.bI [.slice (some ⟨g,0,none⟩) aI.length n] rfl rfl (.inr rfl) (.slice (some ⟨g,0,none⟩) aI.length n) rfl (aA ah [5] [(4,.pointer (some ⟨a,0,none⟩)),(7,.pointer (some ⟨b,0,none⟩)),(8,.int .i64 (k:Int)),(26,.slice (some ⟨g,0,none⟩) aI.length n),(27,.int .i64 (k:Int))] rfl ⟨rfl,rfl,rfl,rfl,rfl,trivial⟩ (mM ah rfl rfl rfl rfl rfl rfl rfl rfl rfl rfl (by omega) ae ?_)))));rw[Q,fg,χ];refine aA ah [7] [(4,.pointer (some ⟨a,0,none⟩)),(7,.pointer (some ⟨b,0,none⟩)),(8,.int .i64 (k:Int)),(29,.pointer (some ⟨g,k*2+1,none⟩))] rfl ⟨rfl,rfl,rfl,rfl,trivial⟩ (cS ah rfl rfl rfl rfl rfl rfl rfl X [.slice G z.a6.length H] (k6 m) rfl (.inr rfl) (.slice G z.a6.length H) rfl (aA ah [9,10] [(4,.pointer (some ⟨a,0,none⟩)),(7,.pointer (some ⟨b,0,none⟩)),(8,.int .i64 (k:Int)),(10,.int .i64 (z.a6.length:Int))] rfl ⟨rfl,rfl,rfl,rfl,trivial⟩ (aQ (aK (aJ (aR (l:=[0,1,2,3,4,5,6,7,8]) rfl (aA ah [0,1,2,3] [(4,.pointer (some ⟨a,0,none⟩)),(7,.pointer (some ⟨b,0,none⟩)),(8,.int .i64 (k:Int)),(10,.int .i64 (z.a6.length:Int)),(35,.pointer (some ⟨b,1,none⟩))] rfl ⟨rfl,rfl,rfl,rfl,rfl,trivial⟩ (cS ah rfl rfl rfl rfl rfl rfl rfl c.bI [.slice (some ⟨g,0,none⟩) aI.length n] rfl rfl (.inr rfl) (.slice (some ⟨g,0,none⟩) aI.length n) rfl (aA ah [5] [(4,.pointer (some ⟨a,0,none⟩)),(7,.pointer (some ⟨b,0,none⟩)),(8,.int .i64 (k:Int)),(10,.int .i64 (z.a6.length:Int)),(36,.slice (some ⟨g,0,none⟩) aI.length n),(37,.int .i64 (k:Int))] rfl ⟨rfl,rfl,rfl,rfl,rfl,rfl,trivial⟩ (mM ah rfl rfl rfl rfl rfl rfl rfl rfl rfl rfl (by omega) ae ?_))))))))));rw[Q,fg,χ];refine aA ah [7] [(4,.pointer (some ⟨a,0,none⟩)),(7,.pointer (some ⟨b,0,none⟩)),(8,.int .i64 (k:Int)),(10,.int .i64 (z.a6.length:Int)),(39,.pointer (some ⟨g,k*2+1,none⟩))] rfl ⟨rfl,rfl,rfl,rfl,rfl,trivial⟩ (eZ ah rfl rfl rfl rfl rfl rfl rfl X [.slice none 0 0] rfl rfl (by simp[ξ]) (ξc (by simp only[ν,rc,fE,ρ];show k*2+1+1<=_;omega)) (rc (aI.set k (z.aa,.slice none 0 0))++R) (Je (x:=(z.aa,.slice G z.a6.length H)) m) (λw5 ay f5=>?_));have p:=I_ (bs:=e.1.ak.set k (aq.mk z.aa [])) c.mem c.ge c.bI c.ns c.nb c.dj aF Z T aL az aM f5 ay (by rw[ξy]) (λr m=>by
  rcases ξf m with m|rfl
  .exact aE r m
  .exact⟨_,_,_,rfl⟩) (D.fo.set k ahR) D.lt c.out
 have d:=d.fr f5 (by simp;omega);have V:=C.trans (bL.gx C.ob Z (ι i.tr.size T) f5);clear c D;refine aQ (aK ?_);have ao:w2.heap.size<=w5.heap.size:=ι B.tr.size f5.size;refine aJ (aR (l:=[0,1]) rfl (aA ah [0] [(10,.int .i64 (z.a6.length:Int)),(4,.pointer (some ⟨a,0,none⟩)),(7,.pointer (some ⟨b,0,none⟩)),(40,.pointer (some ⟨b,0,none⟩))] rfl ⟨rfl,rfl,rfl,rfl,trivial⟩ (jx rfl rfl rfl rfl rfl Ga rfl (HN V.ob ao ⟨_,_,_,_,p⟩) (λ_ w7 t=>?_))));obtain⟨rfl,ag,o,q,s,aV,a_,p⟩:=t;refine⟨_,rfl,?_⟩;have d:bK w7 a 34 [.slice none 0 0,.slice none 0 0]:=(o.below _ L).trans d;have i2:=o.sub _ i2;have W:bL w.heap.size O w ag w7:=V.trans ⟨o.tr,o.ob,o.sub,λj aG=>o.below j (δ aG i.tr.size)⟩;refine aA ah [] [(10,.int .i64 (z.a6.length:Int)),(4,.pointer (some ⟨a,0,none⟩)),(7,.pointer (some ⟨b,0,none⟩))] rfl ⟨rfl,rfl,rfl,trivial⟩ (aQ (aK ?_));cases h;refine aJ (aR (l:=[0,1,2,3,4,5,6,7]) rfl (aA ah [0,1,2] [(7,.pointer (some ⟨b,0,none⟩)),(10,.int .i64 (z.a6.length:Int)),(4,.pointer (some ⟨a,0,none⟩)),(44,.pointer (some ⟨b,0,none⟩))] rfl ⟨rfl,rfl,rfl,rfl,trivial⟩ (cS ah rfl rfl rfl rfl rfl rfl rfl p.bI [q,s] rfl rfl (.inl rfl) (.agg #[q,s]) rfl ?_)));obtain⟨aS,aW,al,_,_⟩:=p.ns.form;obtain⟨aT,aX,an,_,_⟩:=p.row.form;refine aA ah [4] [(4,.pointer (some ⟨a,0,none⟩)),(45,.agg #[q,s]),(46,.int .i64 (z.a6.length:Int))] rfl ⟨rfl,rfl,rfl,trivial⟩ (eZ ah rfl rfl rfl rfl rfl rfl rfl d [q,s] rfl rfl (by rw[al,an];simp[ξ]) rfl [q,s] rfl (λaO K y=>?_));have ax:=p.cell i2 L y;have ar:=(W.trans (bL.gx W.ob i2 Y y)).fr;refine aA ah [6,7] [(4,.pointer (some ⟨a,0,none⟩)),(5,.int .i64 (z.a6.length:Int)),(6,.int .i64 0)] rfl ⟨rfl,rfl,rfl,trivial⟩ (aQ (aK (cO ?_)));exact(lh ah (vs:=[.agg #[q,s],.int .i64 (z.a6.length:Int),.int .i64 0]) ⟨_,_,rfl,⟨_,_,_,_,rfl,K,rfl,rfl,.inl rfl,rfl⟩,_,_,rfl,rfl,_,_,rfl,rfl,rfl⟩ ⟨_,rfl,⟨_,_,_,rfl,ax.data aw,dx.2 rfl,dx.2 rfl⟩,ar⟩)
set_option maxRecDepth 100000 in
set_option maxHeartbeats 4000000 in
theorem ac0 {O:Γ} {w:World} (ab:OB O w) (aV:cB KK [] w) {v0:Value} {al:aC} (Y:dY.is [0] w v0 al) {v1:Value} {B:Int} (aO:(Ty.int .u64).is [] w v1 B) {r:aC×Int×Int} (h:qU shut al B=some r):Calls β 198 #[v0,v1] w (gi (S9 dY (Ty.int .u64) (Ty.int .i64)) O w r):=by
 have aN:dY.is [] w v0 al:=Y.tr (Tr.less (mA _));obtain rfl:=dx.1 aO;obtain⟨M,P,rfl,bq,br⟩:=iD.1 aN;have ar:bL w.heap.size O w O w:=bL.refl ab;refine e8 (args:=[.agg #[M,P],.int .u64 B]) (N:=68) ζB rfl rfl rfl ?_;unfold qU at h;refine aJ (aR (l:=[0,1,2,3]) rfl (ld rfl rfl rfl rfl rfl rfl [M,P] rfl ab (λan w1 n1=>?_)));have ad:=n1.bI;have V:=ar.trans (bL.jk ar.tr.size n1);refine oA ah rfl rfl rfl rfl rfl rfl [.slice none 0 0,.slice none 0 0] rfl V.ob (λf w2 n2=>?_);have ad:=ad.b6 n2.fr;have q:=n2.bI;have af:w.heap.size<=f:=ι V.tr.size n2.ge;have C:=V.trans (bL.jk V.tr.size n2);have i2:f∈f::an::O:=ξ0;have ag:f<w2.heap.size:=q.lt;have aX: ∀g∈O,g<w2.heap.size:=λg s=>δ (ab g s) C.tr.size;refine aA ah [2,3] [(1,.int .u64 B),(2,.pointer (some ⟨an,0,none⟩)),(4,.pointer (some ⟨f,0,none⟩))] rfl ⟨rfl,rfl,rfl,trivial⟩ (aQ (aK (aJ (aR (l:=[0,1,2,3,4,5,6,7,8,9]) rfl (cS ah rfl rfl rfl rfl rfl rfl rfl ad [M,P] rfl rfl (.inl rfl) (.agg #[M,P]) rfl ?_)))));obtain⟨e,he,h⟩:=bind_some h;refine aA ah [1] [(1,.int .u64 B),(4,.pointer (some ⟨f,0,none⟩)),(13,.agg #[M,P]),(14,.int .u64 B)] rfl ⟨rfl,rfl,rfl,rfl,trivial⟩ (jx rfl rfl rfl rfl rfl F' rfl (HL C.ob (aV.tr C.fr.eo) (Y.tr C.fr.eo) he) (λ_ w3 s=>?_));obtain⟨aG,bm,rfl,W,aW⟩:=s;refine⟨_,rfl,?_⟩;have q:bK w3 f 34 [.slice none 0 0,.slice none 0 0]:=(W.below _ ag).trans q;have D:=C.to W;have i2:=W.sub _ i2;refine aA ah [3,4,5,6,7,8,9] [(1,.int .u64 B),(4,.pointer (some ⟨f,0,none⟩)),(7,aG),(8,.int .i64 e.2.1),(9,.int .i64 e.2.2)] rfl ⟨rfl,rfl,rfl,rfl,rfl,trivial⟩ (aQ (aK (aJ (aJ (aR (l:=[0,1]) rfl (aA ah [0,1] [(1,.int .u64 B),(4,.pointer (some ⟨f,0,none⟩)),(7,aG),(8,.int .i64 e.2.1),(9,.int .i64 e.2.2),(20,.bool (!(e.2.2==0)))] rfl ⟨rfl,rfl,rfl,rfl,rfl,rfl,trivial⟩ (aQ (aK ?_))))))));rcases iR h with⟨A,h⟩|⟨A,h⟩
 .refine eJ rfl A ?_;cases h;refine aJ (aR (l:=[0,1,2,3,4]) rfl (aA ah [0,1] [(4,.pointer (some ⟨f,0,none⟩)),(21,.agg #[.slice none 0 0,.slice none 0 0]),(22,.int .i64 e.2.2)] rfl ⟨rfl,rfl,rfl,trivial⟩ (eZ ah rfl rfl rfl rfl rfl rfl rfl q [.slice none 0 0,.slice none 0 0] rfl rfl (by simp[ξ]) rfl [.slice none 0 0,.slice none 0 0] rfl (λaH L G=>?_))));refine aA ah [3,4] [(4,.pointer (some ⟨f,0,none⟩)),(5,.int .u64 0),(6,.int .i64 e.2.2)] rfl ⟨rfl,rfl,rfl,trivial⟩ (aQ (aK (cO ?_)));exact eQ (lh ah (vs:=[.agg #[.slice none 0 0,.slice none 0 0],.int .u64 0,.int .i64 e.2.2]) ⟨_,_,rfl,⟨_,_,_,_,rfl,L,rfl,rfl,.inl rfl,rfl⟩,_,_,rfl,rfl,_,_,rfl,rfl,rfl⟩ ⟨_,rfl,⟨_,_,_,rfl,iD.2 ⟨_,_,rfl,fR _ _ _,fR _ _ _⟩,dx.2 rfl,dx.2 rfl⟩,(D.trans (bL.gx D.ob i2 af G)).fr⟩)
 refine eP rfl A ?_;have a7:e.2.2=0:=by simpa using A
 obtain⟨b,rfl,nv,rv,S,aI,p⟩:=aW a7;refine dh (aK ?_);obtain⟨z,Y,h⟩:=bind_some h;obtain⟨bu,aB⟩:=nN Y;obtain⟨k,az⟩: ∃k:Nat,k=e.2.1.toNat:=⟨_,rfl⟩;rw[<-az] at aB;have a8:e.2.1=(k:Int):=by omega
 rw[a8];rw[<-az] at h;have F:=p.Kf;obtain⟨bB,t,ai⟩:=F.fo.at_ aB;obtain⟨n,o,rfl,bw,bx⟩:=dr (ai [] λ_ _ hm=>by cases hm);obtain⟨bj,Z,rfl,_,_⟩:=p.row.form;have bb:=(ε.1 t).1;obtain⟨g,R,rfl,ay,ao,y,bc,a1,bf,a_⟩:=JC p.row (by omega);have a':g≠b:=λe=>p.rb (by rw[<-e];rfl);have aM:(k:Int).toNat*({tag:=8,k:=0,e:=0,fs:=[(29,0),(40,1)],size:=2,bytes:=32,zero:=.agg #[.int .u64 0,.slice none 0 0]}:TI).size=k*2:=by rw[κ]
 have bd:(k:Int).toNat<aI.length:=by rw[κ];exact bb
 refine aJ (aR (l:=[0,1,2,3,4,5,6,7]) rfl (aA ah [0,1,2,3] [(4,.pointer (some ⟨f,0,none⟩)),(7,.pointer (some ⟨b,0,none⟩)),(8,.int .i64 (k:Int)),(26,.pointer (some ⟨b,1,none⟩))] rfl ⟨rfl,rfl,rfl,rfl,trivial⟩ (cS ah rfl rfl rfl rfl rfl rfl rfl p.bI [.slice (some ⟨g,0,none⟩) aI.length Z] rfl rfl (.inr rfl) (.slice (some ⟨g,0,none⟩) aI.length Z) rfl (aA ah [5] [(4,.pointer (some ⟨f,0,none⟩)),(7,.pointer (some ⟨b,0,none⟩)),(8,.int .i64 (k:Int)),(27,.slice (some ⟨g,0,none⟩) aI.length Z),(28,.int .i64 (k:Int))] rfl ⟨rfl,rfl,rfl,rfl,rfl,trivial⟩ (mM ah rfl rfl rfl rfl rfl rfl rfl rfl rfl rfl (by omega) bd ?_)))));rw[aM,fg,χ];refine aA ah [7] [(4,.pointer (some ⟨f,0,none⟩)),(7,.pointer (some ⟨b,0,none⟩)),(10,.pointer (some ⟨g,k*2,none⟩))] rfl ⟨rfl,rfl,rfl,trivial⟩ (aQ (aK (aJ (aJ (aR (l:=[0,1,2,3,4,5]) rfl (aA ah [0,1,2] [(4,.pointer (some ⟨f,0,none⟩)),(7,.pointer (some ⟨b,0,none⟩)),(10,.pointer (some ⟨g,k*2,none⟩)),(32,.pointer (some ⟨g,k*2+1,none⟩))] rfl ⟨rfl,rfl,rfl,rfl,trivial⟩ (cS ah rfl rfl rfl rfl rfl rfl rfl y [.slice n z.a6.length o] (k6 t) rfl (.inr rfl) (.slice n z.a6.length o) rfl (aA ah [4,5] [(4,.pointer (some ⟨f,0,none⟩)),(7,.pointer (some ⟨b,0,none⟩)),(10,.pointer (some ⟨g,k*2,none⟩)),(35,.bool ((z.a6.length:Int)==0))] rfl ⟨rfl,rfl,rfl,rfl,trivial⟩ (aQ (aK ?_))))))))));rcases iR h with⟨A,h⟩|⟨A,h⟩
 .refine eJ rfl A ?_;cases h;refine aJ (aR (l:=[0,1,2,3]) rfl (aA ah [0] [(4,.pointer (some ⟨f,0,none⟩)),(36,.agg #[.slice none 0 0,.slice none 0 0])] rfl ⟨rfl,rfl,trivial⟩ (eZ ah rfl rfl rfl rfl rfl rfl rfl q [.slice none 0 0,.slice none 0 0] rfl rfl (by simp[ξ]) rfl [.slice none 0 0,.slice none 0 0] rfl (λaH L G=>?_))));refine aA ah [2,3] [(4,.pointer (some ⟨f,0,none⟩)),(5,.int .u64 0),(6,.int .i64 4)] rfl ⟨rfl,rfl,rfl,trivial⟩ (aQ (aK (cO ?_)));exact eQ (lh ah (vs:=[.agg #[.slice none 0 0,.slice none 0 0],.int .u64 0,.int .i64 4]) ⟨_,_,rfl,⟨_,_,_,_,rfl,L,rfl,rfl,.inl rfl,rfl⟩,_,_,rfl,rfl,_,_,rfl,rfl,rfl⟩ ⟨_,rfl,⟨_,_,_,rfl,iD.2 ⟨_,_,rfl,fR _ _ _,fR _ _ _⟩,dx.2 rfl,dx.2 rfl⟩,(D.trans (bL.gx D.ob i2 af G)).fr⟩)
 refine eP rfl A (dh (aK ?_));obtain⟨w0,X,h⟩:=bind_some h;obtain⟨_,X⟩:=nN X;refine aJ (aR (l:=[0,1,2,3,4,5,6]) rfl (aA ah [0,1,2] [(4,.pointer (some ⟨f,0,none⟩)),(7,.pointer (some ⟨b,0,none⟩)),(10,.pointer (some ⟨g,k*2,none⟩)),(39,.pointer (some ⟨g,k*2+1,none⟩))] rfl ⟨rfl,rfl,rfl,rfl,trivial⟩ (cS ah rfl rfl rfl rfl rfl rfl rfl y [.slice n z.a6.length o] (k6 t) rfl (.inr rfl) (.slice n z.a6.length o) rfl ?_)));refine Kk ah rfl rfl rfl rfl rfl rfl rfl rfl rfl rfl (ai [] λ_ _ hm=>by cases hm) rfl (Int.le_refl 0) X (λp6 bg=>?_);refine ajj ah rfl rfl rfl rfl rfl rfl rfl bg rfl rfl (λv6 bh=>?_);obtain rfl:=dx.1 bh;refine aA ah [6] [(4,.pointer (some ⟨f,0,none⟩)),(7,.pointer (some ⟨b,0,none⟩)),(10,.pointer (some ⟨g,k*2,none⟩)),(11,.int .u64 w0)] rfl ⟨rfl,rfl,rfl,rfl,trivial⟩ (aQ (aK (aJ ?_)));have aD: ∀g∈S,g<w3.heap.size:=λg s=>(F.lt g s).2;refine yS mixed [⟨43,[],[10]⟩,⟨44,[],[10]⟩,⟨45,[1],[]⟩,⟨46,[2],[]⟩,⟨47,[3],[]⟩,⟨48,[],[10]⟩,⟨49,[5],[]⟩,⟨50,[6],[]⟩,⟨51,[7],[]⟩,⟨52,[8],[]⟩,⟨53,[],[10]⟩,⟨54,[10],[]⟩,⟨55,[11],[]⟩,⟨56,[12],[]⟩,⟨57,[13],[]⟩,⟨58,[4,9,14],[]⟩] [SP.eq (.pointer (some ⟨g,k*2,none⟩)),SP.eq (.pointer (some ⟨g,k*2,none⟩)),SP.eq (.pointer (some ⟨g,k*2,none⟩)),SP.eq (.pointer (some ⟨g,k*2+1,none⟩)),SP.eq (.slice n z.a6.length o),SP.eq (.pointer (some ⟨g,k*2,none⟩)),SP.eq (.pointer (some ⟨g,k*2,none⟩)),SP.eq (.pointer (some ⟨g,k*2+1,none⟩)),SP.eq (.slice n z.a6.length o),SP.eq (.int .i64 (z.a6.length:Int)),SP.eq (.pointer (some ⟨g,k*2,none⟩)),SP.eq (.pointer (some ⟨g,k*2,none⟩)),SP.eq (.pointer (some ⟨g,k*2+1,none⟩)),SP.eq (.slice n z.a6.length o),SP.eq (.int .i64 (z.a6.length:Int)),SP.safe S (z.a6.drop 1)] rfl rfl rfl rfl ⟨?_,?_,?_,?_,?_,?_,?_,?_,?_,?_,?_,?_,?_,?_,?_,?_,trivial⟩ ?_
 .intro a w2 i hN c m d;exact cX ah ⟨hN,c,b4 (E:=[(10,.pointer (some ⟨g,k*2,none⟩))]) ⟨m 10 rfl _ rfl,trivial⟩⟩ rfl rfl rfl rfl rfl
 .intro a w2 i hN c m d;exact cX ah ⟨hN,c,b4 (E:=[(10,.pointer (some ⟨g,k*2,none⟩))]) ⟨m 10 rfl _ rfl,trivial⟩⟩ rfl rfl rfl rfl rfl
 .intro a w2 i hN c m d;exact cX ah ⟨hN,c,b4 (E:=[(44,.pointer (some ⟨g,k*2,none⟩))]) ⟨d 1 rfl _ _ rfl rfl,trivial⟩⟩ rfl rfl rfl rfl rfl
 .intro a w2 i hN c m d;exact cX ah ⟨hN,c,b4 (E:=[(45,.pointer (some ⟨g,k*2,none⟩))]) ⟨d 2 rfl _ _ rfl rfl,trivial⟩⟩ rfl rfl rfl rfl rfl
 .intro a w2 i hN c m d;exact n7 ah ⟨hN,c,b4 (E:=[(46,.pointer (some ⟨g,k*2+1,none⟩))]) ⟨d 3 rfl _ _ rfl rfl,trivial⟩⟩ rfl rfl rfl rfl rfl rfl (y.b6 i) [.slice n z.a6.length o] (k6 t) rfl (.inr rfl) (.slice n z.a6.length o) rfl
 .intro a w2 i hN c m d;exact cX ah ⟨hN,c,b4 (E:=[(10,.pointer (some ⟨g,k*2,none⟩))]) ⟨m 10 rfl _ rfl,trivial⟩⟩ rfl rfl rfl rfl rfl
 .intro a w2 i hN c m d;exact cX ah ⟨hN,c,b4 (E:=[(48,.pointer (some ⟨g,k*2,none⟩))]) ⟨d 5 rfl _ _ rfl rfl,trivial⟩⟩ rfl rfl rfl rfl rfl
 .intro a w2 i hN c m d;exact cX ah ⟨hN,c,b4 (E:=[(49,.pointer (some ⟨g,k*2,none⟩))]) ⟨d 6 rfl _ _ rfl rfl,trivial⟩⟩ rfl rfl rfl rfl rfl
 .intro a w2 i hN c m d;exact n7 ah ⟨hN,c,b4 (E:=[(50,.pointer (some ⟨g,k*2+1,none⟩))]) ⟨d 7 rfl _ _ rfl rfl,trivial⟩⟩ rfl rfl rfl rfl rfl rfl (y.b6 i) [.slice n z.a6.length o] (k6 t) rfl (.inr rfl) (.slice n z.a6.length o) rfl
 .intro a w2 i hN c m d;exact cX ah ⟨hN,c,b4 (E:=[(51,.slice n z.a6.length o)]) ⟨d 8 rfl _ _ rfl rfl,trivial⟩⟩ rfl rfl rfl rfl rfl
 .intro a w2 i hN c m d;exact cX ah ⟨hN,c,b4 (E:=[(10,.pointer (some ⟨g,k*2,none⟩))]) ⟨m 10 rfl _ rfl,trivial⟩⟩ rfl rfl rfl rfl rfl
 .intro a w2 i hN c m d;exact cX ah ⟨hN,c,b4 (E:=[(53,.pointer (some ⟨g,k*2,none⟩))]) ⟨d 10 rfl _ _ rfl rfl,trivial⟩⟩ rfl rfl rfl rfl rfl
 .intro a w2 i hN c m d;exact cX ah ⟨hN,c,b4 (E:=[(54,.pointer (some ⟨g,k*2,none⟩))]) ⟨d 11 rfl _ _ rfl rfl,trivial⟩⟩ rfl rfl rfl rfl rfl
 .intro a w2 i hN c m d;exact n7 ah ⟨hN,c,b4 (E:=[(55,.pointer (some ⟨g,k*2+1,none⟩))]) ⟨d 12 rfl _ _ rfl rfl,trivial⟩⟩ rfl rfl rfl rfl rfl rfl (y.b6 i) [.slice n z.a6.length o] (k6 t) rfl (.inr rfl) (.slice n z.a6.length o) rfl
 .intro a w2 i hN c m d;exact cX ah ⟨hN,c,b4 (E:=[(56,.slice n z.a6.length o)]) ⟨d 13 rfl _ _ rfl rfl,trivial⟩⟩ rfl rfl rfl rfl rfl
 .intro a w2 i hN c m d;exact(aem (S:=S) (l':=some (.i64,1)) (h':=some (.i64,(z.a6.length:Int))) (m':=some (.i64,(z.a6.length:Int))) (ys:=z.a6.drop 1) ah ⟨hN,c,b4 (E:=[(47,.slice n z.a6.length o),(52,.int .i64 (z.a6.length:Int)),(57,.int .i64 (z.a6.length:Int))]) ⟨d 4 rfl _ _ rfl rfl,d 9 rfl _ _ rfl rfl,d 14 rfl _ _ rfl rfl,trivial⟩⟩ rfl rfl rfl rfl rfl rfl rfl rfl rfl rfl rfl rfl (ai.keep (O:=[]) (O':=[]) i.eo λg s=>i.block g (aD g s) (by simp)) (by
   simp only[τ];unfold dn;have:=(ε.1 X).1;rw[if_pos (by simp at this ⊢;omega)];simp)).weaken (λu w3 ⟨hu,ax⟩=>⟨⟨λg s=>δ (aD g s) (ι i.size ax.size),hu⟩,ax⟩)
 intro a w4 f4 hN c ae aE;have p:=p.b6 f4;have F:=F.b6 f4;have y:=y.b6 f4;have q:=q.b6 f4;have au:=D.trans (bL.n4 D.ob D.tr.size f4);obtain⟨_,aj⟩:(∀g∈S,g<w4.heap.size)/\Safe S w4 (a.tmps.getD 58 undef) (z.a6.drop 1):=aE 15 _ _ rfl rfl;obtain⟨bA,aF⟩: ∃v,a.tmps.getD 58 undef=v:=⟨_,rfl⟩;rw[aF] at aj;obtain⟨Q,U,rfl,_,_⟩:=dr (aj [] λ_ _ hm=>by cases hm);refine rV (E:=[(4,.pointer (some ⟨f,0,none⟩)),(7,.pointer (some ⟨b,0,none⟩)),(11,.int .u64 w0),(43,.pointer (some ⟨g,k*2,none⟩)),(58,.slice Q (z.a6.drop 1).length U)]) (l:=[16,17,18]) hN c ⟨ae 4 _ rfl rfl,ae 7 _ rfl rfl,ae 11 _ rfl rfl,aE 0 _ _ rfl rfl,aF,trivial⟩ rfl ?_;generalize bt:z.a6.drop 1=T at*
 refine aA ah [16,17] [(4,.pointer (some ⟨f,0,none⟩)),(7,.pointer (some ⟨b,0,none⟩)),(11,.int .u64 w0),(58,.slice Q T.length U),(60,.pointer (some ⟨g,k*2+1,none⟩))] rfl ⟨rfl,rfl,rfl,rfl,rfl,trivial⟩ (eZ ah rfl rfl rfl rfl rfl rfl rfl y [.slice Q T.length U] rfl rfl (by simp[ξ]) (ξc (by simp only[ν,rc,fE,ρ];show k*2+1+1<=_;omega)) (rc (aI.set k (z.aa,.slice Q T.length U))++R) (Je (x:=(z.aa,.slice n z.a6.length o)) t) (λw5 aZ f5=>?_));have I:=I_ (bs:=e.1.ak.set k (aq.mk z.aa T)) p.mem p.ge p.bI p.ns p.nb p.dj a' ay ao bc a1 bf f5 aZ (by rw[ξy]) (λr t=>by
  rcases ξf t with t|rfl
  .exact a_ r t
  .exact⟨_,_,_,rfl⟩) (F.fo.set k aj) F.lt p.out
 have q:=q.fr f5 (by simp;omega);have av:=au.trans (bL.gx au.ob ay (ι C.tr.size ao) f5);clear p F;refine aQ (aK ?_);have aT:w2.heap.size<=w5.heap.size:=ι W.tr.size (ι f4.size f5.size);refine aJ (aR (l:=[0,1]) rfl (aA ah [0] [(11,.int .u64 w0),(4,.pointer (some ⟨f,0,none⟩)),(7,.pointer (some ⟨b,0,none⟩)),(61,.pointer (some ⟨b,0,none⟩))] rfl ⟨rfl,rfl,rfl,rfl,trivial⟩ (jx rfl rfl rfl rfl rfl Ga rfl (HN av.ob aT ⟨_,_,_,_,I⟩) (λ_ w7 s=>?_))));obtain⟨rfl,aL,H,J,K,bn,bz,I⟩:=s;refine⟨_,rfl,?_⟩;have q:bK w7 f 34 [.slice none 0 0,.slice none 0 0]:=(H.below _ ag).trans q;have i2:=H.sub _ i2;have aw:bL w.heap.size O w aL w7:=av.trans ⟨H.tr,H.ob,H.sub,λj ba=>H.below j (δ ba C.tr.size)⟩;refine aA ah [] [(11,.int .u64 w0),(4,.pointer (some ⟨f,0,none⟩)),(7,.pointer (some ⟨b,0,none⟩))] rfl ⟨rfl,rfl,rfl,trivial⟩ (aQ (aK ?_));cases h;refine aJ (aR (l:=[0,1,2,3,4,5,6,7]) rfl (aA ah [0,1,2] [(7,.pointer (some ⟨b,0,none⟩)),(11,.int .u64 w0),(4,.pointer (some ⟨f,0,none⟩)),(65,.pointer (some ⟨b,0,none⟩))] rfl ⟨rfl,rfl,rfl,rfl,trivial⟩ (cS ah rfl rfl rfl rfl rfl rfl rfl I.bI [J,K] rfl rfl (.inl rfl) (.agg #[J,K]) rfl ?_)));obtain⟨bk,bo,aP,_,_⟩:=I.ns.form;obtain⟨bl,bp,aS,_,_⟩:=I.row.form;refine aA ah [4] [(4,.pointer (some ⟨f,0,none⟩)),(66,.agg #[J,K]),(67,.int .u64 w0)] rfl ⟨rfl,rfl,rfl,trivial⟩ (eZ ah rfl rfl rfl rfl rfl rfl rfl q [J,K] rfl rfl (by rw[aP,aS];simp[ξ]) rfl [J,K] rfl (λaH L G=>?_));have aY:=I.cell i2 ag G;have aU:=(aw.trans (bL.gx aw.ob i2 af G)).fr;refine aA ah [6,7] [(4,.pointer (some ⟨f,0,none⟩)),(5,.int .u64 w0),(6,.int .i64 0)] rfl ⟨rfl,rfl,rfl,trivial⟩ (aQ (aK (cO ?_)));exact(lh ah (vs:=[.agg #[J,K],.int .u64 w0,.int .i64 0]) ⟨_,_,rfl,⟨_,_,_,_,rfl,L,rfl,rfl,.inl rfl,rfl⟩,_,_,rfl,rfl,_,_,rfl,rfl,rfl⟩ ⟨_,rfl,⟨_,_,_,rfl,aY.data aX,dx.2 rfl,dx.2 rfl⟩,aU⟩)
set_option maxRecDepth 100000 in
set_option maxHeartbeats 4000000 in
theorem ac1 {O:Γ} {w:World} (X:OB O w) (aT:cB KK [] w) {v0:Value} {ag:aC} (V:dY.is [0] w v0 ag) {v1:Value} {t:Int} (aM:(Ty.int .u64).is [] w v1 t) {v2:Value} {i:Γa} (al:(Ty.slice (Ty.int .u64)).is [] w v2 i) {r:aC×Int} (h:qV shut ag t i=some r):Calls β 197 #[v0,v1,v2] w (gi (S8 dY (Ty.int .i64)) O w r):=by
 have aL:dY.is [] w v0 ag:=V.tr (Tr.less (mA _));obtain rfl:=dx.1 aM;obtain⟨A2,c2,rfl,bB,bD⟩:=dr al;obtain⟨K,L,rfl,bw,bz⟩:=iD.1 aL;have ar:bL w.heap.size O w O w:=bL.refl X;refine e8 (args:=[.agg #[K,L],.int .u64 t,.slice A2 i.length c2]) (N:=55) ζC rfl rfl rfl ?_;unfold qV at h;refine aJ (aR (l:=[0,1,2]) rfl (ld rfl rfl rfl rfl rfl rfl [K,L] rfl X (λai w1 n1=>?_)));have Y:=n1.bI;have P:=ar.trans (bL.jk ar.tr.size n1);refine oA ah rfl rfl rfl rfl rfl rfl [.slice none 0 0,.slice none 0 0] rfl P.ob (λc w2 n2=>?_);have Y:=Y.b6 n2.fr;have m:=n2.bI;have ab:w.heap.size<=c:=ι P.tr.size n2.ge;have p:=P.trans (bL.jk P.tr.size n2);have i2:c∈c::ai::O:=ξ0;have T:c<w2.heap.size:=m.lt;have aV: ∀g∈O,g<w2.heap.size:=λg H=>δ (X g H) p.tr.size;refine aA ah [2] [(1,.int .u64 t),(2,.slice A2 i.length c2),(3,.pointer (some ⟨ai,0,none⟩)),(6,.pointer (some ⟨c,0,none⟩))] rfl ⟨rfl,rfl,rfl,rfl,trivial⟩ (aQ (aK (aJ (aR (l:=[0,1,2,3,4,5,6,7,8,9]) rfl (cS ah rfl rfl rfl rfl rfl rfl rfl Y [K,L] rfl rfl (.inl rfl) (.agg #[K,L]) rfl ?_)))));obtain⟨e,he,h⟩:=bind_some h;refine aA ah [1] [(1,.int .u64 t),(2,.slice A2 i.length c2),(6,.pointer (some ⟨c,0,none⟩)),(13,.agg #[K,L]),(14,.int .u64 t)] rfl ⟨rfl,rfl,rfl,rfl,rfl,trivial⟩ (jx rfl rfl rfl rfl rfl F' rfl (HL p.ob (aT.tr p.fr.eo) (V.tr p.fr.eo) he) (λ_ w3 H=>?_));obtain⟨aD,W,rfl,D,aU⟩:=H;refine⟨_,rfl,?_⟩;have m:bK w3 c 34 [.slice none 0 0,.slice none 0 0]:=(D.below _ T).trans m;have f:=p.to D;have i2:=D.sub _ i2;refine aA ah [3,4,5,6,7,8,9] [(1,.int .u64 t),(2,.slice A2 i.length c2),(6,.pointer (some ⟨c,0,none⟩)),(8,aD),(9,.int .i64 e.2.1),(10,.int .i64 e.2.2)] rfl ⟨rfl,rfl,rfl,rfl,rfl,rfl,trivial⟩ (aQ (aK (aJ (aJ (aR (l:=[0,1]) rfl (aA ah [0,1] [(1,.int .u64 t),(2,.slice A2 i.length c2),(6,.pointer (some ⟨c,0,none⟩)),(8,aD),(9,.int .i64 e.2.1),(10,.int .i64 e.2.2),(20,.bool (!(e.2.2==0)))] rfl ⟨rfl,rfl,rfl,rfl,rfl,rfl,rfl,trivial⟩ (aQ (aK ?_))))))));rcases iR h with⟨s,h⟩|⟨s,h⟩
 .refine eJ rfl s ?_;cases h;refine aJ (aR (l:=[0,1,2,3]) rfl (aA ah [0,1] [(6,.pointer (some ⟨c,0,none⟩)),(21,.agg #[.slice none 0 0,.slice none 0 0]),(22,.int .i64 e.2.2)] rfl ⟨rfl,rfl,rfl,trivial⟩ (eZ ah rfl rfl rfl rfl rfl rfl rfl m [.slice none 0 0,.slice none 0 0] rfl rfl (by simp[ξ]) rfl [.slice none 0 0,.slice none 0 0] rfl (λaE F u=>?_))));refine aA ah [3] [(6,.pointer (some ⟨c,0,none⟩)),(7,.int .i64 e.2.2)] rfl ⟨rfl,rfl,trivial⟩ (aQ (aK (cO ?_)));exact eQ (lh ah (vs:=[.agg #[.slice none 0 0,.slice none 0 0],.int .i64 e.2.2]) ⟨_,_,rfl,⟨_,_,_,_,rfl,F,rfl,rfl,.inl rfl,rfl⟩,_,_,rfl,rfl,rfl⟩ ⟨_,rfl,⟨_,_,rfl,iD.2 ⟨_,_,rfl,fR _ _ _,fR _ _ _⟩,dx.2 rfl⟩,(f.trans (bL.gx f.ob i2 ab u)).fr⟩)
 refine eP rfl s ?_;have a1:e.2.2=0:=by simpa using s
 obtain⟨b,rfl,nv,rv,S,aI,d⟩:=aU a1;refine dh (aK ?_);obtain⟨z,V,h⟩:=bind_some h;obtain⟨bA,ae⟩:=nN V;obtain⟨k,ay⟩: ∃k:Nat,k=e.2.1.toNat:=⟨_,rfl⟩;rw[<-ay] at ae;have a7:e.2.1=(k:Int):=by omega
 rw[a7];rw[<-ay] at h;have ax:=d.Kf;obtain⟨bH,q,bj⟩:=ax.fo.at_ ae;obtain⟨n,o,rfl,bC,bE⟩:=dr (bj [] λ_ _ hm=>by cases hm);obtain⟨bm,M,rfl,_,_⟩:=d.row.form;have ba:=(ε.1 q).1;obtain⟨g,R,rfl,ad,an,A,bb,aZ,bd,a8⟩:=JC d.row (by omega);have a_:g≠b:=λe=>d.rb (by rw[<-e];rfl);have aj:(k:Int).toNat*({tag:=8,k:=0,e:=0,fs:=[(29,0),(40,1)],size:=2,bytes:=32,zero:=.agg #[.int .u64 0,.slice none 0 0]}:TI).size=k*2:=by rw[κ]
 have bc:(k:Int).toNat<aI.length:=by rw[κ];exact ba
 refine aJ (aR (l:=[0,1,2,3,4,5,6,7]) rfl (aA ah [0,1,2,3] [(6,.pointer (some ⟨c,0,none⟩)),(2,.slice A2 i.length c2),(8,.pointer (some ⟨b,0,none⟩)),(9,.int .i64 (k:Int)),(26,.pointer (some ⟨b,1,none⟩))] rfl ⟨rfl,rfl,rfl,rfl,rfl,trivial⟩ (cS ah rfl rfl rfl rfl rfl rfl rfl d.bI [.slice (some ⟨g,0,none⟩) aI.length M] rfl rfl (.inr rfl) (.slice (some ⟨g,0,none⟩) aI.length M) rfl (aA ah [5] [(6,.pointer (some ⟨c,0,none⟩)),(2,.slice A2 i.length c2),(8,.pointer (some ⟨b,0,none⟩)),(9,.int .i64 (k:Int)),(27,.slice (some ⟨g,0,none⟩) aI.length M),(28,.int .i64 (k:Int))] rfl ⟨rfl,rfl,rfl,rfl,rfl,rfl,trivial⟩ (mM ah rfl rfl rfl rfl rfl rfl rfl rfl rfl rfl (by omega) bc ?_)))));rw[aj,fg,χ];refine aA ah [7] [(6,.pointer (some ⟨c,0,none⟩)),(2,.slice A2 i.length c2),(8,.pointer (some ⟨b,0,none⟩)),(11,.pointer (some ⟨g,k*2,none⟩))] rfl ⟨rfl,rfl,rfl,rfl,trivial⟩ (aQ (aK (aJ (aJ (aR (l:=[0,1,2,3,4,5,6,7,8]) rfl (aA ah [0,1,2] [(6,.pointer (some ⟨c,0,none⟩)),(2,.slice A2 i.length c2),(8,.pointer (some ⟨b,0,none⟩)),(11,.pointer (some ⟨g,k*2,none⟩)),(32,.pointer (some ⟨g,k*2+1,none⟩))] rfl ⟨rfl,rfl,rfl,rfl,rfl,trivial⟩ (cS ah rfl rfl rfl rfl rfl rfl rfl A [.slice n z.a6.length o] (k6 q) rfl (.inr rfl) (.slice n z.a6.length o) rfl (aA ah [4,5,6,7,8] [(6,.pointer (some ⟨c,0,none⟩)),(2,.slice A2 i.length c2),(8,.pointer (some ⟨b,0,none⟩)),(11,.pointer (some ⟨g,k*2,none⟩)),(38,.bool (decide (γ.wrap ((z.a6.length:Int)+(i.length:Int))>4)))] rfl ⟨rfl,rfl,rfl,rfl,rfl,trivial⟩ (aQ (aK ?_))))))))));rcases iR h with⟨s,h⟩|⟨s,h⟩
 .refine eJ rfl s ?_;cases h;refine aJ (aR (l:=[0,1,2]) rfl (aA ah [0] [(6,.pointer (some ⟨c,0,none⟩)),(39,.agg #[.slice none 0 0,.slice none 0 0])] rfl ⟨rfl,rfl,trivial⟩ (eZ ah rfl rfl rfl rfl rfl rfl rfl m [.slice none 0 0,.slice none 0 0] rfl rfl (by simp[ξ]) rfl [.slice none 0 0,.slice none 0 0] rfl (λaE F u=>?_))));refine aA ah [2] [(6,.pointer (some ⟨c,0,none⟩)),(7,.int .i64 6)] rfl ⟨rfl,rfl,trivial⟩ (aQ (aK (cO ?_)));exact eQ (lh ah (vs:=[.agg #[.slice none 0 0,.slice none 0 0],.int .i64 6]) ⟨_,_,rfl,⟨_,_,_,_,rfl,F,rfl,rfl,.inl rfl,rfl⟩,_,_,rfl,rfl,rfl⟩ ⟨_,rfl,⟨_,_,rfl,iD.2 ⟨_,_,rfl,fR _ _ _,fR _ _ _⟩,dx.2 rfl⟩,(f.trans (bL.gx f.ob i2 ab u)).fr⟩)
 refine eP rfl s (dh (aK ?_));obtain⟨ws,bk,h⟩:=bind_some h;cases h;refine aJ (aR (l:=[0,1,2,3,4,5,6,7,8,9]) rfl (aA ah [0,1,2,3] [(6,.pointer (some ⟨c,0,none⟩)),(2,.slice A2 i.length c2),(8,.pointer (some ⟨b,0,none⟩)),(11,.pointer (some ⟨g,k*2,none⟩)),(40,.pointer (some ⟨g,k*2,none⟩)),(43,.pointer (some ⟨g,k*2+1,none⟩))] rfl ⟨rfl,rfl,rfl,rfl,rfl,rfl,trivial⟩ (cS ah rfl rfl rfl rfl rfl rfl rfl A [.slice n z.a6.length o] (k6 q) rfl (.inr rfl) (.slice n z.a6.length o) rfl (aA ah [5] [(6,.pointer (some ⟨c,0,none⟩)),(8,.pointer (some ⟨b,0,none⟩)),(40,.pointer (some ⟨g,k*2,none⟩)),(44,.slice n z.a6.length o),(45,.slice A2 i.length c2)] rfl ⟨rfl,rfl,rfl,rfl,rfl,trivial⟩ ?_))));obtain⟨bl,aG,aH,aB,E,Z,bh⟩:=d.fo.at_ (show(e.1.ak.map bx)[k]? =some (bx z) by simp[ae]);rw[q] at aB;obtain rfl:(.slice n z.a6.length o)=bl:=by injection aB with e;injection e with aj bu
 have a': ∀j,((.slice n z.a6.length o):Value).ownBlock=some j->j∈S:=λj a=>by rw[E,a];simp
 have U: ∀j,j∈W->((.slice n z.a6.length o):Value).ownBlock≠some j:=λj a e=>d.out j (a' j e) a;have Q: ∀j,j<w2.heap.size->((.slice n z.a6.length o):Value).ownBlock≠some j:=λj a e=>by have:=(Z.lt j e).1;omega
 refine mL (O:=((.slice n z.a6.length o):Value).ownBlock.toList) ah rfl rfl rfl rfl rfl rfl rfl rfl rfl rfl rfl rfl rfl rfl D.fr (λj a=>(Z.lt j (by simpa using a)).2) (Z.own gY λj a=>by simpa using a) (al.tr ⟨f.fr.os,f.fr.tape,f.fr.output,f.fr.size,λj a _=>⟨λhm=>Q j (δ a p.tr.size) (by simpa using hm),f.fr.block j a (by simp)⟩⟩) bk (λbG w4 bp ap=>?_);obtain⟨B,C,rfl,_,_⟩:=ap.own.form;have m:bK w4 c 34 [.slice none 0 0,.slice none 0 0]:=(ap.fr _ m.lt (Q _ T)).trans m;have A:bK w4 g 82 (rc aI++R):=(ap.fr _ A.lt (U _ ad)).trans A;have aY:bK w4 b 128 [nv,.slice (some ⟨g,0,none⟩) aI.length M]:=(ap.fr _ d.bI.lt (U _ d.mem)).trans d.bI;have bf:=(d.ns.iY.keep yG (w':=w4) λj a=>ap.fr j (d.ns.lt j a).2 (U _ (d.ns.mem j a))).own yG d.ns.mem;have au:bL w.heap.size O w W w4:=⟨⟨ap.tr.os.trans f.tr.os,ap.tr.tape.trans f.tr.tape,ap.tr.output.trans f.tr.output,ι f.tr.size ap.tr.size,λj a az=>⟨(f.tr.keep j a az).1,(ap.fr j (δ a f.tr.size) (Q j (δ a p.tr.size))).trans (f.tr.keep j a az).2⟩⟩,λj a=>δ (f.ob j a) ap.tr.size,f.sub,λj a=>(ap.fr j (δ a f.tr.size) (Q j (δ a p.tr.size))).trans (f.below j a)⟩;have af:=d.nd;rw[E,ξD,ξD] at af;have G:=bh (w':=w4) (λj a=>ap.fr j (d.fo.lt j (by rw[E];simp at a ⊢;rcases a with a|a;exact .inl a;exact .inr (.inr a))).2 (λe=>by
  rcases ξi.1 a with a|a
  .exact af.1.2.2 j a j (by rw[e];simp) rfl
  .exact af.2.2 j (ξb _ (by rw[e];simp)) j a rfl)) gY ap.own.iY
 obtain⟨S',ao⟩: ∃S',S'=aG++(ζO B ws.length C).ownBlock.toList++aH:=⟨_,rfl⟩;rw[<-ao] at G;have G:c6 TW 28 w2.heap.size w4 S' (aI.set k (z.aa,.slice B ws.length C)) ((e.1.ak.set k (aq.mk z.aa ws)).map bx):=by rw[ζy];exact G
 have bg: ∀j∈S',j∉W:=λj a hm=>by
  rw[ao] at a;simp only[ξi,Option.mem_toList] at a;rcases a with(a|a)|a
  .exact d.out j (by rw[E];simp[a]) hm
  .exact ap.ne j (f.ob j hm) (U j hm) a
  .exact d.out j (by rw[E];simp[a]) hm
 refine aA ah [7,8] [(6,.pointer (some ⟨c,0,none⟩)),(8,.pointer (some ⟨b,0,none⟩)),(46,.slice B ws.length C),(48,.pointer (some ⟨g,k*2+1,none⟩))] rfl ⟨rfl,rfl,rfl,rfl,trivial⟩ (eZ ah rfl rfl rfl rfl rfl rfl rfl A [.slice B ws.length C] rfl rfl (by simp[ξ]) (ξc (by simp only[ν,rc,fE,ρ];show k*2+1+1<=_;omega)) (rc (aI.set k (z.aa,.slice B ws.length C))++R) (Je (x:=(z.aa,.slice n z.a6.length o)) q) (λw5 aX f5=>?_));have y:=I_ (bs:=e.1.ak.set k (aq.mk z.aa ws)) d.mem d.ge aY bf d.nb d.dj a_ ad an bb aZ bd f5 aX (by rw[ξy]) (λr q=>by
  rcases ξf q with q|rfl
  .exact a8 r q
  .exact⟨_,_,_,rfl⟩) (dL.of S' G (λ_ h=>h)) G.lt bg
 have m:=m.fr f5 (by simp;omega);have av:=au.trans (bL.gx au.ob ad (ι p.tr.size an) f5);clear d ax;refine aQ (aK ?_);have aP:w2.heap.size<=w5.heap.size:=ι D.tr.size (ι ap.tr.size f5.size);refine aJ (aR (l:=[0,1]) rfl (aA ah [0] [(6,.pointer (some ⟨c,0,none⟩)),(8,.pointer (some ⟨b,0,none⟩)),(49,.pointer (some ⟨b,0,none⟩))] rfl ⟨rfl,rfl,rfl,trivial⟩ (jx rfl rfl rfl rfl rfl Ga rfl (HN av.ob aP ⟨_,_,_,_,y⟩) (λ_ w7 H=>?_))));obtain⟨rfl,aF,v,I,J,bq,bF,y⟩:=H;refine⟨_,rfl,?_⟩;have m:bK w7 c 34 [.slice none 0 0,.slice none 0 0]:=(v.below _ T).trans m;have i2:=v.sub _ i2;have aw:bL w.heap.size O w aF w7:=av.trans ⟨v.tr,v.ob,v.sub,λj a=>v.below j (δ a p.tr.size)⟩;refine aA ah [] [(6,.pointer (some ⟨c,0,none⟩)),(8,.pointer (some ⟨b,0,none⟩))] rfl ⟨rfl,rfl,trivial⟩ (aQ (aK (aJ (aR (l:=[0,1,2,3,4,5]) rfl (aA ah [0,1,2] [(8,.pointer (some ⟨b,0,none⟩)),(6,.pointer (some ⟨c,0,none⟩)),(53,.pointer (some ⟨b,0,none⟩))] rfl ⟨rfl,rfl,rfl,trivial⟩ (cS ah rfl rfl rfl rfl rfl rfl rfl y.bI [I,J] rfl rfl (.inl rfl) (.agg #[I,J]) rfl ?_))))));obtain⟨bn,br,aN,_,_⟩:=y.ns.form;obtain⟨bo,bt,aO,_,_⟩:=y.row.form;refine eZ ah rfl rfl rfl rfl rfl rfl rfl m [I,J] rfl rfl (by rw[aN,aO];simp[ξ]) rfl [I,J] rfl (λaE F u=>?_);have aW:=y.cell i2 T u;have aS:=(aw.trans (bL.gx aw.ob i2 ab u)).fr;refine aA ah [5] [(6,.pointer (some ⟨c,0,none⟩)),(7,.int .i64 0)] rfl ⟨rfl,rfl,trivial⟩ (aQ (aK (cO ?_)));exact(lh ah (vs:=[.agg #[I,J],.int .i64 0]) ⟨_,_,rfl,⟨_,_,_,_,rfl,F,rfl,rfl,.inl rfl,rfl⟩,_,_,rfl,rfl,rfl⟩ ⟨_,rfl,⟨_,_,rfl,aW.data aV,dx.2 rfl⟩,aS⟩)
section
variable {P:Program} {r:Option Nat} {N:Nat} {Θ:cE} {ops:Array Oper} {Q:Exit->Act->World->Prop} {l:Γ} {E:Env} {ds:List Deferred} {w:World} {i d:Nat} {o:Oper} {O:Γ}
theorem aen (C:Θ.ok P) {a:Act} (f:Has N E ds a) (q:ops[i]? =some o) (hw:want N ops E o.guard=some true) (l:o.dst=some d) {t:Nat} {x y:Operand} {g D:TI} (h:o.op= .slice t x none (some y) none) (s:Θ.get t=some g)
  (j:g.tag=5) (z:Θ.get g.e=some D) {ad:Addr} {n c hi:Nat} {k:IntKind} (A:ev E x=some (.slice (some ad) n c)) (B:ev E y=some (.int k hi)) (p:n<=c) (m:hi<=c):
  e1 P r ops Q i d a w (λu w'=>u= .slice (some ad) hi c/\Fr [] w w'):=by
 refine l_ q (gX f hw) l (b:=true) (v:=.slice (some ad) hi c) (w':=w) ?_ ⟨rfl,Fr.refl _ _⟩;simp only[if_true];refine⟨by rw[h];simp,?_⟩;simp only[execOp,h,ξh,f.eval A,τ,ξN,f.eval B,Tc C s j z p m];rfl
theorem ajg (p:Θ.ok P) (B:ops[i]? =some o) (hw:want N ops E o.guard=some true) (v:o.dst=some d) (hN:ζK d N=true) {t:Nat} {x y z:Operand} {g s:TI} (m:o.op= .slice t x (some y) (some z) none) (C:Θ.get t=some g)
  (u:g.tag=5) (D:Θ.get g.e=some s) {ad:Addr} {n c lo hi:Nat} {k q:IntKind} (F:ev E x=some (.slice (some ad) n c)) (G:ev E y=some (.int k lo)) (H:ev E z=some (.int q hi)) (A:n<=c) (K:lo<=hi) (I:hi<=c) (J:lo<c)
  (h:WO P r N ops Q l ((d,.slice (some (ad.add (lo*s.size))) (hi-lo) (c-lo))::E) ds w):WO P r N ops Q (i::l) E ds w:=by
 have hu:=(p.fits C).slice u;have j:=oj (P:=P) (w:=w) (b:=true) (n:=n) (c:=c) (lo:=some (k,(lo:Int))) (hi:=some (q,(hi:Int))) (mx:=none) A (by simp) (by simp;omega) (by simp;omega) (by simp) (by simp);simp only[τ,ξN,ξ1,Option.getD_none,gN,κ] at j;refine dZ B hw v hN (by rw[m];simp) (λa f=>?_) h;simp only[execOp,m,ξh,f.eval F,τ,ξN,f.eval G,f.eval H,Instr.sliceAt,run_underlying hu,ξd,Instr.slice,j,dW (p.fits D),ξL];rw[if_neg (by omega)]
theorem ajb (z:Θ.ok P) (I:ops[i]? =some o) (hw:want N ops E o.guard=some true) (D:o.dst=some d) (hN:ζK d N=true) {t:Nat} {x y:Operand} {n b:TI}
  (q:o.op= .call {callee:=.builtin .append,args:= #[x,y],argTypes:= #[t,t]}) (L:Θ.get t=some n) (B:n.tag=5) (M:Θ.get n.e=some b) {g k c m f e:Nat} {ad:Addr} {cur:Array Value} {us:Γb}
  (S:ev E x=some (.slice (some ⟨g,0,none⟩) k c)) (U:ev E y=some (.slice (some ad) m f)) (j:w.heap[g]? =some (.cells cur e (0,0))) (R:dJ w ad us) (v:us.length=m*b.size) (A: ∀u∈us,u.oneCell'=true) (G:k+m<=c) (C:(k+m)*b.size<=cur.size)
  (h: ∀(W:World) (new:Array Value),Fr [g] w W->W.heap[g]? =some (.cells new e (0,0))->new=(cur.toList.take (k*b.size)++us++cur.toList.drop (k*b.size+us.length)).toArray->WO P r N ops Q l ((d,.slice (some ⟨g,0,none⟩) (k+m) c)::E) ds W):WO P r N ops Q (i::l) E ds w:=by
 have O:=(z.fits L).slice B;obtain⟨x',T,K,V,X⟩:=(z.fits M).info;have s:=run_storeCells_at P g (k*b.size) e us 0 cur w j (by rw[v];rw[Nat.add_mul] at C;omega) A;simp only[ζ6] at s;have H:=h (w.setRow g (cur.toList.take (k*b.size)++us++cur.toList.drop (k*b.size+us.length)).toArray) _ (kc j) (by simp only[ζz,ξM,j,if_true,τ]) rfl;refine dZ I hw D hN (by rw[q];simp) (λa p=>?_) H;have F:=run_firstCells_some (P:=P) (w:=w) b.size m ad m f us v R;have J:(ζe #[t,t] o.type #[.slice (some ⟨g,0,none⟩) k c,.slice (some ad) m f]).run P w= .ok (.slice (some ⟨g,0,none⟩) (k+m) c) (w.setRow g (cur.toList.take (k*b.size)++us++cur.toList.drop (k*b.size+us.length)).toArray):=by
  simp[ζe,run_underlying O,sizeOf,typeInfo,T,Builtin.lenOf,K,F,G,fg,s]
 simp only[execOp,q,ξh,resolve,ξL,ξd,invoke,builtin,ξG,ξR,ζ5,p.eval S,p.eval U,J]
end
noncomputable def np (z:av):Value×Value:=(.int .u64 z.aY,.int .u64 z.aa)
noncomputable def nc (L:List av):Γb:=pc (L.map np)
theorem Ip {O:Γ} {w:World}: ∀ {L:List av},bN cY O w (nc L) L
 |[]=>rfl
 |z::L=>⟨[.int .u64 z.aY,.int .u64 z.aa],nc L,rfl,⟨[.int .u64 z.aY],[.int .u64 z.aa],rfl,rfl,rfl⟩,Ip⟩
theorem SU {O:Γ} {w:World}: ∀ {L:List av} {cs:Γb},bN cY O w cs L->cs=nc L
 |[],_,h=>h
 |z::L,cs,⟨c1,c2,a,b,c⟩=>by
  rw[a,SU c,aib b];rfl
theorem kR (L:List av):(nc L).length=L.length*2:=by rw[nc,fE,ρ]
theorem adW (L:List av) (k:Nat):(nc L).take (k*2)=nc (L.take k):=by rw[nc,x3,nc,ξT]
theorem adU (L:List av) (k:Nat):(nc L).drop (k*2)=nc (L.drop k):=by rw[nc,x2,nc,ζo]
theorem adT (L M:List av):nc (L++M)=nc L++nc M:=by rw[nc,ζb,I4];rfl
theorem adV: ∀ {L:List av} {u:Value},u∈nc L->u.oneCell'=true:=λ{L u} h=>bN.one (Ip (O:=[]) (w:=default) (L:=L)) u h
noncomputable def yu (xs:List av) (i j:Int):Option (List av):=if 0<=i/\i<=j/\j<=xs.length then some (xs.take i.toNat++xs.drop j.toNat) else none
set_option maxRecDepth 100000 in
set_option maxHeartbeats 4000000 in
theorem ahK {O:Γ} {w:World} (D:OB O w) {B:Nat} {v:Value} {xs:List av} (p:Go.Dc.Own cY 93 B O w v xs) {i j:Int} {zs:List av} (r:yu xs i j=some zs):
  Calls β 241 #[v,.int .i64 i,.int .i64 j] w (eR cY 93 B O w v zs):=by
 unfold yu at r;split at r
 case isFalse=>cases r
 rename_i aC;cases r;obtain⟨i,rfl⟩: ∃k:Nat,i=k:=⟨i.toNat,by omega⟩;obtain⟨j,rfl⟩: ∃k:Nat,j=k:=⟨j.toNat,by omega⟩;simp only[κ] at*
 obtain⟨A,c,rfl,aF,aB⟩:=p.form;have ae:(Ty.slice cY).is [] w (.slice A xs.length c) xs:=p.iY.data yG (λ_ _ h=>by cases h);refine e8 (args:=[.slice A xs.length c,.int .i64 i,.int .i64 j]) (N:=33) ζD rfl rfl rfl (aJ (aR (l:=[0]) rfl (aA ah [0] [(0,.slice A xs.length c),(1,.int .i64 i),(2,.int .i64 j)] rfl ⟨rfl,rfl,rfl,trivial⟩ (aQ (aK (aJ (aR (l:=[0,1,2,3,4,5]) rfl (aA ah [0,1,2,3,4] [(0,.slice A xs.length c),(1,.int .i64 i),(2,.int .i64 j),(8,.slice A xs.length c),(9,.int .i64 i),(10,.int .i64 j),(12,.int .i64 (xs.length:Int))] rfl ⟨rfl,rfl,rfl,rfl,rfl,rfl,rfl,trivial⟩ ?_))))))));refine ajf (l':=some (.i64,(i:Int))) (h':=some (.i64,(j:Int))) (m':=some (.i64,(xs.length:Int))) (ys:=(xs.take j).drop i) ah rfl rfl rfl rfl rfl rfl rfl rfl rfl rfl rfl rfl rfl ae (by
  simp only[τ];unfold dn;rw[if_pos (by simp;omega)];simp) (λv1 ax=>?_)
 refine aQ (aK (aJ (aJ (aR (l:=[0,1,2]) rfl (aA ah [0,1,2] [(0,.slice A xs.length c),(1,.int .i64 i),(2,.int .i64 j),(16,.bool ((i:Int)==j))] rfl ⟨rfl,rfl,rfl,rfl,trivial⟩ (aQ (aK ?_)))))))
 by_cases al:i=j
 .subst al;refine eJ rfl (by simp) ?_;refine aJ (aR (l:=[0,1]) rfl (aA ah [0,1] [(6,.slice A xs.length c)] rfl ⟨rfl,trivial⟩ (aQ (aK (cO (eQ (dv rfl ⟨_,O,rfl,?_⟩)))))));rw[ξ3];exact⟨p,Tr.refl _ _,D,Sub.refl _,λ_ _ _=>rfl,λ_ _ h=>h⟩
 refine eP rfl (beq_eq_false_iff_ne.2 (by omega)) ?_;refine dh (aK ?_);obtain⟨cs,⟨az,C⟩,aw⟩:=p.ex;rcases C with⟨_,aD⟩|⟨g,cap,cur,C,U,x,y,aa,H,I⟩
 .omega
 injection C with S aE Y;subst S;subst Y;have ai:=p.mem g rfl;have ab:=SU aw;have W:cY.n=2:=rfl;rw[W] at H I;obtain⟨R,hR⟩: ∃R,R=cur.toList.drop (xs.length*2):=⟨_,rfl⟩;have J:cur.toList=nc xs++R:=by
  rw[hR,<-ab,<-I];exact(ξ3 _ _).symm
 have ay:xs.length*2+R.length=c*2:=by
  have:=congrArg ζd J;rw[υ,H] at this;simp only[ν,kR] at this;omega
 have d:bK w g 93 (nc xs++R):=by
  unfold bK;rw[<-J,ξs];exact x
 refine aJ (aR (l:=[0,1,2]) rfl (aA ah [0,1,2] [(0,.slice (some ⟨g,0,none⟩) xs.length c),(1,.int .i64 i),(2,.int .i64 j),(7,.int .i64 (xs.length:Int))] rfl ⟨rfl,rfl,rfl,rfl,trivial⟩ (aQ (aK (aJ (yS mixed [⟨20,[],[0]⟩,⟨21,[],[1]⟩,⟨22,[0,1],[]⟩,⟨23,[],[0]⟩,⟨24,[],[2]⟩,⟨25,[3,4],[]⟩] [SP.eq (.slice (some ⟨g,0,none⟩) xs.length c),SP.eq (.int .i64 i),SP.eq (.slice (some ⟨g,0,none⟩) i c),SP.eq (.slice (some ⟨g,0,none⟩) xs.length c),SP.eq (.int .i64 j),SP.eq (.slice (if c=j then some ⟨g,0,none⟩ else(some ⟨g,0,none⟩:Option Addr).map (·.add (j*2))) (xs.length-j) (c-j))] rfl rfl rfl rfl ⟨?_,?_,?_,?_,?_,?_,trivial⟩ ?_))))))
 .intro a w2 m hN b d f;exact cX ah ⟨hN,b,b4 (E:=[(0,.slice (some ⟨g,0,none⟩) xs.length c)]) ⟨d 0 rfl _ rfl,trivial⟩⟩ rfl rfl rfl rfl rfl
 .intro a w2 m hN b d f;exact cX ah ⟨hN,b,b4 (E:=[(1,.int .i64 i)]) ⟨d 1 rfl _ rfl,trivial⟩⟩ rfl rfl rfl rfl rfl
 .intro a w2 m hN b d f;exact aen (n:=xs.length) (c:=c) (hi:=i) ah ⟨hN,b,b4 (E:=[(20,.slice (some ⟨g,0,none⟩) xs.length c),(21,.int .i64 i)]) ⟨f 0 rfl _ _ rfl rfl,f 1 rfl _ _ rfl rfl,trivial⟩⟩ rfl rfl rfl rfl rfl rfl rfl rfl rfl y (by omega)
 .intro a w2 m hN b d f;exact cX ah ⟨hN,b,b4 (E:=[(0,.slice (some ⟨g,0,none⟩) xs.length c)]) ⟨d 0 rfl _ rfl,trivial⟩⟩ rfl rfl rfl rfl rfl
 .intro a w2 m hN b d f;exact cX ah ⟨hN,b,b4 (E:=[(2,.int .i64 j)]) ⟨d 2 rfl _ rfl,trivial⟩⟩ rfl rfl rfl rfl rfl
 .intro a w2 m hN b d f;refine(re (A:=some ⟨g,0,none⟩) (n:=xs.length) (c:=c) (lo:=j) ah ⟨hN,b,b4 (E:=[(23,.slice (some ⟨g,0,none⟩) xs.length c),(24,.int .i64 j)]) ⟨f 3 rfl _ _ rfl rfl,f 4 rfl _ _ rfl rfl,trivial⟩⟩ rfl rfl rfl rfl rfl rfl rfl rfl rfl y (by omega)).weaken (λu w3 x=>?_);exact x
 intro a w3 f3 hN b t z;have F:=d.b6 f3;obtain⟨ad,X,Z⟩: ∃ad,(if c=j then some ⟨g,0,none⟩ else(some ⟨g,0,none⟩:Option Addr).map (·.add (j*2)))=some ad/\dJ w3 ad (nc (xs.drop j)):=by
  by_cases G:c=j
  .refine⟨⟨g,0,none⟩,by rw[if_pos G],?_⟩;rw[List.drop_eq_nil_of_le (by omega)];intro k u o;simp[nc,pc] at o
  .refine⟨⟨g,j*2,none⟩,by rw[if_neg G,τ,fg,χ],?_⟩;intro k u o;rw[fg,F.cell];rw[<-adU,ξA] at o;have an:=(ε.1 o).1;rw[μ an];exact o
 rw[X] at z;refine rV (E:=[(1,.int .i64 i),(2,.int .i64 j),(7,.int .i64 (xs.length:Int)),(22,.slice (some ⟨g,0,none⟩) i c),(25,.slice (some ad) (xs.length-j) (c-j))]) (l:=[6,7]) hN b ⟨t 1 _ rfl rfl,t 2 _ rfl rfl,t 7 _ rfl rfl,z 2 _ _ rfl rfl,z 5 _ _ rfl rfl,trivial⟩ rfl ?_;have K:(nc (xs.drop j)).length=(xs.length-j)*2:=by rw[kR,ξq]
 refine ajb ah rfl rfl rfl rfl rfl rfl rfl rfl rfl rfl F Z K (λu hu=>adV hu) (by omega) (by simp only[ξE,ν,kR];show(i+(xs.length-j))*2<=_;omega) (λw4 new af aj ao=>?_);have L:new.toList=nc (xs.take i++xs.drop j)++(nc xs++R).drop (i*2+(xs.length-j)*2):=by
  rw[ao];simp only[ξw];rw[K,adT,ξk,ξk]
  congr 1
  show List.take (i*2) (nc xs++R)=_;rw[ξ9 (by rw[kR];omega),adW]
 have s:(xs.take i++xs.drop j).length=i+(xs.length-j):=by simp;omega
 refine aA ah [7] [(0,.slice (some ⟨g,0,none⟩) (i+(xs.length-j)) c),(1,.int .i64 i),(2,.int .i64 j),(7,.int .i64 (xs.length:Int))] rfl ⟨rfl,rfl,rfl,rfl,trivial⟩ (aQ (aK (aJ (aR (l:=[0,1,2,3,4,5]) rfl (aA ah [0,1,2,3] [(0,.slice (some ⟨g,0,none⟩) (i+(xs.length-j)) c),(27,.slice (some ⟨g,0,none⟩) (i+(xs.length-j)) c),(29,.int .i64 ((i+(xs.length-j):Nat):Int)),(30,.int .i64 (xs.length:Int))] rfl ⟨rfl,rfl,rfl,rfl,trivial⟩ (ajg (n:=i+(xs.length-j)) (c:=c) (lo:=i+(xs.length-j)) (hi:=xs.length) ah rfl rfl rfl rfl rfl rfl rfl rfl rfl rfl rfl (by omega) (by omega) y (by omega) ?_))))));obtain⟨q,au⟩: ∃q,xs.length-(i+(xs.length-j))=q+1:=⟨xs.length-(i+(xs.length-j))-1,by omega⟩;rw[au,fg,χ];have P:new.size=c*2:=by
  rw[<-υ,L];simp only[ν,ξq,kR,ξr];omega
 refine U2 (k:=2) ah rfl rfl rfl rfl rfl rfl rfl rfl aj rfl (λu hu=>U8 rfl rfl hu) (by rw[P];show(i+(xs.length-j))*2+(q+1)*2<=c*2;omega) (λw5 Q ag ak aq=>?_);have M:Q.toList=nc (xs.take i++xs.drop j)++((φ (ζA #[.int .u64 0,.int .u64 0]).cells (q+1)).toList++new.toList.drop ((i+(xs.length-j))*2+(q+1)*2)):=by
  rw[aq];simp only[ξw,ξk]
  congr 1
  show List.take ((i+(xs.length-j))*2) new.toList=_;rw[L];exact ξx (by rw[kR,s])
 have ar:Q.size=c*2:=by
  rw[<-υ,M];simp only[ν,ξq,kR,υ,size_zeroCells,P,ξr];show _+((q+1)*2+_)=_;omega
 refine aQ (aK (aJ (aR (l:=[0,1]) rfl (aA ah [0,1] [(6,.slice (some ⟨g,0,none⟩) (i+(xs.length-j)) c)] rfl ⟨rfl,trivial⟩ (aQ (aK (cO (dv rfl ⟨_,O,rfl,?_⟩))))))));have V:Fr [g] w w5:=(f3.more (by simp)).trans (af.trans ag);have:=Kl (T:=cY) (e:=93) (B:=B) (n0:=xs.length) (zs:=xs.take i++xs.drop j) (cap:=c) D ai U V ak ar aa (by rw[s];omega) Ip (by
  rw[M];exact ξx (by rw[kR,s];rfl))
 rw[s] at this;exact this
end Go.Proofs.YtdhaaaeffhaadaaGreatDoor
end
section
namespace Go.Vx
open Go.RowKit Go.Dc
section
variable {S:bh} {K:bp S} {P:Program}
def fv:List (aE S)->Option (Γb)
 |[]=>some []
 | .one (.v u)::r=>(match fv r with|some us=>some (u::us)|none=>none)
 |_=>none
theorem UP {A:Pl} {O:Γ} {w:World}: ∀ {ajF:List (aE S)} {us vs:Γb},fv ajF=some us->cG A O w ajF vs->vs=us
 |[],us,vs,h,c=>by
  cases h;exact c
 | .one (.v u)::r,us,vs,h,⟨y,ys,e,a,b⟩=>by
  simp only[fv] at h;split at h
  .rename_i d hu;cases h;have a:[y]=[u]/\_:=a;rw[e,UP hu b,List.cons.inj a.1|>.1]
  .cases h
 | .agg _::_,us,vs,h,_=>by simp[fv] at h
 | .one (.aG _ _)::_,us,vs,h,_=>by simp[fv] at h
 | .one (.ptr _ _ _)::_,us,vs,h,_=>by simp[fv] at h
 | .one (.bl _ _)::_,us,vs,h,_=>by simp[fv] at h
 | .one (.fh _ _ _ _)::_,us,vs,h,_=>by simp[fv] at h
 | .one (.own _)::_,us,vs,h,_=>by simp[fv] at h
 | .one (.eU _ _ _ _)::_,us,vs,h,_=>by simp[fv] at h
 | .one (.fK _ _ _)::_,us,vs,h,_=>by simp[fv] at h
 | .one (.mp _)::_,us,vs,h,_=>by simp[fv] at h
 | .one (.bA _)::_,us,vs,h,_=>by simp[fv] at h
 | .one .c_::_,us,vs,h,_=>by simp[fv] at h
 | .one (.cW _)::_,us,vs,h,_=>by simp[fv] at h
 | .one (.sc _ _)::_,us,vs,h,_=>by simp[fv] at h
 | .one (.br _ _ _)::_,us,vs,h,_=>by simp[fv] at h
 | .one (.c7 _ _)::_,us,vs,h,_=>by simp[fv] at h
def JU (K:bp S) (f e:Nat) (tr:List (S.El e)->Γb->Option (List (S.El e))):e0 S:=⟨f,λajF h k=>match ajF with
 | .one (.own r)::rest=>(match fv rest,dU K (aM h) e (.own r) with
  |some us,some xs=>(tr xs us).bind λzs=>k (.ret (.s (.one (.own h.length)))) (h.set r none++[some (.row e zs)]) [r]
  |_,_=>none)
 |_=>none⟩
theorem ain (aC:b9 K P) {f e:Nat} {tr:List (S.El e)->Γb->Option (List (S.El e))} (ak:et P f)
  (ai: ∀(O:Γ) (w:World) (v:Value) (us:Γb) (xs zs:List (S.El e)),OB O w->0<w.heap.size->Dc.Own (S.ty e) e 1 O w v xs->tr xs us=some zs->Calls P f (v::us).toArray w (eR (S.ty e) e 1 O w v zs))
  {R:Type} (ajF:List (aE S)) (h:AH S) (k:Rs S->AH S->Γ->Option R) (z:R) (y:(JU K f e tr).out ajF h k=some z): ∃r h' dt,k r h' dt=some z/\eu K P f ajF h r h' dt:=by
 simp only[JU] at y;split at y
 rotate_left
 .cases y
 rename_i r rest;split at y
 rotate_left
 .cases y
 rename_i us xs av ay;obtain⟨zs,az,an⟩:=bind_some y;have H:=F9 ay;refine⟨_,_,_,an,ak,λA O w vs Q u B aj U Z=>?_⟩;obtain⟨v,aA,rfl,aw,au⟩:=Q;obtain rfl:=UP av au;obtain⟨_,I,ax,_⟩:=aw;cases ax;obtain⟨v0,af,ar,aD⟩:=u.al r _ H;rw[I] at af;cases af;refine(ai O w v aA xs zs B aj.1 ar az).mono ?_;rintro aB w' ⟨n,T,rfl,l⟩;obtain⟨A',E⟩: ∃A':Pl,A'=⟨λi=>bif ξu i h.length then some n else A.pl i,A.ls⟩:=⟨_,rfl⟩;have C: ∀i,i≠h.length->A'.pl i=A.pl i:=λi hi=>by
  rw[E];have:ξu i h.length=false:=by
   cases a:ξu i h.length with
   |false=>rfl
   |true=>exact absurd (ξm a) hi
  simp only[this,cond_false]
 have D:A'.pl h.length=some n:=by rw[E];simp
 have hle:A.le A':=⟨λi p hp=>by
  rw[C i (λe=>by subst e;rw[U _ (ξj _)] at hp;cases hp)];exact hp,by rw[E]⟩
 have o: ∀b,b2 v≠some b->v.ownBlock≠some b:=λb a Q=>a (ig Q);have ae: ∀b,b<w.heap.size->b2 v≠some b->w'.heap[b]? =w.heap[b]? :=λb a hn=>l.fr b a (o b hn);have V: ∀b,b2 n=some b->n.ownBlock=some b/\b∈T:=by
  intro b a;have o:n.ownBlock=some b:=by
   rcases h1 l.own with⟨t,_⟩|⟨ag,c,t⟩
   .rw[t] at a;cases a
   .rw[t] at a ⊢;cases a;rfl
  exact⟨o,l.own.mem b o⟩
 have N: ∀b,b<w.heap.size->b2 v≠some b->b2 n≠some b:=λb a hn h'=>l.ne b a (o b hn) (V b h').1;have aq:n.oneCell'=true:=by
  rcases h1 l.own with⟨t,_⟩|⟨ag,c,t⟩<;>rw[t]<;>rfl
 have hlen:(h.set r none).length=h.length:=by simp
 have x: ∀ {i:Nat} {X:Ob S},aM (h.set r none++[some (.row e zs)]) i=some X->(i≠r/\aM h i=some X)\/(i=h.length/\X= .row e zs):=by
  intro i X hi;rcases j2 hi with d|⟨d,m⟩
  .exact .inl (IL d)
  .exact .inr ⟨d.trans hlen,m⟩
 have aa: ∀i X,aM (h.set r none++[some (.row e zs)]) i=some X->X.nt=true:=λi X hi=>by
  rcases x hi with⟨_,d⟩|⟨_,rfl⟩
  .exact Z i X d
  .rfl
 refine⟨A',T,⟨n,rfl,⟨n,D,rfl,aq⟩⟩,⟨bS.xO aa ?_ ?_,l.ob,l.tr,λi hi=>C i (by omega),(λj G=>?_),by rw[E],by simp,?_,?_,λi X _=>aa i X⟩⟩
 .intro i X hi;rcases x hi with⟨F,d⟩|⟨rfl,rfl⟩
  .obtain⟨p,hp,hR,a⟩:=u.al i X d;have ao:=fk d;exact⟨p,by rw[C i (by omega)];exact hp,hR.keep l.tr hle λb g=>have g:=fZ (Z i X d) g;⟨ae b (B b (a b g)) (λo=>u.dj i r _ _ p v b F d H hp I g o),l.sub b (a b g)⟩,λb g=>l.sub b (a b g)⟩
  .exact⟨n,D,l.own,λb a=>(V b a).2⟩
 .intro i j X Y p q b W hi G hp J g L;have dA: ∀ {i:Nat} {X:Ob S} {p:Value},i≠r->aM h i=some X->A'.pl i=some p->b2 p=some b->b<w.heap.size/\A.pl i=some p/\b2 v≠some b:=by
   intro i X p ah d m s;have ao:=fk d;rw[C i (by omega)] at m;obtain⟨aF,ad,_,a⟩:=u.al i X d;rw[m] at ad;cases ad;exact⟨B b (a b s),m,λo=>u.dj i r _ _ p v b ah d H m I s o⟩
  rcases x hi with⟨F,d⟩|⟨rfl,rfl⟩
  .rcases x G with⟨M,m⟩|⟨rfl,rfl⟩
   .exact u.dj i j X Y p q b W d m (dA F d hp g).2.1 (dA M m J L).2.1 g L
   .rw[D] at J;cases J;have s:=dA F d hp g;exact N b s.1 s.2.2 L
  .rcases x G with⟨M,m⟩|⟨rfl,rfl⟩
   .rw[D] at hp;cases hp;have s:=dA M m J L;exact N b s.1 s.2.2 g
   .exact absurd rfl W
 .have:j=r:=by simpa using G
  subst this;exact fk H
 .intro i hi;simp at hi;rw[C i (by omega)];exact U i (by omega)
 .intro b a hn;have ab:=hn r (by simp) v I;refine⟨ae b (B b a) ab,l.sub b a,λi X p hi hX hp g=>?_⟩;rcases x hX with⟨_,d⟩|⟨rfl,rfl⟩
  .have:=fk d;omega
  .rw[D] at hp;cases hp;exact N b (B b a) ab (fZ rfl g)
end
end Go.Vx
end
section
namespace Go.Proofs.YtdhaaaeffhaadaaGreatDoor
open Go.RowKit Go.Dc Go.Vx
noncomputable def pE (xs:List av) (us:Γb):Option (List av):=match us with
 |[.int .i64 i,.int .i64 j]=>yu xs i j
 |_=>none
noncomputable def F7:e0 SS:=JU KK 241 93 pE
theorem abw {R:Type} (xs:List (aE SS)) (h:AH SS) (k:Rs SS->AH SS->Γ->Option R) (z:R) (a:F7.out xs h k=some z): ∃r h' dt,k r h' dt=some z/\eu KK β 241 xs h r h' dt:=
 ain (e:=93) (tr:=pE) cH (cp aU ζD rfl) (λO w v us xs zs b d c a=>by
  unfold pE at a;split at a
  .exact ahK b c a
  .cases a) xs h k z a
noncomputable def A8 (U:Sh):bW SS:= {ti U with H:=F7::(ti U).H}
theorem X_:aj (A8 shut) β:=aj.gM (c:=F7) Ah abw
noncomputable def vR (U:Sh) (s:aC) (pid:Int) (words:Γa):Option (aC×Int):=U.s _ (qV U s pid words)
noncomputable def vS (U:Sh) (s:aC) (pid:Int):Option (aC×Int×Int):=U.s _ (qU U s pid)
noncomputable def vY (U:Sh) (s:aC) (pid:Int):Option (aC×Int×Int):=U.s _ (qT U s pid)
theorem JJ {α:Type} {x:α}:shut.s α x=x:=by rw[ot]
noncomputable def F1 (U:Sh):fe SS:=hd KK 197 [34,28,76] (λ{R} xs (k:Rs SS->Option R)=>match xs with| .cons s (.cons pid (.cons words .nil))=>(vR U s pid words).bind (λr=>k (.ret (.bG [KK.bg 34 r.1,KK.bg 40 r.2]))))
noncomputable def F2 (U:Sh):fe SS:=hd KK 198 [34,28] (λ{R} xs (k:Rs SS->Option R)=>match xs with| .cons s (.cons pid .nil)=>(vS U s pid).bind (λr=>k (.ret (.bG [KK.bg 34 r.1,KK.bg 28 r.2.1,KK.bg 40 r.2.2]))))
noncomputable def F3 (U:Sh):fe SS:=hd KK 30 [34,28] (λ{R} xs (k:Rs SS->Option R)=>match xs with| .cons s (.cons pid .nil)=>(vY U s pid).bind (λr=>k (.ret (.bG [KK.bg 34 r.1,KK.bg 3 r.2.1,KK.bg 40 r.2.2]))))
theorem g0 {O:Γ} {w:World} (h:cB KK O w):cB KK [] w:=h.tr (Tr.less λ_ a=>by cases a)
theorem HY {A:Pl} {O:Γ} {w:World} {s:aC} {v:Value} (h:(KK.bg 34 s).rel A O w v):dY.is [0] w v s:=adg (O:=[]) (H3 (qY cH (t:=34) rfl rfl h))
theorem J1 {A:Pl} {O:Γ} {w:World} {s:Int} {v:Value} (h:(KK.bg 28 s).rel A O w v):(Ty.int .u64).is [] w v s:=H3 (qY cH (t:=28) rfl rfl h)
theorem ajq {A:Pl} {O:Γ} {w:World} {s:Γa} {v:Value} (h:(KK.bg 76 s).rel A O w v):(Ty.slice (Ty.int .u64)).is [] w v s:=H3 (O:=O++[0]) (qY cH (t:=76) rfl rfl h)
theorem aba {R:Type} (ys:List (aE SS)) (k:Rs SS->Option R) (z:R) (hp:ys.all aE.pure=true) (p:(F1 shut).out ys k=some z): ∃r,k r=some z/\d_ KK β 197 ys r:=
 pD cH (λ{R} xs k z h=>by
  match xs,h with
  | .cons s (.cons pid (.cons words .nil)),h=>
   obtain⟨r,n,m⟩:=bind_some h;refine⟨_,m,cp aU ζC rfl,λA O w vs o l c=>?_⟩;obtain⟨v0,_,rfl,d,v1,_,rfl,f,v2,_,rfl,g,i⟩:=o;rw[show _=[] from i];refine(ac1 (q_ l c) (g0 c) (HY d) (J1 f) (ajq g) (JJ.symm.trans n)).mono ?_;rintro e w' ⟨v,rfl,⟨a,b,rfl,q,u⟩,j⟩;exact⟨⟨_,rfl,[a,b],rfl,a,[b],rfl,e3 cH (t:=34) rfl rfl (xC q),b,[],rfl,e3 cH (t:=40) rfl rfl u,rfl⟩,j⟩) ys k z hp p
theorem abb {R:Type} (ys:List (aE SS)) (k:Rs SS->Option R) (z:R) (hp:ys.all aE.pure=true) (p:(F2 shut).out ys k=some z): ∃r,k r=some z/\d_ KK β 198 ys r:=
 pD cH (λ{R} xs k z h=>by
  match xs,h with
  | .cons s (.cons pid .nil),h=>
   obtain⟨r,n,m⟩:=bind_some h;refine⟨_,m,cp aU ζB rfl,λA O w vs o l d=>?_⟩;obtain⟨v0,_,rfl,f,v1,_,rfl,g,i⟩:=o;rw[show _=[] from i];refine(ac0 (q_ l d) (g0 d) (HY f) (J1 g) (JJ.symm.trans n)).mono ?_;rintro e w' ⟨v,rfl,⟨a,b,c,rfl,q,u,x⟩,j⟩;exact⟨⟨_,rfl,[a,b,c],rfl,a,[b,c],rfl,e3 cH (t:=34) rfl rfl (xC q),b,[c],rfl,e3 cH (t:=28) rfl rfl u,c,[],rfl,e3 cH (t:=40) rfl rfl x,rfl⟩,j⟩) ys k z hp p
theorem abc {R:Type} (ys:List (aE SS)) (k:Rs SS->Option R) (z:R) (hp:ys.all aE.pure=true) (p:(F3 shut).out ys k=some z): ∃r,k r=some z/\d_ KK β 30 ys r:=
 pD cH (λ{R} xs k z h=>by
  match xs,h with
  | .cons s (.cons pid .nil),h=>
   obtain⟨r,n,m⟩:=bind_some h;refine⟨_,m,cp aU ζP rfl,λA O w vs o l d=>?_⟩;obtain⟨v0,_,rfl,f,v1,_,rfl,g,i⟩:=o;rw[show _=[] from i];refine(acZ (q_ l d) (g0 d) (HY f) (J1 g) (JJ.symm.trans n)).mono ?_;rintro e w' ⟨v,rfl,⟨a,b,c,rfl,q,u,x⟩,j⟩;exact⟨⟨_,rfl,[a,b,c],rfl,a,[b,c],rfl,e3 cH (t:=34) rfl rfl (xC q),b,[c],rfl,e3 cH (t:=3) rfl rfl u,c,[],rfl,e3 cH (t:=40) rfl rfl x,rfl⟩,j⟩) ys k z hp p
noncomputable def AL (U:Sh):bW SS:= {A8 U with C:=F1 U::(A8 U).C}
theorem X8:aj (AL shut) β:=aj.hO (c:=F1 shut) X_ aba
noncomputable def AM (U:Sh):bW SS:= {AL U with C:=F2 U::(AL U).C}
theorem X9:aj (AM shut) β:=aj.hO (c:=F2 shut) X8 abb
noncomputable def Bg (U:Sh):bW SS:= {AM U with C:=F3 U::(AM U).C}
theorem Bh:aj (Bg shut) β:=aj.hO (c:=F3 shut) X9 abc
end Go.Proofs.YtdhaaaeffhaadaaGreatDoor
end
section
namespace Go.Proofs.YtdhaaaeffhaadaaGreatDoor
open Go.RowKit Go.Dc Go.Vx
variable (U:Sh)
def wy (a:List aq) (p1:List av) (p2 p3:Int) (p4:List aq):AS SS:=⟨[(5,va 0 0),(20,vd 32 a),(21,vi p2),(22,vi p3)],[bX 128 [.own 1,.own 2],rX 93 p1,rX 82 p4],0,none,false,[],[]⟩
def MO (U:Sh) (b:List aq) (p1:List av) (p2:Int) (a:Int×List aq):T ((Int×List aq)⊕(Bool×Int×List aq)):=.bf (decide (a.1<p2)) (.bd (idx b a.1) λz0=>.bd (app 8 [] z0.a6) λc=>.bd (app 32 a.2 [aq.mk z0.aa c]) λz2=>.ok (.inl (γ.wrap (a.1+1),z2)))<|.ok (.inr (decide (a.1<p2),a.1,a.2))
def B8 (a:List aq) (p1:List av) (p2 p3:Int) (p4:List aq):=bU U (MO U a p1 p2) 1000000 (p3,p4)
def YW {R} (k:KX SS R) (a:List aq) (p1:List av) (p2:Int) (x:(Bool×Int×List aq)):Option R:=(λv=>k (.exit 0) {wy a p1 p2 p2 v.2.2 with env:=[(23,vb v.1),(5,va 0 0),(20,vd 32 a),(21,vi p2),(22,vi v.2.1)]}) x
def Pv:a7 SS:=hs (λst=>gc (ay 118 7) (eb 0 1 82 (st)))<|bc 7 (λst=>(ez 32 (c9 st 20 0)).bind λa=>(eh st 1 93).bind λp1=>(db (c9 st 21 0)).bind λp2=>(db (c9 st 22 0)).bind λp3=>(eh st 2 82).bind λp4=>some (a,p1,p2,p3,p4)) (u5 wy) (u5 (B8 shut)) (λk=>w3 (YW k))
theorem afr:LS KK β ay ζ8 118 7 Pv:=aW.pre (b5.comp (b5.gc (ay 118 7)) (b5.eb 0 1 82))<|
 aW.bU (π:=List aq×List av×Int×Int×List aq) (σ:=Int×List aq) (aj.all Bh rfl) (aO.nil) rfl 60 (λp a=>w3 wy p a.1 a.2) (λp=>(p.2.2.2.1,p.2.2.2.2)) (St:=w3 (MO shut)) (λp=>1000000) (λp=>rfl)
  (λm p a k=>by kernel_rfl)
def xc (a:Int) (p1:List av) (p2 p3:Int):AS SS:=⟨[(0,vo 0),(1,vu a),(2,vc 1),(8,vl p1),(9,vi p2),(10,vi p3)],[rX 93 p1,some (.bA 263 [] [.one (.bl 2 0)]),bX 276 [.v (.func (.func 239) (.mk []) (.mk []))]],3,none,false,[],[]⟩
def o4 (b:Int) (p1:List av) (a:Int×Int):T ((Int×Int)⊕(Bool×Int×Int)):=.bf (decide (a.1<a.2)) (.bd (idx p1 (γ.wrap ((ζ.wrap (γ.wrap (a.1+a.2))).fdiv 2))) λz0=>.bd (p1[(γ.wrap ((ζ.wrap (γ.wrap (a.1+a.2))).fdiv 2)).toNat]?) λc=>.bd (ik U c.aY b) λz2=>.bf (decide (z2<0)) (.ok (.inl (γ.wrap (γ.wrap ((ζ.wrap (γ.wrap (a.1+a.2))).fdiv 2)+1),a.2)))<|.ok (.inl (a.1,γ.wrap ((ζ.wrap (γ.wrap (a.1+a.2))).fdiv 2))))<|.ok (.inr (decide (a.1<a.2),a.2,a.1))
def CZ (a:Int) (p1:List av) (p2 p3:Int):=bU U (o4 U a p1) 1000000 (p2,p3)
def ZV {R} (k:KX SS R) (a:Int) (p1:List av) (x:(Bool×Int×Int)):Option R:=(λv=>k (.exit 0) {xc a p1 a a with env:=[(17,vb v.1),(16,vi v.2.1),(15,vi v.2.2),(0,vo 0),(1,vu a),(2,vc 1),(8,vl p1),(9,vi v.2.2),(10,vi v.2.1)]}) x
def Qp:a7 SS:=bc 4 (gq (λst=>dd st 1 263) (sq (sI 1) (sq (hR 0 93) (sq (sI 9) (sI 10))))) (u4 xc) (u4 (CZ shut)) (λk p=>ZV k p.1 p.2.1)
def KV:=bo (Bg shut) ay ζ8 118 [Pv]
theorem KW:aX KV β:=bw (aj.all Bh rfl) ξJ rfl aU (by kernel_rfl) afr
theorem agk:LS KK β ay ξK 262 4 Qp:=
 aW.bU (π:=Int×List av×Int×Int) (σ:=Int×Int) KW (aO.nil) rfl 60 (λp a=>xc p.1 p.2.1 a.1 a.2) (λp=>(p.2.2.1,p.2.2.2)) (St:=λp=>o4 shut p.1 p.2.1) (λp=>1000000) (λp=>rfl)
  (λm p a k=>by kernel_rfl)
def WM:=bo KV ay ξK 262 [Qp]
theorem WN:aX WM β:=bw KW ζ1 rfl aU (by kernel_rfl) agk
def Ez (s:aC) (name:Int):T (aC×Int):=.bd (jU U s) λz0=>.bf (z0 !=0) (.bf (z0 !=0) (.ok (⟨[],[]⟩,z0))<|.bd (jW U name) λa=>.bf (!a) (.ok (⟨[],[]⟩,351))<|.no)<|.bd (app 16 [] s.an) λa=>.gd (wy s.ak a ((↑s.ak.length:Int)) 0 [])<|.bd (B8 U s.ak a ((↑s.ak.length:Int)) 0 []) λc=>.bd (jW U name) λz3=>.bf (!z3) (.ok (⟨[],[]⟩,351))<|.gd (xc name a 0 (↑a.length:Int))<|.bd (CZ U name a 0 ((↑a.length:Int))) λb=>.bf (decide (b.2.2<(↑a.length:Int))) (.bd (idx a b.2.2) λz5=>.bd (a[b.2.2.toNat]?) λd=>.bd (ik U d.aY name) λe=>.bf (!e==0) (.ok (⟨[],[]⟩,4))<|.bd (pE a [ζc γ b.2.2,ζc γ (γ.wrap (b.2.2+1))]) λf=>.ok (⟨f,c.2.2⟩,0))<|.ok (⟨[],[]⟩,4)
def vQ (s:aC) (name:Int):=U.s _ (Ez U s name).val
def tj:=a_ (bY KK 195 34 28 (vQ U) (ea KK 34 40)) (Bg U)
theorem AK:aj (tj shut) β:=bZ (rs:=[34,40]) Bh WN rfl rfl λs name k=>by kernel_rfl
def uW (s:aF) (x:bq):T (aF×bP):=.bf (decide (x.bb>=1)) (.bf (!decide (x.bb<=14)) (.ok (s,⟨361,0⟩))<|.bd (jS U x) λz0=>.bf (z0) (.bf (x.bb==0) (.no)<|.bf (x.bb==1) (.bd (vG U s.ar (aw x.fArgs 0)) λa=>.bf (!a.snd.snd==0) (.ok (s,⟨a.snd.snd,0⟩))<|.ok (⟨a.fst,s.aB,s.au,s.ao⟩,⟨0,a.snd.fst⟩))<|.bf (x.bb==2) (.bd (vH U s.ar (aw x.fArgs 0) (aw x.fArgs 1)) λa=>.bf (!a.snd==0) (.ok (s,⟨a.snd,0⟩))<|.bd (vZ U s.ao (aw x.fArgs 0)) λz2=>.bf (!(↑z2.length:Int)==0) (.ok (s,⟨341,0⟩))<|.bd (vX U s.aB (aw x.fArgs 0)) λz3=>.bd (vY U s.ao (aw x.fArgs 0)) λz4=>.bf (!z4.snd.snd==0) (.ok (s,⟨z4.snd.snd,0⟩))<|.ok (⟨a.fst,z3.fst,s.au,z4.fst⟩,⟨0,0⟩))<|.bf (x.bb==3) (.bd (vI U s.ar (aw x.fArgs 0) (aw x.fArgs 1)) λa=>.bf (!a.snd.snd==0) (.ok (s,⟨a.snd.snd,0⟩))<|.ok (⟨a.fst,s.aB,s.au,s.ao⟩,⟨0,a.snd.fst⟩))<|.bf (x.bb==4) (.bd (nC U s.au (aw x.fArgs 1)) λa=>.bf (!a.snd==0) (.ok (s,⟨a.snd,0⟩))<|.bd (pR U s.aB (aw x.fArgs 0) a.fst) λz2=>.bf (!z2.snd.snd==0) (.ok (s,⟨z2.snd.snd,0⟩))<|.ok (⟨s.ar,z2.fst,s.au,s.ao⟩,⟨0,ζ.wrap z2.snd.fst⟩))<|.bf (x.bb==5) (.bf (!decide (aw x.fArgs 1<8)) (.ok (s,⟨4,0⟩))<|.bd (kH U s.aB (aw x.fArgs 0) (γ.wrap (aw x.fArgs 1))) λa=>.bf (!a.snd) (.ok (s,⟨4,0⟩))<|.bd (vJ U s.aB (aw x.fArgs 0) [γ.wrap (aw x.fArgs 1)]) λz2=>.bf (!z2.snd==0) (.ok (s,⟨z2.snd,0⟩))<|.ok (⟨s.ar,z2.fst,s.au,s.ao⟩,⟨0,0⟩))<|.bf (x.bb==6) (.bf (!decide (aw x.fArgs 1<8)) (.ok (s,⟨4,0⟩))<|.bd (kH U s.aB (aw x.fArgs 0) (γ.wrap (aw x.fArgs 1))) λa=>.bf (!a.snd) (.ok (s,⟨4,0⟩))<|.bd (vK U s.aB (aw x.fArgs 0) (γ.wrap (aw x.fArgs 1))) λz2=>.bf (!z2.snd.snd==0) (.ok (s,⟨z2.snd.snd,0⟩))<|.ok (⟨s.ar,z2.fst,s.au,s.ao⟩,⟨0,ζ.wrap z2.snd.fst⟩))<|.bf (x.bb==7) (.bd (vL U s.au (aw x.fArgs 1)) λa=>.bf (!a.snd.snd==0) (.ok (s,⟨a.snd.snd,0⟩))<|.ok (⟨s.ar,s.aB,a.fst,s.ao⟩,⟨0,a.snd.fst⟩))<|.bf (x.bb==8) (.bd (vM U s.au (aw x.fArgs 1)) λa=>.bf (!a.snd==0) (.ok (s,⟨a.snd,0⟩))<|.bd (vN U s.aB a.fst) λz2=>.bf (!z2==0) (.ok (s,⟨341,0⟩))<|.bd (vO U s.au (aw x.fArgs 1)) λz3=>.bf (!z3.snd==0) (.ok (s,⟨z3.snd,0⟩))<|.ok (⟨s.ar,s.aB,z3.fst,s.ao⟩,⟨0,0⟩))<|.bf (x.bb==9) (.bd (nC U s.au (aw x.fArgs 1)) λa=>.bf (!a.snd==0) (.ok (s,⟨a.snd,0⟩))<|.ok (s,⟨0,a.fst⟩))<|.bf (x.bb==10) (.bd (vP U s.ao (aw x.fArgs 1) (aw x.fArgs 0)) λa=>.bf (!a.snd==0) (.ok (s,⟨a.snd,0⟩))<|.ok (⟨s.ar,s.aB,s.au,a.fst⟩,⟨0,0⟩))<|.bf (x.bb==11) (.bd (nD U s.ao (aw x.fArgs 1)) λa=>.bf (!a.snd==0) (.ok (s,⟨a.snd,0⟩))<|.bf (!a.fst==aw x.fArgs 0) (.ok (s,⟨362,0⟩))<|.bd (vQ U s.ao (aw x.fArgs 1)) λb=>.bf (!b.2==0) (.ok (s,⟨b.2,0⟩))<|.ok (⟨s.ar,s.aB,s.au,b.1⟩,⟨0,0⟩))<|.bf (x.bb==12) (.bd (nD U s.ao (aw x.fArgs 1)) λa=>.bf (!a.snd==0) (.ok (s,⟨a.snd,0⟩))<|.ok (s,⟨0,a.fst⟩))<|.bf (x.bb==13) (.bd (pU U s.ar (aw x.fArgs 1)) λa=>.bf (!a) (.ok (s,⟨4,0⟩))<|.bd (vR U s.ao (aw x.fArgs 1) [aw x.fArgs 2]) λz2=>.bf (!z2.snd !=6) (.ok (s,⟨322,0⟩))<|.bf (!z2.snd==0) (.ok (s,⟨z2.snd,0⟩))<|.ok (⟨s.ar,s.aB,s.au,z2.fst⟩,⟨0,0⟩))<|.bf (x.bb==14) (.bd (vS U s.ao (aw x.fArgs 0)) λa=>.bf (!a.snd.snd !=4) (.ok (s,⟨322,0⟩))<|.bf (!a.snd.snd==0) (.ok (s,⟨a.snd.snd,0⟩))<|.ok (⟨s.ar,s.aB,s.au,a.fst⟩,⟨0,a.snd.fst⟩))<|.no)<|.bd (pU U s.ar (aw x.fArgs 0)) λa=>.bf (!a) (.ok (s,⟨321,0⟩))<|.bf (x.bb==0) (.no)<|.bf (x.bb==1) (.bd (vG U s.ar (aw x.fArgs 0)) λz2=>.bf (!z2.snd.snd==0) (.ok (s,⟨z2.snd.snd,0⟩))<|.ok (⟨z2.fst,s.aB,s.au,s.ao⟩,⟨0,z2.snd.fst⟩))<|.bf (x.bb==2) (.bd (vH U s.ar (aw x.fArgs 0) (aw x.fArgs 1)) λz2=>.bf (!z2.snd==0) (.ok (s,⟨z2.snd,0⟩))<|.bd (vZ U s.ao (aw x.fArgs 0)) λz3=>.bf (!(↑z3.length:Int)==0) (.ok (s,⟨341,0⟩))<|.bd (vX U s.aB (aw x.fArgs 0)) λz4=>.bd (vY U s.ao (aw x.fArgs 0)) λz5=>.bf (!z5.snd.snd==0) (.ok (s,⟨z5.snd.snd,0⟩))<|.ok (⟨z2.fst,z4.fst,s.au,z5.fst⟩,⟨0,0⟩))<|.bf (x.bb==3) (.bd (vI U s.ar (aw x.fArgs 0) (aw x.fArgs 1)) λz2=>.bf (!z2.snd.snd==0) (.ok (s,⟨z2.snd.snd,0⟩))<|.ok (⟨z2.fst,s.aB,s.au,s.ao⟩,⟨0,z2.snd.fst⟩))<|.bf (x.bb==4) (.bd (nC U s.au (aw x.fArgs 1)) λz2=>.bf (!z2.snd==0) (.ok (s,⟨z2.snd,0⟩))<|.bd (pR U s.aB (aw x.fArgs 0) z2.fst) λz3=>.bf (!z3.snd.snd==0) (.ok (s,⟨z3.snd.snd,0⟩))<|.ok (⟨s.ar,z3.fst,s.au,s.ao⟩,⟨0,ζ.wrap z3.snd.fst⟩))<|.bf (x.bb==5) (.bf (!decide (aw x.fArgs 1<8)) (.ok (s,⟨4,0⟩))<|.bd (kH U s.aB (aw x.fArgs 0) (γ.wrap (aw x.fArgs 1))) λz2=>.bf (!z2.snd) (.ok (s,⟨4,0⟩))<|.bd (vJ U s.aB (aw x.fArgs 0) [γ.wrap (aw x.fArgs 1)]) λz3=>.bf (!z3.snd==0) (.ok (s,⟨z3.snd,0⟩))<|.ok (⟨s.ar,z3.fst,s.au,s.ao⟩,⟨0,0⟩))<|.bf (x.bb==6) (.bf (!decide (aw x.fArgs 1<8)) (.ok (s,⟨4,0⟩))<|.bd (kH U s.aB (aw x.fArgs 0) (γ.wrap (aw x.fArgs 1))) λz2=>.bf (!z2.snd) (.ok (s,⟨4,0⟩))<|.bd (vK U s.aB (aw x.fArgs 0) (γ.wrap (aw x.fArgs 1))) λz3=>.bf (!z3.snd.snd==0) (.ok (s,⟨z3.snd.snd,0⟩))<|.ok (⟨s.ar,z3.fst,s.au,s.ao⟩,⟨0,ζ.wrap z3.snd.fst⟩))<|.bf (x.bb==7) (.bd (vL U s.au (aw x.fArgs 1)) λz2=>.bf (!z2.snd.snd==0) (.ok (s,⟨z2.snd.snd,0⟩))<|.ok (⟨s.ar,s.aB,z2.fst,s.ao⟩,⟨0,z2.snd.fst⟩))<|.bf (x.bb==8) (.bd (vM U s.au (aw x.fArgs 1)) λz2=>.bf (!z2.snd==0) (.ok (s,⟨z2.snd,0⟩))<|.bd (vN U s.aB z2.fst) λz3=>.bf (!z3==0) (.ok (s,⟨341,0⟩))<|.bd (vO U s.au (aw x.fArgs 1)) λz4=>.bf (!z4.snd==0) (.ok (s,⟨z4.snd,0⟩))<|.ok (⟨s.ar,s.aB,z4.fst,s.ao⟩,⟨0,0⟩))<|.bf (x.bb==9) (.bd (nC U s.au (aw x.fArgs 1)) λz2=>.bf (!z2.snd==0) (.ok (s,⟨z2.snd,0⟩))<|.ok (s,⟨0,z2.fst⟩))<|.bf (x.bb==10) (.bd (vP U s.ao (aw x.fArgs 1) (aw x.fArgs 0)) λz2=>.bf (!z2.snd==0) (.ok (s,⟨z2.snd,0⟩))<|.ok (⟨s.ar,s.aB,s.au,z2.fst⟩,⟨0,0⟩))<|.bf (x.bb==11) (.bd (nD U s.ao (aw x.fArgs 1)) λz2=>.bf (!z2.snd==0) (.ok (s,⟨z2.snd,0⟩))<|.bf (!z2.fst==aw x.fArgs 0) (.ok (s,⟨362,0⟩))<|.bd (vQ U s.ao (aw x.fArgs 1)) λc=>.bf (!c.2==0) (.ok (s,⟨c.2,0⟩))<|.ok (⟨s.ar,s.aB,s.au,c.1⟩,⟨0,0⟩))<|.bf (x.bb==12) (.bd (nD U s.ao (aw x.fArgs 1)) λz2=>.bf (!z2.snd==0) (.ok (s,⟨z2.snd,0⟩))<|.ok (s,⟨0,z2.fst⟩))<|.bf (x.bb==13) (.bd (pU U s.ar (aw x.fArgs 1)) λz2=>.bf (!z2) (.ok (s,⟨4,0⟩))<|.bd (vR U s.ao (aw x.fArgs 1) [aw x.fArgs 2]) λz3=>.bf (!z3.snd !=6) (.ok (s,⟨322,0⟩))<|.bf (!z3.snd==0) (.ok (s,⟨z3.snd,0⟩))<|.ok (⟨s.ar,s.aB,s.au,z3.fst⟩,⟨0,0⟩))<|.bf (x.bb==14) (.bd (vS U s.ao (aw x.fArgs 0)) λz2=>.bf (!z2.snd.snd !=4) (.ok (s,⟨322,0⟩))<|.bf (!z2.snd.snd==0) (.ok (s,⟨z2.snd.snd,0⟩))<|.ok (⟨s.ar,s.aB,s.au,z2.fst⟩,⟨0,z2.snd.fst⟩))<|.no)<|.ok (s,⟨361,0⟩)
def lO (s:aF) (x:bq):=U.s _ (uW U s x).val
theorem Ud:R2 KK (tj shut) 67 36 50 [36,53] (uW shut) (ea KK 36 53):=by intro R s x k;kernel_rfl
def Mi:=a_ (bY KK 67 36 50 (lO U) (ea KK 36 53)) (tj U)
theorem Mj:aj (Mi shut) β:=bZ AK (aj.all AK rfl) rfl rfl Ud
end Go.Proofs.YtdhaaaeffhaadaaGreatDoor
end
section
namespace Go.Proofs.YtdhaaaeffhaadaaGreatDoor
open Go.RowKit Go.Dc Go.Vx
abbrev tS (X:Type):=Γa×List ag×List ai×List ax×Int×List av×List aq×X
variable (U:Sh)
def pb (s:aF) (c:bq):T Bool:=.bd (hT U s) λz0=>.bf (z0 !=0) (.bf (z0==0) (.bd (vz U (aF.mk (aV.mk [0,0,0,0,0,0,0,0,0,0,0,0,0,0,0,0] []) [] (a1.mk [] 0) (aC.mk [] [])) s) λa=>.ok (!a))<|.ok false)<|.bd (lP U s) λa=>.bd (lO U a c) λb=>.bd (vz U b.1 s) λz3=>.ok (!z3)
def il (s:aF) (c:bq):=U.s _ (pb U s c).val
def AW:=a_ (bY KK 21 36 50 (il U) (bD KK 4)) (Mi U)
theorem AY:aj (AW shut) β:=bZ (rs:=[4]) Mj (aj.all Mj rfl) rfl rfl λs c k=>by kernel_rfl
def Hn (a:List bq) (p1:Γa) (p2:List ag) (p3:List ai) (p4:List ax) (p5:Int) (p6:List av) (p7:List aq) (p8:Int) (b:List bP):AS SS:=⟨[(0,vs .c_),(2,va 2 0),(8,vd 46 a),(9,vl a),(10,vi p8)],[some (.bA 117 [] [.one (.bl 1 0),.one (.bl 2 0)]),bX 46 [.aG 46 a],bX 120 [.bl 3 0],bX 36 [.br .i64 16 p1,.aG 23 p2,.aG 26 p3,.aG 27 p4,lu p5,.aG 31 p6,.aG 32 p7],bX 51 [.own 5],rX 53 b],5,some ⟨⟨ζE,ay 116⟩,[7],eW (ct ζE) 4,eX (ct ζE) 4,[(2,va 4 0),(6,vc 0)],none⟩,false,[],[3,4]⟩
def Tp (a:List bq) (p1:Γa) (p2:List ag) (p3:List ai) (p4:List ax) (p5:Int) (p6:List av) (p7:List aq) (b:List bP):AS SS:=Hn a p1 p2 p3 p4 p5 p6 p7 0 b
def oM (c:List bq) (p8:Int) (z0:bq) (a:tS (List bP)):T ((tS (List bP))⊕(Bool×Int×tS (List bP))):=.bd (lO U (aF.mk (aV.mk a.1 a.2.1) a.2.2.1 (a1.mk a.2.2.2.1 a.2.2.2.2.1) (aC.mk a.2.2.2.2.2.1 a.2.2.2.2.2.2.1)) z0) λb=>.bd (app 16 a.2.2.2.2.2.2.2 [b.2]) λz2=>.ok (.inl (b.1.ar.az,b.1.ar.ab,b.1.aB,b.1.au.ab,b.1.au.aL,b.1.ao.an,b.1.ao.ak,z2))
def oC (U:Sh) (b:List bq) (p8:Int) (a:tS (List bP)):T ((Bool×Int×tS (List bP))):=.ok (decide (p8<(↑b.length:Int)),p8,a.1,a.2.1,a.2.2.1,a.2.2.2.1,a.2.2.2.2.1,a.2.2.2.2.2.1,a.2.2.2.2.2.2.1,a.2.2.2.2.2.2.2)
def B6 (a:List bq) (p1:Γa) (p2:List ag) (p3:List ai) (p4:List ax) (p5:Int) (p6:List av) (p7:List aq) (b:List bP):=bC U (oM U a) (oC U a) a (p1,p2,p3,p4,p5,p6,p7,b)
def YU {R} (k:KX SS R) (a:List bq) (x:(Bool×Int×tS (List bP))):Option R:=(λv=>k (.exit 0) (xe [(11,vb v.1)] (Hn a v.2.2.1 v.2.2.2.1 v.2.2.2.2.1 v.2.2.2.2.2.1 v.2.2.2.2.2.2.1 v.2.2.2.2.2.2.2.1 v.2.2.2.2.2.2.2.2.1 v.2.1 v.2.2.2.2.2.2.2.2.2))) x
def Pt:a7 SS:=hs (λst=>gc (ay 117 2) (gn [3,4] (eb 4 0 53 (st))))<|bc 2 (λst=>((dd st 0 117).bind λ_=>gv st 13 4).bind λ_=>(ez 46 (c9 st 8 0)).bind λa=>(dO (dQ st 3 0)).bind λp1=>(ez 23 (dQ st 3 1)).bind λp2=>(ez 26 (dQ st 3 2)).bind λp3=>(ez 27 (dQ st 3 3)).bind λp4=>(db (dQ st 3 4)).bind λp5=>(ez 31 (dQ st 3 5)).bind λp6=>(ez 32 (dQ st 3 6)).bind λp7=>(eh st 5 53).bind λb=>some (a,p1,p2,p3,p4,p5,p6,p7,b)) (u9 Tp) (u9 (B6 shut)) (λk p=>YU k p.1)
theorem afp:LS KK β ay Tryz.f117 117 2 Pt:=aW.pre (b5.comp (b5.gc (ay 117 2)) (b5.comp (b5.gn [3,4]) (b5.eb 4 0 53)))<|
 aW.bH (π:=List bq×tS (List bP)) (σ:=tS (List bP)) (aj.all AY rfl) (aO.nil) rfl 60 (λp i a=>Hn p.1 a.1 a.2.1 a.2.2.1 a.2.2.2.1 a.2.2.2.2.1 a.2.2.2.2.2.1 a.2.2.2.2.2.2.1 i a.2.2.2.2.2.2.2) (λp=>p.1) (λp=>(p.2.1,p.2.2.1,p.2.2.2.1,p.2.2.2.2.1,p.2.2.2.2.2.1,p.2.2.2.2.2.2.1,p.2.2.2.2.2.2.2.1,p.2.2.2.2.2.2.2.2)) (St:=λp=>oM shut p.1) (F:=λp=>oC shut p.1) (λp=>rfl)
  (λm p i a k=>by kernel_rfl) (λp x=>⟨_,_,λ_=>rfl⟩) (λp N C A O w a b=>bQ b (t:=46) (sl:=8) rfl λv h=>bO h)
def W5:=bo (AW shut) ay Tryz.f117 117 [Pt]
theorem W6:aX W5 β:=bw (aj.all AY rfl) Tryz.func117 rfl aU (by kernel_rfl) afp
def pd (s:aF) (l:List bq):T (aF×List bP×Int):=.bd (hT U s) λz0=>.bf (z0 !=0) (.ok (⟨⟨[0,0,0,0,0,0,0,0,0,0,0,0,0,0,0,0],[]⟩,[],⟨[],0⟩,⟨[],[]⟩⟩,[],z0))<|.bd (lP U s) λa=>.gd (Tp l a.ar.az a.ar.ab a.aB a.au.ab a.au.aL a.ao.an a.ao.ak [])<|.bd (B6 U l a.ar.az a.ar.ab a.aB a.au.ab a.au.aL a.ao.an a.ao.ak []) λb=>.ok (⟨⟨b.2.2.1,b.2.2.2.1⟩,b.2.2.2.2.1,⟨b.2.2.2.2.2.1,b.2.2.2.2.2.2.1⟩,⟨b.2.2.2.2.2.2.2.1,b.2.2.2.2.2.2.2.2.1⟩⟩,b.2.2.2.2.2.2.2.2.2,0)
def pT (s:aF) (l:List bq):=U.s _ (pd U s l).val
def Ba:=a_ (bY KK 25 36 46 (pT U) (fN KK 36 51 40)) (AW U)
theorem Bb:aj (Ba shut) β:=bZ (rs:=[36,51,40]) AY W6 rfl rfl λs l k=>by kernel_rfl
def qI (a p1:List bP) (p2:Int):AS SS:=⟨[(0,vd 51 a),(1,vd 51 p1),(12,vl a),(13,vi p2)],[],0,none,false,[],[]⟩
def o6 (U:Sh) (c p1:List bP) (p2:Int) (z0:bP) (a:Unit):T (Unit⊕Unit⊕(Bool×Int)):=.bd (idx p1 p2) λb=>.bf (!iU z0 b) (.ok (.inr (.inl ())))<|.ok (.inl ())
def y' (U:Sh) (b p1:List bP) (p2:Int) (a:Unit):T (Unit⊕(Bool×Int)):=.ok (.inr (decide (p2<(↑b.length:Int)),p2))
def C1 (a p1:List bP):=bC U (o6 U a p1) (y' U a p1) a ()
def ZX {R} (k:KX SS R) (a p1:List bP) (x:Unit⊕(Bool×Int)):Option R:=x.elim (λv=>k .ret {qI a p1 0 with env:=[(4,vb false)]}) (λv=>k (.exit 0) (xe [(14,vb v.1)] (qI a p1 v.2)))
def Qr:a7 SS:=bc 5 (sq (sD 51 0) (sD 51 1)) (λp=>u2 qI p 0) (u2 (C1 shut)) (λk=>u2 (ZX k))
theorem agm:LS KK β ay Tryz.f26 26 5 Qr:=
 aW.bH (aj.all Bb rfl) (aO.nil) rfl 60 (λp i a=>u2 qI p i) (λp=>p.1) (λp=>()) (St:=u2 (o6 shut)) (F:=u2 (y' shut)) (λp=>rfl)
  (λm p i a k=>by kernel_rfl) (by rintro p (x|x)<;>exact⟨_,_,λ_=>rfl⟩) (λp N C A O w a b=>bQ b (t:=51) (sl:=0) rfl λv h=>bO h)
def W9:=bo (Ba shut) ay Tryz.f26 26 [Qr]
theorem W_:aX W9 β:=bw (aj.all Bb rfl) Tryz.func26 rfl aU (by kernel_rfl) agm
def EN (a b:List bP):T Bool:=.bf ((↑a.length:Int) !=(↑b.length:Int)) (.ok false)<|.gd (qI a b 0)<|.bd (C1 U a b) λc=>.cs c (λ_=>.ok false) λd=>.ok true
def vW (a b:List bP):=U.s _ (EN U a b).val
def LY:=a_ (bY KK 26 51 51 (vW U) (bD KK 4)) (Ba U)
theorem LZ:aj (LY shut) β:=bZ (rs:=[4]) Bb W_ rfl rfl λa b k=>by kernel_rfl
def YH:T Bool:=.bd (v7 U (ξ4 #[47,97])) λz0=>.bd (v7 U (ξ4 #[120])) λb=>.bd (N7 U) λz2=>.bd (v7 U (ξ4 #[47,97,47,98])) λz3=>.bd (pT U z2 [bq.mk 7 (cg [0,0,0,0] [1,z0]),bq.mk 4 (cg [0,0,0,0] [1,z3]),bq.mk 8 (cg [0,0,0,0] [1,z0]),bq.mk 9 (cg [0,0,0,0] [7,z0]),bq.mk 1 (cg [0,0,0,0] [1]),bq.mk 10 (cg [0,0,0,0] [2,b]),bq.mk 2 (cg [0,0,0,0] [2]),bq.mk 12 (cg [0,0,0,0] [9,b]),bq.mk 11 (cg [0,0,0,0] [1,b]),bq.mk 14 (cg [0,0,0,0] [1]),bq.mk 15 (cg [0,0,0,0] [])]) λa=>.bf (decide (z0>0)) (.bf (decide (b>0)) (.bf (a.2.2==0) (.bd (vW U a.2.1 [bP.mk 0 1,bP.mk 0 0,bP.mk 341 0,bP.mk 0 1,bP.mk 0 2,bP.mk 0 0,bP.mk 341 0,bP.mk 0 2,bP.mk 362 0,bP.mk 322 0,bP.mk 361 0]) λc=>.bf (c) (.bd (N6 U a.1) λf=>.bf (f==[1,1,2,1,0]) (.bd (il U a.1 (bq.mk 1 (cg [0,0,0,0] [1]))) λd=>.bf (d) (.bd (il U a.1 (bq.mk 12 (cg [0,0,0,0] [1,b]))) λe=>.ok (!e))<|.ok false)<|.ok false)<|.ok false)<|.ok false)<|.ok false)<|.ok false
def G':=U.s _ (YH U).val
def Mo:=a_ (kD KK 8 (G' U) (bD KK 4)) (LY U)
theorem Mr:aj (Mo shut) β:=ni (rs:=[4]) LZ (aj.all LZ rfl) rfl rfl λk=>by kernel_rfl
end Go.Proofs.YtdhaaaeffhaadaaGreatDoor
end
section
namespace Go.Proofs.YtdhaaaeffhaadaaGreatDoor
open Go.RowKit Go.Dc Go.Vx
variable (U:Sh)
def YI (U:Sh) (pid:Int):T Int:=.ok (γ.wrap (pid.tmod 64))
def iX (pid:Int):=U.s _ (YI U pid).val
def BI:=a_ (cK KK 81 28 (iX U) (bD KK 3)) (Mo U)
theorem BJ:aj (BI shut) β:=cR (rs:=[3]) Mr (aj.all Mr rfl) rfl rfl λpid k=>by kernel_rfl
def wB (a:Int) (p1:List ag) (p2:Int):AS SS:=⟨[(1,vu a),(4,va 0 0),(8,vd 23 p1),(9,vl p1),(10,vi p2)],[bX 69 [lu 0,lu 0,.v (.bool false),lu 0]],0,none,false,[],[]⟩
def tT (U:Sh) (b:Int) (p1:List ag) (p2:Int) (z0:ag) (a:Unit):T (Unit⊕(Int×Int×Bool×Int)⊕(Bool×Int)):=.bf (z0.aa==b) (.ok (.inr (.inl (z0.aa,z0.aT,z0.ba,z0.bT))))<|.ok (.inl ())
def y5 (U:Sh) (b:Int) (p1:List ag) (p2:Int) (a:Unit):T ((Int×Int×Bool×Int)⊕(Bool×Int)):=.ok (.inr (decide (p2<(↑p1.length:Int)),p2))
def Ca (a:Int) (p1:List ag):=bC U (tT U a p1) (y5 U a p1) p1 ()
def Y2 {R} (k:KX SS R) (a:Int) (p1:List ag) (x:(Int×Int×Bool×Int)⊕(Bool×Int)):Option R:=x.elim (λv=>k .ret ⟨[(4,va 0 0),(5,vb true)],[bX 69 [lu v.1,lu v.2.1,.v (.bool v.2.2.1),lu v.2.2.2]],0,none,false,[],[]⟩) (λv=>k (.exit 0) {wB a p1 a with env:=[(11,vb v.1),(1,vu a),(4,va 0 0),(8,vd 23 p1),(9,vl p1),(10,vi v.2)]})
def PB:a7 SS:=bc 3 (sq (sI 1) (sD 23 8)) (λp=>u2 wB p 0) (u2 (Ca shut)) (λk=>u2 (Y2 k))
theorem afx:LS KK β ay Tryz.f125 125 3 PB:=
 aW.bH (aj.all BJ rfl) (aO.nil) rfl 60 (λp i a=>u2 wB p i) (λp=>p.2) (λp=>()) (St:=u2 (tT shut)) (F:=u2 (y5 shut)) (λp=>rfl)
  (λm p i a k=>by kernel_rfl) (by rintro p (x|x)<;>exact⟨_,_,λ_=>rfl⟩) (λp N C A O w a b=>bQ b (t:=23) (sl:=8) rfl λv h=>bO h)
def Vu:=bo (BI shut) ay Tryz.f125 125 [PB]
theorem Vv:aX Vu β:=bw (aj.all BJ rfl) Tryz.func125 rfl aU (by kernel_rfl) afx
def DW (l:List ag) (pid:Int):T (ag×Bool):=.gd (wB pid l 0)<|.bd (Ca U pid l) λb=>.cs b (λa=>.ok (⟨a.1,a.2.1,a.2.2.1,a.2.2.2⟩,true)) λa=>.ok (⟨0,0,false,0⟩,false)
def pL (l:List ag) (pid:Int):=U.s _ (DW U l pid).val
def Ll:=a_ (bY KK 125 23 28 (pL U) (ea KK 69 4)) (BI U)
theorem Lm:aj (Ll shut) β:=bZ (rs:=[69,4]) BJ Vv rfl rfl λl pid k=>by kernel_rfl
def Fj (l:List ag) (pid:Int):T Bool:=.bd (pL U l pid) λa=>.bf (a.2) (.ok (!a.1.ba))<|.ok false
def lR (l:List ag) (pid:Int):=U.s _ (Fj U l pid).val
def BS:=a_ (bY KK 87 23 28 (lR U) (bD KK 4)) (Ll U)
theorem BT:aj (BS shut) β:=bZ (rs:=[4]) Lm (aj.all Lm rfl) rfl rfl λl pid k=>by kernel_rfl
def qD (a:Int) (p1:List ag) (p2:Int):AS SS:=⟨[(1,vi a),(7,vd 23 p1),(8,vl p1),(9,vi p2)],[],0,none,false,[],[]⟩
def um (b:Int) (p1:List ag) (p2:Int) (z0:ag) (a:Unit):T (Unit⊕Unit⊕(Bool×Int)):=.bd (iX U z0.aa) λc=>.bf (c==b) (.ok (.inr (.inl ())))<|.ok (.inl ())
def sx (U:Sh) (b:Int) (p1:List ag) (p2:Int) (a:Unit):T (Unit⊕(Bool×Int)):=.ok (.inr (decide (p2<(↑p1.length:Int)),p2))
def CG (a:Int) (p1:List ag):=bC U (um U a p1) (sx U a p1) p1 ()
def ZB {R} (k:KX SS R) (a:Int) (p1:List ag) (x:Unit⊕(Bool×Int)):Option R:=x.elim (λv=>k .ret {qD a p1 a with env:=[(4,vb true)]}) (λv=>k (.exit 0) {qD a p1 a with env:=[(10,vb v.1),(1,vi a),(7,vd 23 p1),(8,vl p1),(9,vi v.2)]})
def P_:a7 SS:=bc 3 (sq (sI 1) (sD 23 7)) (λp=>u2 qD p 0) (u2 (CG shut)) (λk=>u2 (ZB k))
theorem af4:LS KK β ay Tryz.f199 199 3 P_:=
 aW.bH (aj.all BT rfl) (aO.nil) rfl 60 (λp i a=>u2 qD p i) (λp=>p.2) (λp=>()) (St:=u2 (um shut)) (F:=u2 (sx shut)) (λp=>rfl)
  (λm p i a k=>by kernel_rfl) (by rintro p (x|x)<;>exact⟨_,_,λ_=>rfl⟩) (λp N C A O w a b=>bQ b (t:=23) (sl:=7) rfl λv h=>bO h)
def WT:=bo (BS shut) ay Tryz.f199 199 [P_]
theorem WU:aX WT β:=bw (aj.all BT rfl) Tryz.func199 rfl aU (by kernel_rfl) af4
def EB (l:List ag) (index:Int):T Bool:=.gd (qD index l 0)<|.bd (CG U index l) λa=>.cs a (λ_=>.ok true) λb=>.ok false
def GL (l:List ag) (index:Int):=U.s _ (EB U l index).val
def AN:=a_ (bY KK 199 23 3 (GL U) (bD KK 4)) (BS U)
theorem tk:aj (AN shut) β:=bZ (rs:=[4]) BT WU rfl rfl λl index k=>by kernel_rfl
def Hv (a:List ag) (p1 p2:Int) (p3:Bool) (p4 p5:Int) (p6:List ag):AS SS:=⟨[(0,vd 23 a),(3,va 0 0),(5,vo 1),(10,vd 23 a),(11,vl a),(12,vi p5)],[bX 69 [lu p1,lu p2,.v (.bool p3),lu p4],rX 69 p6],0,none,false,[],[]⟩
def Tz (a:List ag) (p1 p2:Int) (p3:Bool) (p4:Int) (p6:List ag):AS SS:=Hv a p1 p2 p3 p4 0 p6
def uq (d:List ag) (p1 p2:Int) (p3:Bool) (p4 p5:Int) (z0:ag) (a:List ag):T (List ag⊕(Bool×Int×List ag)):=.bd (iX U z0.aa) λb=>.bd (iX U p1) λc=>.bf (decide (b<c)) (.bd (app 32 a [z0]) λz3=>.ok (.inl z3))<|.ok (.inl a)
def sA (U:Sh) (b:List ag) (p1 p2:Int) (p3:Bool) (p4 p5:Int) (a:List ag):T ((Bool×Int×List ag)):=.ok (decide (p5<(↑b.length:Int)),p5,a)
def CI (a:List ag) (p1 p2:Int) (p3:Bool) (p4:Int) (p6:List ag):=bC U (uq U a p1 p2 p3 p4) (sA U a p1 p2 p3 p4) a p6
def ZD {R} (k:KX SS R) (a:List ag) (p1 p2:Int) (p3:Bool) (p4:Int) (x:(Bool×Int×List ag)):Option R:=(λv=>k (.exit 0) {Hv a p1 p2 p3 p4 p1 v.2.2 with env:=[(13,vb v.1),(0,vd 23 a),(3,va 0 0),(5,vo 1),(10,vd 23 a),(11,vl a),(12,vi v.2.1)]}) x
def Qa:a7 SS:=bc 4 (sq (sD 23 0) (sq (hI 0 0) (sq (hI 0 1) (sq (hX hS 0 2) (sq (hI 0 3) (hR 1 69)))))) (u6 Tz) (u6 (CI shut)) (λk=>w5 (ZD k))
theorem af6:LS KK β ay ζF 200 4 Qa:=
 aW.bH (π:=List ag×Int×Int×Bool×Int×List ag) (σ:=List ag) (aj.all tk rfl) (aO.nil) rfl 60 (w5 Hv) (λp=>p.1) (λp=>p.2.2.2.2.2) (St:=w5 (uq shut)) (F:=w5 (sA shut)) (λp=>rfl)
  (λm p i a k=>by kernel_rfl) (λp x=>⟨_,_,λ_=>rfl⟩) (λp N C A O w a b=>bQ b (t:=23) (sl:=0) rfl λv h=>bO h)
def wU (a:List ag) (p1 p2:Int) (p3:Bool) (p4:Int) (p5:List ag) (p6:Int):AS SS:=⟨[(3,va 0 0),(5,vo 1),(32,vd 23 a),(33,vl a),(34,vi p6)],[bX 69 [lu p1,lu p2,.v (.bool p3),lu p4],rX 69 p5],0,none,false,[],[]⟩
def uo (d:List ag) (p1 p2:Int) (p3:Bool) (p4 p6:Int) (z0:ag) (a:List ag):T (List ag⊕(Bool×Int×List ag)):=.bd (iX U z0.aa) λb=>.bd (iX U p1) λc=>.bf (decide (b>c)) (.bd (app 32 a [z0]) λz3=>.ok (.inl z3))<|.ok (.inl a)
def sy (U:Sh) (b:List ag) (p1 p2:Int) (p3:Bool) (p4 p6:Int) (a:List ag):T ((Bool×Int×List ag)):=.ok (decide (p6<(↑b.length:Int)),p6,a)
def CH (a:List ag) (p1 p2:Int) (p3:Bool) (p4:Int) (p5:List ag):=bC U (uo U a p1 p2 p3 p4) (sy U a p1 p2 p3 p4) a p5
def ZC {R} (k:KX SS R) (a:List ag) (p1 p2:Int) (p3:Bool) (p4:Int) (x:(Bool×Int×List ag)):Option R:=(λv=>k (.exit 2) {wU a p1 p2 p3 p4 v.2.2 p1 with env:=[(35,vb v.1),(3,va 0 0),(5,vo 1),(32,vd 23 a),(33,vl a),(34,vi v.2.1)]}) x
def P':a7 SS:=bc 11 (sq (sD 23 32) (sq (hI 0 0) (sq (hI 0 1) (sq (hX hS 0 2) (sq (hI 0 3) (hR 1 69)))))) (λp=>u6 wU p 0) (u6 (CH shut)) (λk=>w5 (ZC k))
theorem af5:LS KK β ay ζF 200 11 P':=
 aW.bH (π:=List ag×Int×Int×Bool×Int×List ag) (σ:=List ag) (aj.all tk rfl) (aO.nil) rfl 60 (λp i a=>w5 wU p a i) (λp=>p.1) (λp=>p.2.2.2.2.2) (St:=w5 (uo shut)) (F:=w5 (sy shut)) (λp=>rfl)
  (λm p i a k=>by kernel_rfl) (λp x=>⟨_,_,λ_=>rfl⟩) (λp N C A O w a b=>bQ b (t:=23) (sl:=32) rfl λv h=>bO h)
def WV:=bo (AN shut) ay ζF 200 [Qa,P']
theorem WW:aX WV β:=(aX.fu (aj.all tk rfl) Tryz.func200 rfl aU λc a=>by cases a;exact aO.cons (aO.cons (aO.nil) (by kernel_rfl) af5) (by kernel_rfl) af6)
def ED (l:List ag) (x:ag):T (List ag):=.gd (Tz l x.aa x.aT x.ba x.bT [])<|.bd (CI U l x.aa x.aT x.ba x.bT []) λb=>.bd (app 32 b.2.2 [x]) λa=>.gd (wU l x.aa x.aT x.ba x.bT a 0)<|.bd (CH U l x.aa x.aT x.ba x.bT a) λc=>.ok c.2.2
def GM (l:List ag) (x:ag):=U.s _ (ED U l x).val
def AP:=a_ (bY KK 200 23 69 (GM U) (bD KK 23)) (AN U)
theorem AQ:aj (AP shut) β:=bZ (rs:=[23]) tk WW rfl rfl λl x k=>by kernel_rfl
def wH (a:Int) (p1:Γa) (p2:List ag) (p3:Int):AS SS:=⟨[(1,vu a),(2,va 0 0),(4,va 1 0),(15,vi p3)],[bX 25 [.br .i64 16 p1,.aG 23 p2],bX 25 [li 0,li 0,li 0,li 0,li 0,li 0,li 0,li 0,li 0,li 0,li 0,li 0,li 0,li 0,li 0,li 0,.v (.slice none 0 0)]],0,none,false,[],[]⟩
def mY (b:Int) (p1:Γa) (p2:List ag) (a:Int):T (Int⊕(Int×Γa×List ag)⊕(Bool×Int)):=.bf (decide (a<16)) (.bd (GL U p2 (γ.wrap (a+1))) λc=>.bf (c) (.ok (.inl (γ.wrap (a+1))))<|.bd (dq a 16) λe=>.bf (decide (aw p1 e>65535)) (.ok (.inl (γ.wrap (a+1))))<|.bd (dq a 16) λz2=>.bd (dq a 16) λz3=>.bd (dq a 16) λz4=>.bf (true&&p1.length.beq 16) (.bd (GM U p2 (ag.mk (ζ.wrap (ζ.wrap (ζ.wrap (ζ.wrap (aw p1 z2)*64)+ζ.wrap a)+1)) b false 0)) λd=>.ok (.inr (.inl (ζ.wrap (ζ.wrap (ζ.wrap (ζ.wrap (aw p1 z2)*64)+ζ.wrap a)+1),p1.set z4 (γ.wrap (aw p1 z3+1)),d))))<|.no)<|.ok (.inr (.inr (decide (a<16),a)))
def Ci (a:Int) (p1:Γa) (p2:List ag) (p3:Int):=bU U (mY U a p1 p2) 1000000 p3
def Zb {R} (k:KX SS R) (a:Int) (p1:Γa) (p2:List ag) (x:(Int×Γa×List ag)⊕(Bool×Int)):Option R:=x.elim (λv=>k .ret ⟨[(4,va 0 0),(5,vu v.1),(6,vi 0)],[bX 25 [.br .i64 16 v.2.1,.aG 23 v.2.2]],0,none,false,[],[]⟩) (λv=>k (.exit 0) {wH a p1 p2 a with env:=[(16,vb v.1),(1,vu a),(2,va 0 0),(4,va 1 0),(15,vi v.2)]})
def PJ:a7 SS:=bc 5 (sq (sI 1) (sq (hX dO 0 0) (sq (hD 23 0 1) (sI 15)))) (u4 wH) (u4 (Ci shut)) (λk=>w3 (Zb k))
theorem afE:LS KK β ay Tryz.f147 147 5 PJ:=
 aW.bU (π:=Int×Γa×List ag×Int) (σ:=Int) (aj.all AQ rfl) (aO.nil) rfl 60 (w3 wH) (λp=>p.2.2.2) (St:=w3 (mY shut)) (λp=>1000000) (λp=>rfl)
  (λm p a k=>by kernel_rfl)
def VB:=bo (AP shut) ay Tryz.f147 147 [PJ]
theorem VC:aX VB β:=bw (aj.all AQ rfl) Tryz.func147 rfl aU (by kernel_rfl) afE
def D0 (p:aV) (parent:Int):T (aV×Int×Int):=.bd (lR U p.ab parent) λc=>.bf (!c) (.ok (⟨[0,0,0,0,0,0,0,0,0,0,0,0,0,0,0,0],[]⟩,0,321))<|.gd (wH parent p.az p.ab 0)<|.bd (Ci U parent p.az p.ab 0) λb=>.cs b (λa=>.ok (⟨a.2.1,a.2.2⟩,a.1,0)) λa=>.ok (⟨[0,0,0,0,0,0,0,0,0,0,0,0,0,0,0,0],[]⟩,0,322)
def Gy (p:aV) (parent:Int):=U.s _ (D0 U p parent).val
def zI:=a_ (bY KK 147 25 28 (Gy U) (fN KK 25 28 40)) (AP U)
theorem zJ:aj (zI shut) β:=bZ (rs:=[25,28,40]) AQ VC rfl rfl λp parent k=>by kernel_rfl
def Hq (a:Int) (p1:List ag) (p2:Γa) (p3 p4:Int) (p5:Bool) (p6 p7:Int) (p8:List ag):AS SS:=⟨[(2,vu a),(3,va 0 0),(6,va 1 0),(9,va 2 0),(11,vo 3),(41,vd 23 p1),(42,vl p1),(43,vi p7)],[bX 25 [.br .i64 16 p2,.aG 23 p1],bX 25 [li 0,li 0,li 0,li 0,li 0,li 0,li 0,li 0,li 0,li 0,li 0,li 0,li 0,li 0,li 0,li 0,.v (.slice none 0 0)],bX 69 [lu p3,lu p4,.v (.bool p5),lu p6],rX 69 p8],0,none,false,[],[]⟩
def Tt (a:Int) (p1:List ag) (p2:Γa) (p3 p4:Int) (p5:Bool) (p6:Int) (p8:List ag):AS SS:=Hq a p1 p2 p3 p4 p5 p6 0 p8
def tX (U:Sh) (b:Int) (p1:List ag) (p2:Γa) (p3 p4:Int) (p5:Bool) (p6 p7:Int) (z0:ag) (a:List ag):T (List ag⊕(Bool×Int×List ag)):=.bf (z0.aa !=b) (.bd (app 32 a [z0]) λc=>.ok (.inl c))<|.ok (.inl a)
def se (U:Sh) (b:Int) (p1:List ag) (p2:Γa) (p3 p4:Int) (p5:Bool) (p6 p7:Int) (a:List ag):T ((Bool×Int×List ag)):=.ok (decide (p7<(↑p1.length:Int)),p7,a)
def Cj (a:Int) (p1:List ag) (p2:Γa) (p3 p4:Int) (p5:Bool) (p6:Int) (p8:List ag):=bC U (tX U a p1 p2 p3 p4 p5 p6) (se U a p1 p2 p3 p4 p5 p6) p1 p8
def Zc {R} (k:KX SS R) (a:Int) (p1:List ag) (p2:Γa) (p3 p4:Int) (p5:Bool) (p6:Int) (x:(Bool×Int×List ag)):Option R:=(λv=>k (.exit 0) {Hq a p1 p2 p3 p4 p5 p6 a v.2.2 with env:=[(44,vb v.1),(2,vu a),(3,va 0 0),(6,va 1 0),(9,va 2 0),(11,vo 3),(41,vd 23 p1),(42,vl p1),(43,vi v.2.1)]}) x
def PK:a7 SS:=bc 11 (sq (sI 2) (sq (sD 23 41) (sq (hX dO 0 0) (sq (hI 2 0) (sq (hI 2 1) (sq (hX hS 2 2) (sq (hI 2 3) (hR 3 69)))))))) (u8 Tt) (u8 (Cj shut)) (λk=>w7 (Zc k))
theorem afF:LS KK β ay Tryz.f148 148 11 PK:=
 aW.bH (π:=Int×List ag×Γa×Int×Int×Bool×Int×List ag) (σ:=List ag) (aj.all zJ rfl) (aO.nil) rfl 60 (w7 Hq) (λp=>p.2.1) (λp=>p.2.2.2.2.2.2.2) (St:=w7 (tX shut)) (F:=w7 (se shut)) (λp=>rfl)
  (λm p i a k=>by kernel_rfl) (λp x=>⟨_,_,λ_=>rfl⟩) (λp N C A O w a b=>bQ b (t:=23) (sl:=41) rfl λv h=>bO h)
def VD:=bo (zI shut) ay Tryz.f148 148 [PK]
theorem VE:aX VD β:=bw (aj.all zJ rfl) Tryz.func148 rfl aU (by kernel_rfl) afF
def D1 (p:aV) (pid child:Int):T (aV×Int×Int):=.bd (lR U p.ab pid) λb=>.bf (!b) (.ok (⟨[0,0,0,0,0,0,0,0,0,0,0,0,0,0,0,0],[]⟩,0,321))<|.bd (pL U p.ab child) λa=>.bf (!a.2) (.ok (⟨[0,0,0,0,0,0,0,0,0,0,0,0,0,0,0,0],[]⟩,0,324))<|.bf (a.1.aT !=pid) (.ok (⟨[0,0,0,0,0,0,0,0,0,0,0,0,0,0,0,0],[]⟩,0,324))<|.bf (!a.1.ba) (.ok (⟨[0,0,0,0,0,0,0,0,0,0,0,0,0,0,0,0],[]⟩,0,322))<|.gd (Tt child p.ab p.az a.1.aa a.1.aT a.1.ba a.1.bT [])<|.bd (Cj U child p.ab p.az a.1.aa a.1.aT a.1.ba a.1.bT []) λc=>.ok (⟨p.az,c.2.2⟩,a.1.bT,0)
def Gz (p:aV) (pid child:Int):=U.s _ (D1 U p pid child).val
def zK:=a_ (fV KK 148 25 28 28 (Gz U) (fN KK 25 28 40)) (zI U)
theorem zL:aj (zK shut) β:=gI (rs:=[25,28,40]) zJ VE rfl rfl λp pid child k=>by kernel_rfl
def Hr (a p1:Int) (p2:List ag) (p3:Γa) (p4:Int) (p5:List ag):AS SS:=⟨[(1,vu a),(2,vu p1),(3,va 0 0),(6,va 1 0),(8,vo 2),(21,vd 23 p2),(22,vl p2),(23,vi p4)],[bX 25 [.br .i64 16 p3,.aG 23 p2],bX 25 [li 0,li 0,li 0,li 0,li 0,li 0,li 0,li 0,li 0,li 0,li 0,li 0,li 0,li 0,li 0,li 0,.v (.slice none 0 0)],rX 69 p5],0,none,false,[],[]⟩
def Tu (a p1:Int) (p2:List ag) (p3:Γa) (p5:List ag):AS SS:=Hr a p1 p2 p3 0 p5
def tY (U:Sh) (c p1:Int) (p2:List ag) (p3:Γa) (p4:Int) (z0:ag) (a:List ag):T (List ag⊕(Bool×Int×List ag)):=.bf (z0.aa==c) (.bf (z0.aT==0) (.ok (.inl a))<|.bf (z0.aT==c) (.bf (z0.ba) (.ok (.inl a))<|.bf (z0.aa==c) (.bd (app 32 a [ag.mk z0.aa z0.aT true p1]) λb=>.ok (.inl b))<|.bf (z0.aT==c) (.bd (app 32 a [ag.mk z0.aa 0 z0.ba z0.bT]) λb=>.ok (.inl b))<|.bd (app 32 a [z0]) λb=>.ok (.inl b))<|.bf (z0.aa==c) (.bd (app 32 a [ag.mk z0.aa z0.aT true p1]) λb=>.ok (.inl b))<|.bf (z0.aT==c) (.bd (app 32 a [ag.mk z0.aa 0 z0.ba z0.bT]) λb=>.ok (.inl b))<|.bd (app 32 a [z0]) λb=>.ok (.inl b))<|.bf (z0.aT==c) (.bf (z0.ba) (.ok (.inl a))<|.bf (z0.aa==c) (.bd (app 32 a [ag.mk z0.aa z0.aT true p1]) λb=>.ok (.inl b))<|.bf (z0.aT==c) (.bd (app 32 a [ag.mk z0.aa 0 z0.ba z0.bT]) λb=>.ok (.inl b))<|.bd (app 32 a [z0]) λb=>.ok (.inl b))<|.bf (z0.aa==c) (.bd (app 32 a [ag.mk z0.aa z0.aT true p1]) λb=>.ok (.inl b))<|.bf (z0.aT==c) (.bd (app 32 a [ag.mk z0.aa 0 z0.ba z0.bT]) λb=>.ok (.inl b))<|.bd (app 32 a [z0]) λb=>.ok (.inl b)
def sf (U:Sh) (b p1:Int) (p2:List ag) (p3:Γa) (p4:Int) (a:List ag):T ((Bool×Int×List ag)):=.ok (decide (p4<(↑p2.length:Int)),p4,a)
def Ck (a p1:Int) (p2:List ag) (p3:Γa) (p5:List ag):=bC U (tY U a p1 p2 p3) (sf U a p1 p2 p3) p2 p5
def Zd {R} (k:KX SS R) (a p1:Int) (p2:List ag) (p3:Γa) (x:(Bool×Int×List ag)):Option R:=(λv=>k (.exit 0) {Hr a p1 p2 p3 a v.2.2 with env:=[(24,vb v.1),(1,vu a),(2,vu p1),(3,va 0 0),(6,va 1 0),(8,vo 2),(21,vd 23 p2),(22,vl p2),(23,vi v.2.1)]}) x
def PL:a7 SS:=bc 8 (sq (sI 1) (sq (sI 2) (sq (sD 23 21) (sq (hX dO 0 0) (hR 2 69))))) (u5 Tu) (u5 (Ck shut)) (λk=>w4 (Zd k))
theorem afG:LS KK β ay Tryz.f149 149 8 PL:=
 aW.bH (π:=Int×Int×List ag×Γa×List ag) (σ:=List ag) (aj.all zL rfl) (aO.nil) rfl 60 (w4 Hr) (λp=>p.2.2.1) (λp=>p.2.2.2.2) (St:=w4 (tY shut)) (F:=w4 (sf shut)) (λp=>rfl)
  (λm p i a k=>by kernel_rfl) (λp x=>⟨_,_,λ_=>rfl⟩) (λp N C A O w a b=>bQ b (t:=23) (sl:=21) rfl λv h=>bO h)
def VF:=bo (zK shut) ay Tryz.f149 149 [PL]
theorem VG:aX VF β:=bw (aj.all zL rfl) Tryz.func149 rfl aU (by kernel_rfl) afG
def D2 (p:aV) (pid code:Int):T (aV×Int):=.bd (lR U p.ab pid) λa=>.bf (!a) (.ok (⟨[0,0,0,0,0,0,0,0,0,0,0,0,0,0,0,0],[]⟩,321))<|.bf (pid==1) (.ok (⟨[0,0,0,0,0,0,0,0,0,0,0,0,0,0,0,0],[]⟩,323))<|.gd (Tu pid code p.ab p.az [])<|.bd (Ck U pid code p.ab p.az []) λb=>.ok (⟨p.az,b.2.2⟩,0)
def GA (p:aV) (pid code:Int):=U.s _ (D2 U p pid code).val
def Lu:=a_ (fV KK 149 25 28 28 (GA U) (ea KK 25 40)) (zK U)
theorem Lv:aj (Lu shut) β:=gI (rs:=[25,40]) zL VG rfl rfl λp pid code k=>by kernel_rfl
end Go.Proofs.YtdhaaaeffhaadaaGreatDoor
end
section
namespace Go.Proofs.YtdhaaaeffhaadaaGreatDoor
open Go.RowKit Go.Dc Go.Vx
variable (U:Sh)
def Ff (U:Sh) (a b:ai):T Bool:=.bf (decide (a.aa<b.aa)) (.ok true)<|.bf (a.aa==b.aa) (.ok (decide (a.bm<b.bm)))<|.ok false
def pY (a b:ai):=U.s _ (Ff U a b).val
def BM:=a_ (bY KK 83 89 89 (pY U) (bD KK 4)) (Lu U)
theorem BN:aj (BM shut) β:=bZ (rs:=[4]) Lv (aj.all Lv rfl) rfl rfl λa b k=>by kernel_rfl
def qw (a p1:Int) (p2:List ai) (p3:Int):AS SS:=⟨[(1,vu a),(2,vi p1),(9,vd 26 p2),(10,vl p2),(11,vi p3)],[],0,none,false,[],[]⟩
def ue (U:Sh) (b p1:Int) (p2:List ai) (p3:Int) (z0:ai) (a:Unit):T (Unit⊕Int⊕(Bool×Int)):=.bf (z0.aa==b) (.bf (z0.bm==p1) (.ok (.inr (.inl p3)))<|.ok (.inl ()))<|.ok (.inl ())
def so (U:Sh) (b p1:Int) (p2:List ai) (p3:Int) (a:Unit):T (Int⊕(Bool×Int)):=.ok (.inr (decide (p3<(↑p2.length:Int)),p3))
def Cs (a p1:Int) (p2:List ai):=bC U (ue U a p1 p2) (so U a p1 p2) p2 ()
def Zm {R} (k:KX SS R) (a p1:Int) (p2:List ai) (x:Int⊕(Bool×Int)):Option R:=x.elim (λv=>k .ret {qw a p1 p2 a with env:=[(6,vi v)]}) (λv=>k (.exit 0) {qw a p1 p2 a with env:=[(12,vb v.1),(1,vu a),(2,vi p1),(9,vd 26 p2),(10,vl p2),(11,vi v.2)]})
def PV:a7 SS:=bc 3 (sq (sI 1) (sq (sI 2) (sD 26 9))) (λp=>u3 qw p 0) (u3 (Cs shut)) (λk=>u3 (Zm k))
theorem afP:LS KK β ay Tryz.f155 155 3 PV:=
 aW.bH (aj.all BN rfl) (aO.nil) rfl 60 (λp i a=>u3 qw p i) (λp=>p.2.2) (λp=>()) (St:=u3 (ue shut)) (F:=u3 (so shut)) (λp=>rfl)
  (λm p i a k=>by kernel_rfl) (by rintro p (x|x)<;>exact⟨_,_,λ_=>rfl⟩) (λp N C A O w a b=>bQ b (t:=26) (sl:=9) rfl λv h=>bO h)
def VR:=bo (BM shut) ay Tryz.f155 155 [PV]
theorem VS:aX VR β:=bw (aj.all BN rfl) Tryz.func155 rfl aU (by kernel_rfl) afP
def D8 (l:List ai) (pid fd:Int):T Int:=.gd (qw pid fd l 0)<|.bd (Cs U pid fd l) λb=>.cs b (λa=>.ok a) λa=>.ok (-1)
def nB (l:List ai) (pid fd:Int):=U.s _ (D8 U l pid fd).val
def zX:=a_ (fV KK 155 26 28 3 (nB U) (bD KK 3)) (BM U)
theorem oE:aj (zX shut) β:=gI (rs:=[3]) BN VS rfl rfl λl pid fd k=>by kernel_rfl
def wL (a:List ai) (p1 p2 p3:Int):AS SS:=⟨[(0,vd 26 a),(1,vu p1),(2,vu p2),(9,vi p3)],[],0,none,false,[],[]⟩
def oT (c:List ai) (p1 p2 a:Int):T (Int⊕(Bool×Int×Int)):=.bd (nB U c p1 a) λb=>.bf (decide (b>=0)) (.ok (.inl (γ.wrap (a+1))))<|.ok (.inr (decide (b>=0),b,a))
def Cr (a:List ai) (p1 p2 p3:Int):=bU U (oT U a p1 p2) 1000000 p3
def Zl {R} (k:KX SS R) (a:List ai) (p1 p2:Int) (x:(Bool×Int×Int)):Option R:=(λv=>k (.exit 0) {wL a p1 p2 p1 with env:=[(22,vb v.1),(21,vi v.2.1),(20,vi v.2.2),(19,vu p1),(18,vd 26 a),(0,vd 26 a),(1,vu p1),(2,vu p2),(9,vi v.2.2)]}) x
def PU:a7 SS:=bc 5 (sq (sD 26 0) (sq (sI 1) (sq (sI 2) (sI 9)))) (u4 wL) (u4 (Cr shut)) (λk=>w3 (Zl k))
theorem afO:LS KK β ay ζf 154 5 PU:=
 aW.bU (π:=List ai×Int×Int×Int) (σ:=Int) (aj.all oE rfl) (aO.nil) rfl 60 (w3 wL) (λp=>p.2.2.2) (St:=w3 (oT shut)) (λp=>1000000) (λp=>rfl)
  (λm p a k=>by kernel_rfl)
def Hu (a:List ai) (p1 p2 p3 p4:Int) (p5:List ai):AS SS:=⟨[(0,vd 26 a),(9,vi p1),(10,va 0 0),(11,vo 1),(36,vd 26 a),(37,vl a),(38,vi p4)],[bX 89 [lu p2,li p1,lu p3],rX 89 p5],0,none,false,[],[]⟩
def Tx (a:List ai) (p1 p2 p3:Int) (p5:List ai):AS SS:=Hu a p1 p2 p3 0 p5
def uc (c:List ai) (p1 p2 p3 p4:Int) (z0:ai) (a:List ai):T (List ai⊕(Bool×Int×List ai)):=.bd (pY U z0 (ai.mk p2 p1 p3)) λb=>.bf (b) (.bd (app 24 a [z0]) λz2=>.ok (.inl z2))<|.ok (.inl a)
def sm (U:Sh) (b:List ai) (p1 p2 p3 p4:Int) (a:List ai):T ((Bool×Int×List ai)):=.ok (decide (p4<(↑b.length:Int)),p4,a)
def Cp (a:List ai) (p1 p2 p3:Int) (p5:List ai):=bC U (uc U a p1 p2 p3) (sm U a p1 p2 p3) a p5
def Zj {R} (k:KX SS R) (a:List ai) (p1 p2 p3:Int) (x:(Bool×Int×List ai)):Option R:=(λv=>k (.exit 2) {Hu a p1 p2 p3 p1 v.2.2 with env:=[(39,vb v.1),(0,vd 26 a),(9,vi p1),(10,va 0 0),(11,vo 1),(36,vd 26 a),(37,vl a),(38,vi v.2.1)]}) x
def PS:a7 SS:=bc 12 (sq (sD 26 0) (sq (sI 9) (sq (hI 0 0) (sq (hI 0 2) (hR 1 89))))) (u5 Tx) (u5 (Cp shut)) (λk=>w4 (Zj k))
theorem afM:LS KK β ay ζf 154 12 PS:=
 aW.bH (π:=List ai×Int×Int×Int×List ai) (σ:=List ai) (aj.all oE rfl) (aO.nil) rfl 60 (w4 Hu) (λp=>p.1) (λp=>p.2.2.2.2) (St:=w4 (uc shut)) (F:=w4 (sm shut)) (λp=>rfl)
  (λm p i a k=>by kernel_rfl) (λp x=>⟨_,_,λ_=>rfl⟩) (λp N C A O w a b=>bQ b (t:=26) (sl:=0) rfl λv h=>bO h)
def wK (a:Int) (p1:List ai) (p2 p3:Int) (p4:List ai) (p5:Int):AS SS:=⟨[(9,vi a),(10,va 0 0),(11,vo 1),(54,vd 26 p1),(55,vl p1),(56,vi p5)],[bX 89 [lu p2,li a,lu p3],rX 89 p4],0,none,false,[],[]⟩
def ud (b:Int) (p1:List ai) (p2 p3 p5:Int) (z0:ai) (a:List ai):T (List ai⊕(Bool×Int×List ai)):=.bd (pY U (ai.mk p2 b p3) z0) λc=>.bf (c) (.bd (app 24 a [z0]) λz2=>.ok (.inl z2))<|.ok (.inl a)
def sn (U:Sh) (b:Int) (p1:List ai) (p2 p3 p5:Int) (a:List ai):T ((Bool×Int×List ai)):=.ok (decide (p5<(↑p1.length:Int)),p5,a)
def Cq (a:Int) (p1:List ai) (p2 p3:Int) (p4:List ai):=bC U (ud U a p1 p2 p3) (sn U a p1 p2 p3) p1 p4
def Zk {R} (k:KX SS R) (a:Int) (p1:List ai) (p2 p3:Int) (x:(Bool×Int×List ai)):Option R:=(λv=>k (.exit 4) {wK a p1 p2 p3 v.2.2 a with env:=[(57,vb v.1),(9,vi a),(10,va 0 0),(11,vo 1),(54,vd 26 p1),(55,vl p1),(56,vi v.2.1)]}) x
def PT:a7 SS:=bc 19 (sq (sI 9) (sq (sD 26 54) (sq (hI 0 0) (sq (hI 0 2) (hR 1 89))))) (λp=>u5 wK p 0) (u5 (Cq shut)) (λk=>w4 (Zk k))
theorem afN:LS KK β ay ζf 154 19 PT:=
 aW.bH (π:=Int×List ai×Int×Int×List ai) (σ:=List ai) (aj.all oE rfl) (aO.nil) rfl 60 (λp i a=>w4 wK p a i) (λp=>p.2.1) (λp=>p.2.2.2.2) (St:=w4 (ud shut)) (F:=w4 (sn shut)) (λp=>rfl)
  (λm p i a k=>by kernel_rfl) (λp x=>⟨_,_,λ_=>rfl⟩) (λp N C A O w a b=>bQ b (t:=26) (sl:=54) rfl λv h=>bO h)
def VP:=bo (zX shut) ay ζf 154 [PU,PS,PT]
theorem VQ:aX VP β:=(aX.fu (aj.all oE rfl) Tryz.func154 rfl aU λc a=>by cases a;exact aO.cons (aO.cons (aO.cons (aO.nil) (by kernel_rfl) afN) (by kernel_rfl) afM) (by kernel_rfl) afO)
def D7 (l:List ai) (pid aZ:Int):T (List ai×Int×Int):=.bf (decide (pid>=4294967296)) (.ok ([],0,2))<|.gd (wL l pid aZ 0)<|.bd (Cr U l pid aZ 0) λa=>.bf (a.2.2==8) (.ok ([],0,6))<|.bf ((↑l.length:Int)==64) (.ok ([],0,6))<|.gd (Tx l a.2.2 pid aZ [])<|.bd (Cp U l a.2.2 pid aZ []) λb=>.bd (app 24 b.2.2 [ai.mk pid a.2.2 aZ]) λz2=>.gd (wK a.2.2 l pid aZ z2 0)<|.bd (Cq U a.2.2 l pid aZ z2) λc=>.ok (c.2.2,a.2.2,0)
def vC (l:List ai) (pid aZ:Int):=U.s _ (D7 U l pid aZ).val
def Lw:=a_ (fV KK 154 26 28 28 (vC U) (fN KK 26 3 40)) (zX U)
theorem Lx:aj (Lw shut) β:=gI (rs:=[26,3,40]) oE VQ rfl rfl λl pid aZ k=>by kernel_rfl
def D_ (l:List ai) (pid fd:Int):T (List ai×Int×Int):=.bf (decide (pid>=4294967296)) (.ok ([],0,2))<|.bd (nB U l pid fd) λb=>.bf (decide (b<0)) (.ok ([],0,4))<|.bd (idx l b) λc=>.bd (vC U l pid c.b3) λa=>.ok (a.1,a.2.1,a.2.2)
def GC (l:List ai) (pid fd:Int):=U.s _ (D_ U l pid fd).val
def z1:=a_ (fV KK 158 26 28 3 (GC U) (fN KK 26 3 40)) (Lw U)
theorem z6:aj (z1 shut) β:=gI (rs:=[26,3,40]) Lx (aj.all Lx rfl) rfl rfl λl pid fd k=>by kernel_rfl
def Ht (a:Int) (p1:List ai) (p2:Int) (p3:List ai):AS SS:=⟨[(1,vu a),(5,vo 0),(8,vd 26 p1),(9,vl p1),(10,vi p2)],[rX 89 p3],0,none,false,[],[]⟩
def Tw (a:Int) (p1 p3:List ai):AS SS:=Ht a p1 0 p3
def t_ (U:Sh) (b:Int) (p1:List ai) (p2:Int) (z0:ai) (a:List ai):T (List ai⊕(Bool×Int×List ai)):=.bf (z0.aa !=b) (.bd (app 24 a [z0]) λc=>.ok (.inl c))<|.ok (.inl a)
def si (U:Sh) (b:Int) (p1:List ai) (p2:Int) (a:List ai):T ((Bool×Int×List ai)):=.ok (decide (p2<(↑p1.length:Int)),p2,a)
def Cm (a:Int) (p1 p3:List ai):=bC U (t_ U a p1) (si U a p1) p1 p3
def Zf {R} (k:KX SS R) (a:Int) (p1:List ai) (x:(Bool×Int×List ai)):Option R:=(λv=>k (.exit 0) {Ht a p1 a v.2.2 with env:=[(11,vb v.1),(1,vu a),(5,vo 0),(8,vd 26 p1),(9,vl p1),(10,vi v.2.1)]}) x
def PN:a7 SS:=bc 4 (sq (sI 1) (sq (sD 26 8) (hR 0 89))) (u3 Tw) (u3 (Cm shut)) (λk p=>Zf k p.1 p.2.1)
theorem afI:LS KK β ay Tryz.f151 151 4 PN:=
 aW.bH (π:=Int×List ai×List ai) (σ:=List ai) (aj.all z6 rfl) (aO.nil) rfl 60 (λp i a=>Ht p.1 p.2.1 i a) (λp=>p.2.1) (λp=>p.2.2) (St:=λp=>t_ shut p.1 p.2.1) (F:=λp=>si shut p.1 p.2.1) (λp=>rfl)
  (λm p i a k=>by kernel_rfl) (λp x=>⟨_,_,λ_=>rfl⟩) (λp N C A O w a b=>bQ b (t:=26) (sl:=8) rfl λv h=>bO h)
def VJ:=bo (z1 shut) ay Tryz.f151 151 [PN]
theorem VK:aX VJ β:=bw (aj.all z6 rfl) Tryz.func151 rfl aU (by kernel_rfl) afI
def D4 (l:List ai) (pid:Int):T (List ai):=.gd (Tw pid l [])<|.bd (Cm U pid l []) λa=>.ok a.2.2
def pM (l:List ai) (pid:Int):=U.s _ (D4 U l pid).val
def zQ:=a_ (bY KK 151 26 28 (pM U) (bD KK 26)) (z1 U)
theorem zR:aj (zQ shut) β:=bZ (rs:=[26]) z6 VK rfl rfl λl pid k=>by kernel_rfl
def wO (a:Int) (p1:List ai) (p2 p3:Int):AS SS:=⟨[(1,vu a),(5,vi p2),(8,vd 26 p1),(9,vl p1),(10,vi p3)],[],0,none,false,[],[]⟩
def uf (U:Sh) (b:Int) (p1:List ai) (p3:Int) (z0:ai) (a:Int):T (Int⊕(Bool×Int×Int)):=.bf (z0.b3==b) (.ok (.inl (γ.wrap (a+1))))<|.ok (.inl a)
def sr (U:Sh) (b:Int) (p1:List ai) (p3 a:Int):T ((Bool×Int×Int)):=.ok (decide (p3<(↑p1.length:Int)),a,p3)
def Cu (a:Int) (p1:List ai) (p2:Int):=bC U (uf U a p1) (sr U a p1) p1 p2
def Zp {R} (k:KX SS R) (a:Int) (p1:List ai) (x:(Bool×Int×Int)):Option R:=(λv=>k (.exit 0) {wO a p1 a a with env:=[(11,vb v.1),(1,vu a),(5,vi v.2.1),(8,vd 26 p1),(9,vl p1),(10,vi v.2.2)]}) x
def PY:a7 SS:=bc 4 (sq (sI 1) (sq (sD 26 8) (sI 5))) (λp=>u3 wO p 0) (u3 (Cu shut)) (λk p=>Zp k p.1 p.2.1)
theorem afS:LS KK β ay Tryz.f161 161 4 PY:=
 aW.bH (π:=Int×List ai×Int) (σ:=Int) (aj.all zR rfl) (aO.nil) rfl 60 (λp i a=>wO p.1 p.2.1 a i) (λp=>p.2.1) (λp=>p.2.2) (St:=λp=>uf shut p.1 p.2.1) (F:=λp=>sr shut p.1 p.2.1) (λp=>rfl)
  (λm p i a k=>by kernel_rfl) (λp x=>⟨_,_,λ_=>rfl⟩) (λp N C A O w a b=>bQ b (t:=26) (sl:=8) rfl λv h=>bO h)
def VX:=bo (zQ shut) ay Tryz.f161 161 [PY]
theorem VY:aX VX β:=bw (aj.all zR rfl) Tryz.func161 rfl aU (by kernel_rfl) afS
def Eb (l:List ai) (aZ:Int):T Int:=.gd (wO aZ l 0 0)<|.bd (Cu U aZ l 0) λa=>.ok a.2.1
def GG (l:List ai) (aZ:Int):=U.s _ (Eb U l aZ).val
def LB:=a_ (bY KK 161 26 28 (GG U) (bD KK 3)) (zQ U)
theorem LC:aj (LB shut) β:=bZ (rs:=[3]) zR VY rfl rfl λl aZ k=>by kernel_rfl
def D9 (U:Sh) (w:Int):T Int:=.bf (decide (w>7)) (.ok (-1))<|.ok (γ.wrap w)
def pN (w:Int):=U.s _ (D9 U w).val
def zY:=a_ (cK KK 156 28 (pN U) (bD KK 3)) (LB U)
theorem zZ:aj (zY shut) β:=cR (rs:=[3]) LC (aj.all LC rfl) rfl rfl λw k=>by kernel_rfl
end Go.Proofs.YtdhaaaeffhaadaaGreatDoor
end
section
namespace Go.Proofs.YtdhaaaeffhaadaaGreatDoor
open Go.RowKit Go.Dc Go.Vx
variable (U:Sh)
def wA (a:Int) (p1:ByteArray):AS SS:=⟨[(0,vu a),(4,vs (.v (.string p1)))],[],0,none,false,[],[]⟩
def oP (U:Sh) (a:Int×ByteArray):T ((Int×ByteArray)⊕Unit⊕(Bool×Int×ByteArray)):=.bf (decide (a.1>0)) (.bf (a.1.tmod 256==0) (.ok (.inr (.inl ())))<|.bd (ka a.2 (strOf [IntKind.u8.wrap (a.1.tmod 256)])) λz0=>.ok (.inl (ζ.wrap (a.1.tdiv 256),z0)))<|.ok (.inr (.inr (decide (a.1>0),a.1,a.2)))
def B_ (a:Int) (p1:ByteArray):=bU U (oP U) 1000000 (a,p1)
def Y0 {R} (k:KX SS R) (x:Unit⊕(Bool×Int×ByteArray)):Option R:=x.elim (λv=>k .ret ⟨[(2,vs (.v (.string (ξ4 #[])))),(3,vb false)],[],0,none,false,[],[]⟩) (λv=>k (.exit 0) (xe [(6,vb v.1),(5,vu v.2.1)] (wA v.2.1 v.2.2)))
def Pz:a7 SS:=bc 3 (sq (sI 0) (sX jO 4)) (u2 wA) (u2 (B_ shut)) (λk p=>Y0 k)
theorem afv:LS KK β ay Tryz.f123 123 3 Pz:=
 aW.bU (π:=Int×ByteArray) (σ:=Int×ByteArray) (aj.all zZ rfl) (aO.nil) rfl 60 (λp a=>wA a.1 a.2) (λp=>(p.1,p.2)) (St:=λp=>oP shut) (λp=>1000000) (λp=>rfl)
  (λm p a k=>by kernel_rfl)
def Vq:=bo (zY shut) ay Tryz.f123 123 [Pz]
theorem Vr:aX Vq β:=bw (aj.all zZ rfl) Tryz.func123 rfl aU (by kernel_rfl) afv
def DU (w:Int):T (ByteArray×Bool):=.gd (wA w (ξ4 #[]))<|.bd (B_ U w (ξ4 #[])) λa=>.cs a (λ_=>.ok (ξ4 #[],false)) λb=>.ok (b.2.2,true)
def pK (w:Int):=U.s _ (DU U w).val
def zC:=a_ (cK KK 123 28 (pK U) (ea KK 9 4)) (zY U)
theorem zD:aj (zC shut) β:=cR (rs:=[9,4]) zZ Vr rfl rfl λw k=>by kernel_rfl
def qA (a:ByteArray) (p1 p2:Int):AS SS:=⟨[(0,vs (.v (.string a))),(5,vi p1),(6,vi p2)],[],0,none,false,[],[]⟩
def m0 (U:Sh) (b:ByteArray) (p1 a:Int):T (Int⊕Unit⊕(Bool×Int)):=.bf (decide (a<p1)) (.bd (fq b a) λz0=>.bf (decide (z0>=97)) (.bd (fq b a) λc=>.bf (decide (c<=122)) (.ok (.inl (γ.wrap (a+1))))<|.bd (fq b a) λz2=>.bf (decide (z2>=48)) (.bd (fq b a) λz3=>.bf (!decide (z3<=57)) (.ok (.inr (.inl ())))<|.ok (.inl (γ.wrap (a+1))))<|.ok (.inr (.inl ())))<|.bd (fq b a) λc=>.bf (decide (c>=48)) (.bd (fq b a) λz2=>.bf (!decide (z2<=57)) (.ok (.inr (.inl ())))<|.ok (.inl (γ.wrap (a+1))))<|.ok (.inr (.inl ())))<|.ok (.inr (.inr (decide (a<p1),a)))
def CC (a:ByteArray) (p1 p2:Int):=bU U (m0 U a p1) 1000000 p2
def Zx {R} (k:KX SS R) (a:ByteArray) (p1:Int) (x:Unit⊕(Bool×Int)):Option R:=x.elim (λv=>k .ret {qA a p1 p1 with env:=[(2,vb false)]}) (λv=>k (.exit 0) {qA a p1 p1 with env:=[(7,vb v.1),(0,vs (.v (.string a))),(5,vi p1),(6,vi v.2)]})
def P6:a7 SS:=bc 3 (sq (sX jO 0) (sq (sI 5) (sI 6))) (u3 qA) (u3 (CC shut)) (λk p=>Zx k p.1 p.2.1)
theorem af0:LS KK β ay Tryz.f171 171 3 P6:=
 aW.bU (π:=ByteArray×Int×Int) (σ:=Int) (aj.all zD rfl) (aO.nil) rfl 60 (λp a=>qA p.1 p.2.1 a) (λp=>p.2.2) (St:=λp=>m0 shut p.1 p.2.1) (λp=>1000000) (λp=>rfl)
  (λm p a k=>by kernel_rfl)
def Wa:=bo (zC shut) ay Tryz.f171 171 [P6]
theorem Wb:aX Wa β:=bw (aj.all zD rfl) Tryz.func171 rfl aU (by kernel_rfl) af0
def Ei (s:ByteArray):T Bool:=.gd (qA s ((↑s.size:Int)) 0)<|.bd (CC U s ((↑s.size:Int)) 0) λa=>.cs a (λ_=>.ok false) λb=>.ok (decide ((↑s.size:Int)>0))
def GK (s:ByteArray):=U.s _ (Ei U s).val
def Ak:=a_ (cK KK 171 9 (GK U) (bD KK 4)) (zC U)
theorem Al:aj (Ak shut) β:=cR (rs:=[4]) zD Wb rfl rfl λs k=>by kernel_rfl
def wS (a:ByteArray) (p1 p2:Int) (p3:List ByteArray):AS SS:=⟨[(0,vs (.v (.string a))),(3,vo 0),(6,vi p1),(7,vi p2)],[rX 9 p3],0,none,false,[],[]⟩
def mZ (U:Sh) (b:ByteArray) (p1:Int) (a:Int×List ByteArray):T ((Int×List ByteArray)⊕(Bool×Int×List ByteArray)):=.bf (decide (a.1<p1)) (.bd (fq b a.1) λz0=>.bf (z0==47) (.bd (app 16 a.2 [ξ4 #[]]) λc=>.ok (.inl (γ.wrap (a.1+1),c)))<|.bf (decide ((↑a.2.length:Int)>0)) (.bd (idx a.2 (γ.wrap ((↑a.2.length:Int)-1))) λc=>.bd (a.2[(γ.wrap ((↑a.2.length:Int)-1)).toNat]?) λz2=>.bd (eM b (ζl (λx=>x.snd) (some (γ,a.1))) (ζl (λx=>x.snd) (some (γ,γ.wrap (a.1+1))))) λz3=>.bd (ka z2 z3) λz4=>.bd (idx a.2 (γ.wrap ((↑a.2.length:Int)-1))) λz5=>.bd (a.2[(γ.wrap ((↑a.2.length:Int)-1)).toNat]?) λd=>.ok (.inl (γ.wrap (a.1+1),a.2.set (γ.wrap ((↑a.2.length:Int)-1)).toNat z4)))<|.ok (.inl (γ.wrap (a.1+1),a.2)))<|.ok (.inr (decide (a.1<p1),a.1,a.2))
def CB (a:ByteArray) (p1 p2:Int) (p3:List ByteArray):=bU U (mZ U a p1) 1000000 (p2,p3)
def Zw {R} (k:KX SS R) (a:ByteArray) (p1:Int) (x:(Bool×Int×List ByteArray)):Option R:=(λv=>k (.exit 0) {wS a p1 p1 v.2.2 with env:=[(8,vb v.1),(0,vs (.v (.string a))),(3,vo 0),(6,vi p1),(7,vi v.2.1)]}) x
def P5:a7 SS:=bc 4 (sq (sX jO 0) (sq (sI 6) (sq (sI 7) (hR 0 9)))) (u4 wS) (u4 (CB shut)) (λk p=>Zw k p.1 p.2.1)
theorem afZ:LS KK β ay Tryz.f170 170 4 P5:=
 aW.bU (π:=ByteArray×Int×Int×List ByteArray) (σ:=Int×List ByteArray) (aj.all Al rfl) (aO.nil) rfl 60 (λp a=>wS p.1 p.2.1 a.1 a.2) (λp=>(p.2.2.1,p.2.2.2)) (St:=λp=>mZ shut p.1 p.2.1) (λp=>1000000) (λp=>rfl)
  (λm p a k=>by kernel_rfl)
def V_:=bo (Ak shut) ay Tryz.f170 170 [P5]
theorem V':aX V_ β:=bw (aj.all Al rfl) Tryz.func170 rfl aU (by kernel_rfl) afZ
def Eh (s:ByteArray):T (List ByteArray):=.gd (wS s ((↑s.size:Int)) 0 [])<|.bd (CB U s ((↑s.size:Int)) 0 []) λa=>.ok a.2.2
def vF (s:ByteArray):=U.s _ (Eh U s).val
def Ai:=a_ (cK KK 170 9 (vF U) (bD KK 185)) (Ak U)
theorem Aj:aj (Ai shut) β:=cR (rs:=[185]) Al V' rfl rfl λs k=>by kernel_rfl
def qp (a:ByteArray) (p1:List ByteArray) (p2:Int):AS SS:=⟨[(0,vs (.v (.string a))),(3,vd 185 p1),(10,vd 185 p1),(11,vl p1),(12,vi p2)],[],0,none,false,[],[]⟩
def tR (c:ByteArray) (p1:List ByteArray) (p2:Int) (z0:ByteArray) (a:Unit):T (Unit⊕Unit⊕(Bool×Int)):=.bd (GK U z0) λb=>.bf (!b) (.ok (.inr (.inl ())))<|.ok (.inl ())
def r' (U:Sh) (b:ByteArray) (p1:List ByteArray) (p2:Int) (a:Unit):T (Unit⊕(Bool×Int)):=.ok (.inr (decide (p2<(↑p1.length:Int)),p2))
def B' (a:ByteArray) (p1:List ByteArray):=bC U (tR U a p1) (r' U a p1) p1 ()
def Y1 {R} (k:KX SS R) (a:ByteArray) (p1:List ByteArray) (x:Unit⊕(Bool×Int)):Option R:=x.elim (λv=>k .ret {qp a p1 0 with env:=[(2,vb false)]}) (λv=>k (.exit 0) (xe [(13,vb v.1)] (qp a p1 v.2)))
def PA:a7 SS:=bc 6 (sq (sX jO 0) (sD 185 3)) (λp=>u2 qp p 0) (u2 (B' shut)) (λk=>u2 (Y1 k))
theorem afw:LS KK β ay Tryz.f124 124 6 PA:=
 aW.bH (aj.all Aj rfl) (aO.nil) rfl 60 (λp i a=>u2 qp p i) (λp=>p.2) (λp=>()) (St:=u2 (tR shut)) (F:=u2 (r' shut)) (λp=>rfl)
  (λm p i a k=>by kernel_rfl) (by rintro p (x|x)<;>exact⟨_,_,λ_=>rfl⟩) (λp N C A O w a b=>bQ b (t:=185) (sl:=3) rfl λv h=>bO h)
def Vs:=bo (Ai shut) ay Tryz.f124 124 [PA]
theorem Vt:aX Vs β:=bw (aj.all Aj rfl) Tryz.func124 rfl aU (by kernel_rfl) afw
def DV (s:ByteArray):T Bool:=.bf (s.toList==(ξ4 #[47]).toList) (.ok true)<|.bd (vF U s) λa=>.gd (qp s a 0)<|.bd (B' U s a) λb=>.cs b (λ_=>.ok false) λc=>.bf (decide ((↑s.size:Int)>0)) (.bf (decide ((↑s.size:Int)<=8)) (.bd (fq s 0) λz2=>.bf (z2==47) (.bf (decide ((↑a.length:Int)>=1)) (.ok (decide ((↑a.length:Int)<=4)))<|.ok false)<|.ok false)<|.ok false)<|.ok false
def Gw (s:ByteArray):=U.s _ (DV U s).val
def Lj:=a_ (cK KK 124 9 (Gw U) (bD KK 4)) (Ai U)
theorem Lk:aj (Lj shut) β:=cR (rs:=[4]) Aj Vt rfl rfl λs k=>by kernel_rfl
def Fg (w:Int):T Bool:=.bd (pK U w) λa=>.bf (a.2) (.bd (Gw U a.1) λb=>.ok b)<|.ok false
def jV (w:Int):=U.s _ (Fg U w).val
def Mp:=a_ (cK KK 84 28 (jV U) (bD KK 4)) (Lj U)
theorem Mq:aj (Mp shut) β:=cR (rs:=[4]) Lk (aj.all Lk rfl) rfl rfl λw k=>by kernel_rfl
def EM (w:Int):T (List ByteArray):=.bd (pK U w) λa=>.bf (a.1.toList==(ξ4 #[47]).toList) (.ok [])<|.bd (vF U a.1) λb=>.ok b
def pS (w:Int):=U.s _ (EM U w).val
def A9:=a_ (cK KK 242 28 (pS U) (bD KK 185)) (Mp U)
theorem A_:aj (A9 shut) β:=cR (rs:=[185]) Mq (aj.all Mq rfl) rfl rfl λw k=>by kernel_rfl
def qE (a p1:List ByteArray) (p2:Int):AS SS:=⟨[(6,vd 185 a),(21,vd 185 p1),(22,vl p1),(23,vi p2)],[],0,none,false,[],[]⟩
def ur (U:Sh) (b p1:List ByteArray) (p2:Int) (z0:ByteArray) (a:Unit):T (Unit⊕Unit⊕(Bool×Int)):=.bf (decide (p2>=(↑b.length:Int))) (.ok (.inr (.inl ())))<|.bd (idx b p2) λc=>.bf (!ByteArray.toList c==ByteArray.toList z0) (.ok (.inr (.inl ())))<|.ok (.inl ())
def sB (U:Sh) (b p1:List ByteArray) (p2:Int) (a:Unit):T (Unit⊕(Bool×Int)):=.ok (.inr (decide (p2<(↑p1.length:Int)),p2))
def CJ (a p1:List ByteArray):=bC U (ur U a p1) (sB U a p1) p1 ()
def ZE {R} (k:KX SS R) (a p1:List ByteArray) (x:Unit⊕(Bool×Int)):Option R:=x.elim (λv=>k .ret {qE a p1 0 with env:=[(4,vb false)]}) (λv=>k (.exit 0) (xe [(24,vb v.1)] (qE a p1 v.2)))
def Qb:a7 SS:=bc 6 (sq (sD 185 6) (sD 185 21)) (λp=>u2 qE p 0) (u2 (CJ shut)) (λk=>u2 (ZE k))
theorem af7:LS KK β ay Tryz.f201 201 6 Qb:=
 aW.bH (aj.all A_ rfl) (aO.nil) rfl 60 (λp i a=>u2 qE p i) (λp=>p.2) (λp=>()) (St:=u2 (ur shut)) (F:=u2 (sB shut)) (λp=>rfl)
  (λm p i a k=>by kernel_rfl) (by rintro p (x|x)<;>exact⟨_,_,λ_=>rfl⟩) (λp N C A O w a b=>bQ b (t:=185) (sl:=21) rfl λv h=>bO h)
def WX:=bo (A9 shut) ay Tryz.f201 201 [Qb]
theorem WY:aX WX β:=bw (aj.all A_ rfl) Tryz.func201 rfl aU (by kernel_rfl) af7
def EE (a b:Int):T Bool:=.bd (jV U a) λf=>.bf (!f) (.ok false)<|.bd (jV U b) λg=>.bf (!g) (.ok false)<|.bd (pS U a) λc=>.bd (pS U b) λd=>.gd (qE d c 0)<|.bd (CJ U d c) λe=>.cs e (λ_=>.ok false) λh=>.ok true
def vU (a b:Int):=U.s _ (EE U a b).val
def LN:=a_ (bY KK 201 28 28 (vU U) (bD KK 4)) (A9 U)
theorem LO:aj (LN shut) β:=bZ (rs:=[4]) A_ WY rfl rfl λa b k=>by kernel_rfl
def EF (path:Int):T Int:=.bd (pS U path) λa=>.ok ((↑a.length:Int))
def vV (path:Int):=U.s _ (EF U path).val
def AR:=a_ (cK KK 202 28 (vV U) (bD KK 3)) (LN U)
theorem AT:aj (AR shut) β:=cR (rs:=[3]) LO (aj.all LO rfl) rfl rfl λpath k=>by kernel_rfl
def qx (a:Int) (p1:List ax) (p2:Int):AS SS:=⟨[(1,vu a),(8,vd 27 p1),(9,vl p1),(10,vi p2)],[],0,none,false,[],[]⟩
def ug (U:Sh) (b:Int) (p1:List ax) (p2:Int) (z0:ax) (a:Unit):T (Unit⊕Int⊕(Bool×Int)):=.bf (z0.aP==b) (.ok (.inr (.inl z0.aS)))<|.ok (.inl ())
def ss (U:Sh) (b:Int) (p1:List ax) (p2:Int) (a:Unit):T (Int⊕(Bool×Int)):=.ok (.inr (decide (p2<(↑p1.length:Int)),p2))
def Cv (a:Int) (p1:List ax):=bC U (ug U a p1) (ss U a p1) p1 ()
def Zq {R} (k:KX SS R) (a:Int) (p1:List ax) (x:Int⊕(Bool×Int)):Option R:=x.elim (λv=>k .ret {qx a p1 a with env:=[(4,vu v)]}) (λv=>k (.exit 0) {qx a p1 a with env:=[(11,vb v.1),(1,vu a),(8,vd 27 p1),(9,vl p1),(10,vi v.2)]})
def PZ:a7 SS:=bc 3 (sq (sI 1) (sD 27 8)) (λp=>u2 qx p 0) (u2 (Cv shut)) (λk=>u2 (Zq k))
theorem afT:LS KK β ay Tryz.f162 162 3 PZ:=
 aW.bH (aj.all AT rfl) (aO.nil) rfl 60 (λp i a=>u2 qx p i) (λp=>p.2) (λp=>()) (St:=u2 (ug shut)) (F:=u2 (ss shut)) (λp=>rfl)
  (λm p i a k=>by kernel_rfl) (by rintro p (x|x)<;>exact⟨_,_,λ_=>rfl⟩) (λp N C A O w a b=>bQ b (t:=27) (sl:=8) rfl λv h=>bO h)
def VZ:=bo (AR shut) ay Tryz.f162 162 [PZ]
theorem V0:aX VZ β:=bw (aj.all AT rfl) Tryz.func162 rfl aU (by kernel_rfl) afT
def Ec (m:a1) (path:Int):T Int:=.gd (qx path m.ab 0)<|.bd (Cv U path m.ab) λb=>.cs b (λa=>.ok a) λa=>.ok 0
def pO (m:a1) (path:Int):=U.s _ (Ec U m path).val
def z':=a_ (bY KK 162 30 28 (pO U) (bD KK 28)) (AR U)
theorem Aa:aj (z' shut) β:=bZ (rs:=[28]) AT V0 rfl rfl λm path k=>by kernel_rfl
def wJ (a:Int) (p1:List ax) (p2 p3 p4:Int):AS SS:=⟨[(1,vu a),(5,vu p2),(6,vi p3),(10,vd 27 p1),(11,vl p1),(12,vi p4)],[],0,none,false,[],[]⟩
def ub (b:Int) (p1:List ax) (p4:Int) (z0:ax) (a:Int×Int):T ((Int×Int)⊕(Bool×Int×Int×Int)):=.bd (vU U z0.aP b) λc=>.bf (c) (.bd (vV U z0.aP) λd=>.bf (decide (d>a.2)) (.bd (vV U z0.aP) λe=>.ok (.inl (z0.aS,e)))<|.ok (.inl (a.1,a.2)))<|.ok (.inl (a.1,a.2))
def sk (U:Sh) (b:Int) (p1:List ax) (p4:Int) (a:Int×Int):T ((Bool×Int×Int×Int)):=.ok (decide (p4<(↑p1.length:Int)),a.1,a.2,p4)
def Co (a:Int) (p1:List ax) (p2 p3:Int):=bC U (ub U a p1) (sk U a p1) p1 (p2,p3)
def Zi {R} (k:KX SS R) (a:Int) (p1:List ax) (x:(Bool×Int×Int×Int)):Option R:=(λv=>k (.exit 0) {wJ a p1 a a a with env:=[(13,vb v.1),(1,vu a),(5,vu v.2.1),(6,vi v.2.2.1),(10,vd 27 p1),(11,vl p1),(12,vi v.2.2.2)]}) x
def PR:a7 SS:=bc 4 (sq (sI 1) (sq (sD 27 10) (sq (sI 5) (sI 6)))) (λp=>u4 wJ p 0) (u4 (Co shut)) (λk p=>Zi k p.1 p.2.1)
theorem afL:LS KK β ay Tryz.f153 153 4 PR:=
 aW.bH (π:=Int×List ax×Int×Int) (σ:=Int×Int) (aj.all Aa rfl) (aO.nil) rfl 60 (λp i a=>wJ p.1 p.2.1 a.1 a.2 i) (λp=>p.2.1) (λp=>(p.2.2.1,p.2.2.2)) (St:=λp=>ub shut p.1 p.2.1) (F:=λp=>sk shut p.1 p.2.1) (λp=>rfl)
  (λm p i a k=>by kernel_rfl) (λp x=>⟨_,_,λ_=>rfl⟩) (λp N C A O w a b=>bQ b (t:=27) (sl:=10) rfl λv h=>bO h)
def VN:=bo (z' shut) ay Tryz.f153 153 [PR]
theorem VO:aX VN β:=bw (aj.all Aa rfl) Tryz.func153 rfl aU (by kernel_rfl) afL
def D6 (m:a1) (path:Int):T Int:=.gd (wJ path m.ab 0 (-1) 0)<|.bd (Co U path m.ab 0 (-1)) λa=>.ok a.2.1
def vB (m:a1) (path:Int):=U.s _ (D6 U m path).val
def zV:=a_ (bY KK 153 30 28 (vB U) (bD KK 28)) (z' U)
theorem zW:aj (zV shut) β:=bZ (rs:=[28]) Aa VO rfl rfl λm path k=>by kernel_rfl
def Hw (a:Int) (p1:List ax) (p2:Int) (p3:Γa):AS SS:=⟨[(1,vu a),(5,vo 0),(9,vd 27 p1),(10,vl p1),(11,vi p2)],[rX 28 p3],0,none,false,[],[]⟩
def TA (a:Int) (p1:List ax) (p3:Γa):AS SS:=Hw a p1 0 p3
def uu (b:Int) (p1:List ax) (p2:Int) (z0:ax) (a:Γa):T (Γa⊕(Bool×Int×Γa)):=.bf (z0.aP !=b) (.bd (vU U b z0.aP) λc=>.bf (c) (.bd (app 8 a [z0.aS]) λz2=>.ok (.inl z2))<|.ok (.inl a))<|.ok (.inl a)
def sC (U:Sh) (b:Int) (p1:List ax) (p2:Int) (a:Γa):T ((Bool×Int×Γa)):=.ok (decide (p2<(↑p1.length:Int)),p2,a)
def CK (a:Int) (p1:List ax) (p3:Γa):=bC U (uu U a p1) (sC U a p1) p1 p3
def ZF {R} (k:KX SS R) (a:Int) (p1:List ax) (x:(Bool×Int×Γa)):Option R:=(λv=>k (.exit 0) {Hw a p1 a v.2.2 with env:=[(12,vb v.1),(1,vu a),(5,vo 0),(9,vd 27 p1),(10,vl p1),(11,vi v.2.1)]}) x
def Qc:a7 SS:=bc 4 (sq (sI 1) (sq (sD 27 9) (hR 0 28))) (u3 TA) (u3 (CK shut)) (λk p=>ZF k p.1 p.2.1)
theorem af8:LS KK β ay Tryz.f203 203 4 Qc:=
 aW.bH (π:=Int×List ax×Γa) (σ:=Γa) (aj.all zW rfl) (aO.nil) rfl 60 (λp i a=>Hw p.1 p.2.1 i a) (λp=>p.2.1) (λp=>p.2.2) (St:=λp=>uu shut p.1 p.2.1) (F:=λp=>sC shut p.1 p.2.1) (λp=>rfl)
  (λm p i a k=>by kernel_rfl) (λp x=>⟨_,_,λ_=>rfl⟩) (λp N C A O w a b=>bQ b (t:=27) (sl:=9) rfl λv h=>bO h)
def WZ:=bo (zV shut) ay Tryz.f203 203 [Qc]
theorem W0:aX WZ β:=bw (aj.all zW rfl) Tryz.func203 rfl aU (by kernel_rfl) af8
def EG (m:a1) (path:Int):T (Γa):=.gd (TA path m.ab [])<|.bd (CK U path m.ab []) λa=>.ok a.2.2
def GO (m:a1) (path:Int):=U.s _ (EG U m path).val
def LP:=a_ (bY KK 203 30 28 (GO U) (bD KK 76)) (zV U)
theorem LQ:aj (LP shut) β:=bZ (rs:=[76]) zW W0 rfl rfl λm path k=>by kernel_rfl
def D' (m:a1) (path:Int):T (a1×Int×Int):=.bd (pO U m path) λa=>.bf (a !=0) (.ok (⟨[],0⟩,0,5))<|.bf ((↑m.ab.length:Int)==16) (.ok (⟨[],0⟩,0,6))<|.bf (m.aL==1073741825) (.ok (⟨[],0⟩,0,6))<|.bd (app 16 [] m.ab) λb=>.bd (app 16 b [ax.mk path m.aL]) λz2=>.ok (⟨z2,ζ.wrap (m.aL+1)⟩,m.aL,0)
def GD (m:a1) (path:Int):=U.s _ (D' U m path).val
def z7:=a_ (bY KK 159 30 28 (GD U) (fN KK 30 28 40)) (LP U)
theorem z8:aj (z7 shut) β:=bZ (rs:=[30,28,40]) LQ (aj.all LQ rfl) rfl rfl λm path k=>by kernel_rfl
def wN (a:Int) (p1:List ax) (p2 p3 p4:Int) (p5:List ax):AS SS:=⟨[(1,vu a),(4,va 0 0),(6,va 1 0),(24,vd 27 p1),(25,vi p3),(26,vi p4)],[bX 30 [.v (.slice none 0 0),lu 0],bX 30 [.own 2,lu p2],rX 71 p5],0,none,false,[],[]⟩
def oU (U:Sh) (b:Int) (p1:List ax) (p2 p3:Int) (a:Int×List ax):T ((Int×List ax)⊕(Bool×Int×List ax)):=.bf (decide (a.1<p3)) (.bd (idx p1 a.1) λz0=>.bf (z0.aP !=b) (.bd (app 16 a.2 [z0]) λc=>.ok (.inl (γ.wrap (a.1+1),c)))<|.ok (.inl (γ.wrap (a.1+1),a.2)))<|.ok (.inr (decide (a.1<p3),a.1,a.2))
def Ct (a:Int) (p1:List ax) (p2 p3 p4:Int) (p5:List ax):=bU U (oU U a p1 p2 p3) 1000000 (p4,p5)
def Zo {R} (k:KX SS R) (a:Int) (p1:List ax) (p2 p3:Int) (x:(Bool×Int×List ax)):Option R:=(λv=>k (.exit 0) {wN a p1 p2 p3 a v.2.2 with env:=[(27,vb v.1),(1,vu a),(4,va 0 0),(6,va 1 0),(24,vd 27 p1),(25,vi p3),(26,vi v.2.1)]}) x
def PX:a7 SS:=hs (λst=>gc (ay 160 8) (eb 1 0 71 (st)))<|bc 8 (λst=>(db (c9 st 1 0)).bind λa=>(ez 27 (c9 st 24 0)).bind λp1=>(db (dQ st 1 1)).bind λp2=>(db (c9 st 25 0)).bind λp3=>(db (c9 st 26 0)).bind λp4=>(eh st 2 71).bind λp5=>some (a,p1,p2,p3,p4,p5)) (u6 wN) (u6 (Ct shut)) (λk=>w4 (Zo k))
theorem afR:LS KK β ay Tryz.f160 160 8 PX:=aW.pre (b5.comp (b5.gc (ay 160 8)) (b5.eb 1 0 71))<|
 aW.bU (π:=Int×List ax×Int×Int×Int×List ax) (σ:=Int×List ax) (aj.all z8 rfl) (aO.nil) rfl 60 (λp a=>w4 wN p a.1 a.2) (λp=>(p.2.2.2.2.1,p.2.2.2.2.2)) (St:=w4 (oU shut)) (λp=>1000000) (λp=>rfl)
  (λm p a k=>by kernel_rfl)
def VV:=bo (z7 shut) ay Tryz.f160 160 [PX]
theorem VW:aX VV β:=bw (aj.all z8 rfl) Tryz.func160 rfl aU (by kernel_rfl) afR
def Ea (m:a1) (path:Int):T (a1×Int):=.bd (pO U m path) λa=>.bf (a==0) (.ok (⟨[],0⟩,4))<|.bd (GO U m path) λb=>.bf (decide ((↑b.length:Int)>0)) (.ok (⟨[],0⟩,341))<|.gd (wN path m.ab m.aL ((↑m.ab.length:Int)) 0 [])<|.bd (Ct U path m.ab m.aL ((↑m.ab.length:Int)) 0 []) λc=>.ok (⟨c.2.2,m.aL⟩,0)
def GF (m:a1) (path:Int):=U.s _ (Ea U m path).val
def Lz:=a_ (bY KK 160 30 28 (GF U) (ea KK 30 40)) (z7 U)
theorem LA:aj (Lz shut) β:=bZ (rs:=[30,40]) z8 VW rfl rfl λm path k=>by kernel_rfl
end Go.Proofs.YtdhaaaeffhaadaaGreatDoor
end
section
namespace Go.Proofs.YtdhaaaeffhaadaaGreatDoor
open Go.RowKit Go.Dc Go.Vx
variable (U:Sh)
def Fi (U:Sh) (w:Int):T Bool:=.bf (decide (w>0)) (.ok (decide (w<4294967296)))<|.ok false
def pZ (w:Int):=U.s _ (Fi U w).val
def BQ:=a_ (cK KK 86 28 (pZ U) (bD KK 4)) (Lz U)
theorem BR:aj (BQ shut) β:=cR (rs:=[4]) LA (aj.all LA rfl) rfl rfl λw k=>by kernel_rfl
def xt (a:ByteArray) (p1:Bool) (p2 p3:Int):AS SS:=⟨[(3,vs (.v (.string a))),(4,vb p1),(12,vi p2),(13,vi p3)],[],0,none,false,[],[]⟩
def m7 (U:Sh) (b:ByteArray) (p2:Int) (a:Bool×Int):T ((Bool×Int)⊕(Bool×Bool×Int)):=.bf (decide (a.2<p2)) (.bf (a.1) (.bd (fq b a.2) λz0=>.bf (decide (z0>=97)) (.bd (fq b a.2) λc=>.bf (decide (c<=122)) (.ok (.inl (true,γ.wrap (a.2+1))))<|.bd (fq b a.2) λz2=>.bf (decide (z2>=48)) (.bd (fq b a.2) λz3=>.ok (.inl (decide (z3<=57),γ.wrap (a.2+1))))<|.ok (.inl (false,γ.wrap (a.2+1))))<|.bd (fq b a.2) λc=>.bf (decide (c>=48)) (.bd (fq b a.2) λz2=>.ok (.inl (decide (z2<=57),γ.wrap (a.2+1))))<|.ok (.inl (false,γ.wrap (a.2+1))))<|.ok (.inl (false,γ.wrap (a.2+1))))<|.ok (.inr (decide (a.2<p2),a.1,a.2))
def oJ (a:ByteArray) (p1:Bool) (p2 p3:Int):=bU U (m7 U a p2) 1000000 (p1,p3)
def aao {R} (k:KX SS R) (a:ByteArray) (p2:Int) (x:(Bool×Bool×Int)):Option R:=(λv=>k (.exit 0) {xt a v.1 p2 p2 with env:=[(14,vb v.1),(3,vs (.v (.string a))),(4,vb v.2.1),(12,vi p2),(13,vi v.2.2)]}) x
def QT:a7 SS:=bc 4 (sq (sX jO 3) (sq (sX hS 4) (sq (sI 12) (sI 13)))) (u4 xt) (u4 (oJ shut)) (λk p=>aao k p.1 p.2.2.1)
theorem agQ:LS KK β ay Tryz.f85 85 4 QT:=
 aW.bU (π:=ByteArray×Bool×Int×Int) (σ:=Bool×Int) (aj.all BR rfl) (aO.nil) rfl 60 (λp a=>xt p.1 a.1 p.2.2.1 a.2) (λp=>(p.2.1,p.2.2.2)) (St:=λp=>m7 shut p.1 p.2.2.1) (λp=>1000000) (λp=>rfl)
  (λm p a k=>by kernel_rfl)
def XM:=bo (BQ shut) ay Tryz.f85 85 [QT]
theorem XN:aX XM β:=bw (aj.all BR rfl) Tryz.func85 rfl aU (by kernel_rfl) agQ
def Fh (name:Int):T Bool:=.bd (pK U name) λa=>.gd (xt a.1 a.2 ((↑a.1.size:Int)) 0)<|.bd (oJ U a.1 a.2 ((↑a.1.size:Int)) 0) λb=>.bf (b.2.1) (.ok (decide ((↑a.1.size:Int)>0)))<|.ok false
def lQ (name:Int):=U.s _ (Fh U name).val
def BO:=a_ (cK KK 85 28 (lQ U) (bD KK 4)) (BQ U)
theorem BP:aj (BO shut) β:=cR (rs:=[4]) BR XN rfl rfl λname k=>by kernel_rfl
def qy (a:Int) (p1:List av) (p2:Int):AS SS:=⟨[(1,vu a),(9,vd 31 p1),(10,vl p1),(11,vi p2)],[],0,none,false,[],[]⟩
def uh (U:Sh) (b:Int) (p1:List av) (p2:Int) (z0:av) (a:Unit):T (Unit⊕Int⊕(Bool×Int)):=.bf (z0.aY==b) (.ok (.inr (.inl z0.aa)))<|.ok (.inl ())
def su (U:Sh) (b:Int) (p1:List av) (p2:Int) (a:Unit):T (Int⊕(Bool×Int)):=.ok (.inr (decide (p2<(↑p1.length:Int)),p2))
def Cw (a:Int) (p1:List av):=bC U (uh U a p1) (su U a p1) p1 ()
def Zr {R} (k:KX SS R) (a:Int) (p1:List av) (x:Int⊕(Bool×Int)):Option R:=x.elim (λv=>k .ret {qy a p1 a with env:=[(4,vu v),(5,vb true)]}) (λv=>k (.exit 0) {qy a p1 a with env:=[(12,vb v.1),(1,vu a),(9,vd 31 p1),(10,vl p1),(11,vi v.2)]})
def P0:a7 SS:=bc 3 (sq (sI 1) (sD 31 9)) (λp=>u2 qy p 0) (u2 (Cw shut)) (λk=>u2 (Zr k))
theorem afU:LS KK β ay Tryz.f163 163 3 P0:=
 aW.bH (aj.all BP rfl) (aO.nil) rfl 60 (λp i a=>u2 qy p i) (λp=>p.2) (λp=>()) (St:=u2 (uh shut)) (F:=u2 (su shut)) (λp=>rfl)
  (λm p i a k=>by kernel_rfl) (by rintro p (x|x)<;>exact⟨_,_,λ_=>rfl⟩) (λp N C A O w a b=>bQ b (t:=31) (sl:=9) rfl λv h=>bO h)
def V1:=bo (BO shut) ay Tryz.f163 163 [P0]
theorem V2:aX V1 β:=bw (aj.all BP rfl) Tryz.func163 rfl aU (by kernel_rfl) afU
def Ed (s:aC) (name:Int):T (Int×Bool):=.gd (qy name s.an 0)<|.bd (Cw U name s.an) λb=>.cs b (λa=>.ok (a,true)) λa=>.ok (0,false)
def pP (s:aC) (name:Int):=U.s _ (Ed U s name).val
def Ab:=a_ (bY KK 163 34 28 (pP U) (ea KK 28 4)) (BO U)
theorem tg:aj (Ab shut) β:=bZ (rs:=[28,4]) BP V2 rfl rfl λs name k=>by kernel_rfl
def wP (a p1:Int) (p2:List av) (p3:List aq) (p4 p5:Int) (p6:List av):AS SS:=⟨[(1,vu a),(2,vu p1),(3,va 0 0),(6,va 1 0),(10,va 2 0),(40,vd 31 p2),(41,vi p4),(42,vi p5)],[bX 34 [.aG 31 p2,.aG 32 p3],bX 34 [.v (.slice none 0 0),.v (.slice none 0 0)],bX 34 [.own 3,.aG 32 p3],rX 93 p6],0,none,false,[],[]⟩
def oV (U:Sh) (b p1:Int) (p2:List av) (p3:List aq) (p4:Int) (a:Int×List av):T ((Int×List av)⊕(Bool×Int×List av)):=.bf (decide (a.1<p4)) (.bd (idx p2 a.1) λz0=>.bf (decide (z0.aY<b)) (.bd (app 16 a.2 [z0]) λc=>.ok (.inl (γ.wrap (a.1+1),c)))<|.ok (.inl (γ.wrap (a.1+1),a.2)))<|.ok (.inr (decide (a.1<p4),a.1,a.2))
def Cx (a p1:Int) (p2:List av) (p3:List aq) (p4 p5:Int) (p6:List av):=bU U (oV U a p1 p2 p3 p4) 1000000 (p5,p6)
def Zs {R} (k:KX SS R) (a p1:Int) (p2:List av) (p3:List aq) (p4:Int) (x:(Bool×Int×List av)):Option R:=(λv=>k (.exit 0) {wP a p1 p2 p3 p4 a v.2.2 with env:=[(43,vb v.1),(1,vu a),(2,vu p1),(3,va 0 0),(6,va 1 0),(10,va 2 0),(40,vd 31 p2),(41,vi p4),(42,vi v.2.1)]}) x
def P1:a7 SS:=hs (λst=>gc (ay 164 13) (eb 2 0 93 (st)))<|bc 13 (λst=>(db (c9 st 1 0)).bind λa=>(db (c9 st 2 0)).bind λp1=>(ez 31 (c9 st 40 0)).bind λp2=>(ez 32 (dQ st 0 1)).bind λp3=>(db (c9 st 41 0)).bind λp4=>(db (c9 st 42 0)).bind λp5=>(eh st 3 93).bind λp6=>some (a,p1,p2,p3,p4,p5,p6)) (u7 wP) (u7 (Cx shut)) (λk=>w5 (Zs k))
theorem afV:LS KK β ay ζG 164 13 P1:=aW.pre (b5.comp (b5.gc (ay 164 13)) (b5.eb 2 0 93))<|
 aW.bU (π:=Int×Int×List av×List aq×Int×Int×List av) (σ:=Int×List av) (aj.all tg rfl) (aO.nil) rfl 60 (λp a=>w5 wP p a.1 a.2) (λp=>(p.2.2.2.2.2.1,p.2.2.2.2.2.2)) (St:=w5 (oV shut)) (λp=>1000000) (λp=>rfl)
  (λm p a k=>by kernel_rfl)
def wQ (a:Int) (p1:List av) (p2:List aq) (p3:List av) (p4:Int):AS SS:=⟨[(1,vu a),(6,va 0 0),(10,va 1 0),(66,vd 31 p1),(67,vl p1),(68,vi p4)],[bX 34 [.v (.slice none 0 0),.v (.slice none 0 0)],bX 34 [.own 2,.aG 32 p2],rX 93 p3],0,none,false,[],[]⟩
def ui (U:Sh) (b:Int) (p1:List av) (p2:List aq) (p4:Int) (z0:av) (a:List av):T (List av⊕(Bool×Int×List av)):=.bf (decide (z0.aY>b)) (.bd (app 16 a [z0]) λc=>.ok (.inl c))<|.ok (.inl a)
def sv (U:Sh) (b:Int) (p1:List av) (p2:List aq) (p4:Int) (a:List av):T ((Bool×Int×List av)):=.ok (decide (p4<(↑p1.length:Int)),p4,a)
def Cy (a:Int) (p1:List av) (p2:List aq) (p3:List av):=bC U (ui U a p1 p2) (sv U a p1 p2) p1 p3
def Zt {R} (k:KX SS R) (a:Int) (p1:List av) (p2:List aq) (x:(Bool×Int×List av)):Option R:=(λv=>k (.exit 2) {wQ a p1 p2 v.2.2 a with env:=[(69,vb v.1),(1,vu a),(6,va 0 0),(10,va 1 0),(66,vd 31 p1),(67,vl p1),(68,vi v.2.1)]}) x
def P2:a7 SS:=bc 20 (sq (sI 1) (sq (sD 31 66) (sq (hD 32 1 1) (hR 2 93)))) (λp=>u4 wQ p 0) (u4 (Cy shut)) (λk=>w3 (Zt k))
theorem afW:LS KK β ay ζG 164 20 P2:=
 aW.bH (π:=Int×List av×List aq×List av) (σ:=List av) (aj.all tg rfl) (aO.nil) rfl 60 (λp i a=>w3 wQ p a i) (λp=>p.2.1) (λp=>p.2.2.2) (St:=w3 (ui shut)) (F:=w3 (sv shut)) (λp=>rfl)
  (λm p i a k=>by kernel_rfl) (λp x=>⟨_,_,λ_=>rfl⟩) (λp N C A O w a b=>bQ b (t:=31) (sl:=66) rfl λv h=>bO h)
def V3:=bo (Ab shut) ay ζG 164 [P1,P2]
theorem V4:aX V3 β:=(aX.fu (aj.all tg rfl) Tryz.func164 rfl aU λc a=>by cases a;exact aO.cons (aO.cons (aO.nil) (by kernel_rfl) afW) (by kernel_rfl) afV)
def Ee (s:aC) (name pid:Int):T (aC×Int):=.bd (lQ U name) λa=>.bf (!a) (.ok (⟨[],[]⟩,351))<|.bd (pZ U pid) λb=>.bf (!b) (.ok (⟨[],[]⟩,2))<|.bd (pP U s name) λc=>.bf (c.2) (.ok (⟨[],[]⟩,5))<|.bf ((↑s.an.length:Int)==16) (.ok (⟨[],[]⟩,6))<|.gd (wP name pid s.an s.ak ((↑s.an.length:Int)) 0 [])<|.bd (Cx U name pid s.an s.ak ((↑s.an.length:Int)) 0 []) λd=>.bd (app 16 d.2.2 [av.mk name pid]) λz4=>.gd (wQ name s.an s.ak z4 0)<|.bd (Cy U name s.an s.ak z4) λe=>.ok (⟨e.2.2,s.ak⟩,0)
def GH (s:aC) (name pid:Int):=U.s _ (Ee U s name pid).val
def Ac:=a_ (fV KK 164 34 28 28 (GH U) (ea KK 34 40)) (Ab U)
theorem Ad:aj (Ac shut) β:=gI (rs:=[34,40]) tg V4 rfl rfl λs name pid k=>by kernel_rfl
def wR (a:Int) (p1:List av) (p2:List aq) (p3 p4:Int) (p5:List av):AS SS:=⟨[(1,vu a),(4,va 0 0),(8,va 1 0),(28,vd 31 p1),(29,vi p3),(30,vi p4)],[bX 34 [.v (.slice none 0 0),.v (.slice none 0 0)],bX 34 [.own 2,.aG 32 p2],rX 93 p5],0,none,false,[],[]⟩
def oW (U:Sh) (b:Int) (p1:List av) (p2:List aq) (p3:Int) (a:Int×List av):T ((Int×List av)⊕(Bool×Int×List av)):=.bf (decide (a.1<p3)) (.bd (idx p1 a.1) λz0=>.bf (z0.aY !=b) (.bd (app 16 a.2 [z0]) λc=>.ok (.inl (γ.wrap (a.1+1),c)))<|.ok (.inl (γ.wrap (a.1+1),a.2)))<|.ok (.inr (decide (a.1<p3),a.1,a.2))
def Cz (a:Int) (p1:List av) (p2:List aq) (p3 p4:Int) (p5:List av):=bU U (oW U a p1 p2 p3) 1000000 (p4,p5)
def Zu {R} (k:KX SS R) (a:Int) (p1:List av) (p2:List aq) (p3:Int) (x:(Bool×Int×List av)):Option R:=(λv=>k (.exit 0) {wR a p1 p2 p3 a v.2.2 with env:=[(31,vb v.1),(1,vu a),(4,va 0 0),(8,va 1 0),(28,vd 31 p1),(29,vi p3),(30,vi v.2.1)]}) x
def P3:a7 SS:=hs (λst=>gc (ay 165 9) (eb 1 0 93 (st)))<|bc 9 (λst=>(db (c9 st 1 0)).bind λa=>(ez 31 (c9 st 28 0)).bind λp1=>(ez 32 (dQ st 1 1)).bind λp2=>(db (c9 st 29 0)).bind λp3=>(db (c9 st 30 0)).bind λp4=>(eh st 2 93).bind λp5=>some (a,p1,p2,p3,p4,p5)) (u6 wR) (u6 (Cz shut)) (λk=>w4 (Zu k))
theorem afX:LS KK β ay Tryz.f165 165 9 P3:=aW.pre (b5.comp (b5.gc (ay 165 9)) (b5.eb 1 0 93))<|
 aW.bU (π:=Int×List av×List aq×Int×Int×List av) (σ:=Int×List av) (aj.all Ad rfl) (aO.nil) rfl 60 (λp a=>w4 wR p a.1 a.2) (λp=>(p.2.2.2.2.1,p.2.2.2.2.2)) (St:=w4 (oW shut)) (λp=>1000000) (λp=>rfl)
  (λm p a k=>by kernel_rfl)
def V5:=bo (Ac shut) ay Tryz.f165 165 [P3]
theorem V6:aX V5 β:=bw (aj.all Ad rfl) Tryz.func165 rfl aU (by kernel_rfl) afX
def Ef (s:aC) (name:Int):T (aC×Int):=.bd (lQ U name) λa=>.bf (!a) (.ok (⟨[],[]⟩,351))<|.bd (pP U s name) λb=>.bf (!b.2) (.ok (⟨[],[]⟩,4))<|.gd (wR name s.an s.ak ((↑s.an.length:Int)) 0 [])<|.bd (Cz U name s.an s.ak ((↑s.an.length:Int)) 0 []) λc=>.ok (⟨c.2.2,s.ak⟩,0)
def GI (s:aC) (name:Int):=U.s _ (Ef U s name).val
def Ae:=a_ (bY KK 165 34 28 (GI U) (ea KK 34 40)) (Ac U)
theorem Af:aj (Ae shut) β:=bZ (rs:=[34,40]) Ad V6 rfl rfl λs name k=>by kernel_rfl
def Hs (a:Int) (p1:List av) (p2:Int) (p3:Γa):AS SS:=⟨[(1,vu a),(5,vo 0),(9,vd 31 p1),(10,vl p1),(11,vi p2)],[rX 28 p3],0,none,false,[],[]⟩
def Tv (a:Int) (p1:List av) (p3:Γa):AS SS:=Hs a p1 0 p3
def tZ (U:Sh) (b:Int) (p1:List av) (p2:Int) (z0:av) (a:Γa):T (Γa⊕(Bool×Int×Γa)):=.bf (z0.aa==b) (.bd (app 8 a [z0.aY]) λc=>.ok (.inl c))<|.ok (.inl a)
def sg (U:Sh) (b:Int) (p1:List av) (p2:Int) (a:Γa):T ((Bool×Int×Γa)):=.ok (decide (p2<(↑p1.length:Int)),p2,a)
def Cl (a:Int) (p1:List av) (p3:Γa):=bC U (tZ U a p1) (sg U a p1) p1 p3
def Ze {R} (k:KX SS R) (a:Int) (p1:List av) (x:(Bool×Int×Γa)):Option R:=(λv=>k (.exit 0) {Hs a p1 a v.2.2 with env:=[(12,vb v.1),(1,vu a),(5,vo 0),(9,vd 31 p1),(10,vl p1),(11,vi v.2.1)]}) x
def PM:a7 SS:=bc 4 (sq (sI 1) (sq (sD 31 9) (hR 0 28))) (u3 Tv) (u3 (Cl shut)) (λk p=>Ze k p.1 p.2.1)
theorem afH:LS KK β ay Tryz.f150 150 4 PM:=
 aW.bH (π:=Int×List av×Γa) (σ:=Γa) (aj.all Af rfl) (aO.nil) rfl 60 (λp i a=>Hs p.1 p.2.1 i a) (λp=>p.2.1) (λp=>p.2.2) (St:=λp=>tZ shut p.1 p.2.1) (F:=λp=>sg shut p.1 p.2.1) (λp=>rfl)
  (λm p i a k=>by kernel_rfl) (λp x=>⟨_,_,λ_=>rfl⟩) (λp N C A O w a b=>bQ b (t:=31) (sl:=9) rfl λv h=>bO h)
def VH:=bo (Ae shut) ay Tryz.f150 150 [PM]
theorem VI:aX VH β:=bw (aj.all Af rfl) Tryz.func150 rfl aU (by kernel_rfl) afH
def D3 (s:aC) (pid:Int):T (Γa):=.gd (Tv pid s.an [])<|.bd (Cl U pid s.an []) λa=>.ok a.2.2
def GB (s:aC) (pid:Int):=U.s _ (D3 U s pid).val
def zN:=a_ (bY KK 150 34 28 (GB U) (bD KK 76)) (Ae U)
theorem zO:aj (zN shut) β:=bZ (rs:=[76]) Af VI rfl rfl λs pid k=>by kernel_rfl
def qz (a:Int) (p1:List aq) (p2:Int):AS SS:=⟨[(1,vu a),(8,vd 32 p1),(9,vl p1),(10,vi p2)],[],0,none,false,[],[]⟩
def uj (U:Sh) (b:Int) (p1:List aq) (p2:Int) (z0:aq) (a:Unit):T (Unit⊕Γa⊕(Bool×Int)):=.bf (z0.aa==b) (.ok (.inr (.inl z0.a6)))<|.ok (.inl ())
def sw (U:Sh) (b:Int) (p1:List aq) (p2:Int) (a:Unit):T (Γa⊕(Bool×Int)):=.ok (.inr (decide (p2<(↑p1.length:Int)),p2))
def CA (a:Int) (p1:List aq):=bC U (uj U a p1) (sw U a p1) p1 ()
def Zv {R} (k:KX SS R) (a:Int) (p1:List aq) (x:Γa⊕(Bool×Int)):Option R:=x.elim (λv=>k .ret {qz a p1 a with env:=[(4,vd 76 v)]}) (λv=>k (.exit 0) {qz a p1 a with env:=[(11,vb v.1),(1,vu a),(8,vd 32 p1),(9,vl p1),(10,vi v.2)]})
def P4:a7 SS:=bc 3 (sq (sI 1) (sD 32 8)) (λp=>u2 qz p 0) (u2 (CA shut)) (λk=>u2 (Zv k))
theorem afY:LS KK β ay Tryz.f166 166 3 P4:=
 aW.bH (aj.all zO rfl) (aO.nil) rfl 60 (λp i a=>u2 qz p i) (λp=>p.2) (λp=>()) (St:=u2 (uj shut)) (F:=u2 (sw shut)) (λp=>rfl)
  (λm p i a k=>by kernel_rfl) (by rintro p (x|x)<;>exact⟨_,_,λ_=>rfl⟩) (λp N C A O w a b=>bQ b (t:=32) (sl:=8) rfl λv h=>bO h)
def V7:=bo (zN shut) ay Tryz.f166 166 [P4]
theorem V8:aX V7 β:=bw (aj.all zO rfl) Tryz.func166 rfl aU (by kernel_rfl) afY
def Eg (s:aC) (pid:Int):T (Γa):=.gd (qz pid s.ak 0)<|.bd (CA U pid s.ak) λb=>.cs b (λa=>.ok a) λa=>.ok []
def vD (s:aC) (pid:Int):=U.s _ (Eg U s pid).val
def Ag:=a_ (bY KK 166 34 28 (vD U) (bD KK 76)) (zN U)
theorem th:aj (Ag shut) β:=bZ (rs:=[76]) zO V8 rfl rfl λs pid k=>by kernel_rfl
def wI (a:Int) (p1:Γa) (p2:List aq) (p3:List av) (p4 p5:Int) (p6:List aq):AS SS:=⟨[(1,vu a),(2,vd 76 p1),(3,va 0 0),(6,va 1 0),(7,va 2 0),(16,vd 32 p2),(17,vi p4),(18,vi p5)],[bX 34 [.aG 31 p3,.aG 32 p2],bX 34 [.v (.slice none 0 0),.v (.slice none 0 0)],bX 34 [.aG 31 p3,.own 3],rX 82 p6],0,none,false,[],[]⟩
def oS (U:Sh) (b:Int) (p1:Γa) (p2:List aq) (p3:List av) (p4:Int) (a:Int×List aq):T ((Int×List aq)⊕(Bool×Int×List aq)):=.bf (decide (a.1<p4)) (.bd (idx p2 a.1) λz0=>.bf (decide (z0.aa<b)) (.bd (app 32 a.2 [z0]) λc=>.ok (.inl (γ.wrap (a.1+1),c)))<|.ok (.inl (γ.wrap (a.1+1),a.2)))<|.ok (.inr (decide (a.1<p4),a.1,a.2))
def Cn (a:Int) (p1:Γa) (p2:List aq) (p3:List av) (p4 p5:Int) (p6:List aq):=bU U (oS U a p1 p2 p3 p4) 1000000 (p5,p6)
def Zh {R} (k:KX SS R) (a:Int) (p1:Γa) (p2:List aq) (p3:List av) (p4:Int) (x:(Bool×Int×List aq)):Option R:=(λv=>k (.exit 0) {wI a p1 p2 p3 p4 a v.2.2 with env:=[(19,vb v.1),(1,vu a),(2,vd 76 p1),(3,va 0 0),(6,va 1 0),(7,va 2 0),(16,vd 32 p2),(17,vi p4),(18,vi v.2.1)]}) x
def PQ:a7 SS:=hs (λst=>gc (ay 152 4) (eb 2 1 82 (st)))<|bc 4 (λst=>(db (c9 st 1 0)).bind λa=>(ez 76 (c9 st 2 0)).bind λp1=>(ez 32 (c9 st 16 0)).bind λp2=>(ez 31 (dQ st 0 0)).bind λp3=>(db (c9 st 17 0)).bind λp4=>(db (c9 st 18 0)).bind λp5=>(eh st 3 82).bind λp6=>some (a,p1,p2,p3,p4,p5,p6)) (u7 wI) (u7 (Cn shut)) (λk=>w5 (Zh k))
theorem afK:LS KK β ay ζH 152 4 PQ:=aW.pre (b5.comp (b5.gc (ay 152 4)) (b5.eb 2 1 82))<|
 aW.bU (π:=Int×Γa×List aq×List av×Int×Int×List aq) (σ:=Int×List aq) (aj.all th rfl) (aO.nil) rfl 60 (λp a=>w5 wI p a.1 a.2) (λp=>(p.2.2.2.2.2.1,p.2.2.2.2.2.2)) (St:=w5 (oS shut)) (λp=>1000000) (λp=>rfl)
  (λm p a k=>by kernel_rfl)
def qv (a:Int) (p1:List aq) (p2:List av) (p3:List aq) (p4:Int):AS SS:=⟨[(1,vu a),(6,va 0 0),(7,va 1 0),(45,vd 32 p1),(46,vl p1),(47,vi p4)],[bX 34 [.v (.slice none 0 0),.v (.slice none 0 0)],bX 34 [.aG 31 p2,.own 2],rX 82 p3],0,none,false,[],[]⟩
def ua (U:Sh) (b:Int) (p1:List aq) (p2:List av) (p4:Int) (z0:aq) (a:List aq):T (List aq⊕(Bool×Int×List aq)):=.bf (decide (z0.aa>b)) (.bd (app 32 a [z0]) λc=>.ok (.inl c))<|.ok (.inl a)
def sj (U:Sh) (b:Int) (p1:List aq) (p2:List av) (p4:Int) (a:List aq):T ((Bool×Int×List aq)):=.ok (decide (p4<(↑p1.length:Int)),p4,a)
def tC (a:Int) (p1:List aq) (p2:List av) (p3:List aq):=bC U (ua U a p1 p2) (sj U a p1 p2) p1 p3
def Zg {R} (k:KX SS R) (a:Int) (p1:List aq) (p2:List av) (x:(Bool×Int×List aq)):Option R:=(λv=>k (.exit 2) {qv a p1 p2 v.2.2 a with env:=[(48,vb v.1),(1,vu a),(6,va 0 0),(7,va 1 0),(45,vd 32 p1),(46,vl p1),(47,vi v.2.1)]}) x
def PO:a7 SS:=bc 12 (sq (sI 1) (sq (sD 32 45) (sq (hD 31 1 0) (hR 2 82)))) (λp=>u4 qv p 0) (u4 (tC shut)) (λk=>w3 (Zg k))
theorem afJ:LS KK β ay ζH 152 12 PO:=
 aW.bH (π:=Int×List aq×List av×List aq) (σ:=List aq) (aj.all th rfl) (aO.nil) rfl 60 (λp i a=>w3 qv p a i) (λp=>p.2.1) (λp=>p.2.2.2) (St:=w3 (ua shut)) (F:=w3 (sj shut)) (λp=>rfl)
  (λm p i a k=>by kernel_rfl) (λp x=>⟨_,_,λ_=>rfl⟩) (λp N C A O w a b=>bQ b (t:=32) (sl:=45) rfl λv h=>bO h)
def VL:=bo (Ag shut) ay ζH 152 [PQ,PO]
theorem VM:aX VL β:=(aX.fu (aj.all th rfl) Tryz.func152 rfl aU λc a=>by cases a;exact aO.cons (aO.cons (aO.nil) (by kernel_rfl) afJ) (by kernel_rfl) afK)
def D5 (s:aC) (pid:Int) (l:Γa):T aC:=.gd (wI pid l s.ak s.an ((↑s.ak.length:Int)) 0 [])<|.bd (Cn U pid l s.ak s.an ((↑s.ak.length:Int)) 0 []) λa=>.bf (decide ((↑l.length:Int)>0)) (.bd (app 32 a.2.2 [aq.mk pid l]) λb=>.gd (qv pid s.ak s.an b 0)<|.bd (tC U pid s.ak s.an b) λd=>.ok (⟨s.an,d.2.2⟩))<|.gd (qv pid s.ak s.an a.2.2 0)<|.bd (tC U pid s.ak s.an a.2.2) λc=>.ok (⟨s.an,c.2.2⟩)
def lM (s:aC) (pid:Int) (l:Γa):=U.s _ (D5 U s pid l).val
def zT:=a_ (fV KK 152 34 28 76 (lM U) (bD KK 34)) (Ag U)
theorem zU:aj (zT shut) β:=gI (rs:=[34]) th VM rfl rfl λs pid l k=>by kernel_rfl
end Go.Proofs.YtdhaaaeffhaadaaGreatDoor
end
section
namespace Go.Proofs.YtdhaaaeffhaadaaGreatDoor
open Go.RowKit Go.Dc Go.Vx
variable (U:Sh)
def xo (a:List ag) (p1:Γa) (p2:List ag) (p3:Int):AS SS:=⟨[(3,va 0 0),(22,vd 23 a),(23,vl a),(24,vi p3)],[bX 25 [.br .i64 16 p1,.aG 23 p2]],0,none,false,[],[]⟩
def DC (U:Sh) (c:List ag) (p1:Γa) (p2:List ag) (p3:Int) (z0:ag) (a:Unit):T (Unit⊕Unit⊕(Bool×Int)):=.bd (idx p2 p3) λb=>.bf (!fL z0 b) (.ok (.inr (.inl ())))<|.ok (.inl ())
def s3 (U:Sh) (b:List ag) (p1:Γa) (p2:List ag) (p3:Int) (a:Unit):T (Unit⊕(Bool×Int)):=.ok (.inr (decide (p3<(↑b.length:Int)),p3))
def MH (a:List ag) (p1:Γa) (p2:List ag):=bC U (DC U a p1 p2) (s3 U a p1 p2) a ()
def aaf {R} (k:KX SS R) (a:List ag) (p1:Γa) (p2:List ag) (x:Unit⊕(Bool×Int)):Option R:=x.elim (λv=>k .ret ⟨[(4,vb false)],[],0,none,false,[],[]⟩) (λv=>k (.exit 0) (xe [(25,vb v.1)] (xo a p1 p2 v.2)))
def QK:a7 SS:=bc 5 (sq (sD 23 22) (sq (hX dO 0 0) (hD 23 0 1))) (λp=>u3 xo p 0) (u3 (MH shut)) (λk=>u3 (aaf k))
theorem agH:LS KK β ay Tryz.f60 60 5 QK:=
 aW.bH (aj.all zU rfl) (aO.nil) rfl 60 (λp i a=>u3 xo p i) (λp=>p.1) (λp=>()) (St:=u3 (DC shut)) (F:=u3 (s3 shut)) (λp=>rfl)
  (λm p i a k=>by kernel_rfl) (by rintro p (x|x)<;>exact⟨_,_,λ_=>rfl⟩) (λp N C A O w a b=>bQ b (t:=23) (sl:=22) rfl λv h=>bO h)
def XA:=bo (zT shut) ay Tryz.f60 60 [QK]
theorem XB:aX XA β:=bw (aj.all zU rfl) Tryz.func60 rfl aU (by kernel_rfl) agH
def E6 (a b:aV):T Bool:=.bf (!a.az==b.az) (.ok false)<|.bf ((↑a.ab.length:Int) !=(↑b.ab.length:Int)) (.ok false)<|.gd (xo a.ab b.az b.ab 0)<|.bd (MH U a.ab b.az b.ab) λc=>.cs c (λ_=>.ok false) λd=>.ok true
def G6 (a b:aV):=U.s _ (E6 U a b).val
def Bx:=a_ (bY KK 60 25 25 (G6 U) (bD KK 4)) (zT U)
theorem By:aj (Bx shut) β:=bZ (rs:=[4]) zU XB rfl rfl λa b k=>by kernel_rfl
def qR (a p1:List ai) (p2:Int):AS SS:=⟨[(1,vd 26 a),(12,vd 26 p1),(13,vl p1),(14,vi p2)],[],0,none,false,[],[]⟩
def DD (U:Sh) (b p1:List ai) (p2:Int) (z0:ai) (a:Unit):T (Unit⊕Unit⊕(Bool×Int)):=.bd (idx b p2) λc=>.bf (!hP z0 c) (.ok (.inr (.inl ())))<|.ok (.inl ())
def s4 (U:Sh) (b p1:List ai) (p2:Int) (a:Unit):T (Unit⊕(Bool×Int)):=.ok (.inr (decide (p2<(↑p1.length:Int)),p2))
def MI (a p1:List ai):=bC U (DD U a p1) (s4 U a p1) p1 ()
def aag {R} (k:KX SS R) (a p1:List ai) (x:Unit⊕(Bool×Int)):Option R:=x.elim (λv=>k .ret {qR a p1 0 with env:=[(4,vb false)]}) (λv=>k (.exit 0) (xe [(15,vb v.1)] (qR a p1 v.2)))
def QL:a7 SS:=bc 5 (sq (sD 26 1) (sD 26 12)) (λp=>u2 qR p 0) (u2 (MI shut)) (λk=>u2 (aag k))
theorem agI:LS KK β ay Tryz.f61 61 5 QL:=
 aW.bH (aj.all By rfl) (aO.nil) rfl 60 (λp i a=>u2 qR p i) (λp=>p.2) (λp=>()) (St:=u2 (DD shut)) (F:=u2 (s4 shut)) (λp=>rfl)
  (λm p i a k=>by kernel_rfl) (by rintro p (x|x)<;>exact⟨_,_,λ_=>rfl⟩) (λp N C A O w a b=>bQ b (t:=26) (sl:=12) rfl λv h=>bO h)
def XC:=bo (Bx shut) ay Tryz.f61 61 [QL]
theorem XD:aX XC β:=bw (aj.all By rfl) Tryz.func61 rfl aU (by kernel_rfl) agI
def E7 (a b:List ai):T Bool:=.bf ((↑a.length:Int) !=(↑b.length:Int)) (.ok false)<|.gd (qR b a 0)<|.bd (MI U b a) λc=>.cs c (λ_=>.ok false) λd=>.ok true
def G7 (a b:List ai):=U.s _ (E7 U a b).val
def Bz:=a_ (bY KK 61 26 26 (G7 U) (bD KK 4)) (Bx U)
theorem BA:aj (Bz shut) β:=bZ (rs:=[4]) By XD rfl rfl λa b k=>by kernel_rfl
def xp (a p1:List ax) (p2 p3:Int):AS SS:=⟨[(3,va 0 0),(22,vd 27 a),(23,vl a),(24,vi p3)],[bX 30 [.aG 27 p1,lu p2]],0,none,false,[],[]⟩
def DE (U:Sh) (c p1:List ax) (p2 p3:Int) (z0:ax) (a:Unit):T (Unit⊕Unit⊕(Bool×Int)):=.bd (idx p1 p3) λb=>.bf (!jL z0 b) (.ok (.inr (.inl ())))<|.ok (.inl ())
def s5 (U:Sh) (b p1:List ax) (p2 p3:Int) (a:Unit):T (Unit⊕(Bool×Int)):=.ok (.inr (decide (p3<(↑b.length:Int)),p3))
def MJ (a p1:List ax) (p2:Int):=bC U (DE U a p1 p2) (s5 U a p1 p2) a ()
def aah {R} (k:KX SS R) (a p1:List ax) (p2:Int) (x:Unit⊕(Bool×Int)):Option R:=x.elim (λv=>k .ret ⟨[(4,vb false)],[],0,none,false,[],[]⟩) (λv=>k (.exit 0) {xp a p1 p2 p2 with env:=[(25,vb v.1),(3,va 0 0),(22,vd 27 a),(23,vl a),(24,vi v.2)]})
def QM:a7 SS:=bc 5 (sq (sD 27 22) (sq (hD 27 0 0) (hI 0 1))) (λp=>u3 xp p 0) (u3 (MJ shut)) (λk=>u3 (aah k))
theorem agJ:LS KK β ay Tryz.f62 62 5 QM:=
 aW.bH (aj.all BA rfl) (aO.nil) rfl 60 (λp i a=>u3 xp p i) (λp=>p.1) (λp=>()) (St:=u3 (DE shut)) (F:=u3 (s5 shut)) (λp=>rfl)
  (λm p i a k=>by kernel_rfl) (by rintro p (x|x)<;>exact⟨_,_,λ_=>rfl⟩) (λp N C A O w a b=>bQ b (t:=27) (sl:=22) rfl λv h=>bO h)
def XE:=bo (Bz shut) ay Tryz.f62 62 [QM]
theorem XF:aX XE β:=bw (aj.all BA rfl) Tryz.func62 rfl aU (by kernel_rfl) agJ
def E8 (a b:a1):T Bool:=.bf (a.aL !=b.aL) (.ok false)<|.bf ((↑a.ab.length:Int) !=(↑b.ab.length:Int)) (.ok false)<|.gd (xp a.ab b.ab b.aL 0)<|.bd (MJ U a.ab b.ab b.aL) λc=>.cs c (λ_=>.ok false) λd=>.ok true
def G8 (a b:a1):=U.s _ (E8 U a b).val
def BB:=a_ (bY KK 62 30 30 (G8 U) (bD KK 4)) (Bz U)
theorem BC:aj (BB shut) β:=bZ (rs:=[4]) BA XF rfl rfl λa b k=>by kernel_rfl
def qo (a p1:Γa) (p2:Int):AS SS:=⟨[(1,vd 76 a),(12,vd 76 p1),(13,vl p1),(14,vi p2)],[],0,none,false,[],[]⟩
def Dy (U:Sh) (b p1:Γa) (p2 z0:Int) (a:Unit):T (Unit⊕Unit⊕(Bool×Int)):=.bd (idx b p2) λc=>.bf (z0 !=c) (.ok (.inr (.inl ())))<|.ok (.inl ())
def r5 (U:Sh) (b p1:Γa) (p2:Int) (a:Unit):T (Unit⊕(Bool×Int)):=.ok (.inr (decide (p2<(↑p1.length:Int)),p2))
def ME (a p1:Γa):=bC U (Dy U a p1) (r5 U a p1) p1 ()
def YQ {R} (k:KX SS R) (a p1:Γa) (x:Unit⊕(Bool×Int)):Option R:=x.elim (λv=>k .ret {qo a p1 0 with env:=[(4,vb false)]}) (λv=>k (.exit 0) (xe [(15,vb v.1)] (qo a p1 v.2)))
def Pp:a7 SS:=bc 5 (sq (sD 76 1) (sD 76 12)) (λp=>u2 qo p 0) (u2 (ME shut)) (λk=>u2 (YQ k))
theorem afl:LS KK β ay Tryz.f106 106 5 Pp:=
 aW.bH (aj.all BC rfl) (aO.nil) rfl 60 (λp i a=>u2 qo p i) (λp=>p.2) (λp=>()) (St:=u2 (Dy shut)) (F:=u2 (r5 shut)) (λp=>rfl)
  (λm p i a k=>by kernel_rfl) (by rintro p (x|x)<;>exact⟨_,_,λ_=>rfl⟩) (λp N C A O w a b=>bQ b (t:=76) (sl:=12) rfl λv h=>bO h)
def Vk:=bo (BB shut) ay Tryz.f106 106 [Pp]
theorem Vl:aX Vk β:=bw (aj.all BC rfl) Tryz.func106 rfl aU (by kernel_rfl) afl
def DM (a b:Γa):T Bool:=.bf ((↑a.length:Int) !=(↑b.length:Int)) (.ok false)<|.gd (qo b a 0)<|.bd (ME U b a) λc=>.cs c (λ_=>.ok false) λd=>.ok true
def Gq (a b:Γa):=U.s _ (DM U a b).val
def zz:=a_ (bY KK 106 76 76 (Gq U) (bD KK 4)) (BB U)
theorem tf:aj (zz shut) β:=bZ (rs:=[4]) BC Vl rfl rfl λa b k=>by kernel_rfl
def xr (a:List av) (p1:List aq) (p2:List av) (p3:List aq) (p4:Int):AS SS:=⟨[(2,va 0 0),(3,va 1 0),(26,vd 31 a),(27,vl a),(28,vi p4)],[bX 34 [.aG 31 a,.aG 32 p1],bX 34 [.aG 31 p2,.aG 32 p3]],0,none,false,[],[]⟩
def DF (U:Sh) (c:List av) (p1:List aq) (p2:List av) (p3:List aq) (p4:Int) (z0:av) (a:Unit):T (Unit⊕Unit⊕(Bool×Int)):=.bd (idx p2 p4) λb=>.bf (!jM z0 b) (.ok (.inr (.inl ())))<|.ok (.inl ())
def s7 (U:Sh) (b:List av) (p1:List aq) (p2:List av) (p3:List aq) (p4:Int) (a:Unit):T (Unit⊕(Bool×Int)):=.ok (.inr (decide (p4<(↑b.length:Int)),p4))
def Df (a:List av) (p1:List aq) (p2:List av) (p3:List aq):=bC U (DF U a p1 p2 p3) (s7 U a p1 p2 p3) a ()
def aaj {R} (k:KX SS R) (a:List av) (p1:List aq) (p2:List av) (p3:List aq) (x:Unit⊕(Bool×Int)):Option R:=x.elim (λv=>k .ret ⟨[(4,vb false)],[],0,none,false,[],[]⟩) (λv=>k (.exit 0) (xe [(29,vb v.1)] (xr a p1 p2 p3 v.2)))
def QO:a7 SS:=bc 5 (sq (sD 31 26) (sq (hD 32 0 1) (sq (hD 31 1 0) (hD 32 1 1)))) (λp=>u4 xr p 0) (u4 (Df shut)) (λk=>u4 (aaj k))
theorem agL:LS KK β ay ζR 63 5 QO:=
 aW.bH (aj.all tf rfl) (aO.nil) rfl 60 (λp i a=>u4 xr p i) (λp=>p.1) (λp=>()) (St:=u4 (DF shut)) (F:=u4 (s7 shut)) (λp=>rfl)
  (λm p i a k=>by kernel_rfl) (by rintro p (x|x)<;>exact⟨_,_,λ_=>rfl⟩) (λp N C A O w a b=>bQ b (t:=31) (sl:=26) rfl λv h=>bO h)
def xq (a:List aq) (p1:List av) (p2:List aq) (p3:Int):AS SS:=⟨[(3,va 0 0),(42,vd 32 a),(43,vl a),(44,vi p3)],[bX 34 [.aG 31 p1,.aG 32 p2]],0,none,false,[],[]⟩
def uN (d:List aq) (p1:List av) (p2:List aq) (p3:Int) (z0:aq) (a:Unit):T (Unit⊕Unit⊕(Bool×Int)):=.bd (idx p2 p3) λc=>.bf (z0.aa !=c.aa) (.ok (.inr (.inl ())))<|.bd (idx p2 p3) λz2=>.bd (Gq U z0.a6 z2.a6) λb=>.bf (!b) (.ok (.inr (.inl ())))<|.ok (.inl ())
def s6 (U:Sh) (b:List aq) (p1:List av) (p2:List aq) (p3:Int) (a:Unit):T (Unit⊕(Bool×Int)):=.ok (.inr (decide (p3<(↑b.length:Int)),p3))
def De (a:List aq) (p1:List av) (p2:List aq):=bC U (uN U a p1 p2) (s6 U a p1 p2) a ()
def aai {R} (k:KX SS R) (a:List aq) (p1:List av) (p2:List aq) (x:Unit⊕(Bool×Int)):Option R:=x.elim (λv=>k .ret ⟨[(4,vb false)],[],0,none,false,[],[]⟩) (λv=>k (.exit 2) (xe [(45,vb v.1)] (xq a p1 p2 v.2)))
def QN:a7 SS:=bc 11 (sq (sD 32 42) (sq (hD 31 0 0) (hD 32 0 1))) (λp=>u3 xq p 0) (u3 (De shut)) (λk=>u3 (aai k))
theorem agK:LS KK β ay ζR 63 11 QN:=
 aW.bH (aj.all tf rfl) (aO.nil) rfl 60 (λp i a=>u3 xq p i) (λp=>p.1) (λp=>()) (St:=u3 (uN shut)) (F:=u3 (s6 shut)) (λp=>rfl)
  (λm p i a k=>by kernel_rfl) (by rintro p (x|x)<;>exact⟨_,_,λ_=>rfl⟩) (λp N C A O w a b=>bQ b (t:=32) (sl:=42) rfl λv h=>bO h)
def XG:=bo (zz shut) ay ζR 63 [QO,QN]
theorem XH:aX XG β:=(aX.fu (aj.all tf rfl) Tryz.func63 rfl aU λc a=>by cases a;exact aO.cons (aO.cons (aO.nil) (by kernel_rfl) agK) (by kernel_rfl) agL)
def E9 (a b:aC):T Bool:=.bf ((↑a.an.length:Int) !=(↑b.an.length:Int)) (.ok false)<|.bf ((↑a.ak.length:Int) !=(↑b.ak.length:Int)) (.ok false)<|.gd (xr a.an a.ak b.an b.ak 0)<|.bd (Df U a.an a.ak b.an b.ak) λc=>.cs c (λ_=>.ok false) λe=>.gd (xq a.ak b.an b.ak 0)<|.bd (De U a.ak b.an b.ak) λd=>.cs d (λ_=>.ok false) λf=>.ok true
def G9 (a b:aC):=U.s _ (E9 U a b).val
def tq:=a_ (bY KK 63 34 34 (G9 U) (bD KK 4)) (zz U)
theorem BD:aj (tq shut) β:=bZ (rs:=[4]) tf XH rfl rfl λa b k=>by kernel_rfl
def uS (a b:aF):T Bool:=.bd (G6 U a.ar b.ar) λc=>.bf (c) (.bd (G7 U a.aB b.aB) λd=>.bf (d) (.bd (G8 U a.au b.au) λe=>.bf (e) (.bd (G9 U a.ao b.ao) λf=>.ok f)<|.ok false)<|.ok false)<|.ok false
def eV (a b:aF):=U.s _ (uS U a b).val
theorem Ub:R2 KK (tq shut) 13 36 36 [4] (uS shut) (bD KK 4):=by intro R a b k;kernel_rfl
def Lq:=a_ (bY KK 13 36 36 (eV U) (bD KK 4)) (tq U)
theorem Lt:aj (Lq shut) β:=bZ BD (aj.all BD rfl) rfl rfl Ub
def EX (s:aF) (pid:Int):T Bool:=.bd (lR U s.ar.ab pid) λa=>.ok a
def lN (s:aF) (pid:Int):=U.s _ (EX U s pid).val
def L3:=a_ (bY KK 44 36 28 (lN U) (bD KK 4)) (Lq U)
theorem L5:aj (L3 shut) β:=bZ (rs:=[4]) Lt (aj.all Lt rfl) rfl rfl λs pid k=>by kernel_rfl
def EK (U:Sh) (c:bq):T Bool:=.bf (c.bb==9) (.ok true)<|.ok (c.bb==12)
def jT (c:bq):=U.s _ (EK U c).val
def LW:=a_ (cK KK 23 50 (jT U) (bD KK 4)) (L3 U)
theorem LX:aj (LW shut) β:=cR (rs:=[4]) L5 (aj.all L5 rfl) rfl rfl λc k=>by kernel_rfl
def YG (U:Sh):T aV:=.ok (⟨[1,0,0,0,0,0,0,0,0,0,0,0,0,0,0,0],[ag.mk 1 0 false 0]⟩)
def N':=U.s _ (YG U).val
def Mg:=a_ (kD KK 66 (N' U) (bD KK 25)) (LW U)
theorem Mh:aj (Mg shut) β:=ni (rs:=[25]) LX (aj.all LX rfl) rfl rfl λk=>by kernel_rfl
def YC:T aF:=.bd (N' U) λa=>.ok (⟨a,[],⟨[],1⟩,⟨[],[]⟩⟩)
def ace:=U.s _ (YC U).val
def LF:=a_ (kD KK 17 (ace U) (bD KK 36)) (Mg U)
theorem LG:aj (LF shut) β:=ni (rs:=[36]) Mh (aj.all Mh rfl) rfl rfl λk=>by kernel_rfl
end Go.Proofs.YtdhaaaeffhaadaaGreatDoor
end
section
namespace Go.Proofs.YtdhaaaeffhaadaaGreatDoor
open Go.RowKit Go.Dc Go.Vx
variable (U:Sh)
def DO (s:aF) (c:bq):T (aF×Int×Int):=.bf (c.bb==1) (.bd (Gy U s.ar (aw c.fArgs 0)) λa=>.ok (⟨a.1,s.aB,s.au,s.ao⟩,a.2.1,a.2.2))<|.bf (c.bb==3) (.bd (Gz U s.ar (aw c.fArgs 0) (aw c.fArgs 1)) λa=>.ok (⟨a.1,s.aB,s.au,s.ao⟩,a.2.1,a.2.2))<|.bd (GA U s.ar (aw c.fArgs 0) (aw c.fArgs 1)) λa=>.bf (a.2==0) (.bd (GB U s.ao (aw c.fArgs 0)) λd=>.bf (decide ((↑d.length:Int)>0)) (.bd (pM U s.aB (aw c.fArgs 0)) λb=>.bd (lM U s.ao (aw c.fArgs 0) []) λe=>.ok (⟨a.1,b,s.au,e⟩,0,341))<|.bd (pM U s.aB (aw c.fArgs 0)) λb=>.bd (lM U s.ao (aw c.fArgs 0) []) λe=>.ok (⟨a.1,b,s.au,e⟩,0,a.2))<|.bd (pM U s.aB (aw c.fArgs 0)) λd=>.bd (lM U s.ao (aw c.fArgs 0) []) λb=>.ok (⟨a.1,d,s.au,b⟩,0,a.2)
def Gr (s:aF) (c:bq):=U.s _ (DO U s c).val
def K_:=a_ (bY KK 111 36 50 (Gr U) (fN KK 36 28 40)) (LF U)
theorem K':aj (K_ shut) β:=bZ (rs:=[36,28,40]) LG (aj.all LG rfl) rfl rfl λs c k=>by kernel_rfl
def DP (s:aF) (c:bq):T (aF×Int×Int):=.bf (c.bb==4) (.bd (jV U (aw c.fArgs 1)) λe=>.bf (!e) (.ok (s,0,310))<|.bd (vB U s.au (aw c.fArgs 1)) λd=>.bf (d==0) (.ok (s,0,4))<|.bd (vC U s.aB (aw c.fArgs 0) d) λa=>.ok (⟨s.ar,a.1,s.au,s.ao⟩,ζ.wrap a.2.1,a.2.2))<|.bd (pN U (aw c.fArgs 1)) λe=>.bd (nB U s.aB (aw c.fArgs 0) e) λd=>.bf (decide (d<0)) (.ok (s,0,4))<|.bf (c.bb==5) (.bd (pN U (aw c.fArgs 1)) λa=>.bd (nB U s.aB (aw c.fArgs 0) a) λb=>.bf (decide (b<0)) (.ok (⟨s.ar,[],s.au,s.ao⟩,0,4))<|.bd (dn s.aB none (some b) none) λz4=>.bd (app 24 [] z4) λz5=>.bd (dn s.aB (ζl (λx=>x.snd) (some (γ,γ.wrap (b+1)))) none none) λf=>.bd (app 24 z5 f) λg=>.ok (⟨s.ar,g,s.au,s.ao⟩,0,0))<|.bd (pN U (aw c.fArgs 1)) λa=>.bd (GC U s.aB (aw c.fArgs 0) a) λb=>.ok (⟨s.ar,b.1,s.au,s.ao⟩,ζ.wrap b.2.1,b.2.2)
def Gs (s:aF) (c:bq):=U.s _ (DP U s c).val
def La:=a_ (bY KK 112 36 50 (Gs U) (fN KK 36 28 40)) (K_ U)
theorem Lb:aj (La shut) β:=bZ (rs:=[36,28,40]) K' (aj.all K' rfl) rfl rfl λs c k=>by kernel_rfl
def DQ (s:aF) (c:bq):T (aF×Int×Int):=.bd (jV U (aw c.fArgs 1)) λb=>.bf (!b) (.ok (s,0,310))<|.bf (c.bb==7) (.bd (GD U s.au (aw c.fArgs 1)) λa=>.ok (⟨s.ar,s.aB,a.1,s.ao⟩,a.2.1,a.2.2))<|.bf (c.bb==8) (.bd (GF U s.au (aw c.fArgs 1)) λa=>.bf (a.2==0) (.bd (pO U s.au (aw c.fArgs 1)) λd=>.bd (GG U s.aB d) λe=>.bf (decide (e>0)) (.ok (⟨s.ar,s.aB,a.1,s.ao⟩,0,341))<|.ok (⟨s.ar,s.aB,a.1,s.ao⟩,0,a.2))<|.ok (⟨s.ar,s.aB,a.1,s.ao⟩,0,a.2))<|.bd (vB U s.au (aw c.fArgs 1)) λa=>.bf (a==0) (.ok (s,0,4))<|.ok (s,a,0)
def Gt (s:aF) (c:bq):=U.s _ (DQ U s c).val
def Lc:=a_ (bY KK 113 36 50 (Gt U) (fN KK 36 28 40)) (La U)
theorem Ld:aj (Lc shut) β:=bZ (rs:=[36,28,40]) Lb (aj.all Lb rfl) rfl rfl λs c k=>by kernel_rfl
def DR (s:aF) (c:bq):T (aF×Int×Int):=.bd (lQ U (aw c.fArgs 1)) λd=>.bf (!d) (.ok (s,0,351))<|.bd (pP U s.ao (aw c.fArgs 1)) λb=>.bf (c.bb==10) (.bd (GH U s.ao (aw c.fArgs 1) (aw c.fArgs 0)) λa=>.ok (⟨s.ar,s.aB,s.au,a.1⟩,0,a.2))<|.bf (!b.2) (.ok (s,0,4))<|.bf (c.bb==12) (.ok (s,b.1,0))<|.bf (b.1 !=aw c.fArgs 0) (.ok (s,0,362))<|.bd (GI U s.ao (aw c.fArgs 1)) λa=>.ok (⟨s.ar,s.aB,s.au,a.1⟩,0,a.2)
def Gu (s:aF) (c:bq):=U.s _ (DR U s c).val
def Le:=a_ (bY KK 114 36 50 (Gu U) (fN KK 36 28 40)) (Lc U)
theorem Lf:aj (Le shut) β:=bZ (rs:=[36,28,40]) Ld (aj.all Ld rfl) rfl rfl λs c k=>by kernel_rfl
def DS (s:aF) (c:bq):T (aF×Int×Int):=.bf (c.bb==14) (.bd (vD U s.ao (aw c.fArgs 0)) λa=>.bf ((↑a.length:Int)==0) (.ok (s,0,322))<|.bd (dn a (some 1) none none) λf=>.bd (app 8 [] f) λz2=>.bd (lM U s.ao (aw c.fArgs 0) z2) λd=>.bd (idx a 0) λz4=>.ok (⟨s.ar,s.aB,s.au,d⟩,z4,0))<|.bd (lN U s (aw c.fArgs 1)) λa=>.bf (!a) (.ok (s,0,4))<|.bd (vD U s.ao (aw c.fArgs 1)) λb=>.bf ((↑b.length:Int)==4) (.ok (s,0,322))<|.bd (app 8 [] b) λz2=>.bd (app 8 z2 [aw c.fArgs 2]) λz3=>.bd (lM U s.ao (aw c.fArgs 1) z3) λe=>.ok (⟨s.ar,s.aB,s.au,e⟩,0,0)
def Gv (s:aF) (c:bq):=U.s _ (DS U s c).val
def Lg:=a_ (bY KK 115 36 50 (Gv U) (fN KK 36 28 40)) (Le U)
theorem Lh:aj (Lg shut) β:=bZ (rs:=[36,28,40]) Lf (aj.all Lf rfl) rfl rfl λs c k=>by kernel_rfl
def E_ (s:aF) (c:bq):T (aF×Int×Int):=.bf (decide (c.bb<=3)) (.bd (Gr U s c) λa=>.ok (a.1,a.2.1,a.2.2))<|.bf (decide (c.bb<=6)) (.bd (Gs U s c) λa=>.ok (a.1,a.2.1,a.2.2))<|.bf (decide (c.bb<=9)) (.bd (Gt U s c) λa=>.ok (a.1,a.2.1,a.2.2))<|.bf (decide (c.bb<=12)) (.bd (Gu U s c) λa=>.ok (a.1,a.2.1,a.2.2))<|.bd (Gv U s c) λa=>.ok (a.1,a.2.1,a.2.2)
def pW (s:aF) (c:bq):=U.s _ (E_ U s c).val
def Mk:=a_ (bY KK 69 36 50 (pW U) (fN KK 36 28 40)) (Lg U)
theorem Ml:aj (Mk shut) β:=bZ (rs:=[36,28,40]) Lh (aj.all Lh rfl) rfl rfl λs c k=>by kernel_rfl
def EC (s:aF) (c:bq):T (aF×bP):=.bf (decide (c.bb<1)) (.ok (s,⟨361,0⟩))<|.bf (decide (c.bb>14)) (.ok (s,⟨361,0⟩))<|.bd (jT U c) λd=>.bf (!d) (.bd (lN U s (aw c.fArgs 0)) λa=>.bf (!a) (.ok (s,⟨321,0⟩))<|.bd (pW U s c) λb=>.bf (b.2.2 !=0) (.ok (s,⟨b.2.2,0⟩))<|.ok (b.1,⟨0,b.2.1⟩))<|.bd (pW U s c) λa=>.bf (a.2.2 !=0) (.ok (s,⟨a.2.2,0⟩))<|.ok (a.1,⟨0,a.2.1⟩)
def vT (s:aF) (c:bq):=U.s _ (EC U s c).val
def AO:=a_ (bY KK 20 36 50 (vT U) (ea KK 36 53)) (Mk U)
theorem AU:aj (AO shut) β:=bZ (rs:=[36,53]) Ml (aj.all Ml rfl) rfl rfl λs c k=>by kernel_rfl
end Go.Proofs.YtdhaaaeffhaadaaGreatDoor
end
section
namespace Go.Proofs.YtdhaaaeffhaadaaGreatDoor
open Go.RowKit Go.Dc Go.Vx
variable (U:Sh)
def qN (a:Int) (p1:List ax) (p2:Int):AS SS:=⟨[(1,vu a),(9,vd 27 p1),(10,vl p1),(11,vi p2)],[],0,none,false,[],[]⟩
def uK (U:Sh) (b:Int) (p1:List ax) (p2:Int) (z0:ax) (a:Unit):T (Unit⊕Unit⊕(Bool×Int)):=.bf (z0.aS==b) (.ok (.inr (.inl ())))<|.ok (.inl ())
def za (U:Sh) (b:Int) (p1:List ax) (p2:Int) (a:Unit):T (Unit⊕(Bool×Int)):=.ok (.inr (decide (p2<(↑p1.length:Int)),p2))
def C_ (a:Int) (p1:List ax):=bC U (uK U a p1) (za U a p1) p1 ()
def Z7 {R} (k:KX SS R) (a:Int) (p1:List ax) (x:Unit⊕(Bool×Int)):Option R:=x.elim (λv=>k .ret {qN a p1 a with env:=[(4,vb true)]}) (λv=>k (.exit 0) {qN a p1 a with env:=[(12,vb v.1),(1,vu a),(9,vd 27 p1),(10,vl p1),(11,vi v.2)]})
def QA:a7 SS:=bc 3 (sq (sI 1) (sD 27 9)) (λp=>u2 qN p 0) (u2 (C_ shut)) (λk=>u2 (Z7 k))
theorem agx:LS KK β ay Tryz.f45 45 3 QA:=
 aW.bH (aj.all AU rfl) (aO.nil) rfl 60 (λp i a=>u2 qN p i) (λp=>p.2) (λp=>()) (St:=u2 (uK shut)) (F:=u2 (za shut)) (λp=>rfl)
  (λm p i a k=>by kernel_rfl) (by rintro p (x|x)<;>exact⟨_,_,λ_=>rfl⟩) (λp N C A O w a b=>bQ b (t:=27) (sl:=9) rfl λv h=>bO h)
def Xl:=bo (AO shut) ay Tryz.f45 45 [QA]
theorem Xm:aX Xl β:=bw (aj.all AU rfl) Tryz.func45 rfl aU (by kernel_rfl) agx
def EY (s:aF) (id:Int):T Bool:=.gd (qN id s.au.ab 0)<|.bd (C_ U id s.au.ab) λa=>.cs a (λ_=>.ok true) λb=>.ok false
def GV (s:aF) (id:Int):=U.s _ (EY U s id).val
def L6:=a_ (bY KK 45 36 28 (GV U) (bD KK 4)) (AO U)
theorem L7:aj (L6 shut) β:=bZ (rs:=[4]) AU Xm rfl rfl λs id k=>by kernel_rfl
def Fc (p:aV) (x:ag):T Bool:=.bd (iX U x.aa) λa=>.bf (decide (a<1)) (.ok false)<|.bf (decide (a>16)) (.ok false)<|.bd (dq (γ.wrap (a-1)) 16) λc=>.bf (ζ.wrap (x.aa.tdiv 64) !=ζ.wrap (γ.wrap (aw p.az c-1))) (.ok false)<|.bf (x.aT==x.aa) (.ok false)<|.bf (x.aT !=0) (.bd (lR U p.ab x.aT) λb=>.bf (!b) (.ok false)<|.bf (x.ba) (.ok (x.aT !=0))<|.ok (x.bT==0))<|.bf (x.ba) (.ok (x.aT !=0))<|.ok (x.bT==0)
def v' (p:aV) (x:ag):=U.s _ (Fc U p x).val
def BH:=a_ (bY KK 80 25 69 (v' U) (bD KK 4)) (L6 U)
theorem tt:aj (BH shut) β:=bZ (rs:=[4]) L7 (aj.all L7 rfl) rfl rfl λp x k=>by kernel_rfl
def xf (a:Γa) (p1:List ag) (p2:Int):AS SS:=⟨[(1,va 0 0),(8,.s (.agg [.br .i64 16 a])),(9,vi p2)],[bX 25 [.br .i64 16 a,.aG 23 p1]],0,none,false,[],[]⟩
def MT (U:Sh) (b:Γa) (p1:List ag) (a:Int):T (Int⊕Unit⊕(Bool×Int)):=.bf (decide (a<16)) (.bd (dq a 16) λz0=>.bf (decide (aw b z0<0)) (.ok (.inr (.inl ())))<|.bf (decide (aw b z0>65536)) (.ok (.inr (.inl ())))<|.ok (.inl (γ.wrap (a+1))))<|.ok (.inr (.inr (decide (a<16),a)))
def C4 (a:Γa) (p1:List ag) (p2:Int):=bU U (MT U a p1) 1000000 p2
def Z0 {R} (k:KX SS R) (a:Γa) (p1:List ag) (x:Unit⊕(Bool×Int)):Option R:=x.elim (λv=>k .ret ⟨[(2,vb false)],[],0,none,false,[],[]⟩) (λv=>k (.exit 0) (xe [(10,vb v.1)] (xf a p1 v.2)))
def Qu:a7 SS:=bc 3 (sq (sX dO 8) (sq (hD 23 0 1) (sI 9))) (u3 xf) (u3 (C4 shut)) (λk p=>Z0 k p.1 p.2.1)
theorem agp:LS KK β ay ζS 40 3 Qu:=
 aW.bU (π:=Γa×List ag×Int) (σ:=Int) (aj.all tt rfl) (aO.nil) rfl 60 (λp a=>xf p.1 p.2.1 a) (λp=>p.2.2) (St:=λp=>MT shut p.1 p.2.1) (λp=>1000000) (λp=>rfl)
  (λm p a k=>by kernel_rfl)
def xg (a:List ag) (p1:Γa) (p2:Int):AS SS:=⟨[(1,va 0 0),(20,vd 23 a),(21,vl a),(22,vi p2)],[bX 25 [.br .i64 16 p1,.aG 23 a]],0,none,false,[],[]⟩
def uF (b:List ag) (p1:Γa) (p2:Int) (z0:ag) (a:Unit):T (Unit⊕Unit⊕(Bool×Int)):=.bd (v' U (aV.mk p1 b) z0) λc=>.bf (!c) (.ok (.inr (.inl ())))<|.bf (decide (p2>0)) (.bd (idx b (γ.wrap (p2-1))) λz2=>.bd (iX U z2.aa) λd=>.bd (iX U z0.aa) λe=>.bf (decide (d>=e)) (.ok (.inr (.inl ())))<|.ok (.inl ()))<|.ok (.inl ())
def sN (U:Sh) (b:List ag) (p1:Γa) (p2:Int) (a:Unit):T (Unit⊕(Bool×Int)):=.ok (.inr (decide (p2<(↑b.length:Int)),p2))
def C5 (a:List ag) (p1:Γa):=bC U (uF U a p1) (sN U a p1) a ()
def Z1 {R} (k:KX SS R) (a:List ag) (p1:Γa) (x:Unit⊕(Bool×Int)):Option R:=x.elim (λv=>k .ret ⟨[(2,vb false)],[],0,none,false,[],[]⟩) (λv=>k (.exit 2) (xe [(23,vb v.1)] (xg a p1 v.2)))
def Qv:a7 SS:=bc 9 (sq (sD 23 20) (hX dO 0 0)) (λp=>u2 xg p 0) (u2 (C5 shut)) (λk=>u2 (Z1 k))
theorem agq:LS KK β ay ζS 40 9 Qv:=
 aW.bH (aj.all tt rfl) (aO.nil) rfl 60 (λp i a=>u2 xg p i) (λp=>p.1) (λp=>()) (St:=u2 (uF shut)) (F:=u2 (sN shut)) (λp=>rfl)
  (λm p i a k=>by kernel_rfl) (by rintro p (x|x)<;>exact⟨_,_,λ_=>rfl⟩) (λp N C A O w a b=>bQ b (t:=23) (sl:=20) rfl λv h=>bO h)
def Xd:=bo (BH shut) ay ζS 40 [Qu,Qv]
theorem Xe:aX Xd β:=(aX.fu (aj.all tt rfl) Tryz.func40 rfl aU λc a=>by cases a;exact aO.cons (aO.cons (aO.nil) (by kernel_rfl) agq) (by kernel_rfl) agp)
def ET (p:aV):T Bool:=.gd (xf p.az p.ab 0)<|.bd (C4 U p.az p.ab 0) λa=>.cs a (λ_=>.ok false) λc=>.gd (xg p.ab p.az 0)<|.bd (C5 U p.ab p.az) λb=>.cs b (λ_=>.ok false) λd=>.bf (decide ((↑p.ab.length:Int)>0)) (.bd (idx p.ab 0) λz2=>.ok (fL z2 (ag.mk 1 0 false 0)))<|.ok false
def GR (p:aV):=U.s _ (ET U p).val
def L1:=a_ (cK KK 40 25 (GR U) (bD KK 4)) (BH U)
theorem L2:aj (L1 shut) β:=cR (rs:=[4]) tt Xe rfl rfl λp k=>by kernel_rfl
def Fe (U:Sh) (d:ai):T Bool:=.bf (decide (d.aa<4294967296)) (.bf (decide (d.bm>=0)) (.ok (decide (d.bm<=7)))<|.ok false)<|.ok false
def Ha (d:ai):=U.s _ (Fe U d).val
def BK:=a_ (cK KK 82 89 (Ha U) (bD KK 4)) (L1 U)
theorem BL:aj (BK shut) β:=cR (rs:=[4]) L2 (aj.all L2 rfl) rfl rfl λd k=>by kernel_rfl
def qL (a:List ai) (p1:Int):AS SS:=⟨[(0,vd 26 a),(5,vd 26 a),(6,vl a),(7,vi p1)],[],0,none,false,[],[]⟩
def o7 (b:List ai) (p1:Int) (z0:ai) (a:Unit):T (Unit⊕Unit⊕(Bool×Int)):=.bd (Ha U z0) λc=>.bf (!c) (.ok (.inr (.inl ())))<|.bf (decide (p1>0)) (.bd (idx b (γ.wrap (p1-1))) λz2=>.bd (pY U z2 z0) λd=>.bf (!d) (.ok (.inr (.inl ())))<|.ok (.inl ()))<|.ok (.inl ())
def sO (U:Sh) (b:List ai) (p1:Int) (a:Unit):T (Unit⊕(Bool×Int)):=.ok (.inr (decide (p1<(↑b.length:Int)),p1))
def C6 (a:List ai):=bC U (o7 U a) (sO U a) a ()
def Z2 {R} (k:KX SS R) (a:List ai) (x:Unit⊕(Bool×Int)):Option R:=x.elim (λv=>k .ret {qL a 0 with env:=[(2,vb false)]}) (λv=>k (.exit 0) (xe [(8,vb v.1)] (qL a v.2)))
def Qw:a7 SS:=bc 3 (sD 26 0) (λp=>qL p 0) (λp=>C6 shut p) (λk p=>Z2 k p)
theorem ags:LS KK β ay Tryz.f41 41 3 Qw:=
 aW.bH (π:=List ai) (aj.all BL rfl) (aO.nil) rfl 60 (λp i a=>qL p i) (λp=>p) (λp=>()) (St:=λp=>o7 shut p) (F:=λp=>sO shut p) (λp=>rfl)
  (λm p i a k=>by kernel_rfl) (by rintro p (x|x)<;>exact⟨_,_,λ_=>rfl⟩) (λp N C A O w a b=>bQ b (t:=26) (sl:=0) rfl λv h=>bO h)
def Xf:=bo (BK shut) ay Tryz.f41 41 [Qw]
theorem Xg:aX Xf β:=bw (aj.all BL rfl) Tryz.func41 rfl aU (by kernel_rfl) ags
def EU (l:List ai):T Bool:=.gd (qL l 0)<|.bd (C6 U l) λa=>.cs a (λ_=>.ok false) λb=>.ok (decide ((↑l.length:Int)<=64))
def GS (l:List ai):=U.s _ (EU U l).val
def Bl:=a_ (cK KK 41 26 (GS U) (bD KK 4)) (BK U)
theorem tl:aj (Bl shut) β:=cR (rs:=[4]) BL Xg rfl rfl λl k=>by kernel_rfl
def qM (a:List ax) (p1:Int) (p2:List ax) (p3 p4 p5 p6:Int):AS SS:=⟨[(1,va 0 0),(4,va 1 0),(8,vd 27 a),(9,vl a),(10,vi p1),(50,vd 27 p2),(51,vl p2),(52,vi p6)],[bX 30 [.aG 27 a,lu p3],bX 71 [lu p4,lu p5]],0,none,false,[],[]⟩
def uH (U:Sh) (b:List ax) (p1:Int) (p2:List ax) (p3 p4 p5 p6:Int) (z0:ax) (a:Unit):T (Unit⊕Unit⊕(Bool×Int)):=.bf (z0.aP==p4) (.ok (.inr (.inl ())))<|.ok (.inl ())
def sQ (U:Sh) (b:List ax) (p1:Int) (p2:List ax) (p3 p4 p5 p6:Int) (a:Unit):T (Unit⊕(Bool×Int)):=.ok (.inr (decide (p6<(↑p2.length:Int)),p6))
def tD (a:List ax) (p1:Int) (p2:List ax) (p3 p4 p5:Int):=bC U (uH U a p1 p2 p3 p4 p5) (sQ U a p1 p2 p3 p4 p5) p2 ()
def Z4 {R} (k:KX SS R) (a:List ax) (p1:Int) (p2:List ax) (p3 p4 p5:Int) (x:Unit⊕(Bool×Int)):Option R:=x.elim (λv=>k .ret ⟨[(2,vb false)],[],0,none,false,[],[]⟩) (λv=>k (.exit 2) {qM a p1 p2 p3 p4 p5 p1 with env:=[(53,vb v.1),(1,va 0 0),(4,va 1 0),(8,vd 27 a),(9,vl a),(10,vi p1),(50,vd 27 p2),(51,vl p2),(52,vi v.2)]})
def Ie:a7 SS:=bc 8 (sq (sD 27 8) (sq (sI 10) (sq (sD 27 50) (sq (hI 0 1) (sq (hI 1 0) (hI 1 1)))))) (λp=>u6 qM p 0) (u6 (tD shut)) (λk=>u6 (Z4 k))
theorem Sk:LS KK β ay ζp 42 8 Ie:=
 aW.bH (aj.all tl rfl) (aO.nil) rfl 60 (λp i a=>u6 qM p i) (λp=>p.2.2.1) (λp=>()) (St:=u6 (uH shut)) (F:=u6 (sQ shut)) (λp=>rfl)
  (λm p i a k=>by kernel_rfl) (by rintro p (x|x)<;>exact⟨_,_,λ_=>rfl⟩) (λp N C A O w a b=>bQ b (t:=27) (sl:=50) rfl λv h=>bO h)
def xh (a:List ax) (p1 p2:Int):AS SS:=⟨[(1,va 0 0),(8,vd 27 a),(9,vl a),(10,vi p2)],[bX 30 [.aG 27 a,lu p1]],0,none,false,[],[]⟩
def uG (b:List ax) (p1 p2:Int) (z0:ax) (a:Unit):T (Unit⊕Unit⊕(Bool×Int)):=.bd (jV U z0.aP) λe=>.bf (!e) (.ok (.inr (.inl ())))<|.bf (decide (z0.aS<1)) (.ok (.inr (.inl ())))<|.bf (decide (z0.aS>=p1)) (.ok (.inr (.inl ())))<|.bf (decide (p2>0)) (.bd (idx b (γ.wrap (p2-1))) λz2=>.bf (decide (z2.aS>=z0.aS)) (.ok (.inr (.inl ())))<|.bd (dn b none (some p2) none) λz3=>.gd (qM b p2 z3 p1 z0.aP z0.aS 0)<|.bd (tD U b p2 z3 p1 z0.aP z0.aS) λd=>.cs d (λ_=>.ok (.inr (.inl ()))) λg=>.ok (.inl ()))<|.bd (dn b none (some p2) none) λz2=>.gd (qM b p2 z2 p1 z0.aP z0.aS 0)<|.bd (tD U b p2 z2 p1 z0.aP z0.aS) λc=>.cs c (λ_=>.ok (.inr (.inl ()))) λf=>.ok (.inl ())
def sP (U:Sh) (b:List ax) (p1 p2:Int) (a:Unit):T (Unit⊕(Bool×Int)):=.ok (.inr (decide (p2<(↑b.length:Int)),p2))
def C7 (a:List ax) (p1:Int):=bC U (uG U a p1) (sP U a p1) a ()
def Z3 {R} (k:KX SS R) (a:List ax) (p1:Int) (x:Unit⊕(Bool×Int)):Option R:=x.elim (λv=>k .ret ⟨[(2,vb false)],[],0,none,false,[],[]⟩) (λv=>k (.exit 0) {xh a p1 p1 with env:=[(11,vb v.1),(1,va 0 0),(8,vd 27 a),(9,vl a),(10,vi v.2)]})
def Qx:a7 SS:=bc 3 (sq (sD 27 8) (hI 0 1)) (λp=>u2 xh p 0) (u2 (C7 shut)) (λk=>u2 (Z3 k))
theorem agt:LS KK β ay ζp 42 3 Qx:=
 aW.bH (I:=⟨⟨ζp,ay 42⟩,[Ie]⟩) (aj.all tl rfl) (aO.cons (aO.nil) (by kernel_rfl) Sk) rfl 60 (λp i a=>u2 xh p i) (λp=>p.1) (λp=>()) (St:=u2 (uG shut)) (F:=u2 (sP shut)) (λp=>rfl)
  (λm p i a k=>by kernel_rfl) (by rintro p (x|x)<;>exact⟨_,_,λ_=>rfl⟩) (λp N C A O w a b=>bQ b (t:=27) (sl:=8) rfl λv h=>bO h)
def Xh:=bo (Bl shut) ay ζp 42 [Ie,Qx]
theorem Xi:aX Xh β:=(aX.fu (aj.all tl rfl) Tryz.func42 rfl aU λc a=>by cases a;exact aO.cons (aO.cons (aO.nil) (by kernel_rfl) agt) (by kernel_rfl) Sk)
def EV (m:a1):T Bool:=.gd (xh m.ab m.aL 0)<|.bd (C7 U m.ab m.aL) λa=>.cs a (λ_=>.ok false) λb=>.bf (decide ((↑m.ab.length:Int)<=16)) (.bf (decide (m.aL>=1)) (.ok (decide (m.aL<=1073741825)))<|.ok false)<|.ok false
def v_ (m:a1):=U.s _ (EV U m).val
def Bm:=a_ (cK KK 42 30 (v_ U) (bD KK 4)) (Bl U)
theorem tn:aj (Bm shut) β:=cR (rs:=[4]) tl Xi rfl rfl λm k=>by kernel_rfl
def xi (a:List av) (p1:List aq) (p2:Int):AS SS:=⟨[(1,va 0 0),(8,vd 31 a),(9,vl a),(10,vi p2)],[bX 34 [.aG 31 a,.aG 32 p1]],0,none,false,[],[]⟩
def uI (b:List av) (p1:List aq) (p2:Int) (z0:av) (a:Unit):T (Unit⊕Unit⊕(Bool×Int)):=.bd (lQ U z0.aY) λc=>.bf (!c) (.ok (.inr (.inl ())))<|.bd (pZ U z0.aa) λd=>.bf (!d) (.ok (.inr (.inl ())))<|.bf (decide (p2>0)) (.bd (idx b (γ.wrap (p2-1))) λz3=>.bf (decide (z3.aY>=z0.aY)) (.ok (.inr (.inl ())))<|.ok (.inl ()))<|.ok (.inl ())
def sR (U:Sh) (b:List av) (p1:List aq) (p2:Int) (a:Unit):T (Unit⊕(Bool×Int)):=.ok (.inr (decide (p2<(↑b.length:Int)),p2))
def C8 (a:List av) (p1:List aq):=bC U (uI U a p1) (sR U a p1) a ()
def Z5 {R} (k:KX SS R) (a:List av) (p1:List aq) (x:Unit⊕(Bool×Int)):Option R:=x.elim (λv=>k .ret ⟨[(2,vb false)],[],0,none,false,[],[]⟩) (λv=>k (.exit 0) (xe [(11,vb v.1)] (xi a p1 v.2)))
def Qy:a7 SS:=bc 3 (sq (sD 31 8) (hD 32 0 1)) (λp=>u2 xi p 0) (u2 (C8 shut)) (λk=>u2 (Z5 k))
theorem agu:LS KK β ay ζT 43 3 Qy:=
 aW.bH (aj.all tn rfl) (aO.nil) rfl 60 (λp i a=>u2 xi p i) (λp=>p.1) (λp=>()) (St:=u2 (uI shut)) (F:=u2 (sR shut)) (λp=>rfl)
  (λm p i a k=>by kernel_rfl) (by rintro p (x|x)<;>exact⟨_,_,λ_=>rfl⟩) (λp N C A O w a b=>bQ b (t:=31) (sl:=8) rfl λv h=>bO h)
def xj (a:List aq) (p1:List av) (p2:Int):AS SS:=⟨[(1,va 0 0),(43,vd 32 a),(44,vl a),(45,vi p2)],[bX 34 [.aG 31 p1,.aG 32 a]],0,none,false,[],[]⟩
def uJ (b:List aq) (p1:List av) (p2:Int) (z0:aq) (a:Unit):T (Unit⊕Unit⊕(Bool×Int)):=.bd (pZ U z0.aa) λc=>.bf (!c) (.ok (.inr (.inl ())))<|.bf ((↑z0.a6.length:Int)==0) (.ok (.inr (.inl ())))<|.bf (decide ((↑z0.a6.length:Int)>4)) (.ok (.inr (.inl ())))<|.bf (decide (p2>0)) (.bd (idx b (γ.wrap (p2-1))) λz2=>.bf (decide (z2.aa>=z0.aa)) (.ok (.inr (.inl ())))<|.ok (.inl ()))<|.ok (.inl ())
def sS (U:Sh) (b:List aq) (p1:List av) (p2:Int) (a:Unit):T (Unit⊕(Bool×Int)):=.ok (.inr (decide (p2<(↑b.length:Int)),p2))
def C9 (a:List aq) (p1:List av):=bC U (uJ U a p1) (sS U a p1) a ()
def Z6 {R} (k:KX SS R) (a:List aq) (p1:List av) (x:Unit⊕(Bool×Int)):Option R:=x.elim (λv=>k .ret ⟨[(2,vb false)],[],0,none,false,[],[]⟩) (λv=>k (.exit 2) (xe [(46,vb v.1)] (xj a p1 v.2)))
def Qz:a7 SS:=bc 9 (sq (sD 32 43) (hD 31 0 0)) (λp=>u2 xj p 0) (u2 (C9 shut)) (λk=>u2 (Z6 k))
theorem agv:LS KK β ay ζT 43 9 Qz:=
 aW.bH (aj.all tn rfl) (aO.nil) rfl 60 (λp i a=>u2 xj p i) (λp=>p.1) (λp=>()) (St:=u2 (uJ shut)) (F:=u2 (sS shut)) (λp=>rfl)
  (λm p i a k=>by kernel_rfl) (by rintro p (x|x)<;>exact⟨_,_,λ_=>rfl⟩) (λp N C A O w a b=>bQ b (t:=32) (sl:=43) rfl λv h=>bO h)
def Xj:=bo (Bm shut) ay ζT 43 [Qy,Qz]
theorem Xk:aX Xj β:=(aX.fu (aj.all tn rfl) Tryz.func43 rfl aU λc a=>by cases a;exact aO.cons (aO.cons (aO.nil) (by kernel_rfl) agv) (by kernel_rfl) agu)
def EW (s:aC):T Bool:=.gd (xi s.an s.ak 0)<|.bd (C8 U s.an s.ak) λa=>.cs a (λ_=>.ok false) λc=>.gd (xj s.ak s.an 0)<|.bd (C9 U s.ak s.an) λb=>.cs b (λ_=>.ok false) λd=>.ok (decide ((↑s.an.length:Int)<=16))
def GU (s:aC):=U.s _ (EW U s).val
def Bn:=a_ (cK KK 43 34 (GU U) (bD KK 4)) (Bm U)
theorem oI:aj (Bn shut) β:=cR (rs:=[4]) tn Xk rfl rfl λs k=>by kernel_rfl
def wv (a:List ai) (p1:Γa) (p2:List ag) (p3:List ax) (p4:Int) (p5:List av) (p6:List aq) (p7:Int):AS SS:=⟨[(1,va 0 0),(32,vd 26 a),(33,vl a),(34,vi p7)],[bX 36 [.br .i64 16 p1,.aG 23 p2,.aG 26 a,.aG 27 p3,lu p4,.aG 31 p5,.aG 32 p6]],0,none,false,[],[]⟩
def tQ (b:List ai) (p1:Γa) (p2:List ag) (p3:List ax) (p4:Int) (p5:List av) (p6:List aq) (p7:Int) (z0:ai) (a:Unit):T (Unit⊕Unit⊕(Bool×Int)):=.bd (lN U (aF.mk (aV.mk p1 p2) b (a1.mk p3 p4) (aC.mk p5 p6)) z0.aa) λc=>.bf (!c) (.ok (.inr (.inl ())))<|.bd (GV U (aF.mk (aV.mk p1 p2) b (a1.mk p3 p4) (aC.mk p5 p6)) z0.b3) λd=>.bf (!d) (.ok (.inr (.inl ())))<|.ok (.inl ())
def r8 (U:Sh) (b:List ai) (p1:Γa) (p2:List ag) (p3:List ax) (p4:Int) (p5:List av) (p6:List aq) (p7:Int) (a:Unit):T (Unit⊕(Bool×Int)):=.ok (.inr (decide (p7<(↑b.length:Int)),p7))
def B5 (a:List ai) (p1:Γa) (p2:List ag) (p3:List ax) (p4:Int) (p5:List av) (p6:List aq):=bC U (tQ U a p1 p2 p3 p4 p5 p6) (r8 U a p1 p2 p3 p4 p5 p6) a ()
def YT {R} (k:KX SS R) (a:List ai) (p1:Γa) (p2:List ag) (p3:List ax) (p4:Int) (p5:List av) (p6:List aq) (x:Unit⊕(Bool×Int)):Option R:=x.elim (λv=>k .ret ⟨[(2,vb false)],[],0,none,false,[],[]⟩) (λv=>k (.exit 0) {wv a p1 p2 p3 p4 p5 p6 p4 with env:=[(35,vb v.1),(1,va 0 0),(32,vd 26 a),(33,vl a),(34,vi v.2)]})
def Ps:a7 SS:=bc 5 (sq (sD 26 32) (sq (hX dO 0 0) (sq (hD 23 0 1) (sq (hD 27 0 3) (sq (hI 0 4) (sq (hD 31 0 5) (hD 32 0 6))))))) (λp=>u7 wv p 0) (u7 (B5 shut)) (λk=>u7 (YT k))
theorem afo:LS KK β ay ζq 10 5 Ps:=
 aW.bH (aj.all oI rfl) (aO.nil) rfl 60 (λp i a=>u7 wv p i) (λp=>p.1) (λp=>()) (St:=u7 (tQ shut)) (F:=u7 (r8 shut)) (λp=>rfl)
  (λm p i a k=>by kernel_rfl) (by rintro p (x|x)<;>exact⟨_,_,λ_=>rfl⟩) (λp N C A O w a b=>bQ b (t:=26) (sl:=32) rfl λv h=>bO h)
def wq (a:List av) (p1:Γa) (p2:List ag) (p3:List ai) (p4:List ax) (p5:Int) (p6:List aq) (p7:Int):AS SS:=⟨[(1,va 0 0),(53,vd 31 a),(54,vl a),(55,vi p7)],[bX 36 [.br .i64 16 p1,.aG 23 p2,.aG 26 p3,.aG 27 p4,lu p5,.aG 31 a,.aG 32 p6]],0,none,false,[],[]⟩
def tO (b:List av) (p1:Γa) (p2:List ag) (p3:List ai) (p4:List ax) (p5:Int) (p6:List aq) (p7:Int) (z0:av) (a:Unit):T (Unit⊕Unit⊕(Bool×Int)):=.bd (lN U (aF.mk (aV.mk p1 p2) p3 (a1.mk p4 p5) (aC.mk b p6)) z0.aa) λc=>.bf (!c) (.ok (.inr (.inl ())))<|.ok (.inl ())
def r6 (U:Sh) (b:List av) (p1:Γa) (p2:List ag) (p3:List ai) (p4:List ax) (p5:Int) (p6:List aq) (p7:Int) (a:Unit):T (Unit⊕(Bool×Int)):=.ok (.inr (decide (p7<(↑b.length:Int)),p7))
def B3 (a:List av) (p1:Γa) (p2:List ag) (p3:List ai) (p4:List ax) (p5:Int) (p6:List aq):=bC U (tO U a p1 p2 p3 p4 p5 p6) (r6 U a p1 p2 p3 p4 p5 p6) a ()
def YR {R} (k:KX SS R) (a:List av) (p1:Γa) (p2:List ag) (p3:List ai) (p4:List ax) (p5:Int) (p6:List aq) (x:Unit⊕(Bool×Int)):Option R:=x.elim (λv=>k .ret ⟨[(2,vb false)],[],0,none,false,[],[]⟩) (λv=>k (.exit 2) {wq a p1 p2 p3 p4 p5 p6 p5 with env:=[(56,vb v.1),(1,va 0 0),(53,vd 31 a),(54,vl a),(55,vi v.2)]})
def Pq:a7 SS:=bc 11 (sq (sD 31 53) (sq (hX dO 0 0) (sq (hD 23 0 1) (sq (hD 26 0 2) (sq (hD 27 0 3) (sq (hI 0 4) (hD 32 0 6))))))) (λp=>u7 wq p 0) (u7 (B3 shut)) (λk=>u7 (YR k))
theorem afm:LS KK β ay ζq 10 11 Pq:=
 aW.bH (aj.all oI rfl) (aO.nil) rfl 60 (λp i a=>u7 wq p i) (λp=>p.1) (λp=>()) (St:=u7 (tO shut)) (F:=u7 (r6 shut)) (λp=>rfl)
  (λm p i a k=>by kernel_rfl) (by rintro p (x|x)<;>exact⟨_,_,λ_=>rfl⟩) (λp N C A O w a b=>bQ b (t:=31) (sl:=53) rfl λv h=>bO h)
def wu (a:List aq) (p1:Γa) (p2:List ag) (p3:List ai) (p4:List ax) (p5:Int) (p6:List av) (p7:Int):AS SS:=⟨[(1,va 0 0),(67,vd 32 a),(68,vl a),(69,vi p7)],[bX 36 [.br .i64 16 p1,.aG 23 p2,.aG 26 p3,.aG 27 p4,lu p5,.aG 31 p6,.aG 32 a]],0,none,false,[],[]⟩
def tP (b:List aq) (p1:Γa) (p2:List ag) (p3:List ai) (p4:List ax) (p5:Int) (p6:List av) (p7:Int) (z0:aq) (a:Unit):T (Unit⊕Unit⊕(Bool×Int)):=.bd (lN U (aF.mk (aV.mk p1 p2) p3 (a1.mk p4 p5) (aC.mk p6 b)) z0.aa) λc=>.bf (!c) (.ok (.inr (.inl ())))<|.ok (.inl ())
def r7 (U:Sh) (b:List aq) (p1:Γa) (p2:List ag) (p3:List ai) (p4:List ax) (p5:Int) (p6:List av) (p7:Int) (a:Unit):T (Unit⊕(Bool×Int)):=.ok (.inr (decide (p7<(↑b.length:Int)),p7))
def B4 (a:List aq) (p1:Γa) (p2:List ag) (p3:List ai) (p4:List ax) (p5:Int) (p6:List av):=bC U (tP U a p1 p2 p3 p4 p5 p6) (r7 U a p1 p2 p3 p4 p5 p6) a ()
def YS {R} (k:KX SS R) (a:List aq) (p1:Γa) (p2:List ag) (p3:List ai) (p4:List ax) (p5:Int) (p6:List av) (x:Unit⊕(Bool×Int)):Option R:=x.elim (λv=>k .ret ⟨[(2,vb false)],[],0,none,false,[],[]⟩) (λv=>k (.exit 4) {wu a p1 p2 p3 p4 p5 p6 p5 with env:=[(70,vb v.1),(1,va 0 0),(67,vd 32 a),(68,vl a),(69,vi v.2)]})
def Pr:a7 SS:=bc 17 (sq (sD 32 67) (sq (hX dO 0 0) (sq (hD 23 0 1) (sq (hD 26 0 2) (sq (hD 27 0 3) (sq (hI 0 4) (hD 31 0 5))))))) (λp=>u7 wu p 0) (u7 (B4 shut)) (λk=>u7 (YS k))
theorem afn:LS KK β ay ζq 10 17 Pr:=
 aW.bH (aj.all oI rfl) (aO.nil) rfl 60 (λp i a=>u7 wu p i) (λp=>p.1) (λp=>()) (St:=u7 (tP shut)) (F:=u7 (r7 shut)) (λp=>rfl)
  (λm p i a k=>by kernel_rfl) (by rintro p (x|x)<;>exact⟨_,_,λ_=>rfl⟩) (λp N C A O w a b=>bQ b (t:=32) (sl:=67) rfl λv h=>bO h)
def Vm:=bo (Bn shut) ay ζq 10 [Ps,Pq,Pr]
theorem Vn:aX Vm β:=(aX.fu (aj.all oI rfl) Tryz.func10 rfl aU λc a=>by cases a;exact aO.cons (aO.cons (aO.cons (aO.nil) (by kernel_rfl) afn) (by kernel_rfl) afm) (by kernel_rfl) afo)
def DH (s:aF):T Bool:=.bd (GR U s.ar) λc=>.bf (!c) (.ok false)<|.bd (GS U s.aB) λd=>.bf (!d) (.ok false)<|.bd (v_ U s.au) λe=>.bf (!e) (.ok false)<|.bd (GU U s.ao) λf=>.bf (!f) (.ok false)<|.gd (wv s.aB s.ar.az s.ar.ab s.au.ab s.au.aL s.ao.an s.ao.ak 0)<|.bd (B5 U s.aB s.ar.az s.ar.ab s.au.ab s.au.aL s.ao.an s.ao.ak) λb=>.cs b (λ_=>.ok false) λg=>.gd (wq s.ao.an s.ar.az s.ar.ab s.aB s.au.ab s.au.aL s.ao.ak 0)<|.bd (B3 U s.ao.an s.ar.az s.ar.ab s.aB s.au.ab s.au.aL s.ao.ak) λx9=>.cs x9 (λ_=>.ok false) λh=>.gd (wu s.ao.ak s.ar.az s.ar.ab s.aB s.au.ab s.au.aL s.ao.an 0)<|.bd (B4 U s.ao.ak s.ar.az s.ar.ab s.aB s.au.ab s.au.aL s.ao.an) λa=>.cs a (λ_=>.ok false) λi=>.ok true
def pJ (s:aF):=U.s _ (DH U s).val
def K7:=a_ (cK KK 10 36 (pJ U) (bD KK 4)) (Bn U)
theorem X7:aj (K7 shut) β:=cR (rs:=[4]) oI Vn rfl rfl λs k=>by kernel_rfl
end Go.Proofs.YtdhaaaeffhaadaaGreatDoor
end
section
namespace Go.Proofs.YtdhaaaeffhaadaaGreatDoor
open Go.RowKit Go.Dc Go.Vx
theorem cr {x:Int} (a: -9223372036854775808<=x) (b:x<9223372036854775808):γ.wrap x=x:=by
 simp[ζI,ζk,ζJ];omega
theorem fT {x:Int} (a:0<=x) (b:x<18446744073709551616):ζ.wrap x=x:=by
 simp[ζI,ζk,ζJ];omega
def ix (pid:Int):Int:=γ.wrap (pid.tmod 64)
theorem qZ {pid:Int} (h:0<=pid):ix pid=pid%64:=by
 unfold ix;rw[Int.tmod_eq_emod_of_nonneg h];exact cr (by omega) (by omega)
@[simp] theorem rS (pid:Int):iX ae pid=some (ix pid):=rfl
@[simp] theorem v93 (pid:Int):lS ae pid=some (ix pid):=rfl
def eN (l:List ag) (pid:Int):Option ag:=l.find? λz=>z.aa==pid
def bJ (l:List ag) (pid:Int):Bool:=match eN l pid with|some z=>!z.ba|none=>false
theorem UE (l:List ag) (pid:Int):pL ae l pid=some (match eN l pid with|some z=>(z,true)|none=>(⟨0,0,false,0⟩,false)):=by
 show(DW ae l pid).val=_;unfold DW Ca eN;simp only[T.bt,T.aN];show((bF (λi z a=>(tT ae pid l i z a).val) (λi a=>(y5 ae pid l i a).val) 0 l ()).bind _)=_;rw[h5 (p:=λz=>z.aa==pid) (e:=λz=>.inl (z.aa,z.aT,z.ba,z.bT))]
 .cases ξZ (λz=>z.aa==pid) l with
  |none=>rfl
  |some z=>rfl
 .intro i z _;unfold tT;cases h:z.aa==pid<;>simp[h]
@[simp] theorem v87 (l:List ag) (pid:Int):lR ae l pid=some (bJ l pid):=by
 show(Fj ae l pid).val=_;unfold Fj bJ;simp only[T.aN,UE,ο];cases eN l pid<;>rfl
@[simp] theorem rR (s:aF) (pid:Int):lN ae s pid=some (bJ s.ar.ab pid):=by
 show(EX ae s pid).val=_;unfold EX;simp
def fl (p:aV) (x:ag):Bool:=decide (1<=ix x.aa)&&(decide (ix x.aa<=16)&&((x.aa/64+1==aw p.az (ix x.aa-1).toNat)&&(!(x.aT==x.aa)&&((x.aT==0||bJ p.ab x.aT)&&bif x.ba then x.aT !=0 else x.bT==0))))
def gL (g:Γa):Bool:=(List.range 16).all λi=>decide (0<=aw g i)&&decide (aw g i<=65536)
def fP (l:List ag) (i:Nat) (x:ag):Bool:=i==0||(match l[i-1]? with|some y=>decide (ix y.aa<ix x.aa)|none=>false)
def gU (p:aV):Bool:=gL p.az&&(allI (λi x=>fl p x&&fP p.ab i x) 0 p.ab&&(match p.ab with|z::_=>fL z ⟨1,0,false,0⟩|[]=>false))
structure td (p:aV):Prop where
 pid: ∀x∈p.ab,0<=x.aa/\x.aa<18446744073709551616
 len:p.ab.length<=maxLen
theorem O6 {pid:Int} (h:0<=pid):0<=ix pid/\ix pid<64:=by rw[qZ h];omega
theorem ja {j:Int} {n:Nat} (a:0<=j) (b:j<n):dq j n=some j.toNat:=by
 unfold dq;rw[if_pos ⟨a,b⟩]
theorem v80 {p:aV} {x:ag} (e:0<=x.aa/\x.aa<18446744073709551616) (b:gL p.az=true):v' ae p x=some (fl p x):=by
 show(Fc ae p x).val=_;unfold Fc fl;have l:=O6 e.1;simp only[T.aN,T.aH,T.aD,rS,v87,ο]
 by_cases a:ix x.aa<1
 .simp[a,show ¬(1<=ix x.aa) by omega]
 by_cases c:ix x.aa>16
 .simp[a,c,show ¬(ix x.aa<=16) by omega]
 have hw:γ.wrap (ix x.aa-1)=ix x.aa-1:=cr (by omega) (by omega);have hi:dq (ix x.aa-1) 16=some (ix x.aa-1).toNat:=ja (by omega) (by omega);have k:0<=aw p.az (ix x.aa-1).toNat/\aw p.az (ix x.aa-1).toNat<=65536:=by
  unfold gL at b;rw[ξ2] at b;have:=b (ix x.aa-1).toNat (by simp;omega);simpa using this
 have i:ζ.wrap (x.aa.tdiv 64)=x.aa/64:=by
  rw[ξz e.1];exact fT (by omega) (by omega)
 have h:(x.aa/64 !=ζ.wrap (γ.wrap (aw p.az (ix x.aa-1).toNat-1)))=!(x.aa/64+1==aw p.az (ix x.aa-1).toNat):=by
  obtain⟨g,j⟩: ∃g,g=aw p.az (ix x.aa-1).toNat:=⟨_,rfl⟩;rw[<-j] at k ⊢;rw[cr (by omega) (by omega)]
  by_cases f:g=0
  .subst f;have:ζ.wrap (0-1)=18446744073709551615:=by decide
   rw[this];rw[ζg];simp;omega
  .rw[fT (by omega) (by omega),ζg];simp;omega
 simp only[a,c,decide_false,cond_false,hw,hi,ο,i,h,show(1<=ix x.aa) by omega,show(ix x.aa<=16) by omega,decide_true,ξ7];cases x.aa/64+1==aw p.az (ix x.aa-1).toNat<;>cases hp:x.aT==x.aa<;>simp;cases d:x.aT==0
 .have:(x.aT !=0)=true:=by simp[bne,d]
  simp only[this,cond_true,ξt];cases bJ p.ab x.aT<;>cases x.ba<;>simp
 .have:(x.aT !=0)=false:=by simp[bne,d]
  simp only[this,cond_false,ζ2,ξ7];cases x.ba<;>simp
theorem xz {α:Type} {l:List α} {i:Nat} (h:i<l.length) (hm:l.length<=maxLen) (a:0<i):idx l (γ.wrap ((i:Int)-1))=l[i-1]? :=by
 unfold maxLen at hm;rw[cr (by omega) (by omega)];unfold idx;rw[if_pos (by omega)]
 congr 1
 omega
theorem acr {S:Int->T (Int⊕Unit⊕(Bool×Int))} {g:Γa} (f: ∀a:Int,(S a).val=bif decide (a<16) then(dq a 16).bind λz0=>bif decide (aw g z0<0) then some (.inr (.inl ())) else bif decide (aw g z0>65536) then some (.inr (.inl ())) else some (.inl (γ.wrap (a+1))) else some (.inr (.inr (decide (a<16),a)))):
  cm (λa=>(S a).val) 1000000 (0:Int)=some (bif gL g then .inr (false,16) else .inl ()):=by
 have h:=mJ (step:=λa=>(S a).val) (q:=λa=>decide (0<=aw g a)&&decide (aw g a<=65536)) (x:=λ_=>.inl ()) (y:=.inr (false,16)) (N:=16) (λa l=>by
  rw[f,decide_eq_true (by omega:(a:Int)<16),cond_true,ja (by omega) (by omega),ο,κ]
  by_cases c:aw g a<0
  .simp[c,show ¬(0<=aw g a) by omega]
  by_cases d:aw g a>65536
  .simp[c,d,show ¬(aw g a<=65536) by omega]
  .rw[cr (by omega) (by omega)];simp[c,d,show(0<=aw g a) by omega,show(aw g a<=65536) by omega]) (by rw[f];rfl) (k:=16) (n:=1000000) (a:=0) rfl (by omega)
 rw[show((0:Nat):Int)=0 from rfl] at h;rw[h]
 congr 1
 unfold gL;rw[ξP];cases e:ξZ (λb=>!(decide (0<=aw g b)&&decide (aw g b<=65536))) (ξg 0 16) with
 |none=>
  have:((ξg 0 16).all λi=>decide (0<=aw g i)&&decide (aw g i<=65536))=true:=by
   rw[ξ2];intro i hi;have:=ξU.1 e i hi;simpa using this
  rw[this];rfl
 |some b=>
  have:((ξg 0 16).all λi=>decide (0<=aw g i)&&decide (aw g i<=65536))=false:=by
   rw[ζ0];intro j;rw[ξ2] at j;have c:=j b (ξB e);have d:=ζh e;rw[c] at d;cases d
  rw[this];rfl
theorem v40 {p:aV} (hp:td p):GR ae p=some (gU p):=by
 show(ET ae p).val=_;unfold ET gU;simp only[T.bt,T.aN,T.cx];have e:C4 ae p.az p.ab 0=some (bif gL p.az then .inr (false,16) else .inl ()):=acr λa=>rfl;rw[e];cases f:gL p.az with
 |false=>rfl
 |true=>
  simp only[cond_true,ο,ξ7];have hl:C5 ae p.ab p.az=bif allI (λi x=>fl p x&&fP p.ab i x) 0 p.ab then some (.inr (false,(p.ab.length:Int))) else some (.inl ()):=by
   show bF (λi z a=>(uF ae p.ab p.az i z a).val) (λi a=>(sN ae p.ab p.az i a).val) 0 p.ab ()=_;rw[gV (q:=λi x=>fl p x&&fP p.ab i x) (x:=.inl ())]
   .congr 1
    unfold sN;simp
   .intro i z c;have g:=(ε.1 c).1;have h:=ξ6 c;unfold uF;simp only[T.aN,T.aH,T.aD];rw[show v' ae (aV.mk p.az p.ab) z=some (fl p z) from v80 (p:=p) (hp.pid z h) f];unfold fP;cases fl p z with
    |false=>rfl
    |true=>
     cases i with
     |zero=>rfl
     |succ i=>
      have d:decide (((i+1:Nat):Int)>0)=true:=decide_eq_true (by omega);rw[d,xz g hp.len (by omega)];simp only[ο,ξF,cond_false,cond_true,ξ7,show(i+1==0)=false from rfl,ξt,ξV];have hi:i<p.ab.length:=by omega
      rw[θ hi];simp only[ο,rS]
      by_cases b:ix p.ab[i].aa<ix z.aa
      .simp[b,show ¬(ix p.ab[i].aa>=ix z.aa) by omega]
      .simp[b,show(ix p.ab[i].aa>=ix z.aa) by omega]
  rw[hl];cases allI (λi x=>fl p x&&fP p.ab i x) 0 p.ab with
  |false=>rfl
  |true=>
   simp only[cond_true,ο,ξ7,T.aH,T.aN,T.aD];cases p.ab with
   |nil=>rfl
   |cons z r=>
    have:decide (((z::r).length:Int)>0)=true:=decide_eq_true (by simp);rw[this];rfl
theorem acs {S:Int->T (Int⊕Int⊕(Bool×Int))} {g:Γa} (f: ∀a:Int,(S a).val=bif decide (a<16) then(dq a 16).bind λz0=>bif decide (aw g z0<0) then some (.inr (.inl a)) else bif decide (aw g z0>65536) then some (.inr (.inl a)) else some (.inl (γ.wrap (a+1))) else some (.inr (.inr (decide (a<16),a)))):
  ∃n:Nat,cm (λa=>(S a).val) 1000000 (0:Int)=some (bif gL g then .inr (false,16) else .inl (n:Int)):=by
 have h:=mJ (step:=λa=>(S a).val) (q:=λa=>decide (0<=aw g a)&&decide (aw g a<=65536)) (x:=λa=>.inl (a:Int)) (y:=.inr (false,16)) (N:=16) (λa l=>by
  rw[f,decide_eq_true (by omega:(a:Int)<16),cond_true,ja (by omega) (by omega),ο,κ]
  by_cases c:aw g a<0
  .simp[c,show ¬(0<=aw g a) by omega]
  by_cases d:aw g a>65536
  .simp[c,d,show ¬(aw g a<=65536) by omega]
  .rw[cr (by omega) (by omega)];simp[c,d,show(0<=aw g a) by omega,show(aw g a<=65536) by omega]) (by rw[f];rfl) (k:=16) (n:=1000000) (a:=0) rfl (by omega)
 rw[show((0:Nat):Int)=0 from rfl] at h;unfold gL;rw[ξP];cases e:ξZ (λb=>!(decide (0<=aw g b)&&decide (aw g b<=65536))) (ξg 0 16) with
 |none=>
  have:((ξg 0 16).all λi=>decide (0<=aw g i)&&decide (aw g i<=65536))=true:=by
   rw[ξ2];intro i hi;have:=ξU.1 e i hi;simpa using this
  rw[this];rw[e] at h;exact⟨0,h⟩
 |some b=>
  have:((ξg 0 16).all λi=>decide (0<=aw g i)&&decide (aw g i<=65536))=false:=by
   rw[ζ0];intro j;rw[ξ2] at j;have c:=j b (ξB e);have d:=ζh e;rw[c] at d;cases d
  rw[this];rw[e] at h;exact⟨b,h⟩
theorem acj (g:Γa) (l:List ag) (pid:Int):iK ae g l pid=some (match eN l pid with|some z=>.inl z|none=>.inr (false,(l.length:Int))):=by
 show bF (λi z a=>(tV ae g l pid i z a).val) (λi a=>(sb ae g l pid i a).val) 0 l ()=_;unfold eN;rw[h5 (p:=λz=>z.aa==pid) (e:=λz=>.inl z)]
 .cases ξZ (λz=>z.aa==pid) l with
  |none=>unfold sb;simp
  |some z=>rfl
 .intro i z _;unfold tV;cases z.aa==pid<;>rfl
theorem v46 {p:aV} (hp:td p):kI ae p=some (bif gU p then 0 else 320):=by
 show(EZ ae p).val=_;unfold EZ gU;simp only[T.bt,T.aN,T.cx,T.aH,T.aD];cases c:p.ab with
 |nil=>
  have:(match([]:List ag) with|z::_=>fL z ⟨1,0,false,0⟩|[]=>false)=false:=rfl;simp
 |cons z0 r=>
  rw[<-c];have s:((p.ab.length:Int)==0)=false:=by rw[c];simp;omega
  have b:idx p.ab 0=some z0:=by rw[c];rfl
  rw[s,b];simp only[cond_false,ο];cases he:fL z0 ⟨1,0,false,0⟩ with
  |false=>simp[c,he]
  |true=>
   have hm:(match p.ab with|z::_=>fL z ⟨1,0,false,0⟩|[]=>false)=true:=by rw[c];exact he
   rw[hm,ζr];simp only[ξF,cond_false];obtain⟨n,d⟩:=acs (S:=DA ae p.az p.ab) (g:=p.az) λa=>rfl;have d:Cb ae p.az p.ab 0=some (bif gL p.az then .inr (false,16) else .inl (n:Int)):=d;rw[d];cases e:gL p.az with
   |false=>
    have:decide ((n:Int)>=0)=true:=decide_eq_true (by omega);simp[this]
   |true=>
    simp only[cond_true,ο,ξ7];have hl:tB ae p.az p.ab=bif allI (λi x=>fl p x&&fP p.ab i x) 0 p.ab then some (.inr (false,(p.ab.length:Int))) else some (.inl ()):=by
     show bF (λi z a=>(tU ae p.az p.ab i z a).val) (λi a=>(sa ae p.az p.ab i a).val) 0 p.ab ()=_;rw[gV (q:=λi x=>fl p x&&fP p.ab i x) (x:=.inl ())]
     .congr 1
      unfold sa;simp
     .intro i z m;have v:=(ε.1 m).1;have j:=hp.pid z (ξ6 m);have C:=O6 j.1;unfold tU fl fP bJ;simp only[T.aN,T.aH,T.aD,T.bt,T.cx,v93,ο,acj]
      by_cases b:1<=ix z.aa
      rotate_left
      .simp[show ¬(ix z.aa>=1) from b,b]
      by_cases k:ix z.aa<=16
      rotate_left
      .simp[show(ix z.aa>=1) from b,b,k]
      have hw:γ.wrap (ix z.aa-1)=ix z.aa-1:=cr (by omega) (by omega);have hi:dq (ix z.aa-1) 16=some (ix z.aa-1).toNat:=ja (by omega) (by omega);have B:0<=aw p.az (ix z.aa-1).toNat/\aw p.az (ix z.aa-1).toNat<=65536:=by
       unfold gL at e;rw[ξ2] at e;have:=e (ix z.aa-1).toNat (by simp;omega);simpa using this
      have u:ζ.wrap (z.aa.tdiv 64)=z.aa/64:=by
       rw[ξz j.1];exact fT (by omega) (by omega)
      have t:(ζ.wrap (ζ.wrap (z.aa.tdiv 64)+1) !=ζ.wrap (aw p.az (ix z.aa-1).toNat))=!(z.aa/64+1==aw p.az (ix z.aa-1).toNat):=by
       rw[u,fT (by omega) (by omega),fT (by omega) (by omega)];rfl
      rw[hw,hi];simp only[ο];rw[t];have A:(z.aT !=0)=!(z.aT==0):=rfl;have w:(z.bT !=0)=!(z.bT==0):=rfl;have l:(z.aT==0)=true->(z.aT==z.aa)=false:=λh=>by
       rw[qZ j.1] at b;simp at h ⊢;omega
      simp only[show(ix z.aa>=1) from b,b,k,decide_true,cond_true,ξ7,A,w];cases i with
      |zero=>
       rw[show(((0:Nat):Int)==0)=true from rfl,show((0:Nat)==0)=true from rfl];simp only[cond_true,ζ2,ζr];cases f:z.aT==0 with
       |true=>rw[l f];cases z.aa/64+1==aw p.az (ix z.aa-1).toNat<;>cases z.ba<;>cases z.bT==0<;>simp
       |false=>
        cases z.aa/64+1==aw p.az (ix z.aa-1).toNat<;>cases z.aT==z.aa<;>cases z.ba<;>cases z.bT==0<;>(cases eN p.ab z.aT with|none=>simp|some y=>cases y.ba<;>simp)
      |succ i=>
       have o:((((i+1:Nat):Int))==0)=false:=by simp;omega
       rw[o,show(i+1==0)=false from rfl,xz v hp.len (by omega)];have hi:i<p.ab.length:=by omega
       simp only[ξV,θ hi,ο,v93,cond_false,ξt];cases f:z.aT==0 with
       |true=>rw[l f];cases decide (ix p.ab[i].aa<ix z.aa)<;>cases z.aa/64+1==aw p.az (ix z.aa-1).toNat<;>cases z.ba<;>cases z.bT==0<;>simp
       |false=>
        cases decide (ix p.ab[i].aa<ix z.aa)<;>cases z.aa/64+1==aw p.az (ix z.aa-1).toNat<;>cases z.aT==z.aa<;>cases z.ba<;>cases z.bT==0<;>(cases eN p.ab z.aT with|none=>simp|some y=>cases y.ba<;>simp)
    rw[hl];cases allI (λi x=>fl p x&&fP p.ab i x) 0 p.ab<;>rfl
end Go.Proofs.YtdhaaaeffhaadaaGreatDoor
end
