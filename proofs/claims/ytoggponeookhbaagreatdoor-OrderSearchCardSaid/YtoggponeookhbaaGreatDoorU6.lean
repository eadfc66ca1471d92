/- A part of the proof that OrderSearch returns true for every input: the machine of values, its soundness, the program as plain functions, the law. Conditions: those of the given rows. -/
import Derived.Test.YtoggponeookhbaaGreatDoorU5
import Derived.Deep.QuietTactic
import Derived.BigQuiet
import Derived.Shelf.SlSortCmp.Whole1
import Derived.Shelf.SlSortCmp.NoneTotal
import Derived.ProofKit
import Derived.OpenShut
import Derived.Lib.LaidTab
import Derived.Test.YtoggponeookhbaaGreatDoorCards
import Derived.Test.YtoggponeookhbaaGreatDoorTie
set_option linter.unusedVariables false
set_option linter.unusedSimpArgs false
noncomputable section
set_option maxRecDepth 1000000
set_option maxHeartbeats 12000000
open Bool renaming and_eq_true→μ,eq_iff_iff→ο,not_true→ξd
open Classical renaming byContradiction→ξ9
open Go.Cell renaming okWide→ξB
open Go.DataW renaming trod→ξu,TrodAll→ξy
open Go.IntKind renaming i64→ω,signed→ξt,bits→ξz
open Go.MemPlace renaming row→ξA
open Go.Proofs.Tryz renaming prog→ζ,f30→ψ,f25→ξ7,f31→ξp,f51→ξq,func24→ξs,f10→ξv,f24→ξw
open Go.Proofs.YtoggponeookhbaaGreatDoor.Rows renaming laid_afterglow_proc_first→ξ3
open Go.Value renaming okWide→ξ2,cells→ξl
open Go.World renaming frozen?→ξx
open Int renaming lt_irrefl→φ,toNat_natCast→ξa
open List renaming getElem?_eq_some_iff→γ,getElem?_eq_getElem→δ,mem_of_getElem?→η,mem_append_left→θ,pairwise_iff_getElem→ι,all_eq_true→κ,getElem_mem→ν,replicate→ξ,mem_append_right→τ,mem_take_iff_getElem→υ,append_nil→ξ0,mem_iff_getElem?→ξ1,mem_flatMap→ξ4,mem_cons→ξ5,mem_singleton→ξ6,mem_cons_self→ξ8,take_add_one→ξb,getElem?_map→ξc,getElem?_replicate→ξe,mem_append→ξh,mem_cons_of_mem→ξi,mem_range→ξj,getElem_of_mem→ξk,length_append→ξm,pairwise_cons→ξn,getElem?_set→ξo,length_set→ξr
open List.Pairwise renaming nil→ξD
open Nat renaming zero_add→ρ,lt_or_ge→ξg
open Option renaming bind_some→ε,getD_some→χ,map_some→ξf
open ULift renaming up→ξC
section
namespace Go.Proofs.YtoggponeookhbaaGreatDoor
open Go.RowKit Go.Dc Go.Vx
variable (U:Sh)
def EV (U:Sh) (a b:aA):T Bool:=.bf (decide (a.bc>0)) (.ok (decide (a.bc<b.bK)))<|.ok false
def pM (a b:aA):=U.s _ (EV U a b).val
def Md:=a6 (bU KK 29 42 42 (pM U) (bH KK 4)) (MD U)
theorem Me:ag (Md shut) ζ:=bZ (rs:=[4]) ME (ag.all ME rfl) rfl rfl λa b k=>by kernel_rfl
def ES (U:Sh) (d:aA):T Bool:=.bf (decide (d.bS<0)) (.ok false)<|.bf (decide (d.bS>7)) (.ok false)<|.bf (decide (d.bK<1)) (.ok false)<|.bf (d.a8 !=0) (.bf (decide (d.a8<d.bK)) (.ok false)<|.bf (d.bc==0) (.ok (dT d.bt (cu.mk 0 0)))<|.bf (decide (d.bc>=d.bK)) (.ok (decide (d.a8<=d.bc)))<|.ok false)<|.bf (d.bc==0) (.ok (dT d.bt (cu.mk 0 0)))<|.bf (decide (d.bc>=d.bK)) (.ok (decide (d.a8<=d.bc)))<|.ok false
def GI (d:aA):=U.s _ (ES U d).val
def Bd:=a6 (cR KK 28 42 (GI U) (bH KK 4)) (Md U)
theorem s5:ag (Bd shut) ζ:=cX (rs:=[4]) Me (ag.all Me rfl) rfl rfl λd k=>by kernel_rfl
def vW (a:List aA) (p1:Int) (p2:List aA) (d e:Int) (f:Γa) (g h i j b c:Int):AS SS:=⟨[(1,va 0 0),(4,va 1 0),(8,vd 22 a),(9,vl a),(10,vi p1),(21,vd 22 p2),(22,vl p2),(23,vi c)],[bX 24 [.aJ 22 a],bX 42 [li d,lu e,.bA .u64 4 f,li g,lu h,li i,li j,li b]],0,none,false,[],[]⟩
def tu (l:List aA) (p1:Int) (p2:List aA) (c e:Int) (f:Γa) (g h i b d m:Int) (z0:aA) (a:Unit):T (Unit⊕Unit⊕(Bool×Int)):=.bf (z0.bS==c) (.bd (pM U z0 (aA.mk c (b3.mk e f) (cu.mk g h) i b d)) λj=>.bf (!j) (.bd (pM U (aA.mk c (b3.mk e f) (cu.mk g h) i b d) z0) λk=>.bf (!k) (.ok (.inr (.inl ())))<|.bf (b !=0) (.bf (z0.a8==b) (.ok (.inr (.inl ())))<|.ok (.inl ()))<|.ok (.inl ()))<|.bf (b !=0) (.bf (z0.a8==b) (.ok (.inr (.inl ())))<|.ok (.inl ()))<|.ok (.inl ()))<|.bf (b !=0) (.bf (z0.a8==b) (.ok (.inr (.inl ())))<|.ok (.inl ()))<|.ok (.inl ())
def rK (U:Sh) (c:List aA) (p1:Int) (p2:List aA) (e f:Int) (g:Γa) (h i j k d b:Int) (a:Unit):T (Unit⊕(Bool×Int)):=.ok (.inr (decide (b<(↑p2.length:Int)),b))
def B3 (a:List aA) (p1:Int) (p2:List aA) (c d:Int) (e:Γa) (f g h i b:Int):=bC U (tu U a p1 p2 c d e f g h i b) (rK U a p1 p2 c d e f g h i b) p2 ()
def Zk {R} (k:KX SS R) (a:List aA) (p1:Int) (p2:List aA) (c d:Int) (e:Γa) (f g h i b:Int) (x:Unit⊕(Bool×Int)):Option R:=x.elim (λv=>k .ret ⟨[(2,vb false)],[],0,none,false,[],[]⟩) (λv=>k (.exit 2) {vW a p1 p2 c d e f g h i b p1 with env:=[(24,vb v.1),(1,va 0 0),(4,va 1 0),(8,vd 22 a),(9,vl a),(10,vi p1),(21,vd 22 p2),(22,vl p2),(23,vi v.2)]})
def H3:aX SS:=bh 8 (sq (sD 22 8) (sq (sI 10) (sq (sD 22 21) (sq (hI 1 0) (sq (hI 1 1) (sq (hX ea 1 2) (sq (hI 1 3) (sq (hI 1 4) (sq (hI 1 5) (sq (hI 1 6) (hI 1 7))))))))))) (λp=>jk vW p 0) (jk (B3 shut)) (λk=>jk (Zk k))
theorem SA:LS KK ζ aq ξv 10 8 H3:=
 aO.bI (ag.all s5 rfl) (aF.nil) rfl 60 (λp i a=>jk vW p i) (λp=>p.2.2.1) (λp=>()) (St:=jk (tu shut)) (F:=jk (rK shut)) (λp=>rfl)
  (λm p i a k=>by kernel_rfl) (by rintro p (x|x)<;>exact⟨_,_,λ_=>rfl⟩) (λp N C A O w a b=>bT b (t:=22) (sl:=21) rfl λv h=>h)
def vV (a:List aA) (p1:Int):AS SS:=⟨[(1,va 0 0),(8,vd 22 a),(9,vl a),(10,vi p1)],[bX 24 [.aJ 22 a]],0,none,false,[],[]⟩
def tt (b:List aA) (p1:Int) (z0:aA) (a:Unit):T (Unit⊕Unit⊕(Bool×Int)):=.bd (GI U z0) λd=>.bf (!d) (.ok (.inr (.inl ())))<|.bd (dF b none (some p1) none) λz2=>.gd (vW b p1 z2 z0.bS z0.bP.aQ z0.bP.fArgs z0.bt.b0 z0.bt.b8 z0.bK z0.a8 z0.bc 0)<|.bd (B3 U b p1 z2 z0.bS z0.bP.aQ z0.bP.fArgs z0.bt.b0 z0.bt.b8 z0.bK z0.a8 z0.bc) λc=>.cs c (λ_=>.ok (.inr (.inl ()))) λe=>.ok (.inl ())
def rJ (U:Sh) (b:List aA) (p1:Int) (a:Unit):T (Unit⊕(Bool×Int)):=.ok (.inr (decide (p1<(↑b.length:Int)),p1))
def B2 (a:List aA):=bC U (tt U a) (rJ U a) a ()
def Zj {R} (k:KX SS R) (a:List aA) (x:Unit⊕(Bool×Int)):Option R:=x.elim (λv=>k .ret ⟨[(2,vb false)],[],0,none,false,[],[]⟩) (λv=>k (.exit 0) (xe [(11,vb v.1)] (vV a v.2)))
def PQ:aX SS:=bh 3 (sD 22 8) (λp=>vV p 0) (λp=>B2 shut p) (λk p=>Zj k p)
theorem afO:LS KK ζ aq ξv 10 3 PQ:=
 aO.bI (I:=⟨⟨ξv,aq 10⟩,[H3]⟩) (π:=List aA) (ag.all s5 rfl) (aF.cons (aF.nil) (by kernel_rfl) SA) rfl 60 (λp i a=>vV p i) (λp=>p) (λp=>()) (St:=λp=>tt shut p) (F:=λp=>rJ shut p) (λp=>rfl)
  (λm p i a k=>by kernel_rfl) (by rintro p (x|x)<;>exact⟨_,_,λ_=>rfl⟩) (λp N C A O w a b=>bT b (t:=22) (sl:=8) rfl λv h=>h)
def VF:=bq (Bd shut) aq ξv 10 [H3,PQ]
theorem VG:aR VF ζ:=(aR.fz (ag.all s5 rfl) Tryz.func10 rfl aT λc a=>by cases a;exact aF.cons (aF.cons (aF.nil) (by kernel_rfl) afO) (by kernel_rfl) SA)
def DB (h:dm):T Bool:=.gd (vV h.cL 0)<|.bd (B2 U h.cL) λa=>.cs a (λ_=>.ok false) λb=>.ok (decide ((↑h.cL.length:Int)<=64))
def Ga (h:dm):=U.s _ (DB U h).val
def Lb:=a6 (cR KK 10 24 (Ga U) (bH KK 4)) (Bd U)
theorem Lg:ag (Lb shut) ζ:=cX (rs:=[4]) s5 VG rfl rfl λh k=>by kernel_rfl
def E_ (s:aZ) (d:aA):T (aZ×Bool):=.bd (G9 U s d.bP) λa=>.bf (d.bc==0) (.ok (a.1,a.2.b0==0))<|.bf (d.bt.b8==0) (.bf (d.bt.b0==363) (.bf (a.2.b0==0) (.bd (vL U a.1 s) λb=>.ok (s,!b))<|.ok (s,false))<|.bf (d.bt.b0==364) (.bf (a.2.b0==0) (.bd (vL U a.1 s) λb=>.ok (s,!b))<|.ok (s,false))<|.ok (a.1,dT a.2 d.bt))<|.ok (a.1,dT a.2 d.bt)
def vJ (s:aZ) (d:aA):=U.s _ (E_ U s d).val
def BG:=a6 (bU KK 55 60 42 (vJ U) (dy KK 60 4)) (Lb U)
theorem BH:ag (BG shut) ζ:=bZ (rs:=[60,4]) Lg (ag.all Lg rfl) rfl rfl λs d k=>by kernel_rfl
def qw (a:Int) (p1:Γa) (p2:Int):AS SS:=⟨[(1,vi a),(7,vd 31 p1),(8,vl p1),(9,vi p2)],[],0,none,false,[],[]⟩
def uv (U:Sh) (b:Int) (p1:Γa) (p2 z0:Int) (a:Unit):T (Unit⊕Int⊕(Bool×Int)):=.bf (z0==b) (.ok (.inr (.inl p2)))<|.ok (.inl ())
def sG (U:Sh) (b:Int) (p1:Γa) (p2:Int) (a:Unit):T (Int⊕(Bool×Int)):=.ok (.inr (decide (p2<(↑p1.length:Int)),p2))
def C' (a:Int) (p1:Γa):=bC U (uv U a p1) (sG U a p1) p1 ()
def aaN {R} (k:KX SS R) (a:Int) (p1:Γa) (x:Int⊕(Bool×Int)):Option R:=x.elim (λv=>k .ret {qw a p1 a with env:=[(4,vi v)]}) (λv=>k (.exit 0) {qw a p1 a with env:=[(10,vb v.1),(1,vi a),(7,vd 31 p1),(8,vl p1),(9,vi v.2)]})
def Q_:aX SS:=bh 3 (sq (sI 1) (sD 31 7)) (λp=>u2 qw p 0) (u2 (C' shut)) (λk=>u2 (aaN k))
theorem aha:LS KK ζ aq Tryz.f53 53 3 Q_:=
 aO.bI (ag.all BH rfl) (aF.nil) rfl 60 (λp i a=>u2 qw p i) (λp=>p.2) (λp=>()) (St:=u2 (uv shut)) (F:=u2 (sG shut)) (λp=>rfl)
  (λm p i a k=>by kernel_rfl) (by rintro p (x|x)<;>exact⟨_,_,λ_=>rfl⟩) (λp N C A O w a b=>bT b (t:=31) (sl:=7) rfl λv h=>h)
def XY:=bq (BG shut) aq Tryz.f53 53 [Q_]
theorem XZ:aR XY ζ:=bu (ag.all BH rfl) Tryz.func53 rfl aT (by kernel_rfl) aha
def E9 (l:Γa) (n:Int):T Int:=.gd (qw n l 0)<|.bd (C' U n l) λb=>.cs b (λa=>.ok a) λa=>.ok (-1)
def lH (l:Γa) (n:Int):=U.s _ (E9 U l n).val
def BF:=a6 (bU KK 53 31 3 (lH U) (bH KK 3)) (BG U)
theorem oD:ag (BF shut) ζ:=bZ (rs:=[3]) BH XZ rfl rfl λl n k=>by kernel_rfl
def wR (a:Γa) (p1:List aA) (p2:Γa) (b:List ah) (c:List ai) (d:List ay) (e:Int) (f:List au) (g:List ar) (h:Int):AS SS:=⟨[(1,vd 31 a),(2,va 0 0),(5,va 1 0),(16,vd 31 a),(17,vl a),(18,vi h)],[bX 24 [.aJ 22 p1],bX 60 [.bA .i64 16 p2,.aJ 48 b,.aJ 51 c,.aJ 52 d,lu e,.aJ 55 f,.aJ 56 g]],0,none,false,[],[]⟩
def uq (c:Γa) (p1:List aA) (d z0:Int) (a:Γa×List ah×List ai×List ay×Int×List au×List ar):T ((Γa×List ah×List ai×List ay×Int×List au×List ar)⊕Unit⊕(Bool×Int×Γa×List ah×List ai×List ay×Int×List au×List ar)):=.bf (decide (z0<0)) (.ok (.inr (.inl ())))<|.bf (decide (z0>=(↑p1.length:Int))) (.ok (.inr (.inl ())))<|.bd (lH U c z0) λe=>.bf (e !=d) (.ok (.inr (.inl ())))<|.bd (idx p1 z0) λz2=>.bd (vJ U (aZ.mk (br.mk a.1 a.2.1) a.2.2.1 (bz.mk a.2.2.2.1 a.2.2.2.2.1) (aL.mk a.2.2.2.2.2.1 a.2.2.2.2.2.2)) z2) λb=>.bf (!b.2) (.ok (.inr (.inl ())))<|.ok (.inl (b.1.ax.aH,b.1.ax.ae,b.1.aI,b.1.aC.ae,b.1.aC.ba,b.1.aw.ak,b.1.aw.an))
def y8 (U:Sh) (c:Γa) (p1:List aA) (b:Int) (a:Γa×List ah×List ai×List ay×Int×List au×List ar):T (Unit⊕(Bool×Int×Γa×List ah×List ai×List ay×Int×List au×List ar)):=.ok (.inr (decide (b<(↑c.length:Int)),b,a.1,a.2.1,a.2.2.1,a.2.2.2.1,a.2.2.2.2.1,a.2.2.2.2.2.1,a.2.2.2.2.2.2))
def C7 (a:Γa) (p1:List aA) (p2:Γa) (b:List ah) (c:List ai) (d:List ay) (e:Int) (f:List au) (g:List ar):=bC U (uq U a p1) (y8 U a p1) a (p2,b,c,d,e,f,g)
def aaE {R} (k:KX SS R) (a:Γa) (p1:List aA) (x:Unit⊕(Bool×Int×Γa×List ah×List ai×List ay×Int×List au×List ar)):Option R:=x.elim (λv=>k .ret ⟨[(4,vb false)],[],0,none,false,[],[]⟩) (λv=>k (.exit 0) (xe [(19,vb v.1)] (wR a p1 v.2.2.1 v.2.2.2.1 v.2.2.2.2.1 v.2.2.2.2.2.1 v.2.2.2.2.2.2.1 v.2.2.2.2.2.2.2.1 v.2.2.2.2.2.2.2.2 v.2.1)))
def Q2:aX SS:=bh 4 (sq (sD 31 1) (sq (hD 22 0 0) (sq (hX ea 1 0) (sq (hD 48 1 1) (sq (hD 51 1 2) (sq (hD 52 1 3) (sq (hI 1 4) (sq (hD 55 1 5) (hD 56 1 6))))))))) (λp=>u9 wR p 0) (u9 (C7 shut)) (λk p=>aaE k p.1 p.2.1)
theorem ag4:LS KK ζ aq ξp 31 4 Q2:=
 aO.bI (π:=Γa×List aA×Γa×List ah×List ai×List ay×Int×List au×List ar) (σ:=Γa×List ah×List ai×List ay×Int×List au×List ar) (ag.all oD rfl) (aF.nil) rfl 60 (λp i a=>wR p.1 p.2.1 a.1 a.2.1 a.2.2.1 a.2.2.2.1 a.2.2.2.2.1 a.2.2.2.2.2.1 a.2.2.2.2.2.2 i) (λp=>p.1) (λp=>(p.2.2.1,p.2.2.2.1,p.2.2.2.2.1,p.2.2.2.2.2.1,p.2.2.2.2.2.2.1,p.2.2.2.2.2.2.2.1,p.2.2.2.2.2.2.2.2)) (St:=λp=>uq shut p.1 p.2.1) (F:=λp=>y8 shut p.1 p.2.1) (λp=>rfl)
  (λm p i a k=>by kernel_rfl) (by rintro p (x|x)<;>exact⟨_,_,λ_=>rfl⟩) (λp N C A O w a b=>bT b (t:=31) (sl:=1) rfl λv h=>h)
def qu (a:Γa) (p1:Int) (p2:List aA) (e f g:Int) (h:Γa) (i j k b c d:Int):AS SS:=⟨[(1,vd 31 a),(2,va 0 0),(10,va 1 0),(11,vi p1),(53,vd 22 p2),(54,vl p2),(55,vi e),(71,vd 22 p2),(72,vl p2),(73,vi d)],[bX 24 [.aJ 22 p2],bX 42 [li f,lu g,.bA .u64 4 h,li i,lu j,li k,li b,li c]],0,none,false,[],[]⟩
def uo (c:Γa) (p1:Int) (p2:List aA) (n g h:Int) (i:Γa) (j k l d e f:Int) (z0:aA) (a:Unit):T (Unit⊕Unit⊕(Bool×Int)):=.bd (lH U c f) λb=>.bf (decide (b>=0)) (.bd (pM U (aA.mk g (b3.mk h i) (cu.mk j k) l d e) z0) λm=>.bf (m) (.bf (decide (p1<0)) (.ok (.inr (.inl ())))<|.bf (decide (p1>b)) (.ok (.inr (.inl ())))<|.ok (.inl ()))<|.ok (.inl ()))<|.ok (.inl ())
def sA (U:Sh) (c:Γa) (p1:Int) (p2:List aA) (f g h:Int) (i:Γa) (j k l d e b:Int) (a:Unit):T (Unit⊕(Bool×Int)):=.ok (.inr (decide (b<(↑p2.length:Int)),b))
def ti (a:Γa) (p1:Int) (p2:List aA) (d e f:Int) (g:Γa) (h i j b c:Int):=bC U (uo U a p1 p2 d e f g h i j b c) (sA U a p1 p2 d e f g h i j b c) p2 ()
def aaD {R} (k:KX SS R) (a:Γa) (p1:Int) (p2:List aA) (b e f:Int) (g:Γa) (h i j c d:Int) (x:Unit⊕(Bool×Int)):Option R:=x.elim (λv=>k .ret ⟨[(4,vb false)],[],0,none,false,[],[]⟩) (λv=>k (.exit 4) {qu a p1 p2 b e f g h i j c d p1 with env:=[(74,vb v.1),(1,vd 31 a),(2,va 0 0),(10,va 1 0),(11,vi p1),(53,vd 22 p2),(54,vl p2),(55,vi b),(71,vd 22 p2),(72,vl p2),(73,vi v.2)]})
def H_:aX SS:=bh 20 (sq (sD 31 1) (sq (sI 11) (sq (sD 22 53) (sq (sI 55) (sq (hI 1 0) (sq (hI 1 1) (sq (hX ea 1 2) (sq (hI 1 3) (sq (hI 1 4) (sq (hI 1 5) (sq (hI 1 6) (hI 1 7)))))))))))) (λp=>om qu p 0) (om (ti shut)) (λk=>om (aaD k))
theorem SH:LS KK ζ aq ξp 31 20 H_:=
 aO.bI (ag.all oD rfl) (aF.nil) rfl 60 (λp i a=>om qu p i) (λp=>p.2.2.1) (λp=>()) (St:=om (uo shut)) (F:=om (sA shut)) (λp=>rfl)
  (λm p i a k=>by kernel_rfl) (by rintro p (x|x)<;>exact⟨_,_,λ_=>rfl⟩) (λp N C A O w a b=>bT b (t:=22) (sl:=53) rfl λv h=>h)
def wQ (a:Γa) (p1:List aA) (p2:Int):AS SS:=⟨[(1,vd 31 a),(2,va 0 0),(53,vd 22 p1),(54,vl p1),(55,vi p2)],[bX 24 [.aJ 22 p1]],0,none,false,[],[]⟩
def um (b:Γa) (p1:List aA) (p2:Int) (z0:aA) (a:Unit):T (Unit⊕Unit⊕(Bool×Int)):=.bd (lH U b p2) λc=>.bf (decide (c<0)) (.bf (decide (z0.bc>0)) (.ok (.inr (.inl ())))<|.gd (qu b c p1 p2 z0.bS z0.bP.aQ z0.bP.fArgs z0.bt.b0 z0.bt.b8 z0.bK z0.a8 z0.bc 0)<|.bd (ti U b c p1 p2 z0.bS z0.bP.aQ z0.bP.fArgs z0.bt.b0 z0.bt.b8 z0.bK z0.a8 z0.bc) λe=>.cs e (λ_=>.ok (.inr (.inl ()))) λf=>.ok (.inl ()))<|.gd (qu b c p1 p2 z0.bS z0.bP.aQ z0.bP.fArgs z0.bt.b0 z0.bt.b8 z0.bK z0.a8 z0.bc 0)<|.bd (ti U b c p1 p2 z0.bS z0.bP.aQ z0.bP.fArgs z0.bt.b0 z0.bt.b8 z0.bK z0.a8 z0.bc) λd=>.cs d (λ_=>.ok (.inr (.inl ()))) λf=>.ok (.inl ())
def sy (U:Sh) (b:Γa) (p1:List aA) (p2:Int) (a:Unit):T (Unit⊕(Bool×Int)):=.ok (.inr (decide (p2<(↑p1.length:Int)),p2))
def th (a:Γa) (p1:List aA):=bC U (um U a p1) (sy U a p1) p1 ()
def aaC {R} (k:KX SS R) (a:Γa) (p1:List aA) (x:Unit⊕(Bool×Int)):Option R:=x.elim (λv=>k .ret ⟨[(4,vb false)],[],0,none,false,[],[]⟩) (λv=>k (.exit 2) (xe [(56,vb v.1)] (wQ a p1 v.2)))
def Q1:aX SS:=bh 14 (sq (sD 31 1) (sD 22 53)) (λp=>u2 wQ p 0) (u2 (th shut)) (λk=>u2 (aaC k))
theorem ag3:LS KK ζ aq ξp 31 14 Q1:=
 aO.bI (I:=⟨⟨ξp,aq 31⟩,[H_]⟩) (ag.all oD rfl) (aF.cons (aF.nil) (by kernel_rfl) SH) rfl 60 (λp i a=>u2 wQ p i) (λp=>p.2) (λp=>()) (St:=u2 (um shut)) (F:=u2 (sy shut)) (λp=>rfl)
  (λm p i a k=>by kernel_rfl) (by rintro p (x|x)<;>exact⟨_,_,λ_=>rfl⟩) (λp N C A O w a b=>bT b (t:=22) (sl:=53) rfl λv h=>h)
def XK:=bq (BF shut) aq ξp 31 [Q2,H_,Q1]
theorem XL:aR XK ζ:=(aR.fz (ag.all oD rfl) Tryz.func31 rfl aT λc a=>by cases a;exact aF.cons (aF.cons (aF.cons (aF.nil) (by kernel_rfl) ag3) (by kernel_rfl) SH) (by kernel_rfl) ag4)
def EZ (h:dm) (order:Γa):T Bool:=.bd (GX U) λa=>.gd (wR order h.cL a.ax.aH a.ax.ae a.aI a.aC.ae a.aC.ba a.aw.ak a.aw.an 0)<|.bd (C7 U order h.cL a.ax.aH a.ax.ae a.aI a.aC.ae a.aC.ba a.aw.ak a.aw.an) λb=>.cs b (λ_=>.ok false) λd=>.gd (wQ order h.cL 0)<|.bd (th U order h.cL) λc=>.cs c (λ_=>.ok false) λe=>.ok true
def iJ (h:dm) (order:Γa):=U.s _ (EZ U h order).val
def jq:=a6 (bU KK 31 24 31 (iJ U) (bH KK 4)) (BF U)
theorem mu:ag (jq shut) ζ:=bZ (rs:=[4]) oD XL rfl rfl λh order k=>by kernel_rfl
end Go.Proofs.YtoggponeookhbaaGreatDoor
end
section
namespace Go.Vx
open Go.RowKit Go.Dc
section
variable {S:bm} {P:Program}
theorem ag.OG {G:bN S} (h:ag G P) (F:Γ):ag {G with F:=F} P:=⟨h.K,⟨h.C.C⟩,h.H,h.D,h.M,h.N⟩
end
section
variable {S:bm} {P:Program} {K:Kit S}
structure j9 (K:Kit S) (c:eO S) (P:Program):Prop where
 ok: ∀ {R:Type} (vs:List (aB S)) (h:AH S) (k:Rs S->AH S->Γ->Option R) (z:R),c.out vs h k=some z-> ∃r h' dt,k r h' dt=some z/\dk K P c.f vs h r h' dt
end
end Go.Vx
end
section
namespace Go.Proofs.YtoggponeookhbaaGreatDoor
open Go.RowKit

end Go.Proofs.YtoggponeookhbaaGreatDoor
end
section
namespace Go.Proofs.YtoggponeookhbaaGreatDoor
open Go.RowKit Go.Dc Go.Vx

end Go.Proofs.YtoggponeookhbaaGreatDoor
end
section
namespace Go.Proofs
open Go.Shelf

end Go.Proofs
end
section
namespace Go.Proofs.YtoggponeookhbaaGreatDoor
open Go.RowKit Go.Dc Go.Vx Go.Sort


end Go.Proofs.YtoggponeookhbaaGreatDoor
end
section
namespace Go.Proofs.YtoggponeookhbaaGreatDoor
open Go.RowKit Go.Dc Go.Vx



end Go.Proofs.YtoggponeookhbaaGreatDoor
end
section
namespace Go.Proofs.YtoggponeookhbaaGreatDoor
open Go.Sort
def PB (key:aA->Int) (q:List aA) (x:Int):Int:=match q[x.toNat]? with|some d=>key d|none=>0
end Go.Proofs.YtoggponeookhbaaGreatDoor
end
section
namespace Go.Proofs.YtoggponeookhbaaGreatDoor
open Go.RowKit Go.Dc Go.Vx
section
variable {α σ X:Type}
theorem Tp {step:Int->α->σ->Option (σ⊕X)} {fin:Int->σ->Option X} {l:List α} {st:Nat->σ} {x:X} (h: ∀(j:Nat) z,l[j]? =some z->step j z (st j)=some (.inl (st (j+1)))) (a:fin (l.length:Int) (st l.length)=some x):
  ∀(r pre:List α),l=pre++r->bB step fin pre.length r (st pre.length)=some x
 |[],pre,e=>by
  rw[ξ0] at e;subst e;exact a
 |z::r,pre,e=>by
  rw[hx,h pre.length z (by rw[e];simp),ε];have:=Tp h a r (pre++[z]) (by rw[e];simp);rw[show(pre++[z]).length=pre.length+1 by simp] at this;exact this
theorem Jy {step:Int->α->σ->Option (σ⊕X)} {fin:Int->σ->Option X} {l:List α} {st:Nat->σ} {x:X} (h: ∀(j:Nat) z,l[j]? =some z->step j z (st j)=some (.inl (st (j+1)))) (a:fin (l.length:Int) (st l.length)=some x):bB step fin 0 l (st 0)=some x:=Tp h a l [] rfl
theorem To {step:Int->α->σ->Option (σ⊕X)} {fin:Int->σ->Option X} {l:List α} {st:Nat->σ} {x:X} {n:Nat} {z0:α} (hn:l[n]? =some z0) (h: ∀(j:Nat) z,j<n->l[j]? =some z->step j z (st j)=some (.inl (st (j+1)))) (b:step n z0 (st n)=some (.inr x)):
  ∀(r pre:List α),pre.length<=n->l=pre++r->bB step fin pre.length r (st pre.length)=some x
 |[],pre,hp,e=>by
  rw[ξ0] at e;subst e;have:=(γ.1 hn).1;omega
 |z::r,pre,hp,e=>by
  have a:l[pre.length]? =some z:=by rw[e];simp
  rcases Nat.lt_or_eq_of_le hp with c|heq
  ·rw[hx,h pre.length z c a,ε];have:=To (fin:=fin) hn h b r (pre++[z]) (by simp;omega) (by rw[e];simp);rw[show(pre++[z]).length=pre.length+1 by simp] at this;exact this
  ·rw[heq,hn] at a;cases a;rw[hx,heq,b];rfl
theorem Tn {step:Int->α->σ->Option (σ⊕X)} {fin:Int->σ->Option X} {l:List α} {st:Nat->σ} {x:X} {n:Nat} {z0:α} (hn:l[n]? =some z0) (h: ∀(j:Nat) z,j<n->l[j]? =some z->step j z (st j)=some (.inl (st (j+1)))) (a:step n z0 (st n)=some (.inr x)):bB step fin 0 l (st 0)=some x:=To hn h a l [] (Nat.zero_le _) rfl
end
theorem aj3:Fo dA:=⟨rfl,λz a=>by revert z;decide,λz a=>(by cases a),λz a=>(by cases a)⟩
theorem Pr:dn dA:=(ND aj3).1 (by decide)
theorem adR {s:aZ} (h:dn s) {c:b3} (b:gY c):dn (gA s c).1:=by
 rcases ab1 h c with⟨_,e⟩|⟨_,f,d⟩
 ·rw[e];exact h
 ·exact aiA h b.a d f
theorem U9 (a b:aA):pO ab a b=some (a.bc !=0&&decide (a.bc<b.bK)):=by
 show(E0 ab a b).val=_;unfold E0;simp only[T.az,T.av];cases a.bc !=0<;>rfl
theorem U_ (r:cu):GW ab r=some (dT r ⟨363,0⟩||dT r ⟨364,0⟩):=by
 show(E8 ab r).val=_;unfold E8;simp only[T.az,T.av];cases dT r ⟨363,0⟩<;>rfl
theorem Vs {x:Int} (a:0<=x) (h:x<=1000000):ω.wrap x=x:=by
 simp only[IntKind.wrap,ξz,ξt];simp;omega
section
variable {q:List aA}
abbrev kB (q:List aA) (x:Int):Int:=PB aA.bK q x
def s' (q:List aA) (l:Γa):Prop:= ∀x∈l,0<=x/\x<(q.length:Int)
theorem adM {x:Int} (h:0<=x/\x<(q.length:Int)): ∃d,idx q x=some d/\d.bK=kB q x:=by
 obtain⟨n,rfl⟩: ∃n:Nat,x=n:=⟨x.toNat,by omega⟩;have hn:n<q.length:=by omega
 refine⟨q[n],gH (δ hn),?_⟩;unfold kB PB;rw[ξa,δ hn]
end





section
variable {α σ X:Type}
theorem Rm {P:Nat->Prop} (h: ∃n,P n): ∃n,P n/\ ∀m,m<n-> ¬P m:=by
 obtain⟨n,hn⟩:=h
 induction n using Nat.strongRecOn with
 |_ n b=>
  by_cases hm: ∃m,m<n/\P m
  ·obtain⟨m,h1,a⟩:=hm;exact b m h1 a
  ·exact⟨n,hn,λm h1 a=>hm ⟨m,h1,a⟩⟩
theorem Jz {step:Int->α->σ->Option (σ⊕X)} {fin:Int->σ->Option X} {l:List α} {st:Nat->σ} {ok:Nat->α->Bool} {x0:Nat->X} {x1:X} (h: ∀(j:Nat) z,l[j]? =some z->(∀(i:Nat) z,i<j->l[i]? =some z->ok i z=true)->step j z (st j)=some (bif ok j z then .inl (st (j+1)) else .inr (x0 j))) (e:(∀(j:Nat) z,l[j]? =some z->ok j z=true)->fin (l.length:Int) (st l.length)=some x1):
  ((∀(j:Nat) z,l[j]? =some z->ok j z=true)/\bB step fin 0 l (st 0)=some x1)\/ ∃(j:Nat) (z:α),l[j]? =some z/\ok j z=false/\(∀(i:Nat) z,i<j->l[i]? =some z->ok i z=true)/\bB step fin 0 l (st 0)=some (x0 j):=by
 by_cases b: ∃j:Nat,∃z,l[j]? =some z/\ok j z=false
 ·obtain⟨n,⟨z0,h1,d⟩,c⟩:=Rm b;have c: ∀(i:Nat) z,i<n->l[i]? =some z->ok i z=true:=λi z hi a=>by
   cases hk:ok i z with
   |true=>rfl
   |false=>exact absurd ⟨z,a,hk⟩ (c i hi)
  refine .inr ⟨n,z0,h1,d,c,Tn h1 (λj z f a=>?_) ?_⟩
  ·rw[h j z a (λi z hi=>c i z (by omega)),c j z f a];rfl
  ·rw[h n z0 h1 c,d];rfl
 ·have b: ∀(j:Nat) z,l[j]? =some z->ok j z=true:=λj z a=>by
   cases hk:ok j z with
   |true=>rfl
   |false=>exact absurd ⟨j,z,a,hk⟩ b
  refine .inl ⟨b,Jy (λj z a=>?_) (e b)⟩;rw[h j z a (λi z _ a=>b i z a),b j z a];rfl
end
theorem ajG (d:aA): ∃b,pP ab d=some b:=by
 show ∃b,(jv ab d).val=some b;unfold jv;simp only[T.az,T.av];generalize (d.a8==0)=a;generalize decide (d.bS>=0)=c;generalize decide (d.bS<8)=e;generalize decide (d.bK>=1)=f;generalize (d.bc==0)=g;generalize dT d.bt (cu.mk 0 0)=h;generalize decide (d.a8>=d.bK)=i;generalize decide (d.a8<=d.bc)=j;cases a<;>cases c<;>cases e<;>cases f<;>cases g<;>cases h<;>cases i<;>cases j<;>exact⟨_,rfl⟩
noncomputable def eV (d:aA):Bool:=(pP ab d).getD false
theorem yK (d:aA):pP ab d=some (eV d):=by
 obtain⟨b,h⟩:=ajG d;unfold eV;rw[h];rfl
def fM (a b:aA):Bool:=a.bc !=0&&decide (a.bc<b.bK)
def kg (x d:aA):Bool:=(x.bS !=d.bS)||(fM x d||fM d x)
def h9 (x d:aA):Bool:=kg x d&&(d.a8==0||x.a8 !=d.a8)
def iy (q:List aA):Prop:=q.length<=64/\(∀d∈q,eV d=true)/\q.Pairwise λx d=>h9 x d=true
section
variable {q:List aA}
def fk (q:List aA) (j:Nat) (k:Int):Nat:=((q.take j).filter λx=>x.a8==k).length
def gj (q:List aA):Nat->Γc
 |0=>[]
 |j+1=>match q[j]? with
  |some d=>cp (gj q j) d.a8 (ω.wrap ((bG (gj q j) d.a8).getD 0+1))
  |none=>gj q j
theorem NK {j:Nat} {k:Int}:fk q j k<=j:=Nat.le_trans (List.length_filter_le _ _) (by simp;omega)
theorem abC {j:Nat} {k:Int} {d:aA} (h:q[j]? =some d):fk q (j+1) k=fk q j k+if d.a8=k then 1 else 0:=by
 unfold fk;rw[ξb,h,List.filter_append,ξm]
 congr 1
 by_cases e:d.a8=k<;>simp[e]
theorem xu: ∀ {j:Nat} {k:Int},j<=1000->(bG (gj q j) k).getD 0=(fk q j k:Int)
 |0,k,_=>by simp[gj,bG,fk]
 |j+1,k,h=>by
  unfold gj;cases a:q[j]? with
  |none=>
   have:fk q (j+1) k=fk q j k:=by
    unfold fk;rw[ξb,a];simp
   rw[this];exact xu (by omega)
  |some d=>
   rw[abC a];simp only;rw[nH]
   by_cases e:d.a8=k
   ·subst e;have h1:=xu (j:=j) (k:=d.a8) (by omega);have c:=NK (q:=q) (j:=j) (k:=d.a8);simp only[if_true,χ,h1];rw[Vs]<;>omega
   ·simp only[e,if_false,Nat.add_zero];have h1:=xu (j:=j) (k:=k) (by omega)
    first
     |exact h1
     |(rw[if_neg (λb=>e b.symm)];exact h1)
theorem aik (q:List aA):((∀d∈q,eV d=true)/\ ∃y,tb ab q=some (.inr y))\/(¬(∀d∈q,eV d=true)/\ ∃j:Nat,tb ab q=some (.inl (j:Int))):=by
 have h:=Jz (step:=λi z a=>(tw ab q i z a).val) (fin:=λi a=>(rM ab q i a).val) (l:=q) (st:=λ_=>()) (ok:=λ_ z=>eV z) (x0:=λj=>.inl (j:Int)) (x1:=.inr (false,(q.length:Int))) (λj z f _=>by
  unfold tw;simp only[T.aG,T.az,T.av,yK,ε];cases eV z<;>rfl) (λ_=>by
  unfold rM;simp only[T.av];simp)
 rcases h with⟨h1,b⟩|⟨j,z,h1,b,_,c⟩
 ·refine .inl ⟨λd e=>?_,_,b⟩;obtain⟨i,hi,rfl⟩:=ξk e;exact h1 i _ (δ hi)
 ·refine .inr ⟨λh=>?_,j,c⟩;rw[h z (η h1)] at b;cases b
theorem ail (l:List aA) (d:aA):(l.all (λx=>kg x d)=true/\ ∃y,tc ab l d.bS d.bP.aQ d.bP.fArgs d.bt.b0 d.bt.b8 d.bK d.a8 d.bc=some (.inr y))\/(l.all (λx=>kg x d)=false/\ ∃j:Nat,tc ab l d.bS d.bP.aQ d.bP.fArgs d.bt.b0 d.bt.b8 d.bK d.a8 d.bc=some (.inl (j:Int))):=by
 have h:=Jz (step:=λi z a=>(tz ab l d.bS d.bP.aQ d.bP.fArgs d.bt.b0 d.bt.b8 d.bK d.a8 d.bc i z a).val) (fin:=λi a=>(rN ab l d.bS d.bP.aQ d.bP.fArgs d.bt.b0 d.bt.b8 d.bK d.a8 d.bc i a).val) (l:=l) (st:=λ_=>()) (ok:=λ_ z=>kg z d) (x0:=λj=>.inl (j:Int)) (x1:=.inr (false,(l.length:Int))) (λj z k _=>by
  unfold tz;have e:(aA.mk d.bS (b3.mk d.bP.aQ d.bP.fArgs) (cu.mk d.bt.b0 d.bt.b8) d.bK d.a8 d.bc)=d:=rfl;rw[e];simp only[T.aG,T.az,T.av,U9,ε];unfold kg fM;cases (z.bS !=d.bS)<;>cases (z.bc !=0&&decide (z.bc<d.bK))<;>cases (d.bc !=0&&decide (d.bc<z.bK))<;>rfl) (λ_=>by
  unfold rN;simp only[T.av];simp)
 rcases h with⟨h1,b⟩|⟨j,z,h1,b,_,c⟩
 ·refine .inl ⟨κ.2 λx g=>?_,_,b⟩;obtain⟨i,hi,rfl⟩:=ξk g;exact h1 i _ (δ hi)
 ·refine .inr ⟨?_,j,c⟩;cases f:l.all (λx=>kg x d) with
  |false=>rfl
  |true=>
   rw[κ.1 f z (η h1)] at b;cases b
theorem aa_ {j:Nat} {d:aA}:(q.take j).all (λx=>h9 x d)=((q.take j).all (λx=>kg x d)&&(d.a8==0||decide (fk q j d.a8=0))):=by
 rw[ο];unfold h9 fk;simp only[κ,μ,Bool.or_eq_true,beq_iff_eq,bne_iff_ne,ne_eq,decide_eq_true_eq,List.length_eq_zero_iff,List.filter_eq_nil_iff];constructor
 ·intro h;refine⟨λx a=>(h x a).1,?_⟩
  by_cases e:d.a8=0
  ·exact .inl e
  ·exact .inr λx a=>(h x a).2.resolve_left e
 ·rintro ⟨h1,b⟩ x a;exact⟨h1 x a,b.imp id λh=>h x a⟩
theorem U6 (F:q.length<=100):(nj ab ⟨q⟩=some 0/\iy q)\/(nj ab ⟨q⟩=some 390/\ ¬iy q):=by
 by_cases hl:q.length<=64
 rotate_left
 ·refine .inr ⟨?_,λh=>hl h.1⟩;show(ju ab ⟨q⟩).val=_;unfold ju;have c:decide ((q.length:Int)>64)=true:=decide_eq_true (by omega);simp only[T.az,T.av,c,cond_true]
 have c:decide ((q.length:Int)>64)=false:=decide_eq_false (by omega);have B: ∀(j:Nat) z,q[j]? =some z->(oV ab q j z (gj q j)).val=some (bif (q.take j).all (λx=>h9 x z) then .inl (gj q (j+1)) else .inr (.inl ())):=λj z b=>by
  have g:j<q.length:=(γ.1 b).1;have r:dF q none (some (j:Int)) none=some (q.take j):=by
   unfold dF;simp only[Option.getD_none,χ];rw[if_pos ⟨by omega,by omega,by omega,by omega,by omega,by simp⟩];simp
  have hm:gj q (j+1)=cp (gj q j) z.a8 (ω.wrap ((bG (gj q j) z.a8).getD 0+1)):=by
   conv=>lhs;unfold gj
   rw[b]
  have p:=xu (q:=q) (j:=j) (k:=z.a8) (by omega);have D:=NK (q:=q) (j:=j) (k:=z.a8);have A:(bG (cp (gj q j) z.a8 (ω.wrap ((fk q j z.a8:Int)+1))) z.a8).getD 0=(fk q j z.a8:Int)+1:=by
   rw[nH,if_pos rfl,χ,Vs]<;>omega
  have w:decide ((fk q j z.a8:Int)+1>1)=!decide (fk q j z.a8=0):=by
   by_cases e:fk q j z.a8=0
   ·simp[e]
   ·have:(fk q j z.a8:Int)+1>1:=by omega
    simp[e,this]
  rw[aa_,hm,p];unfold oV;rcases ail (q.take j) z with⟨n,y,o⟩|⟨n,i,o⟩
  ·simp only[T.aG,T.bw,T.ch,T.az,T.av,r,o,ε,p,A,w,n];rw[show(z.a8 !=0)=!(z.a8==0) from rfl];cases (z.a8==0)<;>cases decide (fk q j z.a8=0)<;>rfl
  ·have m:decide ((i:Int)>=0)=true:=decide_eq_true (by omega);simp only[T.aG,T.bw,T.ch,T.az,T.av,r,o,ε,m,n];rfl
 have u:=Jz (step:=λi z a=>(oV ab q i z a).val) (fin:=λi a=>(sb ab q i a).val) (l:=q) (st:=gj q) (ok:=λj z=>(q.take j).all (λx=>h9 x z)) (x0:=λ_=>.inl ()) (x1:=.inr (false,(q.length:Int),gj q q.length)) (λj z b _=>B j z b) (λ_=>by
  unfold sb;simp only[T.av];simp)
 have s:(∀(j:Nat) z,q[j]? =some z->(q.take j).all (λx=>h9 x z)=true)↔q.Pairwise λx d=>h9 x d=true:=by
  rw[ι];constructor
  ·intro h i j hi g E;exact κ.1 (h j q[j] (δ g)) q[i] (υ.2 ⟨i,by omega,rfl⟩)
  ·intro h j z b;obtain⟨g,rfl⟩:=γ.1 b;refine κ.2 λx C=>?_;obtain⟨i,hi,rfl⟩:=υ.1 C;exact h i j (by omega) g (by omega)
 have v:(q.Pairwise (λx d=>h9 x d=true)/\ ∃y,oH ab q []=some (.inr y))\/(¬q.Pairwise (λx d=>h9 x d=true)/\oH ab q []=some (.inl ())):=by
  rcases u with⟨h1,f⟩|⟨j,z,h1,f,_,t⟩
  ·exact .inl ⟨s.1 h1,_,f⟩
  ·refine .inr ⟨λh=>?_,t⟩;rw[s.2 h j z h1] at f;cases f
 rcases aik q with⟨s1,y,s2⟩|⟨s1,j,s2⟩
 ·rcases v with⟨p1,x,p2⟩|⟨p1,p2⟩
  ·refine .inl ⟨?_,hl,s1,p1⟩;show(ju ab ⟨q⟩).val=_;unfold ju;simp only[T.az,T.bw,T.aG,T.ch,T.av,c,cond_false,s2,p2,ε]
  ·refine .inr ⟨?_,λh=>p1 h.2.2⟩;show(ju ab ⟨q⟩).val=_;unfold ju;simp only[T.az,T.bw,T.aG,T.ch,T.av,c,cond_false,s2,p2,ε]
 ·refine .inr ⟨?_,λh=>s1 h.2.1⟩;have m:decide ((j:Int)>=0)=true:=decide_eq_true (by omega);show(ju ab ⟨q⟩).val=_;unfold ju;simp only[T.az,T.bw,T.aG,T.ch,T.av,c,cond_false,s2,m,ε,ξd,Bool.not_false,cond_true]
end
end Go.Proofs.YtoggponeookhbaaGreatDoor
end
section
namespace Go.Proofs.YtoggponeookhbaaGreatDoor
open Go.RowKit Go.Dc Go.Vx Go.Sort

end Go.Proofs.YtoggponeookhbaaGreatDoor
end
section
namespace Go.Proofs.YtoggponeookhbaaGreatDoor
open Go.RowKit Go.Dc Go.Vx
section
variable {α σ X:Type}
theorem Tl {step:Int->α->σ->Option (σ⊕X)} {fin:Int->σ->Option X} {l:List α} {I:Nat->σ->Prop} {J:X->Prop}
  (h: ∀(j:Nat) z a,l[j]? =some z->I j a-> ∃y,step j z a=some y/\(∀a',y= .inl a'->I (j+1) a')/\ ∀x,y= .inr x->J x) (b: ∀a,I l.length a-> ∃x,fin (l.length:Int) a=some x/\J x):
  ∀(r pre:List α) (a:σ),l=pre++r->I pre.length a-> ∃x,bB step fin pre.length r a=some x/\J x
 |[],pre,a,e,hi=>by
  rw[ξ0] at e;subst e;exact b a hi
 |z::r,pre,a,e,hi=>by
  obtain⟨y,h1,c,d⟩:=h pre.length z a (by rw[e];simp) hi;rw[hx,h1,ε];cases y with
  |inl a'=>
   have:=Tl h b r (pre++[z]) a' (by rw[e];simp) (by rw[ξm];exact c a' rfl);rw[show(pre++[z]).length=pre.length+1 by simp] at this;exact this
  |inr x=>exact⟨x,rfl,d x rfl⟩
theorem Tk {step:Int->α->σ->Option (σ⊕X)} {fin:Int->σ->Option X} {l:List α} {I:Nat->σ->Prop} {J:X->Prop} {a0:σ}
 (h: ∀(j:Nat) z a,l[j]? =some z->I j a-> ∃y,step j z a=some y/\(∀a',y= .inl a'->I (j+1) a')/\ ∀x,y= .inr x->J x) (c: ∀a,I l.length a-> ∃x,fin (l.length:Int) a=some x/\J x) (b:I 0 a0): ∃x,bB step fin 0 l a0=some x/\J x:=Tl h c l [] a0 rfl b
end
theorem U8 {s:aZ} {d:aA} (c:dn s) (e:gY d.bP): ∃a b,hN ab s d=some (a,b)/\dn a:=by
 have hi:=adR c e;show ∃a b,(o_ ab s d).val=some (a,b)/\dn a;unfold o_;simp only[T.aG,T.az,T.av,UZ c e,ε,U_,v12];cases (d.bc==0)
 ·cases (dT d.bt ⟨363,0⟩||dT d.bt ⟨364,0⟩)
  ·exact⟨_,_,rfl,hi⟩
  ·cases ((gA s d.bP).2.b0==0)
   ·exact⟨_,_,rfl,c⟩
   ·exact⟨_,_,rfl,c⟩
 ·exact⟨_,_,rfl,hi⟩
section
variable {q:List aA}
def mO (q:List aA):Prop:= ∀d∈q,gY d.bP
theorem Pm {x:Int} {d:aA} (h:idx q x=some d):d∈q:=by
 unfold idx at h;split at h
 ·exact η h
 ·cases h
end



end Go.Proofs.YtoggponeookhbaaGreatDoor
end
section
namespace Go.Proofs.YtoggponeookhbaaGreatDoor
open Go.RowKit Go.Dc Go.Vx
variable (U:Sh)
def Ds (U:Sh) (c:List aA) (p1:List Bool) (p2:Int) (z0:aA) (a:Unit):T (Unit⊕Unit⊕(Bool×Int)):=.bf (z0.bc !=0) (.bd (c6 p2 64) λb=>.bf (!ck p1 b) (.ok (.inr (.inl ())))<|.ok (.inl ()))<|.ok (.inl ())
def y6 (U:Sh) (b:List aA) (p1:List Bool) (p2:Int) (a:Unit):T (Unit⊕(Bool×Int)):=.ok (.inr (decide (p2<(↑b.length:Int)),p2))
def YL (a:List aA) (p1:List Bool):=bC U (Ds U a p1) (y6 U a p1) a ()
end Go.Proofs.YtoggponeookhbaaGreatDoor
end
section
namespace Go.Vx
open Go.RowKit Go.Dc
section
variable {S:bm} {P:Program} {K:Kit S}
theorem dk.aiP {f j:Nat} {vs:List (aB S)} {h h':AH S} {r:Rs S} (a:dk K P f vs h r h' []) (hl:j<h.length):dk K P f vs h r h' [j]:=
 ⟨a.1,λA O w xs h1 d e g k l=>(a.2 A O w xs h1 d e g k l).mono λ_ _ ⟨A',O',n,c⟩=>⟨A',O',n,{c with
  lt:=λi hi=>by rw[ξ6.1 hi];exact hl
  cl:=λb m _=>c.cl b m λi hi=>by cases hi}⟩⟩
theorem adw {G:bN S} (o:aR G P) {n f j:Nat} {vs:List (aB S)} {h:AH S} {X:Type} {t:T (X×Bool)} {rs:X->Rs S} {hp:X->AH S}
  (heq: ∀ {R:Type} (k:Rs S->AH S->Γ->Option R),e1 G n f vs h k=t.run (λr=>k (rs r.1) (hp r.1) (bif r.2 then[j] else[]))) {F:Option (X×Bool)} (m:F=shut.s _ t.val) (hl:j<h.length)
  {R:Type} {k:Rs S->AH S->Γ->Option R} {z:R} (a:(F.map (·.1)).bind (λr=>k (rs r) (hp r) [j])=some z): ∃r h' dt,k r h' dt=some z/\dk G.K P f vs h r h' dt:=by
 cases d:F with
 |none=>rw[d] at a;cases a
 |some x=>
  rw[d] at a;have q:t.val=some x:=pY (by rw[<-m];exact d);have h1:e1 G n f vs h (λr h' dt=>some (ξC.{0} (r,h',dt)).down)=some (rs x.1,hp x.1,bif x.2 then[j] else[]):=by
   rw[heq,T.l9,q];rfl
  obtain⟨u,h',dt,c,g⟩:=pb o h1;injection c with c;injection c with i b;injection b with b e;subst i;subst b;have l:dk G.K P f vs h (rs x.1) (hp x.1) [j]:=by
   cases p:x.2<;>rw[p] at e<;>subst e
   ·exact g.aiP hl
   ·exact g
  exact⟨_,_,_,a,l⟩
theorem dk.seen {f j:Nat} {vs:List (aB S)} {h h':AH S} {r:Rs S} {dt:Γ} {X a:Ob S} (m:aE h j=some X) (hR: ∀ {A:Pl} {O:Γ} {w:World} p,dd A O w X p->dd A O w a p) (hn:a.nt=true)
  (l:dk K P f vs (h.set j (some a)) r h' dt):dk K P f vs h r h' dt:=by
 refine⟨l.1,λA O w xs h1 e t u v y=>?_⟩;have k: ∀ {i:Nat} {Y:Ob S},aE (h.set j (some a)) i=some Y->(i=j/\Y=a)\/(i≠j/\aE h i=some Y):=by
  intro i Y hi;rw[hW,ξo] at hi;split at hi
  ·rename_i he;split at hi
   ·simp only[Option.some.injEq] at hi;exact .inl ⟨he.symm,hi.symm⟩
   ·cases hi
  ·rename_i he;exact .inr ⟨λx=>he x.symm,hW.2 hi⟩
 have hold: ∀ {i:Nat} {Y:Ob S},aE (h.set j (some a)) i=some Y-> ∃Z,aE h i=some Z/\ ∀w p b,cD w Y p b->cD w Z p b:=by
  intro i Y hi;rcases k hi with⟨rfl,rfl⟩|⟨_,c⟩
  ·exact⟨_,m,λw p b d=>.inl (eQ hn d)⟩
  ·exact⟨_,c,λw p b d=>d⟩
 have hl:(h.set j (some a)).length=h.length:=ξr;have:=l.2 A O w xs h1 ⟨?_,?_⟩ t u (by rw[hl];exact v) ?_
 ·rw[hl] at this;exact this
 ·intro i Y hi;rcases k hi with⟨rfl,rfl⟩|⟨_,c⟩
  ·obtain⟨p,hp,g,d⟩:=e.al i _ m;exact⟨p,hp,hR p g,d⟩
  ·exact e.al i Y c
 ·intro i G Y Z p q b C hi B hp E D F;obtain⟨n,c,g⟩:=hold hi;obtain⟨o,z,s⟩:=hold B;exact e.f' i G n o p q b C c z hp E (g w p b D) (s w q b F)
 ·intro i Y hi;rcases k hi with⟨rfl,rfl⟩|⟨_,c⟩
  ·exact hn
  ·exact y i Y c
def flagsOf:List (LV S)->Option (LV S×Nat×List Bool)
 |[]=>none
 |a::cs=>match cs with
  |[.cA n bs]=>some (a,n,bs)
  |cs=>match lx cs with
   |some bs=>some (a,bs.length,bs)
   |none=>none
theorem acS {A:Pl} {O:Γ} {w:World} {t n:Nat} {cs:List (LV S)} {a:LV S} {bs:List Bool} (h:flagsOf cs=some (a,n,bs)) (p:Value) (hR:dd A O w (.box t cs) p):dd A O w (.box t [a,.cA n bs]) p:=by
 unfold flagsOf at h;split at h
 ·cases h
 split at h
 ·cases h;exact hR
 split at h
 rotate_left
 ·cases h
 rename_i i g;cases h;obtain⟨b,vs,h1,c,ys,zs,d,e,f⟩:=hR;exact⟨b,vs,h1,c,ys,zs,d,e,zs,[],by simp,⟨rfl,uK g f⟩,rfl⟩
end
end Go.Vx
end
section


end
section
namespace Go.Proofs.YtoggponeookhbaaGreatDoor
open Go.RowKit Go.Dc Go.Vx
variable (U:Sh)
def qk (a:List aA) (p1:List Bool) (p2:Int):AS SS:=⟨[(0,va 0 0),(9,vd 22 a),(10,vl a),(11,vi p2)],[bX 77 [.aJ 22 a,.cA 64 p1]],1,none,false,[],[]⟩
def oY (U:Sh) (c:List aA) (p1:List Bool) (p2:Int) (z0:aA) (a:Unit):T (Unit⊕Unit⊕(Bool×Int)):=.bf (z0.bc !=0) (.bd (c6 p2 64) λb=>.bf (!ck p1 b) (.ok (.inr (.inl ())))<|.ok (.inl ()))<|.ok (.inl ())
def y7 (U:Sh) (b:List aA) (p1:List Bool) (p2:Int) (a:Unit):T (Unit⊕(Bool×Int)):=.ok (.inr (decide (p2<(↑b.length:Int)),p2))
def tg (a:List aA) (p1:List Bool):=bC U (oY U a p1) (y7 U a p1) a ()
def aag {R} (k:KX SS R) (a:List aA) (p1:List Bool) (x:Unit⊕(Bool×Int)):Option R:=x.elim (λv=>k .ret {qk a p1 0 with env:=[(2,vb false)]}) (λv=>k (.exit 0) (xe [(12,vb v.1)] (qk a p1 v.2)))
def xi:aX SS:=bh 3 (sq (sD 22 9) (hX pB 0 1)) (λp=>u2 qk p 0) (u2 (tg shut)) (λk=>u2 (aag k))
def HD (a:Int) (p1:List aA) (p2:List Bool) (n:List aA) (o:Γa) (p:List ah) (q:List ai) (r:List ay) (s:Int) (t:List au) (b:List ar) (c:Bool) (d e:Int) (f:Γa) (g h i j k l:Int) (m:Bool):AS SS:=⟨[(0,vs .cW),(1,va 10 0),(3,vi a),(4,va 11 0),(5,vb m),(12,vd 22 p1),(13,vl p1),(14,vi a),(29,vd 22 p1),(30,vl p1),(31,vi l)],[bX 25 [.a7 1],some (.a7 24 [.one (.aM 2 0)] []),bX 77 [.aJ 22 p1,.cA 64 p2],bX 73 [.aM 2 0],bX 24 [.aJ 22 n],bX 78 [.a7 6],some (.a7 25 [] [.one (.aM 0 0),.one (.aM 3 0),.one (.aM 4 0),.one (.aM 5 0)]),bX 60 [.bA .i64 16 o,.aJ 48 p,.aJ 51 q,.aJ 52 r,lu s,.aJ 55 t,.aJ 56 b],bX 4 [.v (.bool c)],some (.a7 51 [] [.one (.aM 10 0)]),bX 73 [.aM 2 0],bX 42 [li d,lu e,.bA .u64 4 f,li g,lu h,li i,li j,li k]],11,some ⟨⟨ξ7,aq 25⟩,[15],ey (ca ξ7) 7,ez (ca ξ7) 7,[(2,va 3 0),(3,va 4 0),(4,va 5 0),(5,va 7 0),(7,va 8 0),(14,vc 9)],none⟩,false,[],[2,8]⟩
def T6 (a:Int) (p1:List aA) (p2:List Bool) (m:List aA) (n:Γa) (o:List ah) (p:List ai) (q:List ay) (r:Int) (s:List au) (b:List ar) (c:Bool) (d e:Int) (f:Γa) (g h i j k:Int) (l:Bool):AS SS:=HD a p1 p2 m n o p q r s b c d e f g h i j k 0 l
def uu (l:Int) (p1:List aA) (p2:List Bool) (o:List aA) (p:Γa) (q:List ah) (r:List ai) (s:List ay) (t:Int) (u:List au) (m:List ar) (n:Bool) (b c:Int) (d:Γa) (e f g h i j:Int) (z0:aA) (a:Bool):T (Bool⊕(Bool×Bool×Int)):=.bf (a) (.bd (c6 j 64) λk=>.bf (ck p2 k) (.ok (.inl true))<|.bd (pO U z0 (aA.mk b (b3.mk c d) (cu.mk e f) g h i)) λz2=>.ok (.inl (!z2)))<|.ok (.inl false)
def sF (U:Sh) (c:Int) (p1:List aA) (p2:List Bool) (n:List aA) (o:Γa) (p:List ah) (q:List ai) (r:List ay) (s:Int) (t:List au) (d:List ar) (e:Bool) (f g:Int) (h:Γa) (i j k l m b:Int) (a:Bool):T ((Bool×Bool×Int)):=.ok (decide (b<(↑p1.length:Int)),a,b)
def C_ (a:Int) (p1:List aA) (p2:List Bool) (l:List aA) (m:Γa) (n:List ah) (o:List ai) (p:List ay) (q:Int) (r:List au) (b:List ar) (c:Bool) (d e:Int) (f:Γa) (g h i j k:Int) (s:Bool):=bC U (uu U a p1 p2 l m n o p q r b c d e f g h i j k) (sF U a p1 p2 l m n o p q r b c d e f g h i j k) p1 s
def aaM {R} (k:KX SS R) (a:Int) (p1:List aA) (p2:List Bool) (m:List aA) (n:Γa) (o:List ah) (p:List ai) (q:List ay) (r:Int) (s:List au) (c:List ar) (b:Bool) (d e:Int) (f:Γa) (g h i j l:Int) (x:(Bool×Bool×Int)):Option R:=(λv=>k (.exit 2) {HD a p1 p2 m n o p q r s c b d e f g h i j l a b with env:=[(32,vb v.1),(0,vs .cW),(1,va 10 0),(3,vi a),(4,va 11 0),(5,vb v.2.1),(12,vd 22 p1),(13,vl p1),(14,vi a),(29,vd 22 p1),(30,vl p1),(31,vi v.2.2)]}) x
def H':aX SS:=bh 7 (gq (λst=>(cG st 1 24).bind λ_=>(cG st 6 25).bind λ_=>(cG st 9 51).bind λ_=>fQ st 43 7) (sq (sI 3) (sq (sD 22 12) (sq (hX pB 2 1) (sq (hD 22 4 0) (sq (hX ea 7 0) (sq (hD 48 7 1) (sq (hD 51 7 2) (sq (hD 52 7 3) (sq (hI 7 4) (sq (hD 55 7 5) (sq (hD 56 7 6) (sq (hX gD 8 0) (sq (hI 11 0) (sq (hI 11 1) (sq (hX ea 11 2) (sq (hI 11 3) (sq (hI 11 4) (sq (hI 11 5) (sq (hI 11 6) (sq (hI 11 7) (sX gD 5)))))))))))))))))))))) (Uz T6) (Uz (C_ shut)) (λk p=>aaM k p.1 p.2.1 p.2.2.1 p.2.2.2.1 p.2.2.2.2.1 p.2.2.2.2.2.1 p.2.2.2.2.2.2.1 p.2.2.2.2.2.2.2.1 p.2.2.2.2.2.2.2.2.1 p.2.2.2.2.2.2.2.2.2.1 p.2.2.2.2.2.2.2.2.2.2.1 p.2.2.2.2.2.2.2.2.2.2.2.1 p.2.2.2.2.2.2.2.2.2.2.2.2.1 p.2.2.2.2.2.2.2.2.2.2.2.2.2.1 p.2.2.2.2.2.2.2.2.2.2.2.2.2.2.1 p.2.2.2.2.2.2.2.2.2.2.2.2.2.2.2.1 p.2.2.2.2.2.2.2.2.2.2.2.2.2.2.2.2.1 p.2.2.2.2.2.2.2.2.2.2.2.2.2.2.2.2.2.1 p.2.2.2.2.2.2.2.2.2.2.2.2.2.2.2.2.2.2.1 p.2.2.2.2.2.2.2.2.2.2.2.2.2.2.2.2.2.2.2.1)
abbrev fL:=List Bool->List aA->List aA->Γa->List ah->List ai->List ay->Int->List au->List ar->Option (List Bool×Bool)
def hQ (F:fL):eO SS:=⟨25,λvs h k=>match vs,h with|[.agg [.bA .i64 16 g0,.aJ 48 g1,.aJ 51 g2,.aJ 52 g3,.v (.int .u64 g4),.aJ 55 g5,.aJ 56 g6],.one (.aM 0 0),.one (.aM 3 0),.one (.aM 4 0),.one (.aM 5 0)],[some (.box 25 [.a7 1]),some (.a7 24 [.one (.aM 2 0)] []),some (.box 77 cs),some (.box 73 [.aM 2 0]),some (.box 24 [.aJ 22 q]),some (.box 78 [.a7 6]),some (.a7 25 [] [.one (.aM 0 0),.one (.aM 3 0),.one (.aM 4 0),.one (.aM 5 0)])]=>(match flagsOf cs with|some (.aJ 22 a,64,p)=>(F p q a g0 g1 g2 g3 g4 g5 g6).bind λr=>k (.ret (.s (.one (.v (.bool r.2))))) [some (.box 25 [.a7 1]),some (.a7 24 [.one (.aM 2 0)] []),some (.box 77 [.aJ 22 a,.cA 64 r.1]),some (.box 73 [.aM 2 0]),some (.box 24 [.aJ 22 q]),some (.box 78 [.a7 6]),some (.a7 25 [] [.one (.aM 0 0),.one (.aM 3 0),.one (.aM 4 0),.one (.aM 5 0)])] [2]|_=>none)|_,_=>none⟩
def HC (a:List aA) (p1:List Bool) (p2:List aA) (d:Γa) (e:List ah) (f:List ai) (g:List ay) (h:Int) (i:List au) (j:List ar) (b:Int) (c:Bool):AS SS:=⟨[(0,vs .cW),(1,va 10 0),(12,vd 22 a),(13,vl a),(14,vi b)],[bX 25 [.a7 1],some (.a7 24 [.one (.aM 2 0)] []),bX 77 [.aJ 22 a,.cA 64 p1],bX 73 [.aM 2 0],bX 24 [.aJ 22 p2],bX 78 [.a7 6],some (.a7 25 [] [.one (.aM 0 0),.one (.aM 3 0),.one (.aM 4 0),.one (.aM 5 0)]),bX 60 [.bA .i64 16 d,.aJ 48 e,.aJ 51 f,.aJ 52 g,lu h,.aJ 55 i,.aJ 56 j],bX 4 [.v (.bool c)],some (.a7 51 [] [.one (.aM 10 0)]),bX 73 [.aM 2 0]],11,some ⟨⟨ξ7,aq 25⟩,[15],ey (ca ξ7) 7,ez (ca ξ7) 7,[(2,va 3 0),(3,va 4 0),(4,va 5 0),(5,va 7 0),(7,va 8 0),(14,vc 9)],none⟩,false,[],[2,8]⟩
def T5 (a:List aA) (p1:List Bool) (p2:List aA) (c:Γa) (d:List ah) (e:List ai) (f:List ay) (g:Int) (h:List au) (i:List ar) (b:Bool):AS SS:=HC a p1 p2 c d e f g h i 0 b
def ur (m:fL) (d p2:List aA) (e:Γa) (f:List ah) (g:List ai) (h:List ay) (i:Int) (j:List au) (k:List ar) (b:Int) (z0:aA) (a:List Bool×Bool):T ((List Bool×Bool)⊕(List Bool×Bool)⊕(Bool×Int×List Bool×Bool)):=.bd (c6 b 64) λo=>.bf (ck a.1 o) (.ok (.inl (a.1,a.2)))<|.gd (T6 b d a.1 p2 e f g h i j k a.2 z0.bS z0.bP.aQ z0.bP.fArgs z0.bt.b0 z0.bt.b8 z0.bK z0.a8 z0.bc true)<|.bd (C_ U b d a.1 p2 e f g h i j k a.2 z0.bS z0.bP.aQ z0.bP.fArgs z0.bt.b0 z0.bt.b8 z0.bK z0.a8 z0.bc true) λn=>.bf (n.2.1) (.bd (idx p2 b) λz3=>.bd (hN U (aZ.mk (br.mk e f) g (bz.mk h i) (aL.mk j k)) z3) λz4=>.bf (!z4.snd) (.ok (.inl (a.1,a.2)))<|.bd (c6 b 64) λz5=>.bf (a.1.length.beq 64) (.bd (m (a.1.set z5 true) p2 d z4.fst.ax.aH z4.fst.ax.ae z4.fst.aI z4.fst.aC.ae z4.fst.aC.ba z4.fst.aw.ak z4.fst.aw.an) λc=>.bd (c6 b 64) λl=>.bf (c.fst.length.beq 64) (.bf (c.snd) (.ok (.inr (.inl (c.fst.set l false,c.snd))))<|.ok (.inl (c.fst.set l false,c.snd)))<|.no)<|.no)<|.ok (.inl (a.1,a.2))
def y9 (U:Sh) (c p2:List aA) (d:Γa) (e:List ah) (f:List ai) (g:List ay) (h:Int) (i:List au) (j:List ar) (b:Int) (a:List Bool×Bool):T ((List Bool×Bool)⊕(Bool×Int×List Bool×Bool)):=.ok (.inr (decide (b<(↑c.length:Int)),b,a.1,a.2))
def C9 (i:fL) (a:List aA) (p1:List Bool) (p2:List aA) (b:Γa) (c:List ah) (d:List ai) (e:List ay) (f:Int) (g:List au) (h:List ar) (j:Bool):=bC U (ur U i a p2 b c d e f g h) (y9 U a p2 b c d e f g h) a (p1,j)
def aaL {R} (k:KX SS R) (a p2:List aA) (c:Γa) (d:List ah) (e:List ai) (f:List ay) (b:Int) (g:List au) (h:List ar) (x:(List Bool×Bool)⊕(Bool×Int×List Bool×Bool)):Option R:=x.elim (λv=>k .ret ⟨[],[bX 25 [.a7 1],some (.a7 24 [.one (.aM 2 0)] []),bX 77 [.aJ 22 a,.cA 64 v.1],bX 73 [.aM 2 0],bX 24 [.aJ 22 p2],bX 78 [.a7 6],some (.a7 25 [] [.one (.aM 0 0),.one (.aM 3 0),.one (.aM 4 0),.one (.aM 5 0)]),bX 60 [.bA .i64 16 c,.aJ 48 d,.aJ 51 e,.aJ 52 f,lu b,.aJ 55 g,.aJ 56 h],bX 4 [.v (.bool v.2)],some (.a7 51 [] [.one (.aM 10 0)]),bX 73 [.aM 2 0]],11,some ⟨⟨ξ7,aq 25⟩,[15],ey (ca ξ7) 7,ez (ca ξ7) 7,[(2,va 3 0),(3,va 4 0),(4,va 5 0),(5,va 7 0),(7,va 8 0),(14,vc 9)],some (.exit 0)⟩,false,[],[2,8]⟩) (λv=>k (.exit 0) {HC a v.2.2.1 p2 c d e f b g h b v.2.2.2 with env:=[(15,vb v.1),(0,vs .cW),(1,va 10 0),(12,vd 22 a),(13,vl a),(14,vi v.2.1)]})
def Q9 (a:fL):aX SS:=hq (λst=>gc (aq 51 2) (ga [2,8] (st)))<|bh 2 (λst=>((cG st 1 24).bind λ_=>(cG st 6 25).bind λ_=>(cG st 9 51).bind λ_=>fQ st 43 7).bind λ_=>(eo 22 (cJ st 12 0)).bind λb=>(pB (dH st 2 1)).bind λp1=>(eo 22 (dH st 4 0)).bind λp2=>(ea (dH st 7 0)).bind λd=>(eo 48 (dH st 7 1)).bind λe=>(eo 51 (dH st 7 2)).bind λf=>(eo 52 (dH st 7 3)).bind λg=>(cO (dH st 7 4)).bind λh=>(eo 55 (dH st 7 5)).bind λi=>(eo 56 (dH st 7 6)).bind λj=>(gD (dH st 8 0)).bind λc=>some (b,p1,p2,d,e,f,g,h,i,j,c)) (jk T5) (jk (C9 shut a)) (λk p=>aaL k p.1 p.2.2.1 p.2.2.2.1 p.2.2.2.2.1 p.2.2.2.2.2.1 p.2.2.2.2.2.2.1 p.2.2.2.2.2.2.2.1 p.2.2.2.2.2.2.2.2.1 p.2.2.2.2.2.2.2.2.2.1)
def o9 (c:fL) (p:List Bool) (q b:List aA) (g0:Γa) (g1:List ah) (g2:List ai) (g3:List ay) (g4:Int) (g5:List au) (g6:List ar):T ((List Bool×Bool)×Bool):=.gd (qk b p 0)<|.bd (tg U b p) λd=>.cs d (λ_=>.gd (T5 b p q g0 g1 g2 g3 g4 g5 g6 false)<|.bd (C9 U c b p q g0 g1 g2 g3 g4 g5 g6 false) λe=>.cs e (λa=>.ok ((a.1,a.2),true)) λa=>.ok ((a.2.2.1,a.2.2.2),true)) λa=>.ok ((p,true),false)
def Oh (a:fL) (p:List Bool) (q b:List aA) (g0:Γa) (g1:List ah) (g2:List ai) (g3:List ay) (g4:Int) (g5:List au) (g6:List ar):=U.s _ (o9 U a p q b g0 g1 g2 g3 g4 g5 g6).val
def kz (U:Sh):Nat->fL
 |0=>λ_ _ _ _ _ _ _ _ _ _=>none
 |n+1=>λp q a g0 g1 g2 g3 g4 g5 g6=>(Oh U (kz U n) p q a g0 g1 g2 g3 g4 g5 g6).map (·.1)
def JH (p:List Bool) (q a:List aA) (g0:Γa) (g1:List ah) (g2:List ai) (g3:List ay) (g4:Int) (g5:List au) (g6:List ar):Option (List Bool×Bool):=kz U 100 p q a g0 g1 g2 g3 g4 g5 g6
def Pb:eO SS:=hQ (JH U)
def mN (h:dm):T (Bool×Int):=.bd (nj U h) λz0=>.bf (z0 !=0) (.ok (false,390))<|.bf (decide ((↑h.cL.length:Int)>7)) (.ok (false,3))<|.bd (vx U) λa=>.bd (JH U (ξ 64 false) h.cL h.cL a.ax.aH a.ax.ae a.aI a.aC.ae a.aC.ba a.aw.ak a.aw.an) λz2=>.ok (z2.snd,0)
def vK (h:dm):=U.s _ (mN U h).val
def abI:eM SS:=fE KK 9 [24] (λ{R} xs k=>match xs with| .cons h .nil=>(vK U h).bind (λr=>k (.ret (.bJ [KK.bl 4 r.1,KK.bl 27 r.2]))))
end Go.Proofs.YtoggponeookhbaaGreatDoor
end
section
namespace Go.Proofs.YtoggponeookhbaaGreatDoor
open Go.RowKit Go.Dc Go.Vx


section
variable {q:List aA}
def zc (q:List aA) (p:List Bool) (d:aA):Prop:= ∀(k:Nat) e,q[k]? =some e->ck p k=false->fM e d=false
def oK (q:List aA) (p:List Bool):Prop:= ∀(k:Nat) e,q[k]? =some e->e.bc≠0->ck p k=true
def Walk (q:List aA):List Bool->aZ->Γa->Prop
 |p,_,[]=>oK q p
 |p,s,x::r=> ∃(i:Nat) (d:aA) (a:aZ),x=(i:Int)/\q[i]? =some d/\ck p i=false/\zc q p d/\hN ab s d=some (a,true)/\Walk q (p.set i true) a r
theorem qI {j n:Nat} (h:j<n):c6 (j:Int) n=some j:=by unfold c6;rw[if_pos ⟨by omega,by omega⟩,ξa]
theorem YA {p:List Bool} (f:q.length<=64) (d:oK q p):YL ab q p=some (.inr (false,(q.length:Int))):=by
 show bB (λk z a=>(Ds ab q p k z a).val) (λk a=>(y6 ab q p k a).val) 0 q ()=_;refine Jy (st:=λ_=>()) (λj z b=>?_) ?_
 ·have e:=(γ.1 b).1;unfold Ds;simp only[T.aG,T.az,T.av,qI (show j<64 by omega),ε];cases c:(z.bc !=0)
  ·rfl
  ·have:=d j z b (by simpa using c);simp only[this,ξd,cond_true,cond_false]
 ·unfold y6;simp only[T.av,φ,decide_false]
theorem yp {p:List Bool} {i:Nat} (h:p.length=64):(p.set i true).length=64:=by rw[ξr];exact h
end
section
variable {q:List aA} {p:List Bool}
theorem YD (b:q.length<=64) (a:oK q p):tg ab q p=some (.inr (false,(q.length:Int))):=YA b a
theorem YC (m:q.length<=64) (i: ¬oK q p):tg ab q p=some (.inl ()):=by
 have l: ∃n,∃e,q[n]? =some e/\e.bc≠0/\ck p n=false:=by
  refine ξ9 λh=>i λk e he d=>?_;cases c:ck p k
  ·exact absurd ⟨k,e,he,d,c⟩ h
  ·rfl
 obtain⟨n,⟨e,he,d,c⟩,hm⟩:=Rm l;have st: ∀(j:Nat) z,q[j]? =some z->(oY ab q p j z ()).val=some (bif (z.bc !=0)&&!ck p j then .inr (.inl ()) else .inl ()):=λj z b=>by
  have f:=(γ.1 b).1;unfold oY;simp only[T.aG,T.az,T.av,qI (show j<64 by omega),ε];cases (z.bc !=0)<;>cases ck p j<;>rfl
 show bB (λk z a=>(oY ab q p k z a).val) (λk a=>(y7 ab q p k a).val) 0 q ()=_;refine Tn (st:=λ_=>()) he (λj z f b=>?_) ?_
 ·have:((z.bc !=0)&&!ck p j)=false:=by
   cases h1:(z.bc !=0)
   ·rfl
   ·cases g:ck p j
    ·exact absurd ⟨z,b,by simpa using h1,g⟩ (hm j f)
    ·rfl
  rw[st j z b,this];rfl
 ·have:((e.bc !=0)&&!ck p n)=true:=by rw[c];simpa using d
  rw[st n e he,this];rfl
def jJ (q:List aA) (p:List Bool) (d:aA) (j:Nat):Bool:=(List.range j).all λk=>ck p k||!(match q[k]? with|some e=>fM e d|none=>false)
theorem OD {d:aA}:jJ q p d q.length=true↔zc q p d:=by
 unfold jJ zc;rw[κ];constructor
 ·intro h k e he a;have:=h k (ξj.2 (γ.1 he).1);rw[a,he] at this;simpa using this
 ·intro h k hk;have hk:=ξj.1 hk;cases a:ck p k
  ·rw[δ hk];have:=h k _ (δ hk) a;simp only[this];rfl
  ·rfl
theorem YK (t:q.length<=64) {d:aA} {b:Int} {g:Γa} {h:List ah} {i:List ai} {l:List ay} {m:Int} {n:List au} {c:List ar} {f:Bool}:
  C_ ab b q p q g h i l m n c f d.bS d.bP.aQ d.bP.fArgs d.bt.b0 d.bt.b8 d.bK d.a8 d.bc true=some (false,jJ q p d q.length,(q.length:Int)):=by
 show bB (λk z a=>(uu ab b q p q g h i l m n c f d.bS d.bP.aQ d.bP.fArgs d.bt.b0 d.bt.b8 d.bK d.a8 d.bc k z a).val) (λk a=>(sF ab b q p q g h i l m n c f d.bS d.bP.aQ d.bP.fArgs d.bt.b0 d.bt.b8 d.bK d.a8 d.bc k a).val) 0 q true=_;refine Jy (st:=λj=>jJ q p d j) (λj z o=>?_) ?_
 ·have s:=(γ.1 o).1;have r:(aA.mk d.bS (b3.mk d.bP.aQ d.bP.fArgs) (cu.mk d.bt.b0 d.bt.b8) d.bK d.a8 d.bc)=d:=rfl;have e:jJ q p d (j+1)=(jJ q p d j&&(ck p j||!fM z d)):=by
   unfold jJ;rw[List.range_succ,List.all_append];simp[o]
  unfold uu;simp only[T.aG,T.az,T.av,r,qI (show j<64 by omega),ε,U9,e];cases jJ q p d j
  ·rfl
  ·cases ck p j<;>rfl
 ·unfold sF;simp only[T.av,φ,decide_false]
noncomputable abbrev gS (n:Nat) (p:List Bool) (q:List aA) (s:aZ):Option (List Bool×Bool):=kz ab n p q q s.ax.aH s.ax.ae s.aI s.aC.ae s.aC.ba s.aw.ak s.aw.an
theorem aiq {j:Nat} (a:j<p.length) (h:ck p j=false):(p.set j true).set j false=p:=by
 unfold ck at h;rw[δ a] at h;rw[List.set_set,<-show p[j]=false from h,List.set_getElem_self]
theorem abD {j:Nat} (a:j<p.length) (h:ck p j=false):(p.set j true).count false<p.count false:=by
 unfold ck at h;rw[δ a] at h;have h:p[j]=false:=h;have h1:0<p.count false:=List.count_pos_iff.2 (h▸ν a);rw[List.count_set a,h];simp;omega
theorem U7 (hw:mO q) (C:q.length<=64): ∀(n:Nat) (p:List Bool) (s:aZ),p.length=64->dn s->p.count false<n-> ∃b,gS n p q s=some (p,b)/\(b=true↔ ∃r,Walk q p s r)
 |0,p,s,hp,L,hn=>by omega
 |n+1,p,s,hp,L,hn=>by
  have V:gS (n+1) p q s=((o9 ab (kz ab n) p q q s.ax.aH s.ax.ae s.aI s.aC.ae s.aC.ba s.aw.ak s.aw.an).val).map (·.1):=rfl;rw[V]
  by_cases B:oK q p
  ·refine⟨true,?_,λ_=>⟨[],B⟩,λ_=>rfl⟩;unfold o9;simp only[T.aG,T.bw,T.ch,T.av,YD C B,ε,ξf]
  obtain⟨x,h1,R⟩:=Tk (step:=λk z a=>(ur ab (kz ab n) q q s.ax.aH s.ax.ae s.aI s.aC.ae s.aC.ba s.aw.ak s.aw.an k z a).val) (fin:=λk a=>(y9 ab q q s.ax.aH s.ax.ae s.aI s.aC.ae s.aC.ba s.aw.ak s.aw.an k a).val) (l:=q) (a0:=(p,false))
   (I:=λj a=>a=(p,false)/\ ∀(k:Nat) r,k<j-> ¬Walk q p s ((k:Int)::r)) (J:=λx=>(x= .inl (p,true)/\ ∃r,Walk q p s r)\/ ∃c i,x= .inr (c,i,p,false)/\ ∀(k:Nat) r,k<q.length-> ¬Walk q p s ((k:Int)::r)) (λj z a o ⟨E,W⟩=>by
    subst E;have Z:=(γ.1 o).1;have next:(∀r,¬Walk q p s ((j:Int)::r))-> ∀(k:Nat) r,k<j+1-> ¬Walk q p s ((k:Int)::r):=λh k r hk=>by
     rcases ξg k j with f|f
     ·exact W k r f
     ·have:k=j:=by omega
      subst this;exact h r
    have w: ∀ {i:Nat},((j:Nat):Int)=(i:Int)->i=j:=λh=>by omega
    unfold ur;cases t:ck p j
    rotate_left
    ·simp only[T.aG,T.az,T.av,qI (show j<64 by omega),ε,t,cond_true];refine⟨_,rfl,λa' e=>?_,λx e=>by cases e⟩;cases e;exact⟨rfl,next λr ⟨i,d,g,f,_,A,_⟩=>by rw[w f,t] at A;cases A⟩
    simp only[T.aG,T.az,T.bw,T.av,qI (show j<64 by omega),ε,t,cond_false,YK C];cases F:jJ q p z q.length
    ·refine⟨_,rfl,λa' e=>?_,λx e=>by cases e⟩;cases e;exact⟨rfl,next λr ⟨i,d,g,f,m,_,S,_⟩=>by
      rw[w f,o] at m;cases m;rw[OD.2 S] at F;cases F⟩
    obtain⟨g,b,D,X⟩:=U8 L (hw z (η o));have O:hN ab (aZ.mk (br.mk s.ax.aH s.ax.ae) s.aI (bz.mk s.aC.ae s.aC.ba) (aL.mk s.aw.ak s.aw.an)) z=some (g,b):=D;have N:p.length.beq 64=true:=by rw[hp];rfl
    simp only[gH o,ε,O,cond_true,N];cases b
    ·refine⟨_,rfl,λa' e=>?_,λx e=>by cases e⟩;cases e;exact⟨rfl,next λr ⟨i,d,s2,f,m,_,_,v,_⟩=>by
      rw[w f,o] at m;cases m;rw[D] at v;cases v⟩
    have K:j<p.length:=by omega
    obtain⟨G,Y,M⟩:=U7 hw C n (p.set j true) g (yp hp) X (by have:=abD K t;omega);have P:kz ab n (p.set j true) q q g.ax.aH g.ax.ae g.aI g.aC.ae g.aC.ba g.aw.ak g.aw.an=some (p.set j true,G):=Y;have Q:(p.set j true).length.beq 64=true:=by rw[yp hp];rfl
    simp only[ξd,cond_false,cond_true,P,ε,Q,aiq K t];cases G
    ·refine⟨_,rfl,λa' e=>?_,λx e=>by cases e⟩;cases e;exact⟨rfl,next λr ⟨i,d,s2,f,m,_,_,v,H⟩=>by
      rw[w f,o] at m;cases m;rw[D] at v;cases v;rw[w f] at H;cases M.2 ⟨r,H⟩⟩
    ·obtain⟨r,u⟩:=M.1 rfl;exact⟨_,rfl,(λa' e=>by cases e),λx e=>by cases e;exact .inl ⟨rfl,(j:Int)::r,j,z,g,rfl,o,t,OD.1 F,D,u⟩⟩)
   (λa ⟨E,f⟩=>by subst E;exact⟨_,rfl,.inr ⟨_,_,rfl,f⟩⟩) ⟨rfl,λk r hk=>absurd hk (by omega)⟩
  have U:C9 ab (kz ab n) q p q s.ax.aH s.ax.ae s.aI s.aC.ae s.aC.ba s.aw.ak s.aw.an false=some x:=h1;unfold o9;simp only[T.aG,T.bw,T.ch,T.av,YC C B,U,ε];rcases R with⟨rfl,u⟩|⟨c,i,rfl,f⟩
  ·exact⟨true,rfl,λ_=>u,λ_=>rfl⟩
  ·refine⟨false,rfl,λh=>(by cases h),λ⟨r,u⟩=>?_⟩;cases r with
   |nil=>exact absurd u B
   |cons y r=>
    obtain⟨i,d,g,rfl,m,A⟩:=u;exact absurd ⟨i,d,g,rfl,m,A⟩ (f i r (γ.1 m).1)
theorem w9 (hw:mO q) (a:iy q): ∃b,vK ab ⟨q⟩=some (bif decide ((q.length:Int)>7) then(false,3) else(b,0))/\(b=true↔ ∃l,Walk q (ξ 64 false) dA l):=by
 have h:=a.1;have d:nj ab ⟨q⟩=some 0:=by
  rcases U6 (q:=q) (by omega) with⟨e,_⟩|⟨_,e⟩
  ·exact e
  ·exact absurd a e
 have c:((0:Int) !=0)=false:=rfl;obtain⟨b,h1,f⟩:=U7 hw h 100 (ξ 64 false) dA (by simp) Pr (by decide);have g:JH ab (ξ 64 false) q q dA.ax.aH dA.ax.ae dA.aI dA.aC.ae dA.aC.ba dA.aw.ak dA.aw.an=some (ξ 64 false,b):=h1;refine⟨b,?_,f⟩;show(mN ab ⟨q⟩).val=_;unfold mN;simp only[T.aG,T.az,T.av,d,ε,c,cond_false,v18,g];cases decide ((q.length:Int)>7)<;>rfl
end
theorem Ua {d:aA} (h:eV d=true):(d.bc≠0->d.bK<=d.bc)/\(d.a8≠0->d.bK<=d.a8/\(d.bc≠0->d.a8<=d.bc)):=by
 have h1:=yK d;rw[h] at h1
 change (jv ab d).val=some true at h1
 unfold jv at h1;simp only[T.az,T.av] at h1;generalize decide (d.bS>=0)=b at h1;generalize decide (d.bS<8)=c at h1;generalize decide (d.bK>=1)=e at h1;generalize dT d.bt (cu.mk 0 0)=g at h1;generalize l:(d.a8==0)=a at h1;generalize m:(d.bc==0)=f at h1;generalize n:decide (d.a8>=d.bK)=i at h1;generalize o:decide (d.a8<=d.bc)=j at h1;generalize p:decide (d.bc>=d.bK)=k at h1;cases b<;>cases c<;>cases e<;>cases g<;>cases a<;>cases f<;>cases i<;>cases j<;>cases k<;>first
  |(cases h1;done)
  |(simp at l m n o p;omega)
section
variable {q:List aA} {o:Γa}
def Fit (q:List aA):aZ->Γa->aZ->Prop
 |s,[],a=>s=a
 |s,x::r,a=> ∃d s1,idx q x=some d/\hN ab s d=some (s1,true)/\Fit q s1 r a
theorem Fit.app {b:Γa} {s2:aZ}: ∀ {a:Γa} {s s1:aZ},Fit q s a s1->Fit q s1 b s2->Fit q s (a++b) s2
 |[],s,s1,h,k=>by cases h;exact k
 |x::a,s,s1,⟨d,f,h1,c,e⟩,k=>⟨d,f,h1,c,Fit.app e k⟩
def YM (q:List aA) (x y:Int):Prop:=x≠y/\ ∀d e,idx q x=some d->idx q y=some e->fM e d=false
theorem RW {p:List Bool} {i k:Nat} (hi:i<p.length):ck (p.set i true) k=if i=k then true else ck p k:=by
 unfold ck;rw[ξo]
 by_cases h:i=k
 ·rw[if_pos h,if_pos h,if_pos (h▸hi)];rfl
 ·rw[if_neg h,if_neg h]
theorem Vb (z: ∀d∈q,eV d=true) (t: ∀(k:Nat) e,q[k]? =some e->e.bc≠0->(k:Int)∈o) (u:s' q o) (w:o.Pairwise (YM q)) (F:q.length<=64):
  ∀(r a:Γa) (p:List Bool) (s m:aZ),o=a++r->p.length=64->(∀k:Nat,k<64->(ck p k=true↔(k:Int)∈a))->Fit q s r m->Walk q p s r
 |[],a,p,s,m,e,hp,hm,_=>λk d c l=>by
  rw[ξ0] at e;subst e;exact(hm k (by have:=(γ.1 c).1;omega)).2 (t k d c l)
 |x::r,a,p,s,m,e,hp,hm,⟨d,s1,c,h1,A⟩=>by
  have H:=u x (by rw[e];simp);obtain⟨i,rfl⟩: ∃i:Nat,x=i:=⟨x.toNat,by omega⟩;have hi:i<q.length:=by omega
  have g:q[i]? =some q[i]:=δ hi;have C:d=q[i]:=by rw[gH g] at c;cases c;rfl
  rw[<-C] at g;have y:=w;rw[e] at y;obtain⟨_,E,B⟩:=List.pairwise_append.1 y;obtain⟨D,_⟩:=ξn.1 E;have n:ck p i=false:=by
   cases n:ck p i
   ·rfl
   ·exact absurd rfl (B _ ((hm i (by omega)).1 n) (i:Int) (by simp)).1
  refine⟨i,d,s1,rfl,g,n,λk f he hk=>?_,h1,Vb z t u w F r (a++[(i:Int)]) (p.set i true) s1 m (by rw[e];simp) (yp hp) (λk hk=>?_) A⟩
  ·have G:=(γ.1 he).1;cases j:fM f d
   ·rfl
   have l:f.bc≠0/\f.bc<d.bK:=by
    unfold fM at j;simpa using j
   have v:=t k f he l.1;rw[e] at v;rcases ξh.1 v with b|b
   ·rw[(hm k (by omega)).2 b] at hk;cases hk
   rcases ξ5.1 b with b|b
   ·have:k=i:=by omega
    subst this;rw[g] at he;cases he;have:=(Ua (z d (η g))).1 l.1;omega
   ·rw[(D _ b).2 d f c (gH he)] at j;cases j
  ·rw[RW (by omega)]
   by_cases b:i=k
   ·subst b;simp
   ·rw[if_neg b,hm k hk];constructor
    ·intro h;exact θ _ h
    ·intro h;rcases ξh.1 h with h|h
     ·exact h
     ·exact absurd (ξ6.1 h) (by omega)
end
theorem air {d:aA} (h:eV d=true):1<=d.bK:=by
 have h1:=yK d;rw[h] at h1
 change (jv ab d).val=some true at h1
 unfold jv at h1;simp only[T.az,T.av] at h1;generalize decide (d.bS>=0)=b at h1;generalize decide (d.bS<8)=c at h1;generalize l:decide (d.bK>=1)=e at h1;generalize dT d.bt (cu.mk 0 0)=g at h1;generalize (d.a8==0)=a at h1;generalize (d.bc==0)=f at h1;generalize decide (d.a8>=d.bK)=i at h1;generalize decide (d.a8<=d.bc)=j at h1;generalize decide (d.bc>=d.bK)=k at h1;cases e
 rotate_left
 ·exact of_decide_eq_true l
 cases b<;>cases c<;>cases g<;>cases a<;>cases f<;>cases i<;>cases j<;>cases k<;>cases h1
def h7 (a b:aA):Bool:=decide (a.bc>0)&&decide (a.bc<b.bK)
theorem UH (a b:aA):pM ab a b=some (h7 a b):=by
 show(EV ab a b).val=_;unfold EV h7;simp only[T.az,T.av];cases decide (a.bc>0)<;>rfl
theorem Sk {a:aA} (h:eV a=true):decide (a.bc>0)=(a.bc !=0):=by
 have h1:=(Ua h).1;have c:=air h
 by_cases b:a.bc=0
 ·simp[b]
 ·have:=h1 b;rw[decide_eq_true (by omega)];simpa using b
theorem uF {a b:aA} (h:eV a=true):h7 a b=fM a b:=by
 unfold h7 fM;rw[Sk h]
theorem u28 (d:aA):GI ab d=some (eV d):=by
 rw[<-yK d];show(ES ab d).val=(jv ab d).val;unfold ES jv;simp only[T.az,T.av];have c1:decide (d.bS<0)=!decide (d.bS>=0):=by rw[ο];simp
 have c2:decide (d.bS>7)=!decide (d.bS<8):=by rw[ο];simp;omega
 have k:decide (d.bK<1)=!decide (d.bK>=1):=by rw[ο];simp
 have l:(d.a8 !=0)=!(d.a8==0):=rfl;have m:decide (d.a8<d.bK)=!decide (d.a8>=d.bK):=by rw[ο];simp
 rw[c1,c2,k,l,m];generalize decide (d.bS>=0)=b;generalize decide (d.bS<8)=c;generalize o:decide (d.bK>=1)=e;generalize dT d.bt (cu.mk 0 0)=g;generalize n:(d.a8==0)=a;generalize (d.bc==0)=f;generalize decide (d.a8>=d.bK)=h;generalize p:decide (d.a8<=d.bc)=i;generalize q:decide (d.bc>=d.bK)=j;cases b<;>cases c<;>cases e<;>cases g<;>cases a<;>cases f<;>cases h<;>cases i<;>cases j<;>first
  |rfl
  |(simp at n o p q;omega)
def hP (x z:aA):Bool:=!((x.bS==z.bS)&&(!h7 x z&&!h7 z x))&&!((z.a8 !=0)&&(x.a8==z.a8))
theorem vS {x z:aA} (a:eV x=true) (b:eV z=true):hP x z=h9 x z:=by
 unfold hP h9 kg;rw[uF a,uF b];simp only[bne];cases x.bS==z.bS<;>cases fM x z<;>cases fM z x<;>cases z.a8==0<;>cases x.a8==z.a8<;>rfl
theorem yE {q:List aA} (w:q.length<=100): ∃b,Ga ab ⟨q⟩=some b/\(b=true↔iy q):=by
 have t: ∀(l:List aA) (z:aA) (p1:Int),B3 ab q p1 l z.bS z.bP.aQ z.bP.fArgs z.bt.b0 z.bt.b8 z.bK z.a8 z.bc=bif l.all (λx=>hP x z) then some (.inr (false,(l.length:Int))) else some (.inl ()):=λl z p1=>by
  show bB (λk x a=>(tu ab q p1 l z.bS z.bP.aQ z.bP.fArgs z.bt.b0 z.bt.b8 z.bK z.a8 z.bc k x a).val) (λk a=>(rK ab q p1 l z.bS z.bP.aQ z.bP.fArgs z.bt.b0 z.bt.b8 z.bK z.a8 z.bc k a).val) 0 l ()=_;rw[h2 (q:=λ_ x=>hP x z) (x:=.inl ()) λi x _=>?_]
  ·have:allI (λ_ x=>hP x z) 0 l=l.all (λx=>hP x z):=by
    rw[ο,fX,κ];constructor
    ·intro h x g;obtain⟨k,hk⟩:=ξ1.1 g;exact h k x hk
    ·intro h k x hk;exact h x (η hk)
   rw[this];unfold rK;simp only[T.av,φ,decide_false]
  ·have p:(aA.mk z.bS (b3.mk z.bP.aQ z.bP.fArgs) (cu.mk z.bt.b0 z.bt.b8) z.bK z.a8 z.bc)=z:=rfl;unfold tu hP;simp only[T.aG,T.az,T.av,p,UH,ε];cases x.bS==z.bS<;>cases h7 x z<;>cases h7 z x<;>cases z.a8 !=0<;>cases x.a8==z.a8<;>rfl
 have s:B2 ab q=bif allI (λj z=>eV z&&(q.take j).all (λx=>hP x z)) 0 q then some (.inr (false,(q.length:Int))) else some (.inl ()):=by
  show bB (λk x a=>(tt ab q k x a).val) (λk a=>(rJ ab q k a).val) 0 q ()=_;rw[h2 (q:=λj z=>eV z&&(q.take j).all (λx=>hP x z)) (x:=.inl ()) λi z f=>?_]
  ·unfold rJ;simp only[T.av,φ,decide_false]
  ·have hi:=(γ.1 f).1;unfold tt;simp only[T.aG,T.az,T.bw,T.ch,T.av,u28,ε,FT (show i<=q.length by omega),t];cases eV z<;>cases (q.take i).all (λx=>hP x z)<;>rfl
 refine⟨allI (λj z=>eV z&&(q.take j).all (λx=>hP x z)) 0 q&&decide (q.length<=64),?_,?_⟩
 ·show(DB ab ⟨q⟩).val=_;unfold DB;have e:decide ((q.length:Int)<=64)=decide (q.length<=64):=by rw[ο];simp;omega
  simp only[T.aG,T.bw,T.ch,T.av,s,e];cases allI (λj z=>eV z&&(q.take j).all (λx=>hP x z)) 0 q<;>rfl
 ·rw[μ,decide_eq_true_eq,fX];unfold iy;constructor
  ·rintro ⟨h,hl⟩;have c: ∀d∈q,eV d=true:=λd u=>by
    obtain⟨k,hk⟩:=ξ1.1 u;have:=h k d hk;rw[μ] at this;exact this.1
   refine⟨hl,c,ι.2 λi j hi n v=>?_⟩;have:=h j q[j] (δ n);rw[μ,ρ] at this;have:=κ.1 this.2 q[i] (υ.2 ⟨i,by omega,rfl⟩);rw[vS (c _ (ν hi)) (c _ (ν n))] at this;exact this
  ·rintro ⟨hl,c,hp⟩;refine⟨λk z f=>?_,hl⟩;have hk:=(γ.1 f).1;have r:q[k]=z:=(γ.1 f).2;have o:=c z (η f);rw[μ,ρ];refine⟨o,κ.2 λx g=>?_⟩;obtain⟨i,hi,rfl⟩:=υ.1 g;have m:i<q.length:=by omega
   rw[vS (c _ (ν m)) o,<-r];exact ι.1 hp i k m hk (by omega)
theorem u55 {s:aZ} {d:aA} (b:dn s) (a:gY d.bP):vJ ab s d=hN ab s d:=by
 show(E_ ab s d).val=(o_ ab s d).val;unfold E_ o_;simp only[T.aG,T.az,T.av,u90 b a,UZ b a,u91,v12,U_,ε];have e: ∀k:Int,dT d.bt ⟨k,0⟩=((d.bt.b0==k)&&(d.bt.b8==0)):=λk=>by
  unfold dT;rfl
 rw[e,e];cases d.bc==0
 ·cases d.bt.b8==0
  ·simp only[Bool.and_false,Bool.or_self];rfl
  ·cases d.bt.b0==363<;>cases d.bt.b0==364<;>rfl
 ·rfl
theorem u53 (l:Γa) (n:Int):lH ab l n=some (match l.findIdx? (λz=>z==n) with|some i=>(i:Int)|none=> -1):=by
 have b:C' ab n l=match l.findIdx? (λz=>z==n) with|some i=>some (.inl (i:Int))|none=>some (.inr (false,(l.length:Int))):=by
  show bB (λk z a=>(uv ab n l k z a).val) (λk a=>(sG ab n l k a).val) 0 l ()=_;rw[n' (p:=λz=>z==n) (e:=λi=>.inl (i:Int)) λi z _=>by unfold uv;simp only[T.az,T.av]];unfold sG;simp only[T.av,φ,decide_false]<;>cases l.findIdx? (λz=>z==n)<;>rfl
 show(E9 ab l n).val=_;unfold E9;simp only[T.bw,T.aG,T.ch,T.av,b]<;>cases l.findIdx? (λz=>z==n)<;>rfl
section
variable {q:List aA} {l b:Γa}
theorem Fit.split: ∀ {a:Γa} {s s2:aZ},Fit q s (a++b) s2-> ∃s1,Fit q s a s1/\Fit q s1 b s2
 |[],s,s2,h=>⟨s,rfl,h⟩
 |x::a,s,s2,⟨d,i,h1,c,e⟩=>by
  obtain⟨s1,f,g⟩:=Fit.split e;exact⟨s1,⟨d,i,h1,c,f⟩,g⟩
theorem Fit.NW: ∀ {a:Γa} {s s1 s2:aZ},Fit q s a s1->Fit q s a s2->s1=s2
 |[],s,s1,s2,h,k=>h.symm.trans k
 |x::a,s,s1,s2,⟨d,j,h1,e,f⟩,⟨i,l,b,c,g⟩=>by
  rw[h1] at b;cases b;rw[e] at c;cases c;exact Fit.NW f g
def pos (l:Γa) (n:Int):Option Nat:=l.findIdx? λz=>z==n
def eS (l:Γa) (n:Int):Int:=match pos l n with|some i=>(i:Int)|none=> -1
theorem xV {n:Int} {i:Nat} (h:pos l n=some i):l[i]? =some n:=by
 obtain⟨hi,hp,_⟩:=List.findIdx?_eq_some_iff_getElem.1 h;rw[δ hi,eq_of_beq hp]
theorem xU {n:Int} (h:n∈l): ∃i,pos l n=some i:=by
 cases e:pos l n with
 |some i=>exact⟨i,rfl⟩
 |none=>
  have:=List.findIdx?_eq_none_iff.1 e n h;simp at this
def sR (l:Γa):Prop:= ∀(j:Nat) z,l[j]? =some z->pos l z=some j
theorem sR.ne (h:sR l) {i j:Nat} {x:Int} (hi:l[i]? =some x) (a:l[j]? =some x):i=j:=by
 have h1:=h i x hi;rw[h j x a] at h1;cases h1;rfl
theorem acW (h:l.Nodup):sR l:=λj z e=>by
 obtain⟨i,hi⟩:=xU (η e);have h1:=xV hi;obtain⟨b,a2⟩:=γ.1 h1;obtain⟨c,d⟩:=γ.1 e;have:=(List.nodup_iff_pairwise_ne.1 h);have hp:=ι.1 this;rcases Nat.lt_trichotomy i j with a|a|a
 ·exact absurd (a2.trans d.symm) (hp i j b c a)
 ·rw[hi,a]
 ·exact absurd (d.trans a2.symm) (hp j i c b a)
def k' (q:List aA) (l:Γa):Prop:=s' q l/\sR l/\ ∃s,Fit q dA l s
def iO (l:Γa) (a:aA) (y:Int) (j:Nat) (b:aA):Bool:=match pos l j with
 |some m=>!h7 a b||(!decide (y<0)&&!decide (y>(m:Int)))
 |none=>true
def mw (q:List aA) (l:Γa):Prop:=allI (λi a=>!(decide (eS l i<0)&&decide (a.bc>0))&&allI (λj b=>iO l a (eS l i) j b) 0 q) 0 q=true
abbrev Y2:=Γa×List ah×List ai×List ay×Int×List au×List ar
def JU (s:aZ):Y2:=(s.ax.aH,s.ax.ae,s.aI,s.aC.ae,s.aC.ba,s.aw.ak,s.aw.an)
theorem J_ (l:Γa) (n:Int):lH ab l n=some (eS l n):=u53 l n
theorem YJ (hw:mO q): ∃x,C7 ab l q dA.ax.aH dA.ax.ae dA.aI dA.aC.ae dA.aC.ba dA.aw.ak dA.aw.an=some x/\((x= .inl ()/\ ¬k' q l)\/ ∃y,x= .inr y/\k' q l):=by
 obtain⟨x,h1,G⟩:=Tk (step:=λk z a=>(uq ab l q k z a).val) (fin:=λk a=>(y8 ab l q k a).val) (l:=l) (a0:=JU dA)
  (I:=λj a=> ∃s,a=JU s/\dn s/\Fit q dA (l.take j) s/\ ∀(k:Nat) z,k<j->l[k]? =some z->(0<=z/\z<(q.length:Int))/\pos l z=some k) (J:=λx=>(x= .inl ()/\ ¬k' q l)\/ ∃y,x= .inr y/\k' q l) (λj z a b ⟨s,n,o,g,hk⟩=>by
   subst n;have N:=(γ.1 b).1;have r:=η b;unfold uq JU
   by_cases z0:z<0
   ·rw[T.az,decide_eq_true z0];refine⟨_,rfl,(λa' e=>by cases e),λx e=>?_⟩;cases e;exact .inl ⟨rfl,λh=>by have:=h.1 z r;omega⟩
   by_cases C:z>=(q.length:Int)
   ·rw[T.az,decide_eq_false z0,cond_false,T.az,decide_eq_true C];refine⟨_,rfl,(λa' e=>by cases e),λx e=>?_⟩;cases e;exact .inl ⟨rfl,λh=>by have:=h.1 z r;omega⟩
   obtain⟨d,f,_⟩:=adM (q:=q) (x:=z) ⟨by omega,by omega⟩;obtain⟨t,u,m,K⟩:=U8 o (hw d (Pm f));have E:vJ ab (aZ.mk (br.mk s.ax.aH s.ax.ae) s.aI (bz.mk s.aC.ae s.aC.ba) (aL.mk s.aw.ak s.aw.an)) d=some (t,u):=(u55 o (hw d (Pm f))).trans m;obtain⟨i,hi⟩:=xU r;have hp:eS l z=(i:Int):=by unfold eS;rw[hi]
   rw[T.az,decide_eq_false z0,cond_false,T.az,decide_eq_false C,cond_false];simp only[T.aG,T.az,T.av,J_,hp,ε,f,E]
   by_cases A:i=j
   rotate_left
   ·have:((i:Int) !=(j:Int))=true:=by simp;omega
    rw[this];refine⟨_,rfl,(λa' e=>by cases e),λx e=>?_⟩;cases e;exact .inl ⟨rfl,λh=>by
     have:=h.2.1 j z b;rw[hi] at this;cases this;exact A rfl⟩
   have:((i:Int) !=(j:Int))=false:=by simp;omega
   rw[this];subst A;have e:l=l.take i++z::l.drop (i+1):=by
    obtain⟨c,rfl⟩:=γ.1 b;rw[<-List.drop_eq_getElem_cons c,List.take_append_drop]
   cases u
   ·refine⟨_,rfl,(λa' e=>by cases e),λx e=>?_⟩;cases e;refine .inl ⟨rfl,λ⟨_,_,s2,c⟩=>?_⟩;rw[e] at c;obtain⟨s1,H,M,P,v,w,_⟩:=c.split;rw[g.NW H] at m;rw[f] at v;cases v;rw[m] at w;cases w
   ·refine⟨_,rfl,λa' D=>?_,λx e=>by cases e⟩;cases D;refine⟨t,rfl,K,?_,λk L O p=>?_⟩
    ·have F:l.take (i+1)=l.take i++[z]:=by
      rw[ξb,b];rfl
     rw[F];exact g.app ⟨d,t,f,m,rfl⟩
    ·rcases ξg k i with c|c
     ·exact hk k L c p
     ·have:k=i:=by omega
      subst this;rw[b] at p;cases p;exact⟨⟨by omega,by omega⟩,hi⟩) (λa ⟨s,n,o,g,hk⟩=>by
   subst n;refine⟨_,rfl,.inr ⟨_,rfl,λz b=>?_,λj z b=>?_,s,?_⟩⟩
   ·obtain⟨k,B⟩:=ξ1.1 b;exact(hk k z (γ.1 B).1 B).1
   ·exact(hk j z (γ.1 b).1 b).2
   ·rw[List.take_length] at g;exact g) ⟨dA,rfl,Pr,rfl,λk z hk=>absurd hk (by omega)⟩
 exact⟨x,h1,G⟩
theorem YI (a:aA) (y d:Int):ti ab l y q d a.bS a.bP.aQ a.bP.fArgs a.bt.b0 a.bt.b8 a.bK a.a8 a.bc=bif allI (λj b=>iO l a y j b) 0 q then some (.inr (false,(q.length:Int))) else some (.inl ()):=by
 show bB (λk z c=>(uo ab l y q d a.bS a.bP.aQ a.bP.fArgs a.bt.b0 a.bt.b8 a.bK a.a8 a.bc k z c).val) (λk c=>(sA ab l y q d a.bS a.bP.aQ a.bP.fArgs a.bt.b0 a.bt.b8 a.bK a.a8 a.bc k c).val) 0 q ()=_;rw[h2 (q:=λj b=>iO l a y j b) (x:=.inl ()) λi b f=>?_]
 ·unfold sA;simp only[T.av,φ,decide_false]
 ·have e:(aA.mk a.bS (b3.mk a.bP.aQ a.bP.fArgs) (cu.mk a.bt.b0 a.bt.b8) a.bK a.a8 a.bc)=a:=rfl;unfold uo iO;simp only[T.aG,T.az,T.av,e,UH,J_,ε];unfold eS;cases pos l i with
  |none=>rfl
  |some m=>
   have:decide ((m:Int)>=0)=true:=decide_eq_true (by omega);simp only[this,cond_true];cases h7 a b<;>cases decide (y<0)<;>cases decide (y>(m:Int))<;>rfl
theorem YH: ∃x,th ab l q=some x/\((x= .inl ()/\ ¬mw q l)\/ ∃y,x= .inr y/\mw q l):=by
 have h:th ab l q=bif allI (λi a=>!(decide (eS l i<0)&&decide (a.bc>0))&&allI (λj b=>iO l a (eS l i) j b) 0 q) 0 q then some (.inr (false,(q.length:Int))) else some (.inl ()):=by
  show bB (λk z c=>(um ab l q k z c).val) (λk c=>(sy ab l q k c).val) 0 q ()=_;rw[h2 (q:=λi a=>!(decide (eS l i<0)&&decide (a.bc>0))&&allI (λj b=>iO l a (eS l i) j b) 0 q) (x:=.inl ()) λi a d=>?_]
  ·unfold sy;simp only[T.av,φ,decide_false]
  ·unfold um;simp only[T.aG,T.az,T.bw,T.ch,T.av,J_,ε,YI];cases decide (eS l i<0)<;>cases decide (a.bc>0)<;>cases allI (λj b=>iO l a (eS l i) j b) 0 q<;>rfl
 rw[h];unfold mw;cases allI (λi a=>!(decide (eS l i<0)&&decide (a.bc>0))&&allI (λj b=>iO l a (eS l i) j b) 0 q) 0 q
 ·exact⟨_,rfl,.inl ⟨rfl,by simp⟩⟩
 ·exact⟨_,rfl,.inr ⟨_,rfl,rfl⟩⟩
theorem J9 (hw:mO q) (l:Γa): ∃b,iJ ab ⟨q⟩ l=some b/\(b=true↔k' q l/\mw q l):=by
 obtain⟨x,h1,a⟩:=YJ (l:=l) hw;obtain⟨x',d,c⟩:=YH (q:=q) (l:=l);have f:GX ab=some dA:=rfl;have e:iJ ab ⟨q⟩ l=(EZ ab ⟨q⟩ l).val:=rfl;rw[e];unfold EZ;simp only[T.aG,T.bw,T.ch,T.av,f,ε,h1];rcases a with⟨rfl,a⟩|⟨y,rfl,a⟩
 ·exact⟨false,rfl,λh=>(by cases h),λh=>absurd h.1 a⟩
 ·simp only[d];rcases c with⟨rfl,c⟩|⟨g,rfl,c⟩
  ·exact⟨false,rfl,λh=>(by cases h),λh=>absurd h.2 c⟩
  ·exact⟨true,rfl,λ_=>⟨a,c⟩,λ_=>rfl⟩
theorem afw {n:Int} (h:n∉l):eS l n= -1:=by
 unfold eS;cases e:pos l n with
 |none=>rfl
 |some i=>exact absurd (η (xV e)) h
theorem adW (u:iy q) (z:k' q l) (b:mw q l):Walk q (ξ 64 false) dA l:=by
 obtain⟨h1,f,s,w⟩:=z;have b:=λi a h=>fX.1 b i a h;simp only[ρ] at b;have o:=u.2.1;refine Vb o (λk e he B=>?_) h1 (ι.2 λi j hi m F=>⟨λe=>?_,λd e g he=>?_⟩) u.1 l [] _ dA s rfl (by simp) (λk hk=>?_) w
 ·refine ξ9 λhn=>?_;have:=b k e he;rw[afw hn,Sk (o e (η he))] at this;simp[B] at this
 ·have:=f.ne (δ hi) (by rw[δ m,e]);omega
 ·cases A:fM e d
  ·rfl
  obtain⟨x,G⟩: ∃x,x=l[i]:=⟨_,rfl⟩;obtain⟨y,H⟩: ∃y,y=l[j]:=⟨_,rfl⟩;have ix:=h1 l[i] (ν hi);have C:=h1 l[j] (ν m);obtain⟨nx,p⟩: ∃n:Nat,l[i]=n:=⟨l[i].toNat,by omega⟩;obtain⟨c,r⟩: ∃n:Nat,l[j]=n:=⟨l[j].toNat,by omega⟩;rw[p] at g ix;rw[r] at he C;have v:q[nx]? =some d:=by
   rw[gH (δ (show nx<q.length by omega))] at g;rw[δ (show nx<q.length by omega)];exact g
  have t:q[c]? =some e:=by
   rw[gH (δ (show c<q.length by omega))] at he;rw[δ (show c<q.length by omega)];exact he
  have D:pos l (nx:Int)=some i:=f i _ (by rw[δ hi,p]);have E:pos l (c:Int)=some j:=f j _ (by rw[δ m,r]);have:=b c e t;rw[μ] at this;have:=fX.1 this.2 nx d v;rw[ρ] at this;unfold iO eS at this;rw[D,E,uF (o e (η t)),A] at this;simp at this;omega
 ·unfold ck;rw[ξe];simp[hk]
theorem Vc: ∀(r a:Γa) (p:List Bool) (s:aZ),p.length=64->q.length<=64->(∀k:Nat,k<64->(ck p k=true↔(k:Int)∈a))->Walk q p s r->
  s' q r/\(∀x∈r,x∉a)/\r.Nodup/\(∃g,Fit q s r g)/\(∀(k:Nat) e,q[k]? =some e->e.bc≠0->(k:Int)∈a++r)/\r.Pairwise λx y=> ∀d e,idx q x=some d->idx q y=some e->fM e d=false
 |[],a,p,s,hp,w,hm,hw=>⟨λx b=>(by cases b),λx b=>(by cases b),List.nodup_nil,⟨s,rfl⟩,λk e he m=>by
   rw[ξ0];exact(hm k (by have:=(γ.1 he).1;omega)).1 (hw k e he m),ξD⟩
 |x::r,a,p,s,hp,w,hm,⟨i,d,g,e,l,t,G,B,J⟩=>by
  subst e;have hi:=(γ.1 l).1;have H:(i:Int)∉a:=λh=>by rw[(hm i (by omega)).2 h] at t;cases t
  have I: ∀k:Nat,k<64->(ck (p.set i true) k=true↔(k:Int)∈a++[(i:Int)]):=λk hk=>by
   rw[RW (by omega)]
   by_cases f:i=k
   ·subst f;simp
   ·rw[if_neg f,hm k hk];constructor
    ·intro h;exact θ _ h
    ·intro h;rcases ξh.1 h with h|h
     ·exact h
     ·exact absurd (ξ6.1 h) (by omega)
  obtain⟨h1,j,f,⟨s2,C⟩,D,E⟩:=Vc r (a++[(i:Int)]) (p.set i true) g (yp hp) w I J;refine⟨λx b=>?_,λx b=>?_,List.nodup_cons.2 ⟨λh=>j _ h (by simp),f⟩,⟨s2,d,g,gH l,B,C⟩,λk e he m=>?_,ξn.2 ⟨λy z K o u v=>?_,E⟩⟩
  ·rcases ξ5.1 b with rfl|b
   ·exact⟨by omega,by omega⟩
   ·exact h1 x b
  ·rcases ξ5.1 b with rfl|b
   ·exact H
   ·exact λh=>j x b (θ _ h)
  ·have:=D k e he m;simpa using this
  ·rw[gH l] at u;cases u;have L:=h1 y z;obtain⟨c,rfl⟩: ∃n:Nat,y=n:=⟨y.toNat,by omega⟩;have A:q[c]? =some o:=by
    rw[gH (δ (show c<q.length by omega))] at v;rw[δ (show c<q.length by omega)];exact v
   refine G c o A ?_;cases F:ck p c
   ·rfl
   ·exact absurd (θ _ ((hm c (by omega)).1 F)) (j _ z)
theorem ajK (p:iy q) (h:Walk q (ξ 64 false) dA l):s' q l/\l.Nodup/\k' q l/\mw q l:=by
 obtain⟨h1,_,n,r,o,s⟩:=Vc l [] (ξ 64 false) dA (by simp) p.1 (λk hk=>by
  unfold ck;rw[ξe];simp[hk]) h
 have t:=acW n;have x:=p.2.1;refine⟨h1,n,⟨h1,t,r⟩,fX.2 λi a d=>?_⟩;rw[ρ];have A:=d;rw[μ];constructor
 ·by_cases e:a.bc=0
  ·simp[e]
  ·obtain⟨k,hk⟩:=xU (by simpa using o i a d e);have g:eS l i=(k:Int):=by unfold eS;rw[hk]
   rw[g,decide_eq_false (show ¬(k:Int)<0 by omega)];rfl
 ·refine fX.2 λj b v=>?_;rw[ρ];unfold iO;cases hm:pos l (j:Int) with
  |none=>rfl
  |some m=>
   cases u:h7 a b
   ·rfl
   have w:=x a (η d);have c:=u;rw[uF w] at c;have e:a.bc≠0:=by
    unfold fM at c;rw[μ] at c;simpa using c.1
   obtain⟨k,hk⟩:=xU (by simpa using o i a d e);have g:eS l i=(k:Int):=by unfold eS;rw[hk]
   rw[g];have B:k<=m:=by
    rcases ξg m k with f|f
    ·obtain⟨m1,m2⟩:=γ.1 (xV hm);obtain⟨y,z⟩:=γ.1 (xV hk);have:=ι.1 s m k m1 y f b a (by rw[m2];exact gH v) (by rw[z];exact gH d);rw[this] at c;cases c
    ·exact f
   show(!true||(!decide ((k:Int)<0)&&!decide ((k:Int)>(m:Int))))=true;rw[decide_eq_false (show ¬(k:Int)<0 by omega),decide_eq_false (show ¬(k:Int)>(m:Int) by omega)];rfl
end
abbrev Ls:=List (Γa)
def la (b:Bool) (out last:Ls):Ls:=bif b then last else out
noncomputable def nu (b:Bool) (n:Int) (out last more:Ls) (l:Γa) (k i j:Int):AS SS:=⟨[(0,.s (.one (.v (.int .i64 n)))),(3,.s (.one (.own 0))),(5,.s (.one (.own 1))),(7,.s (.one (.aJ 31 l))),(11,.s (.one (.v (.int .i64 n)))),(12,.s (.one (.v (.int .i64 k)))),(14,.s (.one (.own (bif b then 2 else 0)))),(15,.s (.one (.v (.int .i64 (↑(la b out last).length:Int))))),(16,.s (.one (.v (.int .i64 i)))),(20,.s (.one (.v (.int .i64 n)))),(21,.s (.one (.v (.int .i64 j))))],some (.row 31 out)::some (.row 31 more)::(bif b then[some (.row 31 last)] else[]),0,none,false,[],[]⟩
noncomputable def ab8 (b:Bool) (n:Int) (out last more:Ls) (l:Γa) (k i j:Int) (c:Bool):AS SS:= {nu b n out last more l k i j with env:=(22,.s (.one (.v (.bool c))))::(nu b n out last more l k i j).env}
noncomputable def Dt (U:Sh) (n:Int) (l:Γa) (a:Int×Ls):T ((Int×Ls)⊕(Bool×Int×Ls)):=.bf (decide (a.1<n)) (.bd (lH U l a.1) λz0=>.bf (decide (z0<0)) (.bd (app 8 [] l) λb=>.bd (app 8 b [a.1]) λz2=>.bd (app 24 a.2 [z2]) λz3=>.ok (.inl (ω.wrap (a.1+1),z3)))<|.ok (.inl (ω.wrap (a.1+1),a.2)))<|.ok (.inr (decide (a.1<n),a.1,a.2))
noncomputable def MO (U:Sh) (n:Int) (l:Γa) (more:Ls) (j:Int):Option (Bool×Int×Ls):=bQ U (Dt U n l) 1000000 (j,more)
noncomputable def xj (U:Sh) (b:Bool):aX SS:=bh 11 (λst=>(cO (cJ st 0 0)).bind λa=>(dU st 0 31).bind λo=>(dU st (bif b then 2 else 0) 31).bind λp=>(dU st 1 31).bind λm=>(eo 31 (cJ st 7 0)).bind λl=>(cO (cJ st 12 0)).bind λp2=>(cO (cJ st 16 0)).bind λc=>(cO (cJ st 21 0)).bind λd=>some (a,o,p,m,l,p2,c,d)) (λp:Int×Ls×Ls×Ls×Γa×Int×Int×Int=>nu b p.1 p.2.1 p.2.2.1 p.2.2.2.1 p.2.2.2.2.1 p.2.2.2.2.2.1 p.2.2.2.2.2.2.1 p.2.2.2.2.2.2.2) (λp=>MO U p.1 p.2.2.2.2.1 p.2.2.2.1 p.2.2.2.2.2.2.2) (λk p v=>k (.exit 4) (ab8 b p.1 p.2.1 p.2.2.1 v.2.2 p.2.2.2.2.1 p.2.2.2.2.2.1 p.2.2.2.2.2.2.1 v.2.1 v.1))
theorem Ja:aO KK ζ ⟨ψ,aq 30⟩ (iW (ca ψ) 11) (xj shut true):=
 aO.bQ (G:=(jq shut)) (I:=⟨⟨ψ,aq 30⟩,[]⟩) (π:=Int×Ls×Ls×Ls×Γa×Int×Int×Int) (σ:=Int×Ls) (ag.all mu rfl) (aF.nil) rfl 60 (λp a=>nu true p.1 p.2.1 p.2.2.1 a.2 p.2.2.2.2.1 p.2.2.2.2.2.1 p.2.2.2.2.2.2.1 a.1) (λp=>(p.2.2.2.2.2.2.2,p.2.2.2.1)) (St:=λp=>Dt shut p.1 p.2.2.2.2.1) (λp=>1000000) (λp=>rfl)
  (λm p a k=>by kernel_rfl)
theorem I':aO KK ζ ⟨ψ,aq 30⟩ (iW (ca ψ) 11) (xj shut false):=
 aO.bQ (G:=(jq shut)) (I:=⟨⟨ψ,aq 30⟩,[]⟩) (π:=Int×Ls×Ls×Ls×Γa×Int×Int×Int) (σ:=Int×Ls) (ag.all mu rfl) (aF.nil) rfl 60 (λp a=>nu false p.1 p.2.1 p.2.2.1 a.2 p.2.2.2.2.1 p.2.2.2.2.2.1 p.2.2.2.2.2.2.1 a.1) (λp=>(p.2.2.2.2.2.2.2,p.2.2.2.1)) (St:=λp=>Dt shut p.1 p.2.2.2.2.1) (λp=>1000000) (λp=>rfl)
  (λm p a k=>by kernel_rfl)
noncomputable def Nb (st:AS SS):Option Unit:=(dU st 2 31).bind λ_=>some ()
noncomputable def ny (b:Bool) (n:Int) (out last more:Ls) (k i:Int):AS SS:=⟨[(0,.s (.one (.v (.int .i64 n)))),(3,.s (.one (.own 0))),(5,.s (.one (.own 1))),(11,.s (.one (.v (.int .i64 n)))),(12,.s (.one (.v (.int .i64 k)))),(14,.s (.one (.own (bif b then 2 else 0)))),(15,.s (.one (.v (.int .i64 (↑(la b out last).length:Int))))),(16,.s (.one (.v (.int .i64 i))))],some (.row 31 out)::some (.row 31 more)::(bif b then[some (.row 31 last)] else[]),0,none,false,[],[]⟩
noncomputable def ab9 (b:Bool) (n:Int) (out last more:Ls) (k i:Int) (c:Bool):AS SS:= {ny b n out last more k i with env:=(17,.s (.one (.v (.bool c))))::(ny b n out last more k i).env}
noncomputable def Du (U:Sh) (b:Bool) (n:Int) (out last:Ls) (k:Int) (a:Int×Ls):T ((Int×Ls)⊕(Bool×Int×Ls)):=.bf (decide (a.1<(↑(la b out last).length:Int))) (.bd (idx (la b out last) a.1) λz0=>.bd ((la b out last)[a.1.toNat]?) λc=>.gd (nu b n out last a.2 c k a.1 0)<|.bd (MO U n c a.2 0) λd=>.ok (.inl (ω.wrap (a.1+1),d.2.2)))<|.ok (.inr (decide (a.1<(↑(la b out last).length:Int)),a.1,a.2))
noncomputable def MP (U:Sh) (b:Bool) (n:Int) (out last:Ls) (k:Int) (more:Ls) (i:Int):Option (Bool×Int×Ls):=bQ U (Du U b n out last k) 1000000 (i,more)
noncomputable def xk (U:Sh) (b:Bool):aX SS:=bh 8 (λst=>(cO (cJ st 0 0)).bind λa=>(dU st 0 31).bind λo=>(dU st (bif b then 2 else 0) 31).bind λp=>(dU st 1 31).bind λm=>(cO (cJ st 12 0)).bind λp2=>(cO (cJ st 16 0)).bind λc=>some (a,o,p,m,p2,c)) (λp:Int×Ls×Ls×Ls×Int×Int=>ny b p.1 p.2.1 p.2.2.1 p.2.2.2.1 p.2.2.2.2.1 p.2.2.2.2.2) (λp=>MP U b p.1 p.2.1 p.2.2.1 p.2.2.2.2.1 p.2.2.2.1 p.2.2.2.2.2) (λk p v=>k (.exit 2) (ab9 b p.1 p.2.1 p.2.2.1 v.2.2 p.2.2.2.2.1 v.2.1 v.1))
noncomputable def xh (U:Sh):aX SS:=ke Nb (xj U true) (xj U false)
noncomputable def PF (U:Sh):aX SS:=ke Nb (xk U true) (xk U false)
theorem ag1:aO KK ζ ⟨ψ,aq 30⟩ (iW (ca ψ) 8) (xk shut true):=
 aO.bQ (G:=(jq shut)) (I:=⟨⟨ψ,aq 30⟩,[xh shut]⟩) (π:=Int×Ls×Ls×Ls×Int×Int) (σ:=Int×Ls) (ag.all mu rfl) (aF.cons (aF.nil) (by kernel_rfl) (aO.alt Ja I')) rfl 60 (λp a=>ny true p.1 p.2.1 p.2.2.1 a.2 p.2.2.2.2.1 a.1) (λp=>(p.2.2.2.2.2,p.2.2.2.1)) (St:=λp=>Du shut true p.1 p.2.1 p.2.2.1 p.2.2.2.2.1) (λp=>1000000) (λp=>rfl)
  (λm p a k=>by kernel_rfl)
theorem ag0:aO KK ζ ⟨ψ,aq 30⟩ (iW (ca ψ) 8) (xk shut false):=
 aO.bQ (G:=(jq shut)) (I:=⟨⟨ψ,aq 30⟩,[xh shut]⟩) (π:=Int×Ls×Ls×Ls×Int×Int) (σ:=Int×Ls) (ag.all mu rfl) (aF.cons (aF.nil) (by kernel_rfl) (aO.alt Ja I')) rfl 60 (λp a=>ny false p.1 p.2.1 p.2.2.1 a.2 p.2.2.2.2.1 a.1) (λp=>(p.2.2.2.2.2,p.2.2.2.1)) (St:=λp=>Du shut false p.1 p.2.1 p.2.2.1 p.2.2.2.2.1) (λp=>1000000) (λp=>rfl)
  (λm p a k=>by kernel_rfl)
noncomputable def yU (U:Sh):bN SS:= {jq U with T:=gV ((jq U).T) 30 ⟨⟨ψ,aq 30⟩,[xh U,PF U]⟩}
theorem XJ:aR (yU shut) ζ:=(aR.fz (f:=30) (J:=⟨⟨ψ,aq 30⟩,[xh shut,PF shut]⟩) (ag.all mu rfl) Tryz.func30 rfl aT λc a=>by cases a;exact aF.cons (aF.cons (aF.nil) (by kernel_rfl) (aO.alt ag1 ag0)) (by kernel_rfl) (aO.alt Ja I'))
noncomputable def x9 (U:Sh) (n:Int):Nat->Bool->Int->Ls->Ls->T Ls
 |0,_,_,out,_=>.ok out
 |r+1,b,k,out,last=>.gd (ny b n out last [] k 0)<|.bd (MP U b n out last k [] 0) λy=>.bd (app 24 out y.2.2) λz=>x9 U n r true (k+1) z y.2.2
def lj (n:Int) (m:Nat):Prop:= ∀ {R:Type} (k:Rs SS->AH SS->Γ->Option R),e1 (yU shut) 1000 30 [.one (.v (.int .i64 n))] [] k=(x9 shut n m false 0 [[]] [[]]).run (λxs=>k (.ret (.s (.one (.own 0)))) [some (.row 31 xs)] [])
theorem aeE:lj 0 0:=λk=>by kernel_rfl
theorem aeF:lj 1 1:=λk=>by kernel_rfl
theorem aeG:lj 2 2:=λk=>by kernel_rfl
theorem aeH:lj 3 3:=λk=>by kernel_rfl
theorem aeI:lj 4 4:=λk=>by kernel_rfl
theorem aeJ:lj 5 5:=λk=>by kernel_rfl
noncomputable def jf (U:Sh) (n:Int):Option (List (Γa)):=bif decide (0<=n)&&decide (n<=5) then U.s _ (x9 U n n.toNat false 0 [[]] [[]]).val else none
noncomputable def w4 (U:Sh):eO SS:=⟨30,λvs h k=>match vs,h with|[.one (.v (.int .i64 n))],[]=>(jf U n).bind λxs=>k (.ret (.s (.one (.own 0)))) [some (.row 31 xs)] []|_,_=>none⟩
theorem nT {n:Int} {m:Nat} (h:lj n m) {xs:Ls} (c:shut.s _ (x9 shut n m false 0 [[]] [[]]).val=some xs):dk KK ζ 30 [.one (.v (.int .i64 n))] [] (.ret (.s (.one (.own 0)))) [some (.row 31 xs)] []:=by
 have h1:e1 (yU shut) 1000 30 [.one (.v (.int .i64 n))] [] (λr h' dt=>some (ξC.{0} (r,h',dt)).down)=some (.ret (.s (.one (.own 0))),[some (.row 31 xs)],[]):=by
  rw[h,T.l9,pY c];rfl
 obtain⟨d,h',dt,a,b⟩:=pb (P:=ζ) XJ h1;cases a;exact b
theorem adz:j9 KK (w4 shut) ζ:=⟨λ{R} vs h k z a=>by
 simp only[w4] at a;split at a
 rotate_left
 ·cases a
 rename_i n;unfold jf at a;cases h1:decide (0<=n)&&decide (n<=5) with
 |false=>rw[h1] at a;cases a
 |true=>
  rw[h1] at a;obtain⟨xs,b,a⟩:=bind_some a;rw[μ,decide_eq_true_iff,decide_eq_true_iff] at h1;refine⟨_,_,_,a,?_⟩;have:n=0\/n=1\/n=2\/n=3\/n=4\/n=5:=by omega
  rcases this with rfl|rfl|rfl|rfl|rfl|rfl
  ·exact nT aeE b
  ·exact nT aeF b
  ·exact nT aeG b
  ·exact nT aeH b
  ·exact nT aeI b
  ·exact nT aeJ b⟩
noncomputable def Bm (U:Sh):bN SS:= {jq U with H:=w4 U::(jq U).H}
theorem Br:ag (Bm shut) ζ:=ag.hg (c:=w4 shut) mu adz.ok
end Go.Proofs.YtoggponeookhbaaGreatDoor
end
section
namespace Go.Proofs.YtoggponeookhbaaGreatDoor
open Go.RowKit Go.Dc Go.Vx
variable (U:Sh)
def vX (a:List aA) (p1:List (Γa)) (p2:Int):AS SS:=⟨[(1,va 0 0),(8,vo 1),(9,vl p1),(10,vi p2)],[bX 24 [.aJ 22 a],rX 31 p1],0,none,false,[],[]⟩
def tv (b:List aA) (p1:List (Γa)) (p2:Int) (z0:Γa) (a:Unit):T (Unit⊕Unit⊕(Bool×Int)):=.bd (p1[p2.toNat]?) λc=>.bd (iJ U (dm.mk b) c) λz2=>.bf (z2) (.ok (.inr (.inl ())))<|.ok (.inl ())
def rL (U:Sh) (b:List aA) (p1:List (Γa)) (p2:Int) (a:Unit):T (Unit⊕(Bool×Int)):=.ok (.inr (decide (p2<(↑p1.length:Int)),p2))
def B4 (a:List aA) (p1:List (Γa)):=bC U (tv U a p1) (rL U a p1) p1 ()
def Zl {R} (k:KX SS R) (a:List aA) (p1:List (Γa)) (x:Unit⊕(Bool×Int)):Option R:=x.elim (λv=>k .ret ⟨[(2,vb true)],[],0,none,false,[],[]⟩) (λv=>k (.exit 0) (xe [(11,vb v.1)] (vX a p1 v.2)))
def PR:aX SS:=bh 3 (sq (hD 22 0 0) (hR 1 31)) (λp=>u2 vX p 0) (u2 (B4 shut)) (λk=>u2 (Zl k))
theorem afP:LS KK ζ aq Tryz.f11 11 3 PR:=
 aO.bI (ag.all Br rfl) (aF.nil) rfl 60 (λp i a=>u2 vX p i) (λp=>p.2) (λp=>()) (St:=u2 (tv shut)) (F:=u2 (rL shut)) (λp=>rfl)
  (λm p i a k=>by kernel_rfl) (by rintro p (x|x)<;>exact⟨_,_,λ_=>rfl⟩) (λp N C A O w a b=>kG (j:=1) b rfl)
def VH:=bq (Bm shut) aq Tryz.f11 11 [PR]
theorem VI:aR VH ζ:=bu (ag.all Br rfl) Tryz.func11 rfl aT (by kernel_rfl) afP
def DH (h:dm):T Bool:=.bd (jf U (↑h.cL.length:Int)) λz0=>.gd (vX h.cL z0 0)<|.bd (B4 U h.cL z0) λa=>.cs a (λ_=>.ok true) λb=>.ok false
def Gd (h:dm):=U.s _ (DH U h).val
def mq:=a6 (cR KK 11 24 (Gd U) (bH KK 4)) (Bm U)
theorem sU:ag (mq shut) ζ:=cX (rs:=[4]) Br VI rfl rfl λh k=>by kernel_rfl
end Go.Proofs.YtoggponeookhbaaGreatDoor
end
section
namespace Go.Proofs.YtoggponeookhbaaGreatDoor
open Go.RowKit Go.Dc Go.Vx
variable (U:Sh)
theorem I_:LS KK ζ aq ξw 24 3 xi:=
 aO.bI (ag.all sU rfl) (aF.nil) rfl 60 (λp i a=>u2 qk p i) (λp=>p.1) (λp=>()) (St:=u2 (oY shut)) (F:=u2 (y7 shut)) (λp=>rfl)
  (λm p i a k=>by kernel_rfl) (by rintro p (x|x)<;>exact⟨_,_,λ_=>rfl⟩) (λp N C A O w a b=>bT b (t:=22) (sl:=9) rfl λv h=>h)
def Xm:=bq (mq shut) aq ξw 24 [xi]
theorem Xn:aR Xm ζ:=bu (ag.all sU rfl) ξs rfl aT (by kernel_rfl) I_
theorem SI:LS KK ζ aq ξq 51 7 H':=
 aO.bI (π:=Int×List aA×List Bool×List aA×Γa×List ah×List ai×List ay×Int×List au×List ar×Bool×Int×Int×Γa×Int×Int×Int×Int×Int×Bool) (σ:=Bool) Xn (aF.nil) rfl 60 (λp i a=>HD p.1 p.2.1 p.2.2.1 p.2.2.2.1 p.2.2.2.2.1 p.2.2.2.2.2.1 p.2.2.2.2.2.2.1 p.2.2.2.2.2.2.2.1 p.2.2.2.2.2.2.2.2.1 p.2.2.2.2.2.2.2.2.2.1 p.2.2.2.2.2.2.2.2.2.2.1 p.2.2.2.2.2.2.2.2.2.2.2.1 p.2.2.2.2.2.2.2.2.2.2.2.2.1 p.2.2.2.2.2.2.2.2.2.2.2.2.2.1 p.2.2.2.2.2.2.2.2.2.2.2.2.2.2.1 p.2.2.2.2.2.2.2.2.2.2.2.2.2.2.2.1 p.2.2.2.2.2.2.2.2.2.2.2.2.2.2.2.2.1 p.2.2.2.2.2.2.2.2.2.2.2.2.2.2.2.2.2.1 p.2.2.2.2.2.2.2.2.2.2.2.2.2.2.2.2.2.2.1 p.2.2.2.2.2.2.2.2.2.2.2.2.2.2.2.2.2.2.2.1 i a) (λp=>p.2.1) (λp=>p.2.2.2.2.2.2.2.2.2.2.2.2.2.2.2.2.2.2.2.2) (St:=λp=>uu shut p.1 p.2.1 p.2.2.1 p.2.2.2.1 p.2.2.2.2.1 p.2.2.2.2.2.1 p.2.2.2.2.2.2.1 p.2.2.2.2.2.2.2.1 p.2.2.2.2.2.2.2.2.1 p.2.2.2.2.2.2.2.2.2.1 p.2.2.2.2.2.2.2.2.2.2.1 p.2.2.2.2.2.2.2.2.2.2.2.1 p.2.2.2.2.2.2.2.2.2.2.2.2.1 p.2.2.2.2.2.2.2.2.2.2.2.2.2.1 p.2.2.2.2.2.2.2.2.2.2.2.2.2.2.1 p.2.2.2.2.2.2.2.2.2.2.2.2.2.2.2.1 p.2.2.2.2.2.2.2.2.2.2.2.2.2.2.2.2.1 p.2.2.2.2.2.2.2.2.2.2.2.2.2.2.2.2.2.1 p.2.2.2.2.2.2.2.2.2.2.2.2.2.2.2.2.2.2.1 p.2.2.2.2.2.2.2.2.2.2.2.2.2.2.2.2.2.2.2.1) (F:=λp=>sF shut p.1 p.2.1 p.2.2.1 p.2.2.2.1 p.2.2.2.2.1 p.2.2.2.2.2.1 p.2.2.2.2.2.2.1 p.2.2.2.2.2.2.2.1 p.2.2.2.2.2.2.2.2.1 p.2.2.2.2.2.2.2.2.2.1 p.2.2.2.2.2.2.2.2.2.2.1 p.2.2.2.2.2.2.2.2.2.2.2.1 p.2.2.2.2.2.2.2.2.2.2.2.2.1 p.2.2.2.2.2.2.2.2.2.2.2.2.2.1 p.2.2.2.2.2.2.2.2.2.2.2.2.2.2.1 p.2.2.2.2.2.2.2.2.2.2.2.2.2.2.2.1 p.2.2.2.2.2.2.2.2.2.2.2.2.2.2.2.2.1 p.2.2.2.2.2.2.2.2.2.2.2.2.2.2.2.2.2.1 p.2.2.2.2.2.2.2.2.2.2.2.2.2.2.2.2.2.2.1 p.2.2.2.2.2.2.2.2.2.2.2.2.2.2.2.2.2.2.2.1) (λp=>rfl)
  (λm p i a k=>by kernel_rfl) (λp x=>⟨_,_,λ_=>rfl⟩) (λp N C A O w a b=>bT b (t:=22) (sl:=12) rfl λv h=>h)
def oA (a:fL):bN SS:= {(mq shut) with H:=hQ a::(mq shut).H}
theorem K9 {a:fL} (b:j9 KK (hQ a) ζ):ag (oA a) ζ:=ag.hg (c:=hQ a) sU b.ok
def KU (a:fL):bN SS:= {(oA a) with T:=gV ((oA a).T) 24 ⟨⟨ξw,aq 24⟩,[xi]⟩}
theorem Xo {a:fL} (b:j9 KK (hQ a) ζ):aR (KU a) ζ:=bu (ag.all (K9 b) rfl) ξs rfl aT (by kernel_rfl) I_
theorem ag' {b:fL} (c:j9 KK (hQ b) ζ):aO KK ζ ⟨ξq,aq 51⟩ (iW (ca ξq) 2) (Q9 b):=aO.pre (b_.comp (b_.gc (aq 51 2)) (b_.ga [2,8]))<|
 aO.bI (G:=KU b) (I:=⟨⟨ξq,aq 51⟩,[H']⟩) (π:=List aA×List Bool×List aA×Γa×List ah×List ai×List ay×Int×List au×List ar×Bool) (σ:=List Bool×Bool) (Xo c) (aF.cons (aF.nil) (by kernel_rfl) SI) rfl 60 (λp i a=>HC p.1 a.1 p.2.2.1 p.2.2.2.1 p.2.2.2.2.1 p.2.2.2.2.2.1 p.2.2.2.2.2.2.1 p.2.2.2.2.2.2.2.1 p.2.2.2.2.2.2.2.2.1 p.2.2.2.2.2.2.2.2.2.1 i a.2) (λp=>p.1) (λp=>(p.2.1,p.2.2.2.2.2.2.2.2.2.2)) (St:=λp=>ur shut b p.1 p.2.2.1 p.2.2.2.1 p.2.2.2.2.1 p.2.2.2.2.2.1 p.2.2.2.2.2.2.1 p.2.2.2.2.2.2.2.1 p.2.2.2.2.2.2.2.2.1 p.2.2.2.2.2.2.2.2.2.1) (F:=λp=>y9 shut p.1 p.2.2.1 p.2.2.2.1 p.2.2.2.2.1 p.2.2.2.2.2.1 p.2.2.2.2.2.2.1 p.2.2.2.2.2.2.2.1 p.2.2.2.2.2.2.2.2.1 p.2.2.2.2.2.2.2.2.2.1) (λp=>rfl)
  (λm p i a k=>by kernel_rfl) (by rintro p (x|x)<;>exact⟨_,_,λ_=>rfl⟩) (λp N C A O w a d=>bT d (t:=22) (sl:=12) rfl λv h=>h)
def KT (a:fL):bN SS:= {(oA a) with T:=gV (gV ((oA a).T) 24 ⟨⟨ξw,aq 24⟩,[xi]⟩) 51 ⟨⟨ξq,aq 51⟩,[H',Q9 a]⟩}
theorem Xp {b:fL} (d:j9 KK (hQ b) ζ):aR (KT b) ζ:=(aR.fz (aR.fz (ag.all (K9 d) rfl) ξs rfl aT λc a=>by cases a;exact aF.cons (aF.nil) (by kernel_rfl) I_) Tryz.func51 rfl aT λc a=>by cases a;exact aF.cons (aF.cons (aF.nil) (by kernel_rfl) (ag' d)) (by kernel_rfl) SI)
theorem aiG {R:Type} (b:fL) (p:List Bool) (q a:List aA) (g0:Γa) (g1:List ah) (g2:List ai) (g3:List ay) (g4:Int) (g5:List au) (g6:List ar) (k:Rs SS->AH SS->Γ->Option R):e1 (KT b) 100 25 [.agg [.bA .i64 16 g0,.aJ 48 g1,.aJ 51 g2,.aJ 52 g3,.v (.int .u64 g4),.aJ 55 g5,.aJ 56 g6],.one (.aM 0 0),.one (.aM 3 0),.one (.aM 4 0),.one (.aM 5 0)] [some (.box 25 [.a7 1]),some (.a7 24 [.one (.aM 2 0)] []),some (.box 77 [.aJ 22 a,.cA 64 p]),some (.box 73 [.aM 2 0]),some (.box 24 [.aJ 22 q]),some (.box 78 [.a7 6]),some (.a7 25 [] [.one (.aM 0 0),.one (.aM 3 0),.one (.aM 4 0),.one (.aM 5 0)])] k=(o9 shut b p q a g0 g1 g2 g3 g4 g5 g6).run (λr=>k (.ret (.s (.one (.v (.bool r.1.2))))) [some (.box 25 [.a7 1]),some (.a7 24 [.one (.aM 2 0)] []),some (.box 77 [.aJ 22 a,.cA 64 r.1.1]),some (.box 73 [.aM 2 0]),some (.box 24 [.aJ 22 q]),some (.box 78 [.a7 6]),some (.a7 25 [] [.one (.aM 0 0),.one (.aM 3 0),.one (.aM 4 0),.one (.aM 5 0)])] (bif r.2 then[2] else[])):=by kernel_rfl
theorem ady {c:fL} (f:j9 KK (hQ c) ζ):j9 KK (hQ (λp q b g0 g1 g2 g3 g4 g5 g6=>(Oh shut c p q b g0 g1 g2 g3 g4 g5 g6).map (·.1))) ζ:=⟨λ{R} vs h k z a=>by
 simp only[hQ] at a;split at a
 rotate_left
 ·cases a
 rename_i g0 g1 g2 g3 g4 g5 g6 cs q;split at a
 rotate_left
 ·cases a
 rename_i b p he;obtain⟨r,h',dt,d,e⟩:=adw (j:=2) (X:=List Bool×Bool) (rs:=λr=>.ret (.s (.one (.v (.bool r.2))))) (hp:=λr=>[some (.box 25 [.a7 1]),some (.a7 24 [.one (.aM 2 0)] []),some (.box 77 [.aJ 22 b,.cA 64 r.1]),some (.box 73 [.aM 2 0]),some (.box 24 [.aJ 22 q]),some (.box 78 [.a7 6]),some (.a7 25 [] [.one (.aM 0 0),.one (.aM 3 0),.one (.aM 4 0),.one (.aM 5 0)])]) (Xp f) (λk=>aiG _ p q b g0 g1 g2 g3 g4 g5 g6 k) rfl (Nat.le_of_ble_eq_true rfl) a;exact⟨r,h',dt,d,dk.seen (j:=2) rfl (λv h=>acS he v h) rfl e⟩⟩
theorem OI: ∀n,j9 KK (hQ (kz shut n)) ζ
 |0=>⟨λ{R} vs h k z a=>by
  simp only[hQ] at a;split at a
  ·split at a
   ·cases a
   ·cases a
  ·cases a⟩
 |n+1=>ady (OI n)
def sZ:bN SS:= {(mq U) with H:=Pb U::(mq U).H}
theorem L8:ag (sZ shut) ζ:=ag.hg (c:=Pb shut) sU (OI 100).ok
theorem aiI {R:Type} (h:dm) (k:Rs SS->Option R):e1 (sZ shut) 100 9 [KK.bl 24 h] [] (ht KK [4,27] k)=(mN shut h).run (λr=>k (.ret (.bJ [KK.bl 4 r.1,KK.bl 27 r.2]))):=by kernel_rfl
def BW:bN SS:= {(sZ U) with C:=abI U::(sZ U).C}
theorem Yv:ag (BW shut) ζ:=ag.f_ L8 λxs k z _ b=>kn (ag.all L8 rfl) (λ{R} xs k z a=>by
 match xs,a with
 | .cons h .nil,a=>exact⟨100,(aiI h k).trans (lJ a)⟩) b
end Go.Proofs.YtoggponeookhbaaGreatDoor
end
section
namespace Go.Vx
open Go.RowKit Go.Dc
section
variable {S:bm} {P:Program}
def JC (G:bN S) (n f:Nat) (vs:List (aB S)) (rs:Γ):Option (Rs S):=e1 G n f vs [] (ht G.K rs (λr=>some (ξC.{0} r).down))
theorem Tt {G:bN S} (a:aR G P) {n f:Nat} {vs:List (aB S)} {rs:Γ} (hp:vs.all aB.pure=true) {r:Rs S} (h:JC G n f vs rs=some r):ej G.K P f vs r:=by
 obtain⟨l,h',dt,b,c⟩:=pb a h;obtain⟨m,d,g⟩:=ej.IH a.K hp c b;obtain⟨k,i,j⟩:=IQ a.K d g;have e:k=r:=by simpa using i
 rw[<-e];exact j
end
end Go.Vx
namespace Go.Proofs.YtoggponeookhbaaGreatDoor
open Go.RowKit Go.Dc Go.Vx
set_option maxRecDepth 1000000
set_option maxHeartbeats 4000000
noncomputable def s9 (U:Sh):bN SS:= {Bu U with F:=[23,32,33,34,27,38,49,52]}
theorem MH:ag (s9 shut) ζ:=ag.OG Bv _
noncomputable def NM:eM SS:=fE KK 32 [24] (λ{R} xs (k:Rs SS->Option R)=>match xs with| .cons h .nil=>(JC (s9 ab) 300 32 [KK.bl 24 h] [31]).bind k)
noncomputable def s_ (U:Sh):bN SS:= {s9 U with C:=NM::(s9 U).C}
theorem MI:ag (s_ shut) ζ:=ag.f_ (c:=NM) MH λxs k z hp b=>pw dc (λ{R} xs k z h=>by
 match xs,h with
 | .cons x .nil,h=>
  obtain⟨r,h1,a⟩:=bind_some h;exact⟨_,a,Tt (j2▸ag.all MH rfl) rfl h1⟩) xs k z hp b
noncomputable def NL:eM SS:=fE KK 12 [24] (λ{R} xs (k:Rs SS->Option R)=>match xs with| .cons h .nil=>(JC (s_ ab) 300 12 [KK.bl 24 h] [31,27]).bind k)
noncomputable def BX (U:Sh):bN SS:= {s_ U with C:=NL::(s_ U).C,F:=[12]}
theorem Yw:ag (BX shut) ζ:=ag.OG (ag.f_ (c:=NL) MI λxs k z hp b=>pw dc (λ{R} xs k z h=>by
 match xs,h with
 | .cons x .nil,h=>
  obtain⟨r,h1,a⟩:=bind_some h;exact⟨_,a,Tt (j2▸ag.all MI rfl) rfl h1⟩) xs k z hp b) _
theorem ajJ {R:Type} (k:Rs SS->Option R):e1 (BX ab) 300 7 [] [] (ht KK [4] k)=k (.ret (.s (KK.bl 4 true))):=by kernel_rfl
noncomputable def NN:eM SS:=fE KK 7 [] (λ{R} xs (k:Rs SS->Option R)=>k (.ret (.s (KK.bl 4 true))))
noncomputable def BP (U:Sh):bN SS:= {BW U with C:=NN::(BW U).C}
theorem Yu:ag (BP shut) ζ:=ag.f_ (c:=NN) Yv λxs k z _ a=>kn (G:=BX ab) (rs:=[4]) (j2▸ag.all Yw rfl) (λ{R} xs k z h=>by
 match xs,h with
 | .nil,h=>exact⟨300,(ajJ k).trans h⟩) a
end Go.Proofs.YtoggponeookhbaaGreatDoor
end
section
namespace Go.Proofs.YtoggponeookhbaaGreatDoor
open Go.RowKit Go.Dc Go.Vx
variable (U:Sh)
def uC (x:dm):T Bool:=
 .bd (dF x.cL none (Option.map (λx=>x.snd) (some (ω,if 66<(↑x.cL.length:Int) then 66 else(↑x.cL.length:Int)))) none) λz0=>
  .bd (app 88 [] z0) λa=>
   .bd (vK U (dm.mk a)) λz2=>
    .bd (Ga U (dm.mk a)) λz3=>
     .bf (!z3) (
      .bf (z2.snd==390) (
       .ok (!z2.fst))<|
      .ok false)<|
     .bf (decide ((↑a.length:Int)>7)) (
      .bf (z2.snd==3) (
       .ok (!z2.fst))<|
      .ok false)<|
     .bf (decide ((↑a.length:Int)>5)) (
      .ok (z2.snd==0))<|
     .bf (z2.snd==0) (
      .bd (Gd U (dm.mk a)) λz4=>
       .ok (z2.fst==z4))<|
     .ok false
def GM (x:dm):=U.s _ (uC U x).val
theorem t_3:R1 KK (BP shut) 3 24 [4] (uC shut) (bH KK 4):=by intro R x k;kernel_rfl
end Go.Proofs.YtoggponeookhbaaGreatDoor
end
section
namespace Go.Proofs.YtoggponeookhbaaGreatDoor
open Go.RowKit Go.Dc Go.Vx
def xt (n:Nat) (last:Ls):Ls:=last.flatMap λl=>((List.range n).map Int.ofNat).flatMap λi=>bif l.any (λx=>x==i) then[] else[l++[i]]
def IN (n:Nat):Nat->Ls->Ls->Ls
 |0,out,_=>out
 |k+1,out,last=>IN n k (out++xt n last) (xt n last)
def fH (n:Nat):Ls:=IN n n [[]] [[]]
theorem ajA:jf ab 0=some (fH 0):=by kernel_rfl
theorem ajB:jf ab 1=some (fH 1):=by kernel_rfl
theorem ajC:jf ab 2=some (fH 2):=by kernel_rfl
theorem ajD:jf ab 3=some (fH 3):=by kernel_rfl
theorem ajE:jf ab 4=some (fH 4):=by kernel_rfl
theorem ajF:jf ab 5=some (fH 5):=by kernel_rfl
theorem ajz {n:Nat} (h:n<=5):jf ab (n:Int)=some (fH n):=by
 have:n=0\/n=1\/n=2\/n=3\/n=4\/n=5:=by omega
 rcases this with rfl|rfl|rfl|rfl|rfl|rfl
 ·exact ajA
 ·exact ajB
 ·exact ajC
 ·exact ajD
 ·exact ajE
 ·exact ajF
def k_ (n:Nat) (l:Γa):Prop:= ∀x∈l,0<=x/\x<(n:Int)
theorem aeh {n r:Nat} {last:Ls} (b: ∀l:Γa,l.length=r->l.Nodup->k_ n l->l∈last) (l:Γa) (hl:l.length=r+1) (hn:l.Nodup) (hi:k_ n l):l∈xt n last:=by
 obtain⟨a,x,rfl⟩: ∃a x,l=a++[x]:=⟨l.dropLast,l.getLast (by intro h;rw[h] at hl;cases hl),(List.dropLast_concat_getLast _).symm⟩;have h1:=List.nodup_append.1 hn;have e:=hi x (by simp);unfold xt;refine ξ4.2 ⟨a,b a (by simpa using hl) h1.1 (λy c=>hi y (θ _ c)),ξ4.2 ⟨x,List.mem_map.2 ⟨x.toNat,ξj.2 (by omega),by simp;omega⟩,?_⟩⟩;have:a.any (λz=>z==x)=false:=by
  rw[List.any_eq_false];intro z d;have:=h1.2.2 z d x (by simp);simpa using this
 rw[this];simp
theorem RE {n:Nat}: ∀(k r:Nat) (out last:Ls),(∀l:Γa,l.length=r->l.Nodup->k_ n l->l∈last)->(∀l:Γa,l.length<=r->l.Nodup->k_ n l->l∈out)-> ∀l:Γa,l.length<=r+k->l.Nodup->k_ n l->l∈IN n k out last
 |0,_,_,_,_,a=>a
 |k+1,r,out,last,b,a=>λl hl=>by
  have hm:=aeh b;refine RE k (r+1) _ _ hm (λl hl hn hi=>?_) l (by omega);rcases ξg r l.length with h|h
  ·exact τ _ (hm l (by omega) hn hi)
  ·exact θ _ (a l h hn hi)
theorem Ii: ∀(n:Nat) {l:Γa},l.Nodup->k_ n l->l.length<=n
 |0,l,_,h=>by
  cases l with
  |nil=>exact Nat.le_refl _
  |cons x r=>have:=h x (by simp);omega
 |n+1,l,hn,h=>by
  by_cases hm:(n:Int)∈l
  ·have h1:=List.length_erase_of_mem hm;have:=Ii n (hn.erase (n:Int)) λx a=>by
    have b:=(hn.mem_erase_iff).1 a;have:=h x b.2;have:=b.1;omega
   omega
  ·have:=Ii n hn λx a=>by
    have:=h x a;have:x≠(n:Int):=λe=>hm (e▸a);omega
   omega
theorem aei {n:Nat} {l:Γa} (hn:l.Nodup) (hi:k_ n l):l∈fH n:=by
 have a: ∀l:Γa,l.length<=0->l∈([[]]:Ls):=λl hl=>by
  cases l with
  |nil=>simp
  |cons _ _=>simp at hl
 refine RE n 0 _ _ (λl hl _ _=>a l (by omega)) (λl hl _ _=>a l hl) l ?_ hn hi;have:=Ii n hn hi;omega
section
variable {q:List aA}
theorem jk (hw:mO q) (h:iy q) (g:q.length<=5): ∃b,Gd ab ⟨q⟩=some b/\(b=true↔ ∃l,Walk q (ξ 64 false) dA l):=by
 have n: ∀l,iJ ab ⟨q⟩ l=some ((iJ ab ⟨q⟩ l).getD false):=λl=>by
  obtain⟨b,h1,_⟩:=J9 hw l;rw[h1];rfl
 have m:B4 ab q (fH q.length)=match(fH q.length).findIdx? (λl=>(iJ ab ⟨q⟩ l).getD false) with|some _=>some (.inl ())|none=>some (.inr (false,((fH q.length).length:Int))):=by
  show bB (λk z a=>(tv ab q (fH q.length) k z a).val) (λk a=>(rL ab q (fH q.length) k a).val) 0 (fH q.length) ()=_;rw[n' (p:=λl=>(iJ ab ⟨q⟩ l).getD false) (e:=λ_=>.inl ()) λi z o=>?_]
  ·unfold rL;simp only[T.av,φ,decide_false]<;>cases (fH q.length).findIdx? _<;>rfl
  ·unfold tv;simp only[T.aG,T.az,T.av,ξa,o,ε];rw[n z,ε,χ]
 refine⟨((fH q.length).findIdx? λl=>(iJ ab ⟨q⟩ l).getD false).isSome,?_,?_⟩
 ·show(DH ab ⟨q⟩).val=_;unfold DH;simp only[T.aG,T.bw,T.ch,T.av,ajz g,ε,m]<;>cases (fH q.length).findIdx? λl=>(iJ ab ⟨q⟩ l).getD false<;>rfl
 ·rw[List.findIdx?_isSome,List.any_eq_true];constructor
  ·rintro ⟨l,_,hl⟩;obtain⟨b,h1,c⟩:=J9 hw l;rw[h1,χ] at hl;obtain⟨d,f⟩:=c.1 hl;exact⟨l,adW h d f⟩
  ·rintro ⟨l,hl⟩;obtain⟨h1,c,d,f⟩:=ajK h hl;refine⟨l,aei c h1,?_⟩;obtain⟨b,g,j⟩:=J9 hw l;rw[g,χ];exact j.2 ⟨d,f⟩
theorem w9n (c:q.length<=100) (b: ¬iy q):vK ab ⟨q⟩=some (false,390):=by
 have a:nj ab ⟨q⟩=some 390:=by
  rcases U6 c with⟨_,e⟩|⟨e,_⟩
  ·exact absurd e b
  ·exact e
 show(mN ab ⟨q⟩).val=_;unfold mN;simp only[T.aG,T.az,T.av,a,ε];rfl
end
theorem w3 {x:dm} (hw: ∀d∈x.cL,gY d.bP):GM ab x=some true:=by
 show(uC ab x).val=_;obtain⟨q,f⟩: ∃q,q=x.cL.take 66:=⟨_,rfl⟩;have hl:q.length<=66:=by rw[f,List.length_take];omega
 have m:mO q:=λd l=>hw d (by rw[f] at l;exact List.mem_of_mem_take l);have k:dF x.cL none (some (if 66<(x.cL.length:Int) then 66 else(x.cL.length:Int))) none=some q:=by
  rw[abP x.cL 66 66 rfl,f]
 have i:app 88 ([]:List aA) q=some q:=fY (n:=100) (by simp;omega) (by decide);obtain⟨c,g,j⟩:=yE (q:=q) (by omega);unfold uC;cases c with
 |false=>
  have a: ¬iy q:=λh=>by cases j.2 h
  simp only[T.aG,T.az,T.av,ξf,k,i,ε,w9n (by omega) a,g];rfl
 |true=>
  have a:=j.1 rfl;obtain⟨b,s,t⟩:=w9 m a;simp only[T.aG,T.az,T.av,ξf,k,i,ε,s,g,ξd,cond_false]
  by_cases w:q.length>7
  ·have e:decide ((q.length:Int)>7)=true:=decide_eq_true (by omega);simp only[e];rfl
  have e:decide ((q.length:Int)>7)=false:=decide_eq_false (by omega);simp only[e,cond_false]
  by_cases v:q.length>5
  ·have e:decide ((q.length:Int)>5)=true:=decide_eq_true (by omega);simp only[e];rfl
  have e:decide ((q.length:Int)>5)=false:=decide_eq_false (by omega);obtain⟨o,r,u⟩:=jk m a (by omega);have p:b=o:=by rw[ο,t,u]
  simp only[e,cond_false,r,ε,p,beq_self_eq_true];rfl
end Go.Proofs.YtoggponeookhbaaGreatDoor
end
section
namespace Go.Dc
open Go.RowKit
structure eC {α:Type} (P:Program) (t:TypeId) (T:Ty α) (D: {H:Type}->DataW H->α->Prop):Prop where
 cells:P.cellsOf t=T.n
 shape: ∀ {w:World} {b:Nat} {v:Value},ξ2 P w .any b t v->v=T.mk' v.cells.toList
 bl: ∀ {H:Type} {enc:TypeId×Value->H} {w:World} {held:Bool} {fuel:Nat} {cs:Γb} {d:DataW H} {p:List MemPlace},ξu enc P w 0 (λ_=>true) held fuel t cs=some (d,p)->w.noneFrozen p-> ∃x,T.rep [] w cs x/\D d x
section
variable {P:Program} {t:TypeId}
def cw (k:IntKind) {H:Type} (d:DataW H) (x:Int):Prop:=d= .lit (.int k x)/\(Lit.int k x).wf=true
def ow {H:Type} (d:DataW H) (x:Bool):Prop:=d= .lit (.bool x)
theorem IM {k:IntKind} (hu:P.underlying t=some (.int k)) (a:P.cellsOf t=1):eC P t (Ty.int k) (cw k) where
 cells:=a
 shape {w b v} h:=by
  simp only[ξ2,hu,ξB] at h;unfold Cell.ok at h;rw[hu] at h;cases v<;>simp_all [Ty.mk',Ty.int,ξl]
 bl {H enc w held fuel cs d p} h _:=by
  obtain⟨n,rfl,c,hw⟩:=DataW.trod_int hu h;cases c;exact⟨n,rfl,rfl,hw⟩
theorem aff (hu:P.underlying t=some .bool) (a:P.cellsOf t=1):eC P t Ty.bool ow where
 cells:=a
 shape {w b v} h:=by
  simp only[ξ2,hu,ξB] at h;unfold Cell.ok at h;rw[hu] at h;cases v<;>simp_all [Ty.mk',Ty.bool,ξl]
 bl {H enc w held fuel cs d p} h _:=by
  obtain⟨b,rfl,c⟩:=DataW.trod_bool hu h;cases c;exact⟨b,rfl,rfl⟩
def h6 {α:Type} (D: {H:Type}->DataW H->α->Prop) {H:Type}:List (DataW H)->List α->Prop
 |[],xs=>xs=[]
 |d::ds,xs=> ∃y ys,xs=y::ys/\D d y/\h6 D ds ys
def k7 {α:Type} (D: {H:Type}->DataW H->α->Prop) {H:Type} (d:DataW H) (xs:List α):Prop:=
 match d with
 | .nil=>xs=[]
 | .slice es _=>h6 D es xs
 |_=>False
theorem h6.len {α:Type} {D: {H:Type}->DataW H->α->Prop} {H:Type}: ∀ {ds:List (DataW H)} {xs:List α},h6 D ds xs->ds.length=xs.length
 |[],_,h=>by rw[show _=[] from h];rfl
 |_::_,_,⟨y,ys,h,_,a⟩=>by subst h;simp[h6.len a]
theorem h6.mem {α:Type} {D: {H:Type}->DataW H->α->Prop} {H:Type}: ∀ {ds:List (DataW H)} {xs:List α},h6 D ds xs-> ∀x∈xs,∃d∈ds,D d x
 |[],_,h,x,a=>by rw[show _=[] from h] at a;cases a
 |d::_,_,⟨y,ys,h,h1,b⟩,x,a=>by
  subst h;rcases ξ5.1 a with rfl|a
  ·exact⟨d,ξ8,h1⟩
  ·obtain⟨e,he,h⟩:=h6.mem b x a;exact⟨e,ξi _ he,h⟩
theorem k7.mem {α:Type} {D: {H:Type}->DataW H->α->Prop} {H:Type} {d:DataW H} {xs:List α} (h:k7 D d xs): ∀x∈xs,∃e:DataW H,D e x:=by
 intro x a;unfold k7 at h;split at h
 ·subst h;cases a
 ·obtain⟨e,_,he⟩:=h6.mem h x a;exact⟨e,he⟩
 ·exact h.elim
theorem FU {α:Type} {D: {H:Type}->DataW H->α->Prop} {H:Type} {R:Nat->α->Prop}: ∀(ds:List (DataW H)) (o:Nat),(∀k d,ds[k]? =some d-> ∃x,R (o+k) x/\D d x)-> ∃xs,h6 D ds xs/\ ∀(k:Nat) x,xs[k]? =some x->R (o+k) x
 |[],_,_=>⟨[],rfl,λk x h=>by simp at h⟩
 |d::ds,o,h=>by
  obtain⟨x,f,c⟩:=h 0 d rfl;obtain⟨xs,h1,b⟩:=FU (R:=R) ds (o+1) (λk e he=>by
   have:=h (k+1) e (by simpa using he)
   rwa [show o+(k+1)=o+1+k by omega] at this)
  refine⟨x::xs,⟨x,xs,rfl,c,h1⟩,λk y a=>?_⟩;cases k with
  |zero=>simp at a;subst a;simpa using f
  |succ k=>
   have:=b k y (by simpa using a)
   rwa [show o+(k+1)=o+1+k by omega]
theorem Nw {w:World} {a:Addr} {u:Value} (h:w.cell? a=some u):a.block<w.heap.size:=by
 unfold World.cell? at h;split at h
 ·rename_i b;exact(Array.getElem?_eq_some_iff.1 b).1
 ·cases h
theorem aa5 (a:Addr) (n:Nat):(a.add n).off=a.off+n:=by unfold Addr.add;split<;>simp_all
theorem afh {α:Type} {e:TypeId} {T:Ty α} {D: {H:Type}->DataW H->α->Prop} (hu:P.underlying t=some (.slice e)) (s:P.cellsOf t=1) (he:eC P e T D) (hn:0<T.n):eC P t T.slice (k7 D) where
 cells:=s
 shape {w b v} h:=by
  obtain⟨a,len,cap,rfl⟩:=WideShapes.okWide_slice hu h;rfl
 bl {H enc w held fuel cs d p} h o:=by
  rcases DataW.trod_slice hu h with⟨rfl,c⟩|⟨a,len,cap,elems,rest,n,rfl,rfl,c,_,O,A,hlen,C,_,_⟩
  ·cases c;exact⟨[],⟨none,0,rfl,⟨Nat.le_refl _,by unfold maxLen;omega⟩,λk x h=>by simp at h⟩,rfl⟩
  ·cases c;have key: ∀(k:Nat) (x:DataW H),(elems.map (·.1))[k]? =some x-> ∃y,(a.block<w.heap.size/\ ∃es,T.rep [] w es y/\k6 w (a.add ((0+k)*T.n)) es)/\D x y:=by
    intro k x hk;have F:k<len:=by
     have:=(γ.1 hk).1;simpa[hlen] using this
    have m:elems[k]? =some elems[k]:=δ (by omega);have f:=C k F;rw[m] at f;simp only[Option.bind_eq_some_iff] at f;obtain⟨cs,B,K⟩:=f;have c:x=elems[k].1:=by
     rw[ξc,m] at hk;simpa using hk.symm
    obtain⟨y,M,N⟩:=he.bl (d:=elems[k].1) (p:=elems[k].2) K (λb off hm=>o b off (τ _ (ξ4.2 ⟨elems[k],θ _ (ν _),hm⟩)));obtain⟨_,hl,g⟩:=World.cells?_some B;rw[he.cells] at hl g;have I:0<cs.length:=by omega
    refine⟨y,⟨?_,cs,M,λj u i=>?_,λj i=>?_⟩,by rw[c];exact N⟩
    ·have l:=g 0 (by omega);rw[δ I] at l;have:=Nw l;simpa[hG] using this
    ·have E:j<T.n:=by have:=(γ.1 i).1;omega
     rw[ρ,g j E];exact i
    ·have G:(0+k)*T.n+j<(elems.length+rest.length)*P.cellsOf e:=by
      rw[he.cells,ρ];have:(k+1)*T.n<=(elems.length+rest.length)*T.n:=Nat.mul_le_mul_right _ (by omega);rw[Nat.succ_mul] at this;omega
     have:=o a.block (a.off+((0+k)*T.n+j)) (θ _ (MemPlace.mem_row.2 ⟨_,G,rfl⟩));rw[add_add];simp only[ξx,hG,aa5] at this ⊢;exact this
   obtain⟨xs,h1,q⟩:=FU (R:=λk y=>a.block<w.heap.size/\ ∃es,T.rep [] w es y/\k6 w (a.add (k*T.n)) es) (elems.map (·.1)) 0 (λk x hk=>key k x hk);have L:xs.length=len:=by rw[<-h1.len];simpa using hlen
   refine⟨xs,⟨some a,cap,by rw[L],⟨by omega,A⟩,λk x hk=>?_⟩,h1⟩;obtain⟨r,es,J,z⟩:=q k x hk;exact⟨a,es,rfl,r,by simp,J,by simpa using z⟩
structure mA {α:Type} (P:Program) (o:Nat) (fs:List Field) (T:Ty α) (D: {H:Type}->List (DataW H)->α->Prop):Prop where
 bl: ∀ {H:Type} {enc:TypeId×Value->H} {w:World} {held:Bool} {fuel:Nat} {cs:Γb} {xs:List (DataW H×List MemPlace)},xs.length=fs.length->
  (∀(i:Nat) (f:Field),fs[i]? =some f->ξu enc P w 0 (λ_=>true) held fuel f.type ((cs.drop f.offset).take (P.cellsOf f.type))=xs[i]?)->w.noneFrozen (xs.flatMap (·.2))->
  ∃x,T.rep [] w ((cs.drop o).take T.n) x/\D (xs.map (·.1)) x
def eZ {α:Type} (D: {H:Type}->DataW H->α->Prop) {H:Type} (ds:List (DataW H)) (x:α):Prop:= ∃d,ds=[d]/\D d x
def cU {α β:Type} (D: {H:Type}->DataW H->α->Prop) (E: {H:Type}->List (DataW H)->β->Prop) {H:Type} (ds:List (DataW H)) (x:α×β):Prop:= ∃d r,ds=d::r/\D d x.1/\E r x.2
theorem q0 {α:Type} {o:Nat} {f:Field} {T:Ty α} {D: {H:Type}->DataW H->α->Prop} (e:f.offset=o) (h:eC P f.type T D):mA P o [f] T (eZ D) where
 bl {H enc w held fuel cs xs} hl hm c:=by
  obtain⟨y,rfl⟩: ∃y,xs=[y]:=List.length_eq_one_iff.1 hl;have g:=hm 0 f rfl;obtain⟨x,h1,a⟩:=h.bl (d:=y.1) (p:=y.2) g (λb off hm=>c b off (by simpa using hm));rw[e,h.cells] at h1;exact⟨x,h1,y.1,rfl,a⟩
theorem i' {α β:Type} {o o':Nat} {f:Field} {fs:List Field} {T:Ty α} {S:Ty β} {D: {H:Type}->DataW H->α->Prop} {E: {H:Type}->List (DataW H)->β->Prop} (l:f.offset=o) (h:eC P f.type T D) (m:o'=o+T.n) (q:mA P o' fs S E):
  mA P o (f::fs) (Ty.pair T S) (cU D E) where
 bl {H enc w held fuel cs xs} hl hm a:=by
  cases xs with
  |nil=>simp at hl
  |cons y r=>
   have s:=hm 0 f rfl;obtain⟨x,h1,c⟩:=h.bl (d:=y.1) (p:=y.2) s (λb off hm=>a b off (by simp[hm]));obtain⟨z,e,j⟩:=q.bl (xs:=r) (by simpa using hl) (λi g k=>by simpa using hm (i+1) g (by simpa using k)) (λb off hm=>a b off (by rw[List.flatMap_cons];exact τ _ hm));rw[l,h.cells] at h1;refine⟨(x,z),⟨_,_,?_,h1,e⟩,y.1,r.map (·.1),rfl,c,j⟩;show(cs.drop o).take (T.n+S.n)=_;rw[List.take_add,List.drop_drop,m]
theorem afd {α:Type} {o:Nat} {fs:List Field} {T:Ty α} {D: {H:Type}->List (DataW H)->α->Prop} (h:mA P o fs T D):mA P o fs (Ty.single T) D where
 bl hl hm a:=h.bl hl hm a
def e0 {α β:Type} (E: {H:Type}->List (DataW H)->α->Prop) (f:β->α) {H:Type} (d:DataW H) (x:β):Prop:= ∃ds,d= .agg ds/\E ds (f x)
theorem q1 {α β:Type} {fs:Array Field} {T:Ty α} {E: {H:Type}->List (DataW H)->α->Prop} (f:β->α) (g:α->β) (a: ∀x,f (g x)=x) (hu:P.underlying t=some (.struct fs)) (j:P.cellsOf t=T.n) (e:T.agg=true) (h:mA P 0 fs.toList T E):eC P t (T.ft f) (e0 E f) where
 cells:=j
 shape {w b v} h:=by
  simp only[ξ2,hu] at h;obtain⟨cs,rfl,_⟩:=h;simp[Ty.mk',Ty.ft,e,ξl]
 bl {H enc w held fuel cs d p} k l:=by
  obtain⟨xs,n,rfl,o,hl,q,hi⟩:=DataW.trod_struct hu k;cases o;obtain⟨x,h1,c⟩:=h.bl (xs:=xs) (cs:=cs) (by simpa using q) (λi g m=>hi i g (by simpa using m)) l;rw[List.drop_zero,List.take_of_length_le (by omega)] at h1;exact⟨g x,by show T.rep [] w cs (f (g x));rw[a];exact h1,_,rfl,by rw[a];exact c⟩
theorem eC.arg {α:Type} {T:Ty α} {D: {H:Type}->DataW H->α->Prop} (h:eC P t T D) {H:Type} {enc:TypeId×Value->H} {w:World} {held:Bool} {v:Value} {d:DataW H} {p:List MemPlace} {b:Nat} (g:ξ2 P w .any b t v)
  (c:DataW.Trod enc P w 0 (λ_=>true) held t v d p) (f:w.noneFrozen p): ∃x,T.is [] w v x/\D d x:=by
 obtain⟨fuel,e⟩:=c;obtain⟨x,h1,a⟩:=h.bl e f;exact⟨x,⟨_,h1,h.shape g⟩,a⟩
end
theorem Np {H:Type} {enc:TypeId×Value->H} {P:Program} {W d:World} (hl:laidOutB P=true): ∀ {c:List TypeId} {vs:Γb} {ds:List (DataW H)} {ps:List MemPlace},(∀t∈c,P.readableRec t=true/\t<P.types.size)->ξy enc P W 0 (λ_=>true) true c vs ds ps->Below W.heap.size W d->(∀x∈ps,x.block<W.heap.size)->
  ∀sp:Nat->Bool,(∀p∈ps,sp p.block=true)->ξy enc P d 0 sp true c vs ds ps
 |[],[],[],_,_,h,_,_,_,_=>h
 |_::_,_::_,_::_,_,b,⟨p,q,h1,j,e⟩,f,g,sp,i=>by
  subst e;refine⟨p,q,?_,Np hl (λt h=>b t (ξi _ h)) j f (λx a=>g x (τ _ a)) sp (λx a=>i x (τ _ a)),rfl⟩;exact WideElems.Trod_stays hl (b _ ξ8).1 (b _ ξ8).2 h1 (λx a=>f.same (g x (θ _ a))) (λx a=>i x (θ _ a))
end Go.Dc
end
section
namespace Go.Vx
open Go.RowKit Go.Dc
variable {P:Program} {t:TypeId}
def j7 (k:IntKind) (n:Nat) {H:Type} (d:DataW H) (x:Γa):Prop:= ∃ds,d= .agg ds/\h6 (cw k) ds x/\x.length=n
theorem afe {k:IntKind} {n:Nat} {e:TypeId} (hu:P.underlying t=some (.array n e)) (o:P.cellsOf t=n) (he:eC P e (Ty.int k) (cw k)):eC P t (jw k n) (j7 k n) where
 cells:=o
 shape {w b v} s:=by
  simp only[ξ2,hu] at s;obtain⟨cs,rfl,_⟩:=s;simp[Ty.mk',jw,ξl]
 bl {H enc w held fuel cs d p} f B:=by
  obtain⟨xs,m,rfl,g,hl,D,hi⟩:=DataW.trod_array hu f;cases g;have h1:P.cellsOf e=1:=he.cells;have key: ∀(j:Nat) (x:DataW H),(xs.map (·.1))[j]? =some x-> ∃y,(cs[0+j]? =some (.int k y))/\cw k x y:=by
   intro j x a;have C:j<xs.length:=by
    have:=(γ.1 a).1;simpa using this
   have l:xs[j]? =some xs[j]:=δ C;have g:x=xs[j].1:=by
    rw[ξc,l] at a;simpa using a.symm
   have q:=hi j (by omega);rw[l] at q;obtain⟨y,c,E⟩:=he.bl (d:=xs[j].1) (p:=xs[j].2) q (λb off hm=>B b off (ξ4.2 ⟨xs[j],ν _,hm⟩));refine⟨y,?_,by rw[g];exact E⟩;rw[h1,Nat.mul_one] at c;have c:(cs.drop j).take 1=[.int k y]:=c;rw[ρ];cases f:cs.drop j with
   |nil=>rw[f] at c;simp at c
   |cons u r=>
    rw[f] at c;have:u= .int k y:=by simpa using c
    subst this;have:=List.getElem?_drop (xs:=cs) (i:=j) (j:=0);rw[f] at this;simpa using this.symm
  obtain⟨ys,h,A⟩:=FU (R:=λj y=>cs[j]? =some (.int k y)) (xs.map (·.1)) 0 (λj x a=>key j x a);have z:ys.length=n:=by rw[<-h.len];simpa using D
  refine⟨ys,⟨z,?_⟩,_,rfl,h,z⟩;refine List.ext_getElem? λj=>?_;rw[ξc];cases a:ys[j]? with
  |none=>
   rw[List.getElem?_eq_none_iff] at a;rw[List.getElem?_eq_none (by rw[hl,o];omega)];rfl
  |some y=>
   have:=A j y a;rw[ρ] at this;exact this
end Go.Vx
end
section
namespace Go.Proofs.YtoggponeookhbaaGreatDoor
open Go.RowKit Go.Dc Go.Vx
theorem nS:eC ζ 35 (Ty.int .u64) (cw .u64):=IM Tryz.underlying35 (by kernel_rfl)
theorem ae_:eC ζ 36 (jw .u64 4) (j7 .u64 4):=afe Tryz.underlying36 (by kernel_rfl) nS
theorem ae':eC ζ 38 og (e0 (cU (cw .u64) (eZ (j7 .u64 4))) (λd:b3=>(d.aQ,d.fArgs))):=q1 (λd:b3=>(d.aQ,d.fArgs)) (λp=>⟨p.1,p.2⟩) (λ_=>rfl) Tryz.underlying38 (by kernel_rfl) rfl (i' rfl nS rfl (q0 rfl ae_))
theorem xI:eC ζ 3 (Ty.int .i64) (cw .i64):=IM Tryz.underlying3 (by kernel_rfl)
theorem ae9:eC ζ 27 (Ty.int .i64) (cw .i64):=IM Tryz.underlying27 (by kernel_rfl)
theorem afb:eC ζ 40 ru (e0 (cU (cw .i64) (eZ (cw .u64))) (λd:cu=>(d.b0,d.b8))):=q1 (λd:cu=>(d.b0,d.b8)) (λp=>⟨p.1,p.2⟩) (λ_=>rfl) Tryz.underlying40 (by kernel_rfl) rfl (i' rfl ae9 rfl (q0 rfl nS))
theorem afc:eC ζ 42 ji (e0 (cU (cw .i64) (cU (e0 (cU (cw .u64) (eZ (j7 .u64 4))) (λd:b3=>(d.aQ,d.fArgs))) (cU (e0 (cU (cw .i64) (eZ (cw .u64))) (λd:cu=>(d.b0,d.b8))) (cU (cw .i64) (cU (cw .i64) (eZ (cw .i64))))))) (λd:aA=>(d.bS,d.bP,d.bt,d.bK,d.a8,d.bc))):=q1 (λd:aA=>(d.bS,d.bP,d.bt,d.bK,d.a8,d.bc)) (λp=>⟨p.1,p.2.1,p.2.2.1,p.2.2.2.1,p.2.2.2.2.1,p.2.2.2.2.2⟩) (λ_=>rfl) Tryz.underlying42 (by kernel_rfl) rfl (i' rfl xI rfl (i' rfl ae' rfl (i' rfl afb rfl (i' rfl xI rfl (i' rfl xI rfl (q0 rfl xI))))))
theorem ae7:eC ζ 22 (Ty.slice ji) (k7 (e0 (cU (cw .i64) (cU (e0 (cU (cw .u64) (eZ (j7 .u64 4))) (λd:b3=>(d.aQ,d.fArgs))) (cU (e0 (cU (cw .i64) (eZ (cw .u64))) (λd:cu=>(d.b0,d.b8))) (cU (cw .i64) (cU (cw .i64) (eZ (cw .i64))))))) (λd:aA=>(d.bS,d.bP,d.bt,d.bK,d.a8,d.bc)))):=afh Tryz.underlying22 (by kernel_rfl) afc (by decide)
theorem ae8:eC ζ 24 rq (e0 (eZ (k7 (e0 (cU (cw .i64) (cU (e0 (cU (cw .u64) (eZ (j7 .u64 4))) (λd:b3=>(d.aQ,d.fArgs))) (cU (e0 (cU (cw .i64) (eZ (cw .u64))) (λd:cu=>(d.b0,d.b8))) (cU (cw .i64) (cU (cw .i64) (eZ (cw .i64))))))) (λd:aA=>(d.bS,d.bP,d.bt,d.bK,d.a8,d.bc))))) (λd:dm=>d.cL)):=q1 (λd:dm=>d.cL) (λp=>⟨p⟩) (λ_=>rfl) Tryz.underlying24 (by kernel_rfl) rfl (afd (q0 rfl ae7))
theorem afa:eC ζ 4 Ty.bool ow:=aff Tryz.underlying4 (by kernel_rfl)
theorem ae6:eC ζ 115 gU (e0 (cU (cw .u64) (cU (cw .u64) (cU ow (eZ (cw .u64))))) (λd:ah=>(d.aa,d.aP,d.bb,d.bV))):=q1 (λd:ah=>(d.aa,d.aP,d.bb,d.bV)) (λp=>⟨p.1,p.2.1,p.2.2.1,p.2.2.2⟩) (λ_=>rfl) Tryz.underlying115 (by kernel_rfl) rfl (i' rfl nS rfl (i' rfl nS rfl (i' rfl afa rfl (q0 rfl nS))))
def Dg (P:Program) (w:World) (n:String) (d:DataW Unit):Prop:= ∃g t cs fuel p,P.globalNamed n=some g/\(P.globals[g]?).map (·.type)=some t/\w.var? P n=some cs/\ξu (λ_=>()) P w 0 (λ_=>true) false fuel t cs.toList=some (d,p)/\w.noneFrozen p/\w.noneFrozen (ξA ⟨g,0,none⟩ cs.size)
theorem PG {P:Program} {w:World}: ∀ {l:List (String×DataW Unit)} {ps:List MemPlace},DataW.LaidVars P w l ps->w.noneFrozen ps-> ∀n d,(n,d)∈l->Dg P w n d
 |[],_,_,_,_,_,hm=>by cases hm
 |(o,m)::r,ps,h,c,n,d,hm=>by
  obtain⟨g,t,cs,fuel,p,q,h1,f,i,j,k,rfl⟩:=h;rcases ξ5.1 hm with e|e
  ·cases e;exact⟨g,t,cs,fuel,p,h1,f,i,j,λb off a=>c b off (by simp[a]),λb off a=>c b off (by simp[a])⟩
  ·exact PG k (λb off a=>c b off (by simp[a])) n d e
theorem ad7 {P:Program} {w:World} {l:List (String×DataW Unit)} (h:laidMet P l w) {n:String} {d:DataW Unit} (hm:(n,d)∈l):Dg P w n d:=by
 obtain⟨ps,g,_,f⟩:=h;refine PG g (λb off a=>?_) n d hm;obtain⟨⟨c,t,e⟩,_⟩:=f b off a;unfold ξx;simp[e]
theorem ad8 {α:Type} {P:Program} {w:World} {n:String} {d:DataW Unit} {g t:Nat} {T:Ty α} {D: {H:Type}->DataW H->α->Prop} (c:P.globalNamed n=some g) (o:(P.globals[g]?).map (·.type)=some t) (h:eC P t T D) (s:0<T.n) (hl:Dg P w n d):
  ∃x,T.ptr.is [] w (.pointer (some ⟨g,0,none⟩)) x/\D d x:=by
 obtain⟨q,t',cs,fuel,p,h1,f,i,k,hp,m⟩:=hl;cases c.symm.trans h1;cases o.symm.trans f;obtain⟨x,a,l⟩:=h.bl k hp;have b: ∀j,w.cell? ⟨g,j,none⟩=cs.toList[j]? :=λj=>by
  have:=World.var?_cell c i j;simpa using this
 have hl:=T.len a;have e: ∀j,(⟨g,0,none⟩:Addr).add j=⟨g,j,none⟩:=λj=>by unfold Addr.add;split<;>simp_all
 refine⟨x,⟨_,⟨⟨g,0,none⟩,_,rfl,?_,by simp,a,λj u hu=>?_,λj r=>?_⟩,rfl⟩,l⟩
 ·obtain⟨u,hu⟩: ∃u,cs.toList[0]? =some u:=⟨_,δ (by omega)⟩;rw[<-b] at hu;exact Nw hu
 ·rw[e,b];exact hu
 ·rw[e];refine m g j ?_;unfold ξA
  simp_all
theorem adu {H:Type} {d:DataW H} {x:Int} (h:cw .u64 d x):0<=x/\x<18446744073709551616:=by
 have:=h.2;simp[Lit.wf,IntKind.min,IntKind.max,ξt,ξz] at this;omega
theorem acY {x:ah} (h:e0 (cU (cw .u64) (cU (cw .u64) (cU ow (eZ (cw .u64))))) (λd:ah=>(d.aa,d.aP,d.bb,d.bV)) (ξ3 (H:=Unit)) x):x=vR:=by
 obtain⟨a,b,c,d⟩:=x;simp[ξ3,e0,cU,eZ,cw,ow] at h;obtain⟨d1,l,⟨rfl,rfl⟩,⟨h1,_⟩,d2,m,e,⟨i,_⟩,d3,n,f,j,d4,g,k,_⟩:=h;simp at e;obtain⟨rfl,rfl⟩:=e;simp at f;obtain⟨rfl,rfl⟩:=f;simp at g;subst g;simp at h1 i j k;subst h1;subst i;subst j;subst k;rfl
theorem ac0 {O:Γ} {w:World} (h:gU.ptr.is O w (.pointer (some ⟨0,0,none⟩)) vR):cN KK O w:=by
 intro g t x a;show(SS.ty t).ptr.is O w (.pointer (some ⟨g,0,none⟩)) x;have a:Hf g=some ⟨t,x⟩:=a;unfold Hf at a;split at a
 ·cases a;exact h
 ·cases a
theorem abh {f:Nat} {args:List (aB SS)} {r:Bool} (c:ej KK ζ f args (.ret (.s (KK.bl 4 r)))) {A:Pl} {O:Γ} {w:World} {vs:Γb} (d:cI A O w args vs) (hO:OB O w) (b:cN KK O w):Calls ζ f vs.toArray w (gn (oc Ty.bool) O w r):=by
 refine(c.2 A O w vs d hO b).mono ?_;rintro e w' ⟨⟨v,rfl,h1,_⟩,a⟩;cases h1;exact⟨_,rfl,jx.2 rfl,a⟩
theorem UL {l:Γa} (h: ∀x∈l,cz x) (i:Nat):cz (ao l i):=by
 unfold ao;cases e:l[i]? with
 |none=>exact⟨by simp,by simp⟩
 |some x=>exact h x (η e)
theorem aj1 {H:Type} {d:DataW H} {l:Γa} (h:j7 .u64 4 d l):(∀x∈l,cz x)/\l.length=4:=by
 obtain⟨ds,_,a,hl⟩:=h;refine⟨λx b=>?_,hl⟩;obtain⟨e,_,he⟩:=a.mem x b;exact adu he
theorem aj2 {H:Type} {d:DataW H} {x:dm} (h:(e0 (eZ (k7 (e0 (cU (cw .i64) (cU (e0 (cU (cw .u64) (eZ (j7 .u64 4))) (λd:b3=>(d.aQ,d.fArgs))) (cU (e0 (cU (cw .i64) (eZ (cw .u64))) (λd:cu=>(d.b0,d.b8))) (cU (cw .i64) (cU (cw .i64) (eZ (cw .i64))))))) (λd:aA=>(d.bS,d.bP,d.bt,d.bK,d.a8,d.bc))))) (λd:dm=>d.cL)) d x): ∀z∈x.cL,gY z.bP:=by
 obtain⟨ds,rfl,d1,rfl,c⟩:=h;intro z f;obtain⟨e,es,rfl,d2,i,rfl,_,d3,j,rfl,b,_⟩:=c.mem z f;obtain⟨g,rfl,d4,k,rfl,_,d5,rfl,a⟩:=b;have:=(aj1 a).1;exact⟨UL this 0,UL this 1⟩
theorem Y1 {x:dm} (h: ∀z∈x.cL,gY z.bP):GM ab x=some true:=w3 h
theorem ad5 {O:Γ} {w:World} (hO:OB O w) (c:gU.ptr.is O w (.pointer (some ⟨0,0,none⟩)) vR) {v0:Value} {x0:dm} (a:rq.is O w v0 x0) {r:Bool} (h:GM ab x0=some r):Calls ζ 3 #[v0] w (gn (oc Ty.bool) O w r):=by
 rw[<-j2] at h;have b:ej KK ζ 3 [KK.bl 24 x0] (.ret (.s (KK.bl 4 r))):=yh (G:=BP shut) (ag.all Yu rfl) (kf:=λ{R} (k:Rs SS->Option R)=>(λr=>k (.ret (.s (KK.bl 4 r))))) (λk=>t_3 x0 k) rfl (pY h) λk=>rfl;exact abh b (A:=xx) (vs:=[v0]) ⟨v0,_,rfl,hZ dc (t:=24) rfl rfl a,rfl⟩ hO (ac0 c)
end Go.Proofs.YtoggponeookhbaaGreatDoor
end
