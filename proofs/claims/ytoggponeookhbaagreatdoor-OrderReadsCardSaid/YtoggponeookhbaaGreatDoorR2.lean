/- A part of the proof that OrderReads returns true for every input: the machine of values, its soundness, the program as plain functions, the law. Conditions: those of the given rows. -/
import Derived.Test.YtoggponeookhbaaGreatDoorR1
import Derived.Recover
import Derived.LoopNIn
import Derived.Stop.BytesEq
import Derived.KernelRfl
import Derived.RecoverIn
set_option linter.unusedVariables false
set_option linter.unusedSimpArgs false
noncomputable section
set_option maxRecDepth 1000000
set_option maxHeartbeats 12000000
open Array renaming getD_eq_getD_getElem?→θ,getElem?_eq_getElem→κ,getElem?_setIfInBounds_ne→ξ0,replicate→ξ8,getElem?_eq_some_iff→ξa,getElem?_toList→ξi,all_eq_true_iff_forall_mem→ξC,eq_empty_of_size_eq_zero→ξG,foldl_toList→ξQ,toList_map→ζw
open Bool renaming and_eq_true→η,or_true→ξv,not_eq_true'→ξE,or_eq_true→ξN,true_and→ξW,not_true→ξY,false_or→ξZ,true_or→ζb,false_eq_true→ζo,and_true→ζp,not_eq_true→ζy
open Go renaming Call→ζ8
open Go.Act renaming put→ζA
open Go.Builtin renaming copy_→ζj,firstCells→ζk,lenOf→ζJ
open Go.Code renaming region→ζB
open Go.Deferred renaming ofValue→ζ0
open Go.Instr renaming fill→ζF
open Go.Lib renaming byteCells→ζI
open Go.Op renaming equalIn→ζG
open Go.Oper renaming semAt_eq→ζn
open Go.Region renaming wanted→ξ1,ready→ζc
open Go.Result renaming andThen_ok→π
open Go.RowKit.Below renaming heap_alloc→ζ4
open Go.Sem renaming run_bind→ξ,run_pure→ξh
open Go.StepsIn renaming of_steps→ζx,mono→ζM
open Go.Target.collected renaming injEq→ζK
open Go.Value renaming int→ξ2,oneCell'→ξR,func→ζr,cells→ζP,bool→ζR
open Go.World renaming putObj_heap_other→ξm,putObj_heap_same→ζ6,alloc_heap_new→ζg
open List renaming getElem?_eq_some_iff→ε,mem_cons_of_mem→μ,mem_cons_self→ν,getElem?_eq_getElem→σ,mem_cons→τ,getElem?_append_left→φ,length_append→χ,mem_append→ψ,length_take→ξ3,all_eq_true→ξ4,take_append_drop→ξ6,mem_append_right→ξ7,mem_append_left→ξ9,getElem?_append_right→ξb,length_set→ξf,getElem?_eq_none→ξg,append_assoc→ξj,mem_filter→ξk,length_drop→ξn,take_of_length_le→ξq,length_singleton→ξr,range→ξs,length_map→ξw,getElem?_cons_zero→ξy,append_nil→ξz,all_cons→ξB,getElem?_set→ξD,replicate→ξF,take_append_of_le_length→ξJ,mem_of_getElem?→ξL,getElem?_take→ξO,getElem?_eq_none_iff→ξS,drop→ξT,getElem?_take_of_lt→ξU,cons_append→ζ1,length_cons→ζ2,take_length→ζ3,drop_of_length_le→ζ5,length_replicate→ζ7,drop_drop→ζh,toList_toArray→ζi,getElem?_drop→ζm,nodup_append→ζq,mem_map→ζs,drop_append→ζu,any_eq_true→ζz,of_mem_zip→ζC,mapM_cons→ζD,map_cons→ζH,range'→ζQ
open Nat renaming eq_of_beq_eq_true→δ,beq→ζ,blt_eq→ο,blt→υ,lt_or_ge→ω,le_of_ble_eq_true→ξ5,le_refl→ξc,lt_trichotomy→ξd,zero_add→ξe,zero_le→ξt,beq_refl→ξu,ble→ξH,le_add_right→ξI,mul_le_mul_right→ξK,min_eq_left→ξM,add_zero→ξP,add_sub_cancel_left→ξV,min→ζ9,succ_mul→ζa,le_of_lt→ζd,le_trans→ζe,decEq→ζl,sub_self→ζt,min_eq_right→ζv,ble_eq→ζE,le_total→ζL,sub_zero→ζN
open Option renaming bind_some→ξo,getD_some→ξp,map_some→ξx,bind_eq_some_iff→ξX
open Option.some renaming injEq→ι,inj→ξA
open Prod.mk renaming injEq→ξl
open Std.Legacy.Range renaming forIn_eq_forIn_range'→ζf,size→ζO
section
namespace Go.Vx
open Go.RowKit Go.Dc
section
variable {S:bh} {K:Kit S} {P:Program} {rr:Option Nat} {o:Oper} {env:aP S} {g:Nat->Option (Ob S)} {nx:Nat} {R:Type} {z:R} {k:AV S->Up S->AH S->Option R}
def jg (a:Act):Γ->Env
 |[]=>[]
 |s::r=>(s,a.tmps.getD s undef)::jg a r
theorem Iu (a:Act) (l:Γ):Has a.tmps.size (jg a l) a.defers a:=by
 refine⟨rfl,rfl,?_⟩
 induction l with
 |nil=>intro i v h;simp[jg,Env.get] at h
 |cons s r d=>
  intro i v h;simp only[jg,Env.get] at h;cases b:ζ s i with
  |true=>
   rw[b] at h;have c:=δ b;subst c;simp only[cond_true,ι] at h;exact h
  |false=>rw[b] at h;exact d i v h
theorem It {a:Act} {s:Nat}: ∀ {l:Γ},s∈l->(jg a l).get s=some (a.tmps.getD s undef)
 |t::r,h=>by
  simp only[jg,Env.get];cases b:ζ t s with
  |true=>have c:=δ b;subst c;rfl
  |false=>
   rcases τ.1 h with rfl|h
   ·simp at b
   ·exact It h
theorem Is {a:Act} {x:Operand} {l:Γ} (h: ∀s∈slotsOf [x],s∈l):ev (jg a l) x=some (a.eval x):=by
 cases x with
 |tmp t=>exact It (h t (by simp[slotsOf]))
 |const v=>rfl
 |global g=>rfl
 |func f=>rfl
theorem Fg {x:Operand}: ∀ {l:List Operand},x∈l-> ∀s∈slotsOf [x],s∈slotsOf l
 |y::r,h,s,a=>by
  rcases τ.1 h with rfl|h
  ·cases x<;>simp[slotsOf] at a ⊢;exact .inl a
  ·have:=Fg h s a;cases y<;>simp[slotsOf,this]
theorem JN: ∀ {ps:List (Nat×Operand)} {n:Nat} {xs:List Operand},uH n ps=some xs-> ∀ {E:Env} {f:Operand->Value},(∀x∈xs,ev E x=some (f x))->jA E n ps=some (xs.map f)
 |[],n,xs,h,E,f,a=>by cases h;rfl
 |(i,x)::r,n,xs,h,E,f,a=>by
  simp only[uH] at h;cases b:ζ i n<;>rw[b] at h
  ·cases h
  simp only[cond_true] at h;split at h
  rotate_left
  ·cases h
  rename_i ys d;cases h;simp only[jA,b,cond_true,a x ν,JN d (λy c=>a y (μ _ c)),ζH]
theorem Ik (b:bU K P) {A:Pl} {O:Γ} {w:World} {t:Nat}: ∀ {aen:List (an S)} {ys:List (S.El t)} {vs:Γb},sT K t aen=some ys->cy A O w aen vs->bH (S.ty t) O w (gV vs) ys/\vs.length=ys.length/\ ∀v∈vs,v.cells.size=(S.ty t).n
 |[],ys,vs,h,e=>by cases h;rw[show vs=[] from e];exact⟨rfl,rfl,λv h=>by cases h⟩
 |a::r,ys,vs,h,⟨v,m,f,h1,d⟩=>by
  subst f;simp only[sT] at h;split at h
  rotate_left
  ·cases h
  rename_i y g;split at h
  rotate_left
  ·cases h
  rename_i o i;cases h;have c:=b.cls A O w t _ y _ g h1.cells;obtain⟨j,k,l⟩:=Ik b i d;refine⟨⟨v.cells.toList,gV m,by simp[gV],c,j⟩,by simp[k],λu hu=>?_⟩;rcases τ.1 hu with rfl|hu
  ·have:=(S.ty t).len c;simpa using this
  ·exact l u hu
theorem X5 (j:bU K P) {t n:Nat} {ps:Array (Nat×Operand)} (C:o.op= .buildSlice t n ps) (h:DP K env g nx k t n ps.toList=some z):Good K P rr o env g nx k z:=by
 have m: ∀c,o.op≠ .defer c:=λc=>by rw[C];simp
 unfold DP at h;split at h
 rotate_left
 ·cases h
 rename_i i hi;split at h
 rotate_left
 ·cases h
 rename_i d xs N ab;split at h
 rotate_left
 ·cases h
 rename_i aen has;split at h
 rotate_left
 ·cases h
 rename_i ai rs M;split at h
 rotate_left
 ·cases h
 rename_i ys ad;cases l:(ζ i.tag 5&&(ζ ys.length n&&(ζ (S.ty i.e).n d.size&&(ζ d.zero.cells.size d.size&&(ξH (n*d.size) 16777216&&ξH n 16777216)))))<;>rw[l] at h
 ·cases h
 simp only[cond_true,η] at h l;obtain⟨G,hlen,s,ae,V,W⟩:=l;have s:=δ s;refine f_ m h λA O w a he y hO H L=>?_;have u:A.pl nx=none:=L 0 (by simp);obtain⟨af,aj,D⟩:=lq j y (all:=rs) M (k1 he H has) (λr q=>q);obtain⟨F,ag,ah⟩:=Ik j ad af;have hk:=IB (A:=A) hO D;have hn:n=ys.length:=(δ hlen).symm;have Q:n<=maxLen:=by have:=ξ5 W;unfold maxLen;omega
 have b:=jw hk.ob i.e (gV (xs.map a.eval));have I:Dc.Lit (S.ty i.e) i.e (db A rs O) w w.heap.size n ys (w.alloc (.cells (gV (xs.map a.eval)).toArray i.e)):=⟨⟨gV (xs.map a.eval),b,F.tr b.tr,by rw[F.len,hn]⟩,hn.symm,Q⟩;have T:=I.own (B:=0) (ξt _);have R:nx∉rs:=λq=>by
  obtain⟨Z,J⟩:=D nx q;obtain⟨p,hp,_⟩:=y.al nx Z J;rw[u] at hp;cases hp
 refine⟨.slice (some ⟨w.heap.size,0,none⟩) n n,_,_,_,?_,⟨_,Pl.fb A nx (.slice (some ⟨w.heap.size,0,none⟩) n n),rfl,rfl⟩,
  hk.HM (mF (p:=.slice (some ⟨w.heap.size,0,none⟩) n n) hk.ob u b.fr b.tr b.ob b.ge T (λc m=>by cases m;rfl)) (λi X hi=>by obtain⟨rfl,_⟩:=cQ hi;exact R)⟩
 simp only[execOp,C,ξ];have U:=JN ab (E:=jg a (slotsOf xs)) (f:=a.eval) λx aa=>Is (Fg aa);rw[EZ j.Θ (Iu a _) hi (δ G) N (δ ae) U (λv Y=>(ah v Y).trans s) (ag.trans hn.symm) (ξ5 V)];rfl
theorem Yj (l:bU K P) {t:Nat} {x y:Operand} (C:o.op= .makeSlice t x y) (h:DY K env nx k t x y=some z):Good K P rr o env g nx k z:=by
 have q: ∀c,o.op≠ .defer c:=λc=>by rw[C];simp
 unfold DY at h;split at h
 rotate_left
 ·cases h
 rename_i i hi;split at h
 rotate_left
 ·cases h
 rename_i b U;split at h
 rotate_left
 ·cases h
 rename_i n c u ad af M;cases m:(ζ i.tag 5&&(ζ (S.ty i.e).n b.size&&(ζ b.zero.cells.size b.size&&b.zero.cells.toList.all ξR)))<;>rw[m] at h
 ·cases h
 simp only[cond_true,η] at h m;obtain⟨J,aa,f,h1⟩:=m;have hn:=δ aa;have f:=δ f;obtain⟨zs,hm,I⟩:=bind_some h;refine f_ q I λA O w a he B hO v R=>?_;have T:A.pl nx=none:=R 0 (by simp);have ab:=l.Θ.fits U;obtain⟨x',ae,Z,L,ag⟩:=ab.info;have Y:(S.ty i.e).rep O w b.zero.cells.toList u:=l.cls A O w i.e _ u _ M (qw h1);unfold hV at hm;split at hm
 rotate_left
 ·cases hm
 rename_i Q;obtain⟨F,G,H,aj⟩:=Q;simp only[ι] at hm;subst hm;obtain⟨ai,W⟩:=hS he v ad;obtain⟨ah,V⟩:=hS he v af;have hu:=(l.Θ.fits hi).slice (δ J);have E:=run_make (P:=P) w t i.e x' b.zero hu ae ag ai ah n c F G (by rw[L];exact H) (by omega);rw[Z] at E;have d:=jw hO i.e (madeCells b.zero.cells (c.toNat*b.size)).toList;have X:Dc.Own (S.ty i.e) i.e 0 (w.heap.size::O) (w.alloc (.cells (madeCells b.zero.cells (c.toNat*b.size)).toList.toArray i.e)) (.slice (some ⟨w.heap.size,0,none⟩) n.toNat c.toNat) (ξF n.toNat u):=by
  have N:c.toNat<=maxLen:=by unfold maxLen;omega
  have D:=(ab8 Y n.toNat).tr d.tr;have s:=D.len;simp only[ζ7] at s;have hle:n.toNat*b.size<=c.toNat*b.size:=ξK _ (by omega);refine⟨⟨_,⟨by rw[s];simp,.inr ⟨w.heap.size,c.toNat,madeCells b.zero.cells (c.toNat*b.size),by simp,ξt _,?_,by simp;omega,N,by simp[madeCells,hn],?_⟩⟩,D⟩,λg B=>by cases B;exact ν⟩
  ·have:=d.bB;unfold bz at this;simpa using this
  ·apply List.ext_getElem?;intro j;simp only[ξO,ζ7,hn]
   by_cases r:j<n.toNat*b.size
   ·rw[if_pos r,LI _ _ _ (by omega) f,XR (by simpa using f) _ _ r]
   ·rw[if_neg r]
    symm
    rw[ξS,s,hn];omega
 refine⟨.slice (some ⟨w.heap.size,0,none⟩) n.toNat c.toNat,_,_,_,?_,⟨_,Pl.fb A nx (.slice (some ⟨w.heap.size,0,none⟩) n.toNat c.toNat),rfl,rfl⟩,
  mF (p:=.slice (some ⟨w.heap.size,0,none⟩) n.toNat c.toNat) hO T d.fr d.tr d.ob d.ge X (λc q=>by cases q;rfl)⟩
 simp only[execOp,C,ξ,W,V,E];simp
theorem jk (j:bU K P) {A:Pl} {O:Γ} {w:World} (m:bI A O w g) {e:Nat} {l:LV S} {xs:List (S.El e)} {u:Value} (h:dX K g e l=some xs) (c:l.rel A O w [u]):(S.ty e).slice.is (db A (jC l) O) w u xs:=by
 have less:Tr O w (db A (jC l) O) w:=Tr.less eE;unfold dX at h;split at h
 ·rename_i r;split at h
  rotate_left
  ·cases h
  rename_i q ys o;split at h
  rotate_left
  ·cases h
  rename_i p _;subst p;cases h;obtain⟨v,h1,a,d⟩:=c;have a:u=v:=by simpa using a
  subst a;obtain⟨p,hp,f,hm⟩:=m.al r _ o;rw[h1] at hp;cases hp;exact Dc.Own.share f eE λb k n=>(hz.1 n).2 r (by simp[jC]) u h1 (fA k)
 ·rename_i t y;split at h
  rotate_left
  ·cases h
  rename_i I i;split at h
  rotate_left
  ·cases h
  rename_i p _;subst p;cases h;obtain⟨v,h1,a,d⟩:=c;have h1:u=v:=by simpa using h1
  subst h1;exact((j.sl t I i).2.1 O w u y a).tr less
 ·cases h;have:=ed c;subst this;exact gH _ _ _
 ·cases h
theorem ach {c:ζ8} {x y:Operand} {ty:Nat} {a:Act} {w w':World} {u v r:Value} (f:o.op= .call c) (d:c.callee= .builtin .append) (b:c.args.toList=[x,y]) (g:c.argTypes.toList=[ty,ty]) (i:a.eval x=u) (j:a.eval y=v)
  (h:(Builtin.append_ #[ty,ty] o.type #[u,v]).run P w= .ok r w'):(execOp a.eval o).run P w= .ok (.value r) w':=by
 refine qI f d λcs=>?_;rw[fE b,fE g];simp only[builtin,ξ];have e:(#[x,y].map a.eval)= #[u,v]:=by simp[i,j]
 rw[show([x,y]:List Operand).toArray.map a.eval= #[u,v] from e,show([ty,ty]:Γ).toArray= #[ty,ty] from rfl,h];rfl
theorem X1 (L:bU K P) {ty:Nat} {c:ζ8} {x y:Operand} (ad:o.op= .call c) (an:c.callee= .builtin .append) (ai:c.args.toList=[x,y]) (aD:c.argTypes.toList=[ty,ty]) (h:DM K env g nx k ty x y=some z):Good K P rr o env g nx k z:=by
 have ak: ∀c,o.op≠ .defer c:=λc=>by rw[ad];simp
 unfold DM at h;split at h
 rotate_left
 ·cases h
 rename_i i hi;split at h
 rotate_left
 ·cases h
 rename_i d au;split at h
 rotate_left
 ·cases h
 rename_i aL I G H;have key: ∀ {l:LV S} {xs ys:List (S.El i.e)} {kl:Γ},bZ K env x=some l->(∀r∈kl,∃Z,g r=some Z)->(∀(A:Pl) (O:Γ) (w:World) (u:Value),bI A O w g->l.rel A O w [u]->Dc.Own (S.ty i.e) i.e 0 (db A kl O) w u xs/\u.oneCell'=true)->
   (∀(A:Pl) (O:Γ) (w:World) (u:Value),bI A O w g->I.rel A O w [u]->(S.ty i.e).slice.is (db A kl O) w u ys)->
   ∀ {ef0:Up S},(∀(A:Pl) (O:Γ) (w:World) (u:Value),bI A O w g->l.rel A O w [u]->(∀i X,(i,X)∈ef0->X=none/\A.pl i=some u/\ ∃Z,g i=some Z)/\((∃i,(i,none)∈ef0)\/u.ownBlock=none))->(∀i X,(i,X)∈ef0->i∉kl)->
   (ζ i.tag 5&&(ζ (S.ty i.e).n d.size&&(ζ d.zero.cells.size d.size&&(υ 0 d.size&&υ 0 d.bytes))))=true->
   ∀ {up:Up S},up=fp kl++ef0->((app d.bytes xs ys).bind λzs=>k (.s (.one (.own nx))) up [some (.row i.e zs)])=some z->Good K P rr o env g nx k z:=by
  intro l xs ys kl G M ax D ef0 aq ao B up aE h;simp only[η] at B;obtain⟨ah,aC,aG,ay,aj⟩:=B;obtain⟨zs,aH,J⟩:=bind_some h;obtain⟨hlen,rfl⟩:=sO aH;subst aE;refine f_ ak J λA O w a he m hO Q ar=>?_;have aa:A.pl nx=none:=ar 0 (by simp);have hk:=IB (A:=A) (w:=w) hO M;obtain⟨aI,aM⟩:=ax A O w _ m (b0 he Q G);have aJ:=D A O w _ m (b0 he Q H);obtain⟨N,w',O',aB,W⟩:=EY (P:=P) (ty:=o.type) L.Θ hi (δ ah) au (δ aC) (ο.mp ay) (δ aG) (ξt _) hk.ob aI aJ hlen (ο.mp aj);obtain⟨af,ag⟩:=aq A O w _ m (b0 he Q G);have aF:N.oneCell'=true:=by
   rcases gZ W.own with⟨rfl,_⟩|⟨_,_,rfl⟩<;>rfl
  have Y:=hk.HM (W9 (g:=g) hk.ob aa af ag W) (λi X hi=>by
   rcases ψ.1 hi with hi|hi
   ·exact ao i X hi
   ·obtain⟨rfl,_⟩:=cQ hi;intro C;obtain⟨Z,R⟩:=M _ C;obtain⟨p,hp,_⟩:=m.al _ Z R;rw[aa] at hp;cases hp)
  refine⟨N,w',_,O',ach ad an ai aD rfl rfl aB,⟨N,Pl.fb A nx N,rfl,aF⟩,?_⟩;rw[<-ξj] at Y;exact Y
 have ae: ∀ {r:Nat} {xs:List (S.El i.e)} {kl:Γ},dX K g i.e (.own r)=some xs->r∉kl->(∀q∈kl,∃Z,g q=some Z)-> ∀(A:Pl) (O:Γ) (w:World) (u:Value),bI A O w g->(LV.own r:LV S).rel A O w [u]->Dc.Own (S.ty i.e) i.e 0 (db A kl O) w u xs/\u.oneCell'=true:=by
  intro r xs kl t C M A O w u m aA;unfold dX at t;simp only at t;split at t
  rotate_left
  ·cases t
  rename_i aK ys H;split at t
  rotate_left
  ·cases t
  rename_i p _;subst p;cases t;obtain⟨v,h1,E,J⟩:=aA;have E:u=v:=by simpa using E
  subst E;obtain⟨p,hp,V,hm⟩:=m.al r _ H;rw[h1] at hp;cases hp;refine⟨Dc.Own.keep V (Tr.less eE) λb B=>⟨rfl,hz.2 ⟨V.mem b B,λq f p hp az=>?_⟩⟩,J⟩;obtain⟨Z,R⟩:=M q f;exact m.dj r q _ Z u p b (λe=>C (e▸f)) H R h1 hp (fA B) az
 have live: ∀ {r:Nat} {xs:List (S.El i.e)},dX K g i.e (.own r)=some xs-> ∃Z,g r=some Z:=by
  intro r xs h;unfold dX at h;simp only at h;split at h
  ·rename_i e ys H;exact⟨_,H⟩
  ·cases h
 have U: ∀ {r:Nat} {xs:List (S.El i.e)},dX K g i.e (.own r)=some xs-> ∀(A:Pl) (O:Γ) (w:World) (u:Value),bI A O w g->(LV.own r:LV S).rel A O w [u]->(∀j X,(j,X)∈([(r,none)]:Up S)->X=none/\A.pl j=some u/\ ∃Z,g j=some Z)/\((∃j,(j,none)∈([(r,none)]:Up S))\/u.ownBlock=none):=by
  intro r xs t A O w u m ⟨v,h1,E,J⟩;have E:u=v:=by simpa using E
  subst E;refine⟨λj X F=>?_,.inl ⟨r,ν⟩⟩;obtain⟨rfl,rfl⟩:=cQ F;exact⟨rfl,h1,live t⟩
 split at h
 ·rename_i r;split at h
  ·rename_i T;cases f:ζ r T<;>rw[f] at h
   ·simp only[cond_false] at h;have ab:r≠T:=λe=>by subst e;simp at f
    split at h
    rotate_left
    ·cases h
    rename_i xs ys t D;cases B:(ζ i.tag 5&&(ζ (S.ty i.e).n d.size&&(ζ d.zero.cells.size d.size&&(υ 0 d.size&&υ 0 d.bytes))))<;>rw[B] at h
    ·cases h
    refine key (kl:=[T]) G (λq f=>by simp at f;subst f;exact live D) (ae t (by simpa using ab) (λq f=>by simp at f;subst f;exact live D)) (λA O w u m C=>?_) (U t) (λj X F=>by obtain⟨rfl,_⟩:=cQ F;simpa using ab) B rfl h;exact jk L m D C
   ·cases h
  ·rename_i aw;split at h
   rotate_left
   ·cases h
   rename_i xs ys t D;cases B:(ζ i.tag 5&&(ζ (S.ty i.e).n d.size&&(ζ d.zero.cells.size d.size&&(υ 0 d.size&&υ 0 d.bytes))))<;>rw[B] at h
   ·cases h
   have av:jC I=[]:=by cases I<;>first|rfl|exact absurd rfl (aw _)
   refine key (kl:=[]) G (λq f=>by cases f) (ae t (by simp) (λq f=>by cases f)) (λA O w u m C=>?_) (U t) (λj X F=>by simp) B rfl h;have:=jk L m D C;rw[av] at this;exact this
 ·split at h
  rotate_left
  ·cases h
  rename_i ys D;cases B:(ζ i.tag 5&&(ζ (S.ty i.e).n d.size&&(ζ d.zero.cells.size d.size&&(υ 0 d.size&&υ 0 d.bytes))))<;>rw[B] at h
  ·cases h
  have hl: ∀q∈jC I,∃Z,g q=some Z:=by
   intro q f;cases I<;>simp[jC] at f;subst f;exact live D
  refine key (kl:=jC I) (xs:=[]) (ef0:=[]) G hl (λA O w u m C=>?_) (λA O w u m C=>jk L m D C) (λA O w u m C=>⟨(λi X h=>nomatch h),.inr ?_⟩) (λj X F=>nomatch F) B (by simp) h
  ·rw[ed C];exact⟨Dc.Own.iE,rfl⟩
  ·rw[ed C];rfl
 ·cases h
end
section
variable {S:bh} {K:Kit S} {P:Program} {rr:Option Nat} {o:Oper} {env:aP S} {g:Nat->Option (Ob S)} {nx:Nat} {R:Type} {z:R} {k:AV S->Up S->AH S->Option R}
theorem Df (b:bU K P) {O:Γ} {w:World} {e:Nat} {a:IntKind}: ∀ {ys:List (S.El e)} {zs:Γa} {cs:Γb},iA K e a ys=some zs->bH (S.ty e) O w cs ys->cs=zs.map (ξ2 a)
 |[],zs,cs,h,i=>by cases h;exact i
 |y::ys,zs,cs,h,⟨c,r,f,h1,g⟩=>by
  simp only[iA] at h;split at h
  ·rename_i k x j;cases d:sameKind a k<;>rw[d] at h
   ·cases h
   simp only[cond_true] at h;split at h
   ·rename_i t l;cases h;have q:=b.a_ ⟨λ_=>none,none⟩ O w e y c h1;rw[j] at q;obtain⟨s,p,m,n,o⟩:=q;rw[f,m,n.1,show p=[] from o,Df b l g,<-eR d];rfl
   ·cases h
  ·cases h
theorem aaA {vs us:Γb} {off n:Nat} (h1:us.length<=n) (a:off+n<=vs.length):putAt vs off (us++((vs.drop off).take n).drop us.length)=putAt vs off us:=by
 unfold putAt;rw[ξj,ξj,ξj]
 congr 2
 have hl:(us++ξT us.length (List.take n (ξT off vs))).length=n:=by
  rw[χ,ξn,ξ3,ξn];omega
 rw[hl];have e:ξT (off+us.length) vs=ξT us.length (ξT off vs):=by rw[ζh]
 rw[e,<-ζh]
 conv=>rhs;rw[<-ξ6 n (ξT off vs)]
 rw[ζu,ξ3,ξn];have:us.length-min n (vs.length-off)=0:=by omega
 rw[this,List.drop_zero]
theorem X7 (D:bU K P) {ty C:Nat} {c:ζ8} {x y:Operand} (aa:o.op= .call c) (ao:c.callee= .builtin .copy) (aj:c.args.toList=[x,y]) (aH:c.argTypes.toList=[ty,C]) {i H:TI} (hi:K.Θ.get ty=some i) (ay:K.Θ.get i.e=some H) {b off n:Nat} {af:LV S} (aO:bZ K env x=some (.fB b off n)) (aQ:bZ K env y=some af)
  (h:DR K g k i H b off n af=some z):Good K P rr o env g nx k z:=by
 have an: ∀c,o.op≠ .defer c:=λc=>by rw[aa];simp
 unfold DR at h;split at h
 rotate_left
 ·cases h
 rename_i B cs V;split at h
 rotate_left
 ·cases h
 rename_i ls aA;split at h
 rotate_left
 ·cases h
 rename_i t gs ax;split at h
 rotate_left
 ·cases h
 rename_i zs d;split at h
 rotate_left
 ·cases h
 rename_i R au;cases f:(ζ i.tag 5&&(ζ (S.ty i.e).n H.size&&(ζ H.size 1&&ζ gs.length n)))<;>rw[f] at h
 ·cases h
 simp only[cond_true,η] at h f;have ai:=δ f.1;have hn:=δ f.2.1;have h1:=δ f.2.2.1;have aw:=δ f.2.2.2;refine f_ an h λA O w a he Y hO U aZ=>?_;obtain⟨bB,ah,Q⟩:=b0 he U aO;have Q:a.eval x= .slice (some ⟨bB,off,none⟩) n n:=by simpa using Q
 obtain⟨p,hp,⟨aW,vs,aT,p2,ag⟩,hm⟩:=Y.al b _ V;rw[ah] at hp;cases hp;cases aT;obtain⟨aU,aV⟩:=gQ aA ag;have hold:=pd ax aU;have M:=(D.Θ.fits hi).slice ai;have L:=D.Θ.fits ay;obtain⟨us,l⟩: ∃us,us=(zs.take n).map (ξ2 t):=⟨_,rfl⟩;have G:us.length=ζ9 zs.length n:=by rw[l,ξw,ξ3];exact Nat.min_comm _ _
 have aJ:us.length<=n:=by rw[G];exact Nat.min_le_right _ _
 have aM: ∀u∈us,u.oneCell'=true:=λu hu=>by
  rw[l] at hu;obtain⟨x,_,rfl⟩:=ζs.1 hu;rfl
 have J:=run_storeCells_at (P:=P) bB off B us 0 vs.toArray w p2 (by simp;omega) aM;have aF:(vs.toArray.toList.take (off+0)++us++vs.toArray.toList.drop (off+0+us.length)).toArray=(putAt vs off us).toArray:=by simp[putAt]
 rw[aF] at J;have I:(ζj #[ty,C] o.type #[.slice (some ⟨bB,off,none⟩) n n,a.eval y]).run P w= .ok (goInt (ζ9 zs.length n)) (w.setRow bB (putAt vs off us).toArray):=by
  have ae:=b0 he U aQ;unfold wj at d;split at d
  ·rename_i s;cases hk:(sameKind t .u8&&ξH s.size n)<;>rw[hk] at d
   ·cases d
   simp only[cond_true,ι] at d;simp only[η] at hk;have az:=eR hk.1;have F:=ξ5 hk.2;have aS:a.eval y= .string s:=ed (S:=S) (A:=A) (O:=O) (w:=w) ae;have q:zs.length=s.size:=by rw[<-d];simp
   obtain⟨a6,aP,aG,_,_⟩:=L.info;have I:=Lib.run_copy_row_string (P:=P) w ty C o.type i.e bB off n n s vs.toArray B M (by rw[aP,ξx,aG,h1]) p2 F (by simp;omega);have aL:us=ζI s.data.toList:=by
    rw[l,<-d,ξq (by simp;exact F),az];simp[ζI]
   rw[aS,I,q,show ζ9 s.size n=s.size from ξM F]
   congr 2
   have aE:us.length=s.size:=by rw[G,q];exact ξM F
   simp[putAt,<-aL,aE]
  ·split at d
   rotate_left
   ·cases d
   rename_i ys aR;have hu:=jk D Y aR ae;obtain⟨A',aX,N,a1,_⟩:=eS hu;rw[N];rcases A' with _|ad
   ·have aB:ys=[]:=wg (by rw[N] at hu;exact hu);subst aB;cases d;have aI:us=[]:=by rw[l];simp
    rw[aI] at J ⊢;have:putAt vs off []=vs:=by simp[putAt]
    rw[this];have aD:w.setRow bB vs.toArray=w:=setRow_self w bB vs.toArray B (0,0) p2;rw[aD];simp[ζj,run_underlying M,ζJ,ζk,dS L,storeCells]
   ·rw[N] at hu;obtain⟨_,ds,ab,av⟩:=qL hu;have W:=Df D d ab;have q:zs.length=ys.length:=by
     have r:=ab.len;rw[hn,h1,Nat.mul_one,W,ξw] at r;exact r
    obtain⟨m,hm⟩: ∃m,m=ζ9 ys.length n:=⟨_,rfl⟩;have aN:us=ds.take m:=by
     rw[l,W,<-List.map_take]
     congr 1
     rw[hm,<-q];rcases ζL zs.length n with h|h
     ·rw[show ζ9 zs.length n=zs.length from ξM h,ξq h,ξq (ξc _)]
     ·rw[show ζ9 zs.length n=n from ζv h]
    have aq: ∀j v,us[j]? =some v->w.cell? (ad.add j)=some v:=λj v E=>by
     rw[aN,ξO] at E;split at E
     ·exact av j v E
     ·cases E
    have Z:=run_loadCells_list (P:=P) w ad _ aq;have aK:us.length=m:=by rw[G,hm,q]
    rw[aK] at Z;simp only[ζj,ξ,List.getElem?_toArray,ξy,List.getElem?_cons_succ,run_underlying M,π,ζJ,ξh,<-hm,dS L,ζk];rw[h1,Nat.mul_one,Z];simp only[π,J,ξ,ξh];rw[q,<-hm]
 have ak:bz (w.setRow bB (putAt vs off us).toArray) bB B (putAt vs off us):=by
  unfold bz;rw[setRow_heap w bB _ _ _ _ p2]
 have T:Fr [bB] w (w.setRow bB (putAt vs off us).toArray):=jJ p2;have aC:bt A O (w.setRow bB (putAt vs off us).toArray) R (putAt vs off us):=by
  have ar:((cT gs zs).length=n):=by
   simp only[cT,χ,ξ3,ξn];omega
  have r:=(iJ au ag ⟨(cT gs zs).map (ξ2 t),[],(ξz _).symm,⟨ar,rfl⟩,rfl⟩).1;have e:(cT gs zs).map (ξ2 t)=us++((vs.drop off).take n).drop us.length:=by
   rw[hold];show _=us++ξT us.length (gs.map (ξ2 t));rw[G,cT,List.map_append,aw,l,<-List.map_drop]
   congr 2
   rcases ζL zs.length n with h|h
   ·rw[show ζ9 zs.length n=zs.length from ξM h]
   ·rw[show ζ9 zs.length n=n from ζv h,ζ5 (by omega),ζ5 (by omega)]
  rw[e,aaA aJ aV] at r;exact jE (T.tr (gC (hm bB rfl))) (Pl.le.refl A) r
 refine⟨_,_,A,O,?_,⟨rfl,rfl⟩,by simpa[news] using mG (X:=.box B R) hO (hm bB rfl) V ah rfl T ⟨bB,putAt vs off us,rfl,ak,aC⟩⟩;refine qI aa ao λaY=>?_;rw[fE aj,fE aH];simp only[builtin,ξ];have e:(([x,y]:List Operand).toArray.map a.eval)= #[.slice (some ⟨bB,off,none⟩) n n,a.eval y]:=by simp[Q]
 rw[e,show([ty,C]:Γ).toArray= #[ty,C] from rfl,I];rfl
theorem X8 (T:bU K P) {ty t:Nat} {c:ζ8} {x y:Operand} (H:o.op= .call c) (W:c.callee= .builtin .copy) (U:c.args.toList=[x,y]) (af:c.argTypes.toList=[ty,t]) {i L:TI} (hi:K.Θ.get ty=some i) (X:K.Θ.get i.e=some L) {r D:Nat} (ag:bZ K env x=some (.own r)) (ah:bZ K env y=some (.own D))
  {xs ys:List (S.El i.e)} (J:g r=some (.row i.e xs)) (d:dX K g i.e (.own D)=some ys) (F:ζ i.tag 5=true/\ζ (S.ty i.e).n L.size=true) (h:k (.s (.one (.v (goInt (ζ9 ys.length xs.length))))) [(r,some (.row i.e (cT xs ys)))] []=some z):Good K P rr o env g nx k z:=by
 have V: ∀c,o.op≠ .defer c:=λc=>by rw[H];simp
 refine f_ V h λA O w a he G hO E au=>?_;obtain⟨v,h1,C,ar⟩:=b0 he E ag;have C:a.eval x=v:=by simpa using C
 obtain⟨p,hp,R,hm⟩:=G.al r _ J;rw[h1] at hp;cases hp;have ae:Dc.Src (S.ty i.e) O w (a.eval y) ys:=by
  obtain⟨u,an,u2,u3⟩:=b0 he E ah;have u2:a.eval y=u:=by simpa using u2
  rw[u2];simp only[dX] at d;split at d
  rotate_left
  ·cases d
  rename_i aq ao ab;split at d
  rotate_left
  ·cases d
  rename_i q _;subst q;cases d;obtain⟨av,I,f,_⟩:=G.al D _ ab;rw[an] at I;cases I;have f:Dc.Own (S.ty i.e) i.e 0 O w u ao:=f;rcases gZ f with⟨B,N⟩|⟨b,M,B⟩
  ·subst B;subst N;exact .inl ⟨0,rfl,rfl⟩
  ·subst B;obtain⟨cs,cur,ai,aj,ak,_,_,_,_,_⟩:=qp f;refine .inr ⟨⟨b,0,none⟩,M,cs,rfl,ak,λj v m=>?_⟩;have Y:cur.toList[j]? =some v:=by
    rw[<-aj,ξO] at m;split at m
    ·exact m
    ·cases m
   have Q:(⟨b,0,none⟩:Addr).add j=⟨b,j,none⟩:=by unfold Addr.add;split<;>simp_all
   rw[Q];have hblk:bz w b i.e cur.toList:=by unfold bz;simpa using ai
   rw[hblk.cell];exact Y
 obtain⟨w',ad,l⟩:=Nt (P:=P) (t':=t) (ty:=o.type) T.Θ hi (δ F.1) X (δ F.2) hO R ae;refine⟨_,w',A,O,?_,⟨rfl,rfl⟩,ID hO J h1 l.tr l.ob (λq aa Z=>l.fr q aa λe=>Z (fA e)) l.own hm⟩;refine qI H W λcs=>?_;rw[fE U,fE af];simp only[builtin,ξ];have e:(([x,y]:List Operand).toArray.map a.eval)= #[v,a.eval y]:=by simp[C]
 rw[e,show([ty,t]:Γ).toArray= #[ty,t] from rfl,ad];rfl
theorem X6 (m:bU K P) {ty B:Nat} {c:ζ8} {x y:Operand} (u:o.op= .call c) (E:c.callee= .builtin .copy) (D:c.args.toList=[x,y]) (H:c.argTypes.toList=[ty,B]) (h:DQ K env g k ty x y=some z):Good K P rr o env g nx k z:=by
 have Q: ∀c,o.op≠ .defer c:=λc=>by rw[u];simp
 unfold DQ at h;split at h
 rotate_left
 ·cases h
 rename_i i hi;split at h
 rotate_left
 ·cases h
 rename_i M F;split at h
 ·rename_i b off n aa j l;exact X7 m u E D H hi F j l h
 rotate_left
 ·rename_i r W j l;cases G:ζ r W<;>rw[G] at h
  rotate_left
  ·cases h
  simp only[cond_false] at h;split at h
  rotate_left
  ·cases h
  rename_i e xs ys f I;split at h
  rotate_left
  ·cases h
  rename_i p _;subst p;cases d:(ζ i.tag 5&&ζ (S.ty i.e).n M.size)<;>rw[d] at h
  ·cases h
  simp only[cond_true,η] at h d;exact X8 m u E D H hi F j l f I d h
 ·cases h
 rename_i r t ys j l;split at h
 rotate_left
 ·cases h
 rename_i e xs X f I;split at h
 rotate_left
 ·cases h
 rename_i p _;subst p;cases d:(ζ i.tag 5&&ζ (S.ty i.e).n M.size)<;>rw[d] at h
 ·cases h
 simp only[cond_true,η] at h d;refine f_ Q h λA O w a he L hO J Z=>?_;obtain⟨v,h1,C,Y⟩:=b0 he J j;have C:a.eval x=v:=by simpa using C
 obtain⟨p,hp,N,hm⟩:=L.al r _ f;rw[h1] at hp;cases hp;have hu:=jk m L I (b0 he J l);have hu:(S.ty i.e).slice.is O w (a.eval y) X:=hu.tr ⟨rfl,rfl,rfl,ξc _,λk hk T=>⟨λR=>T (hz.2 ⟨R,λr f=>by cases f⟩),rfl⟩⟩;obtain⟨w',V,s⟩:=ack (P:=P) (t':=B) (ty:=o.type) m.Θ hi (δ d.1) F (δ d.2) hO N hu;refine⟨_,w',A,O,?_,⟨rfl,rfl⟩,ID hO f h1 s.tr s.ob (λq U G=>s.fr q U λe=>G (fA e)) s.own hm⟩;refine qI u E λcs=>?_;rw[fE D,fE H];simp only[builtin,ξ];have e:(([x,y]:List Operand).toArray.map a.eval)= #[v,a.eval y]:=by simp[C]
 rw[e,show([ty,B]:Γ).toArray= #[ty,B] from rfl,V];rfl
theorem Jr (M:bU K P) {t:Nat} {x y q:Operand} (d:o.op= .mapUpdate t x y q\/o.op= .insert t x y q) (h:vm K env g k t x y q=some z):Good K P rr o env g nx k z:=by
 have R: ∀c,o.op≠ .defer c:=λc=>by rcases d with d|d<;>rw[d]<;>simp
 unfold vm at h;split at h
 rotate_left
 ·cases h
 rename_i i b B j C u hi X Y V;split at h
 rotate_left
 ·cases h
 rename_i s v aa m U r;cases e:(ζ i.tag 7&&(ζ s.tag 2&&(sameKind (Dc.noKind s.k) v&&(sameKind B v&&sameKind C aa))))<;>rw[e] at h
 ·cases h
 simp only[cond_true] at h;simp only[η] at e;obtain⟨J,F,G,H,I⟩:=e;have D:=eR H;have E:=eR I;subst D;subst E;refine tH R h λA O w a he T hO f=>?_;obtain⟨m',n,l⟩:=b0 he f X;obtain⟨p,hp,⟨m2,rfl,N⟩,hm⟩:=T.al b _ r;rw[n] at hp;cases hp;have l:a.eval x= .map (some m'):=by simpa using l
 have Z:a.eval y= .int B j:=ed (S:=S) (A:=A) (O:=O) (w:=w) (dK he f Y);have e:a.eval q= .int C u:=ed (S:=S) (A:=A) (O:=O) (w:=w) (dK he f V);obtain⟨w',W,Q,L⟩:=acB (P:=P) M.Θ hi (δ J) U (δ F) (eR G) N j u;refine⟨w',A,O,?_,mG hO (hm m' rfl) r n rfl L ⟨m',rfl,Q⟩⟩;unfold execOp;rcases d with d|d<;>rw[d]<;>simp only[ξ,l,Z,e,W]<;>rfl
theorem E2 {t:Nat} {x y:Operand} {i:TI} {a:Act} {w:World} {b off c:Nat} {cs:Γb} (j:o.op= .store t x y) (h:i.fits P t) (l:a.eval x= .pointer (some ⟨b,off,none⟩)) (g:bz w b c cs) (k:(a.eval y).cells.size=i.size) (h1: ∀u∈(a.eval y).cells.toList,u.oneCell'=true) (hl:off+i.size<=cs.length):
  ∃w',(execOp a.eval o).run P w= .ok .skip w'/\bz w' b c (putAt cs off (a.eval y).cells.toList)/\Fr [b] w w':=by
 obtain⟨w',d,e,f⟩:=ND h g k h1 hl;refine⟨w',?_,e,f⟩;unfold execOp;rw[j];simp only[ξ,l,d];rfl
theorem M9 {α:Type} {T:Ty α} {O:Γ} {w:World}: ∀ {xs:List α} {cs:Γb} {j:Nat} {x y:α} {us:Γb} {off:Nat},bH T O w cs xs->xs[j]? =some x->off+us.length<=T.n->
  (∀c,T.rep O w c x->(cs.drop (j*T.n)).take T.n=c->T.rep O w (putAt c off us) y)->bH T O w (putAt cs (j*T.n+off) us) (xs.set j y)
 |[],cs,j,x,y,us,off,h,a,hl,hp=>by simp at a
 |q::xs,cs,0,x,y,us,off,⟨c,r,d,h1,b⟩,a,hl,hp=>by
  subst d;simp at a;subst a;have hlen:=T.len h1;rw[Nat.zero_mul,ξe,qt (by omega)];exact⟨_,r,rfl,hp c h1 (by simp[<-hlen]),b⟩
 |q::xs,cs,j+1,x,y,us,off,⟨c,r,d,h1,b⟩,a,hl,hp=>by
  subst d;have hlen:=T.len h1;have i:=M9 (j:=j) b (by simpa using a) hl (λf g e=>hp f g (by
   rw[<-e,ζa,ζu,List.drop_eq_nil_of_le (by omega),hlen];simp))
  rw[nR hlen (by rw[ζa];omega)];refine⟨c,_,rfl,h1,?_⟩;have e:(j+1)*T.n+off-T.n=j*T.n+off:=by rw[ζa];omega
  rw[e];exact i
theorem vF {vs us:Γb} {q:Nat} (h:q+us.length<=vs.length):(putAt vs q us).length=vs.length:=by
 unfold putAt;simp;omega
theorem aay {x y c us:Γb} {jj:Nat} (a:jj+us.length<=y.length):putAt (x++(y++c)) x.length (putAt y jj us)=putAt (x++(y++c)) (x.length+jj) us:=by
 have hl:=vF a;rw[nR rfl (ξc _),nR rfl (ξI _ _),ζt,ξV,qt a];have:=vE (ys:=y) (zs:=c) (us:=putAt y jj us) (vs:=[]) hl;rw[ξz] at this;rw[this,vG]
theorem MB {vs us:Γb} {q n jj:Nat} (h:q+n<=vs.length) (b:jj+us.length<=n):putAt vs q (putAt ((vs.drop q).take n) jj us)=putAt vs (q+jj) us:=by
 have e:vs=vs.take q++((vs.drop q).take n++vs.drop (q+n)):=by
  rw[<-ζh,ξ6,ξ6]
 have a:(vs.take q).length=q:=by rw[ξ3];omega
 have d:((vs.drop q).take n).length=n:=by rw[ξ3,ξn];omega
 have:=aay (x:=vs.take q) (y:=(vs.drop q).take n) (c:=vs.drop (q+n)) (us:=us) (jj:=jj) (by omega);rw[<-e,a] at this;exact this
theorem aaB {cur us:Γb} {p L:Nat} (h:p+us.length<=L) (a:L<=cur.length):(putAt cur p us).take L=putAt (cur.take L) p us:=by
 have b:(cur.take L).length=L:=by rw[ξ3];omega
 conv=>lhs;rw[<-ξ6 L cur]
 rw[qt (by omega),ξJ (by rw[vF (by omega)];omega),ξq (by rw[vF (by omega)];omega)]
theorem Jv (M:bU K P) {t:Nat} {x y:Operand} (Y:o.op= .store t x y) (h:vn K env g k t x y=some z):Good K P rr o env g nx k z:=by
 have ad: ∀c,o.op≠ .defer c:=λc=>by rw[Y];simp
 unfold vn at h;split at h
 rotate_left
 ·cases h
 rename_i i l b hi Q Z;cases F:ζ (dO b.cells) i.size<;>rw[F] at h
 ·cases h
 simp only[cond_true] at h;have F:=δ F;have val: ∀ {A:Pl} {O:Γ} {w:World} {a:Act},cF A O w env a->cC K O w->bt A O w b.cells (a.eval y).cells.toList/\(a.eval y).cells.size=i.size/\ ∀u∈(a.eval y).cells.toList,u.oneCell'=true:=by
  intro A O w a he d;have h1:=an.rel.cells (dK he d Z);have f:=gF h1;exact⟨h1,by rw[<-F,<-f];simp,M5 h1⟩
 have box: ∀ {j q:Nat} {cs B ns:List (LV S)} {L:Nat},g j=some (.box L cs)->bW cs q ns=some B->k (.bn []) [(j,some (.box L B))] []=some z->
   (∀(A:Pl) (O:Γ) (w:World) (a:Act),cF A O w env a->cC K O w-> ∃m off,A.pl j=some (.pointer (some ⟨m,0,none⟩))/\a.eval x= .pointer (some ⟨m,off,none⟩)/\ ∀vs,bt A O w cs vs-> ∃us,bt A O w ns us/\putAt vs q us=putAt vs off (a.eval y).cells.toList/\(q+us.length<=vs.length->off+i.size<=vs.length))->Good K P rr o env g nx k z:=by
  intro j q cs B ns L C s hk aI;refine tH ad hk λA O w a he H hO d=>?_;obtain⟨m,off,h1,f,ay⟩:=aI A O w a he d;obtain⟨p,hp,⟨m2,vs,rfl,U,I⟩,hm⟩:=H.al j _ C;rw[h1] at hp;cases hp;obtain⟨us,az,aA,aB⟩:=ay vs I;obtain⟨aQ,aR⟩:=iJ s I az;obtain⟨v1,v2,v3⟩:=val he d;obtain⟨w',E,V,G⟩:=E2 Y (M.Θ.fits hi) f U v2 v3 (aB aR);refine⟨w',A,O,E,mG hO (hm m rfl) C h1 rfl G ⟨m,_,rfl,V,?_⟩⟩;rw[<-aA];exact jE (G.tr (gC (hm m rfl))) (Pl.le.refl A) aQ
 split at h
 ·rename_i j q;split at h
  rotate_left
  ·cases h
  rename_i L cs C;split at h
  rotate_left
  ·cases h
  rename_i B s;refine box C s h λA O w a he d=>?_;obtain⟨m,h1,f⟩:=b0 he d Q;obtain⟨v1,v2,v3⟩:=val he d;refine⟨m,q,h1,by simpa using f,λvs N=>⟨_,v1,rfl,λhl=>?_⟩⟩;rw[<-v2];simpa using hl
 ·rename_i j q n jj;split at h
  rotate_left
  ·cases h
  rename_i L cs C;split at h
  rotate_left
  ·cases h
  rename_i ls ag;split at h
  ·rename_i J gs aO v W _;split at h
   rotate_left
   ·cases h
   rename_i B s;cases D:(sameKind J aO&&ζ gs.length n)<;>rw[D] at h
   ·cases h
   simp only[cond_true,η] at h D;have ax:=eR D.1;subst ax;have hl:=δ D.2;refine box C s h λA O w a he d=>?_;obtain⟨m,h1,f,aJ⟩:=b0 he d Q;have ab:a.eval y= .int J v:=ed (S:=S) (A:=A) (O:=O) (w:=w) (dK he d Z);refine⟨m,q+jj,h1,by simpa using f,λvs N=>⟨(gs.set jj v).map (ξ2 J),⟨_,[],by simp,⟨by simp[hl],rfl⟩,rfl⟩,?_,λhle=>?_⟩⟩
   ·obtain⟨c1,c2⟩:=gQ ag N;have E:=pd W c1;rw[ab,<-n_ _ _ _ _ (by omega),show(gs.map (ξ2 J))=h3.cells (.i J gs) from rfl,<-E];exact MB c2 (by simp;omega)
   ·have aM:i.size=1:=by rw[<-F];rfl
    simp at hle;omega
  ·rename_i gs v W _;split at h
   rotate_left
   ·cases h
   rename_i B s;cases D:(ζ gs.length n)<;>rw[D] at h
   ·cases h
   simp only[cond_true] at h;have hl:=δ D;refine box C s h λA O w a he d=>?_;obtain⟨m,h1,f,aJ⟩:=b0 he d Q;have ab:a.eval y= .bool v:=ed (S:=S) (A:=A) (O:=O) (w:=w) (dK he d Z);refine⟨m,q+jj,h1,by simpa using f,λvs N=>⟨(gs.set jj v).map (ζR),⟨_,[],by simp,⟨by simp[hl],rfl⟩,rfl⟩,?_,λhle=>?_⟩⟩
   ·obtain⟨c1,c2⟩:=gQ ag N;have E:=pd W c1;rw[ab,<-n_ _ _ _ _ (by omega),show(gs.map (ζR))=h3.cells (.b gs) from rfl,<-E];exact MB c2 (by simp;omega)
   ·have aM:i.size=1:=by rw[<-F];rfl
    simp at hle;omega
  ·cases h
 ·rename_i e r j q;split at h
  rotate_left
  ·cases h
  rename_i aj xs I;cases ae:ζ e aj<;>rw[ae] at h
  ·cases h
  simp only[cond_true] at h;have aH:=δ ae;subst aH;obtain⟨aS,aa,h⟩:=bind_some h;split at h
  rotate_left
  ·cases h
  rename_i B s;split at h
  rotate_left
  ·cases h
  rename_i ai aD;cases aK:b.pure<;>rw[aK] at h
  ·cases h
  simp only[cond_true] at h;refine tH ad h λA O w a he H hO d=>?_;obtain⟨m,n,c,h1,f⟩:=b0 he d Q;have f:a.eval x= .pointer (some ⟨m,j*(S.ty e).n+q,none⟩):=by simpa using f
  obtain⟨p,hp,U,hm⟩:=H.al r _ I;rw[h1] at hp;cases hp;obtain⟨v1,v2,v3⟩:=val he d;obtain⟨cs,cur,ak,ao,R,T,ar,au,av,aU⟩:=qp U;have aC:bz w m e cur.toList:=by unfold bz;simpa using ak
  have aW:=(ε.1 aa).1;have af:=R.at_ aa;have aF:=(S.ty e).len af;obtain⟨aP,p2⟩:=iJ s (M.a_ A O w e aS _ af) v1;rw[aF] at p2;have aE:cs.length=n*(S.ty e).n:=by rw[T];exact R.len
  have aY:(a.eval y).cells.toList.length=i.size:=by simpa using v2
  have hmul:(j+1)*(S.ty e).n<=n*(S.ty e).n:=ξK _ (by omega);have aX:n*(S.ty e).n<=c*(S.ty e).n:=ξK _ ar;rw[ζa] at hmul;have aG:cur.toList.length=c*(S.ty e).n:=by simpa using av
  obtain⟨w',E,V,G⟩:=E2 Y (M.Θ.fits hi) f aC v2 v3 (by omega);have X:=hm m rfl;refine⟨w',A,O,E,mG hO X I h1 rfl G ?_⟩;have aN:=G.tr (gC X);have ah:bH (S.ty e) O w' (putAt cs (j*(S.ty e).n+q) (a.eval y).cells.toList) (xs.set j ai):=by
   refine bH.tr aN (M9 R aa (by omega) λaT aV aw=>?_);rw[<-aw];exact M.cls A O w e B ai _ aD aP
  have aL:(putAt cur.toList (j*(S.ty e).n+q) (a.eval y).cells.toList).take (n*(S.ty e).n)=putAt cs (j*(S.ty e).n+q) (a.eval y).cells.toList:=by
   have aq:cur.toList.take (n*(S.ty e).n)=cs:=by rw[<-aE];exact ao
   rw[aaB (by omega) (by omega),aq]
  refine⟨⟨_,⟨by rw[ah.len],.inr ⟨m,c,(putAt cur.toList (j*(S.ty e).n+q) (a.eval y).cells.toList).toArray,by simp[T],ξt _,V,by simp;omega,au,?_,?_⟩⟩,ah⟩,λg H=>by cases H;exact X⟩
  ·have:=vF (vs:=cur.toList) (us:=(a.eval y).cells.toList) (q:=j*(S.ty e).n+q) (by omega);simp only[List.size_toArray,this];exact aG
  ·simp only[ξf,<-T];exact aL
 ·cases h
end
section
variable {S:bh} {K:Kit S} {P:Program} {rr:Option Nat} {o:Oper} {env:aP S} {g:Nat->Option (Ob S)} {nx:Nat} {R:Type} {z:R} {k:AV S->Up S->AH S->Option R}
theorem ON {l:LV S} {T:kX S} (h:od g l=some T):l= .dY T.t T.r T.j 0/\g T.r=some (.cu T.t T.e T.bD):=by
 unfold od at h;split at h
 ·rename_i t r j;unfold OO at h;split at h
  ·rename_i t' e bD b;cases a:ζ t t'<;>rw[a] at h
   ·cases h
   ·cases h;have:=δ a;subst this;exact⟨rfl,b⟩
  ·cases h
 ·cases h
theorem Mn {x:Operand} {q:Nat} (h:nM K env x=some q):bZ K env x=some (.own q):=by
 unfold nM at h;split at h
 ·rename_i b a;cases h;exact a
 ·cases h
theorem adq {α:Type} {bD:List (Option (List α))} {j:Nat} {xs:List α} (h:jL bD j=some xs):bD[j]? =some (some xs):=by
 unfold jL at h;split at h
 ·rename_i z a;subst h;exact a
 ·cases h
theorem T3 {A:Pl} {O:Γ} {w:World} {e d:Nat} {xs:List (S.El e)} {v:Value} (h:Dc.Own (S.ty e) e 0 O w v xs) (a:bR v=some d):v.ownBlock=some d:=by
 rcases gZ h with⟨b,_⟩|⟨f,c,b⟩
 ·rw[b] at a;cases a
 ·rw[b] at a ⊢;cases a;rfl
theorem ZF {i:TI} (h:i.tag=5):i.isAgg=false:=by
 show(ζ i.tag 8||ζ i.tag 6)=false;rw[h];rfl
theorem Yc (B:bU K P) {t:Nat} {x y:Operand} (q:o.op= .indexAddr t x y) (h:DU K env g k t x y=some z):Good K P rr o env g nx k z:=by
 have C: ∀c,o.op≠ .defer c:=λc=>by rw[q];simp
 unfold DU at h;split at h
 rotate_left
 ·cases h
 rename_i i j r hi I f;have f:=Mn f;split at h
 rotate_left
 ·cases h
 rename_i t' M bD s H E;cases d:(ζ i.tag 5&&(ζ (S.ty t').n 1&&ζ s.size 1))<;>rw[d] at h
 ·cases h
 simp only[cond_true,η] at h d;obtain⟨N,J,h⟩:=bind_some h;obtain⟨u,F⟩:=kh J;have G:=(ε.1 F).1;refine cH C h λA O w a he D hO m=>?_;obtain⟨v,l,e,_⟩:=b0 he m f;obtain⟨L,hk⟩:=hS he m I;obtain⟨p,hp,⟨b,c,cur,rfl,_⟩,_⟩:=D.al r _ H;rw[l] at hp;cases hp;have e:a.eval x= .slice (some ⟨b,0,none⟩) bD.length c:=by simpa using e
 have:=v_ (P:=P) (w:=w) (ad:=⟨b,0,none⟩) (n:=bD.length) (c:=c) (k:=L) B.Θ hi (δ d.1) E u G;refine⟨.pointer (some ((⟨b,0,none⟩:Addr).add (j.toNat*s.size))),?_,b,_,c,l,?_⟩
 ·unfold execOp;rw[q];simp only[e,hk,ξ,this,π];rfl
 ·rw[hf,δ d.2.1,δ d.2.2];simp
theorem Ye (aA:bU K P) {t:Nat} {x:Operand} {l:LV S} {T:kX S} (ae:o.op= .load t x) (ah:bZ K env x=some l) (aB:od g l=some T) (h:DW K nx k t T=some z):Good K P rr o env g nx k z:=by
 have aE: ∀c,o.op≠ .defer c:=λc=>by rw[ae];simp
 obtain⟨rfl,B⟩:=ON aB;obtain⟨r,j,t',e,bD⟩:=T;simp only at B ah;unfold DW at h;split at h
 rotate_left
 ·cases h
 rename_i i hi;cases L:(ζ i.tag 5&&ζ i.size 1)<;>rw[L] at h
 ·cases h
 simp only[cond_true,η] at h L;obtain⟨xs,E,h⟩:=bind_some h;have E:=adq E;have aC:=ZF (δ L.1);have ag:=δ L.2;refine f_ aE h λA O w a he R hO az aH=>?_;have I:A.pl nx=none:=aH 0 (by simp);obtain⟨b,n,c,h1,ax⟩:=b0 he az ah;obtain⟨p,hp,aa,hm⟩:=R.al r _ B;rw[h1] at hp;cases hp;have aX:=aa;obtain⟨aT,aV,cur,m,J,aN,aO,aP,ao,aq,ar,au⟩:=aa;cases m;have aY:=(ε.1 E).1;obtain⟨u,hu⟩: ∃u,cur[j]? =some u:=⟨cur[j]'(by omega),κ (by omega)⟩;obtain⟨af,aL⟩:=ar j u xs hu E;have aK:u.oneCell'=true:=aq u (by rw[<-ξi] at hu;exact ξL hu);have V:r≠nx:=λe=>by subst e;rw[h1] at I;cases I
 have ay:bz w b t' cur.toList:=by unfold bz;simpa using J
 have aF:dB w ⟨b,j,none⟩ [u]:=λv av s=>by
  match v,s with
  |0,s=>simp at s;subst s;rw[hf,ay.cell];simpa using hu
  |v+1,s=>simp at s
 have aM:a.eval x= .pointer (some ⟨b,j,none⟩):=by
  have:a.eval x= .pointer (some ⟨b,j*(S.ty t').n+0,none⟩):=by simpa using ax
  rw[this,ao];simp
 have N: ∀ {G:Nat} {ys:List (S.El e)},(bD.set j none)[G]? =some (some ys)->G≠j/\bD[G]? =some (some ys):=by
  intro G ys F;rw[ξD] at F;split at F
  ·simp at F
  ·rename_i he;exact⟨λe=>he e.symm,F⟩
 have ab: ∀d,gx w (.cu t' e (bD.set j none):Ob S) (.slice (some ⟨b,0,none⟩) bD.length c) d->gx w (.cu t' e bD:Ob S) (.slice (some ⟨b,0,none⟩) bD.length c) d/\u.ownBlock≠some d:=by
  rintro d ⟨aU,c2,t2,aW,aj,u2,ys,f1,f2,f3,f4,f5⟩;rw[ξf] at f1;cases f1;rw[J] at f2;cases f2;obtain⟨g1,g2⟩:=N f4;exact⟨⟨b,c,t',cur,aj,u2,ys,rfl,J,f3,g2,f5⟩,au aj j u2 u ys xs d g1 f3 hu g2 E f5⟩
 have ad: ∀d,cv w (.row e xs:Ob S) u d->u.ownBlock=some d/\gx w (.cu t' e bD:Ob S) (.slice (some ⟨b,0,none⟩) bD.length c) d:=λd f=>by
  have:=T3 (A:=A) af (e0 rfl f);exact⟨this,b,c,t',cur,j,u,xs,rfl,J,hu,E,this⟩
 have U:(A.put nx u).pl r=some (.slice (some ⟨b,0,none⟩) bD.length c):=by rw[Pl.kx λe=>V e.symm];exact h1
 have cY: ∀ {v:Nat} {X:Option (Ob S)},(v,X)∈[(r,some (.cu t' e (bD.set j none)))]++news nx [some (.row e xs)]->(v=r/\X=some (.cu t' e (bD.set j none)))\/(v=nx/\X=some (.row e xs)):=by
  intro v X s;simpa[news] using s
 have m1:(r,some (.cu t' e (bD.set j none)))∈([(r,some (.cu t' e (bD.set j none)))]++news nx [some (.row e xs)]:Up S):=by simp
 refine⟨u,w,A.put nx u,O,?_,⟨u,Pl.fb A nx u,rfl,aK⟩,⟨Pl.kv I,Tr.refl O w,hO,λ_ aD _=>⟨rfl,aD⟩,?_,?_,?_,?_,?_,?_⟩⟩
 ·rw[E0 (cs:=[u]) ae (aA.Θ.fits hi) aM ag.symm aF (λ_=>ag),aC];rfl
 ·intro v X s;rcases cY s with⟨rfl,m⟩|⟨rfl,m⟩
  ·cases m;refine⟨_,U,⟨b,c,cur,by rw[ξf],J,by rw[ξf];exact aN,aO,aP,ao,aq,λG av ys aJ F=>ar G av ys aJ (N F).2,λi1 ai aQ v1 aR aS d M aw a2 a3 a4=>au i1 ai aQ v1 aR aS d M aw a2 (N a3).2 (N a4).2⟩,λd f=>?_⟩;have f:cv w (.cu t' e bD:Ob S) (.slice (some ⟨b,0,none⟩) bD.length c) d:=f.imp id λf=>(ab d f).1;exact⟨R.gu B h1 f,.inr ⟨v,_,_,_,m1,B,h1,f⟩⟩
  ·cases m;refine⟨u,Pl.fb A _ u,af,λd f=>?_⟩;have f:=(ad d f).2;exact⟨R.gu B h1 (.inr f),.inr ⟨r,_,_,_,m1,B,h1,.inr f⟩⟩
 ·have key: ∀d,cv w (.cu t' e (bD.set j none):Ob S) (.slice (some ⟨b,0,none⟩) bD.length c) d-> ¬cv w (.row e xs:Ob S) u d:=by
   intro d f aG;have W:=(ad d aG).1;rcases f with f|f
   ·cases f;exact aL W
   ·exact(ab d f).2 W
  intro i1 ai X Y p q d M C y H Q ak an;rcases cY C with⟨rfl,m⟩|⟨rfl,m⟩<;>cases m<;>rcases cY y with⟨rfl,D⟩|⟨rfl,D⟩<;>cases D
  ·exact M rfl
  ·rw[U] at H;cases H;rw[Pl.fb] at Q;cases Q;exact key d ak an
  ·rw[U] at Q;cases Q;rw[Pl.fb] at H;cases H;exact key d an ak
  ·exact M rfl
 ·intro i1 X Y C y;rcases cY C with⟨rfl,rfl⟩|⟨rfl,rfl⟩<;>rcases cY y with⟨D,rfl⟩|⟨D,rfl⟩
  ·rfl
  ·exact absurd D V
  ·exact absurd D.symm V
  ·rfl
 ·intro i1 X p C y;rcases cY C with⟨rfl,rfl⟩|⟨rfl,rfl⟩
  ·exact⟨_,B⟩
  ·rw[I] at y;cases y
 ·intro i1;rcases ζl nx i1 with aI|rfl
  ·exact .inl (Pl.kx aI)
  ·exact .inr ⟨I,some (.row e xs),by simp[news]⟩
 ·intro i1 X Z C y H;rcases cY C with⟨rfl,m⟩|⟨rfl,m⟩
  ·rw[B] at y;cases y;cases H
  ·cases m;rfl
theorem X' (aM:bU K P) {t q:Nat} {x y:Operand} {l:LV S} {T:kX S} (aA:o.op= .store t x y) (aG:bZ K env x=some l) (aO:od g l=some T) (ar:nM K env y=some q) (h:DS K g k t q T=some z):Good K P rr o env g nx k z:=by
 have aP: ∀c,o.op≠ .defer c:=λc=>by rw[aA];simp
 obtain⟨rfl,F⟩:=ON aO;have ar:=Mn ar;obtain⟨r,j,t',e,bD⟩:=T;simp only at F aG;unfold DS at h;split at h
 rotate_left
 ·cases h
 rename_i i s xs hi Q;split at h
 rotate_left
 ·cases h
 rename_i p0 _;simp only at p0;subst p0;simp only[jd] at h;cases ai:(ζ i.tag 5&&(ζ i.size 1&&!(ζ q r)))<;>rw[ai] at h
 ·cases h
 simp only[cond_true,η,ξE] at h ai;obtain⟨bj,aC,I⟩:=ai;have aC:=δ aC;have I:q≠r:=λe=>by subst e;rw[ξu] at I;cases I
 obtain⟨_,aR,h⟩:=bind_some h;refine tH aP h λA O w a he N hO av=>?_;obtain⟨b,n,c,h1,aK⟩:=b0 he av aG;obtain⟨u,hu,U,aq⟩:=b0 he av ar;have U:a.eval y=u:=by simpa using U
 obtain⟨p,hp,aN,hm⟩:=N.al r _ F;rw[h1] at hp;cases hp;obtain⟨bd,bg,cur,E,au,a6,a7,aI,aJ,a8,a_,a'⟩:=aN;cases E;obtain⟨pu,aB,ad,bl⟩:=N.al q _ Q;rw[hu] at aB;cases aB;have ad:Dc.Own (S.ty s) s 0 O w u xs:=ad;have aU:j<bD.length:=by
  have:=(ε.1 (kh aR).2).1;simpa using this
 have aw:=hm b rfl;have aL:bz w b t' cur.toList:=by unfold bz;simpa using au
 have aj:u.cells.toList=[u]:=L6 aq;have aY:a.eval x= .pointer (some ⟨b,j,none⟩):=by
  have:a.eval x= .pointer (some ⟨b,j*(S.ty t').n+0,none⟩):=by simpa using aK
  rw[this,aJ];simp
 obtain⟨w',aW,ah,V⟩:=E2 aA (aM.Θ.fits hi) aY aL (by rw[U];have:=congrArg List.length aj;simp at this;omega) (by rw[U,aj];intro bn aE;simp at aE;subst aE;exact aq) (by simp;omega);rw[U,aj] at ah;have bk:cur.toList.length=c:=by simpa using aI
 have aV:putAt cur.toList j [u]=cur.toList.set j u:=by
  have aT:j<cur.toList.length:=by omega
  rw[List.set_eq_take_append_cons_drop,if_pos aT];unfold putAt;simp
 rw[aV] at ah;obtain⟨L,W⟩: ∃L:Array Value,L=(cur.toList.set j u).toArray:=⟨_,rfl⟩;have ax:w'.heap[b]? =some (.cells L t' (0,0)):=by rw[W];exact ah
 have aQ: ∀m,L[m]? =if m=j then some u else cur[m]? :=λm=>by
  rw[W,<-ξi,ζi,ξD,<-ξi]
  by_cases ao:m=j
  ·subst ao;rw[if_pos rfl,if_pos rfl,if_pos (by omega)]
  ·rw[if_neg λe=>ao e.symm,if_neg ao]
 have R: ∀ {C:Nat} {ys:List (S.El s)} {v:Value},L[C]? =some v->(bD.set j (some xs))[C]? =some (some ys)->(C=j/\v=u/\ys=xs)\/(C≠j/\cur[C]? =some v/\bD[C]? =some (some ys)):=by
  intro C ys v f H;rw[aQ] at f;rw[ξD] at H
  by_cases ab:C=j
  ·subst ab;rw[if_pos rfl] at f;rw[if_pos rfl,if_pos aU] at H;simp at f H;exact .inl ⟨rfl,f.symm,H.symm⟩
  ·rw[if_neg ab] at f;rw[if_neg λe=>ab e.symm] at H;exact .inr ⟨ab,f,H⟩
 have aD:=V.tr (gC aw);have aF:u.ownBlock≠some b:=λB=>N.gr q r _ _ _ _ b I Q F hu h1 (.inl (fA B)) (.inl rfl);have az: ∀ {d:Nat} {v:Value} {ys:List (S.El s)},Dc.Own (S.ty s) s 0 O w v ys->v.ownBlock≠some b->Dc.Own (S.ty s) s 0 O w' v ys:=λ{d v ys} f aX=>f.keep aD λag ak=>⟨V.block ag (f.lt ag ak).2 (by simp;rintro rfl;exact aX ak),f.mem ag ak⟩;have ay: ∀ {C:Nat} {v:Value} {ys:List (S.El s)} {d:Nat},cur[C]? =some v->bD[C]? =some (some ys)->v.ownBlock=some d->u.ownBlock≠some d:=λ{C v ys d} ae a2 a3 a4=>
  N.gr q r _ _ _ _ d I Q F hu h1 (.inl (fA a4)) (.inr ⟨b,c,t',cur,C,v,ys,rfl,au,ae,a2,a3⟩)
 have aS: ∀d,gx w' (.cu t' s (bD.set j (some xs)):Ob S) (.slice (some ⟨b,0,none⟩) bD.length c) d->gx w (.cu t' s bD:Ob S) (.slice (some ⟨b,0,none⟩) bD.length c) d\/u.ownBlock=some d:=by
  rintro d ⟨bf,c2,t2,bh,aZ,u2,ys,f1,f2,f3,f4,f5⟩;rw[ξf] at f1;cases f1;rw[ax] at f2;cases f2;rcases R f3 f4 with⟨_,rfl,_⟩|⟨_,g1,g2⟩
  ·exact .inr f5
  ·exact .inl ⟨b,c,t',cur,aZ,u2,ys,rfl,au,g1,g2,f5⟩
 have cY: ∀ {J:Nat} {X:Option (Ob S)},(J,X)∈([(q,none),(r,some (.cu t' s (bD.set j (some xs))))]:Up S)->(J=q/\X=none)\/(J=r/\X=some (.cu t' s (bD.set j (some xs)))):=by
  intro J X an;simpa using an
 have m1:(r,some (.cu t' s (bD.set j (some xs))))∈([(q,none),(r,some (.cu t' s (bD.set j (some xs))))]:Up S):=by simp
 have m2:(q,none)∈([(q,none),(r,some (.cu t' s (bD.set j (some xs))))]:Up S):=by simp
 refine⟨w',A,O,aW,⟨Pl.le.refl A,aD,V.ob hO,λd B hn=>⟨V.block d (hO d B) ?_,B⟩,?_,?_,?_,?_,λ_=>.inl rfl,?_⟩⟩
 ·have:=hn r _ _ m1 h1;simp;rintro rfl;exact this rfl
 ·intro J X an;rcases cY an with⟨_,E⟩|⟨rfl,E⟩
  ·cases E
  cases E;refine⟨_,h1,⟨b,c,L,by rw[ξf],ax,by rw[ξf];exact a6,a7,by rw[W];simpa using aI,aJ,?_,?_,?_⟩,λd B=>?_⟩
  ·intro v f;rw[W,ζi] at f;rcases List.mem_or_eq_of_mem_set f with f|rfl
   ·exact a8 v f
   ·exact aq
  ·intro C v ys f H;rcases R f H with⟨_,rfl,rfl⟩|⟨_,g1,g2⟩
   ·exact⟨az (d:=0) ad aF,aF⟩
   ·obtain⟨G,D⟩:=a_ C v ys g1 g2;exact⟨az (d:=0) G D,D⟩
  ·intro i1 aH ba v1 bb bc d aa ae a2 a3 a4 a5 af;rcases R ae a3 with⟨f1,rfl,_⟩|⟨f1,f2,f3⟩
   ·rcases R a2 a4 with⟨f4,_,_⟩|⟨_,f5,f6⟩
    ·exact aa (f1.trans f4.symm)
    ·exact ay f5 f6 af a5
   ·rcases R a2 a4 with⟨_,rfl,_⟩|⟨_,f5,f6⟩
    ·exact ay f2 f3 a5 af
    ·exact a' i1 aH ba v1 bb bc d aa f2 f5 f3 f6 a5 af
  ·rcases B with B|B
   ·cases B;exact⟨aw,.inr ⟨J,_,_,_,m1,F,h1,.inl rfl⟩⟩
   ·rcases aS d B with B|B
    ·exact⟨N.gu F h1 (.inr B),.inr ⟨J,_,_,_,m1,F,h1,.inr B⟩⟩
    ·exact⟨ad.mem d B,.inr ⟨q,none,_,_,m2,Q,hu,.inl (fA B)⟩⟩
 ·intro i1 aH X Y p bm d aa G D;rcases cY G with⟨_,E⟩|⟨rfl,_⟩
  ·cases E
  rcases cY D with⟨_,M⟩|⟨rfl,_⟩
  ·cases M
  exact absurd rfl aa
 ·intro i1 X Y G D;rcases cY G with⟨rfl,rfl⟩|⟨rfl,rfl⟩<;>rcases cY D with⟨M,rfl⟩|⟨M,rfl⟩
  ·rfl
  ·exact absurd M I
  ·exact absurd M.symm I
  ·rfl
 ·intro i1 X p G D;rcases cY G with⟨rfl,rfl⟩|⟨rfl,rfl⟩
  ·exact⟨_,Q⟩
  ·exact⟨_,F⟩
 ·intro i1 X Z G D a1;rcases cY G with⟨_,E⟩|⟨rfl,_⟩
  ·cases E
  ·rw[F] at D;cases D;cases a1
theorem Yk (Q:bU K P) {t:Nat} {x y:Operand} (R:o.op= .makeSlice t x y) (h:DZ K env nx k t x y=some z):Good K P rr o env g nx k z:=by
 have ag: ∀c,o.op≠ .defer c:=λc=>by rw[R];simp
 unfold DZ at h;split at h
 rotate_left
 ·cases h
 rename_i i hi;split at h
 rotate_left
 ·cases h
 rename_i m an;split at h
 rotate_left
 ·cases h
 rename_i n c ay az hzero;cases F:(ζ i.tag 5&&(ζ (S.ty i.e).n 1&&ζ m.size 1))<;>rw[F] at h
 ·cases h
 simp only[cond_true,η] at h F;obtain⟨ae,L,J⟩:=F;have L:=δ L;have J:=δ J;obtain⟨zs,hm,ad⟩:=bind_some h;refine f_ ag ad λA O w a he ak hO N aj=>?_;have C:A.pl nx=none:=aj 0 (by simp);have ax:=Q.Θ.fits an;obtain⟨x',M,aw,af,aA⟩:=ax.info;unfold hV at hm;split at hm
 rotate_left
 ·cases hm
 rename_i ai;obtain⟨W,aa,ab,aG⟩:=ai;simp only[ι] at hm;subst hm;obtain⟨aE,ar⟩:=hS he N ay;obtain⟨aD,aq⟩:=hS he N az;have hu:=(Q.Θ.fits hi).slice (δ ae);have I:=run_make (P:=P) w t i.e x' m.zero hu M aA aE aD n c W aa (by rw[af];exact ab) (by omega);rw[aw,hzero,J] at I;obtain⟨cur,G⟩: ∃cur,cur=madeCells (Value.slice none 0 0).cells (c.toNat*1):=⟨_,rfl⟩;rw[<-G] at I;have D:=jw hO i.e cur.toList;have hlen:cur.size=c.toNat:=by rw[G];simp[madeCells]
 have s: ∀(j:Nat) (u:Value),cur[j]? =some u->u= .slice none 0 0:=by
  intro j u l;have b:j<c.toNat*1:=by have:=(ξa.1 l).1;omega
  rw[<-ξi,G,LI 1 c.toNat j b rfl,Nat.mod_one] at l;simpa[ζP] using l.symm
 have hblk:(w.alloc (.cells cur.toList.toArray i.e)).heap[w.heap.size]? =some (.cells cur i.e (0,0)):=by
  have:=D.bB;unfold bz at this;simpa using this
 have ah:c.toNat<=maxLen:=by unfold maxLen;omega
 have av: ∀ {j:Nat} {xs:List (S.El m.e)},(ξF n.toNat (some ([]:List (S.El m.e))))[j]? =some (some xs)->xs=[]:=by
  intro j xs b;rw[List.getElem?_replicate] at b;split at b
  ·simpa using b.symm
  ·cases b
 have cY: ∀ {E:Nat} {X:Option (Ob S)},(E,X)∈([]++news nx [some (.cu i.e m.e (ξF n.toNat (some [])))]:Up S)->E=nx/\X=some (.cu i.e m.e (ξF n.toNat (some []))):=by
  intro E X H;simpa[news] using H
 refine⟨.slice (some ⟨w.heap.size,0,none⟩) n.toNat c.toNat,_,A.put nx (.slice (some ⟨w.heap.size,0,none⟩) n.toNat c.toNat),w.heap.size::O,?_,⟨_,Pl.fb A nx _,rfl,rfl⟩,⟨Pl.kv C,D.tr,D.ob,λd B _=>⟨D.fr.block d (hO d B) (by simp),μ _ B⟩,?_,?_,?_,?_,?_,?_⟩⟩
 ·simp only[execOp,R,ξ,ar,aq,I];simp
 ·intro E X H;obtain⟨rfl,e⟩:=cY H;cases e;refine⟨_,Pl.fb A _ _,⟨w.heap.size,c.toNat,cur,by simp,hblk,by simp;omega,ah,hlen,L,?_,?_,?_⟩,?_⟩
  ·intro u l;obtain⟨j,b⟩:=List.getElem?_of_mem l;rw[s j u (by rw[<-ξi];exact b)];rfl
  ·intro j u xs l M;rw[s j u l,av M];exact⟨Own.iE,by simp[Value.ownBlock]⟩
  ·intro i1 aB u v xs ys d _ T _ _ _ a5;rw[s i1 u T] at a5;cases a5
  ·rintro d (B|⟨U,c2,t2,aF,aC,u2,ys,f1,f2,f3,f4,f5⟩)
   ·cases B;exact⟨ν,.inl (ξc _)⟩
   ·have V:U=w.heap.size:=by simp at f1;exact f1.1.symm
    subst V;rw[hblk] at f2;cases f2;rw[s aC u2 f3] at f5;cases f5
 ·intro i1 aB X Y p q d ao r f;obtain⟨rfl,_⟩:=cY r;obtain⟨rfl,_⟩:=cY f;exact absurd rfl ao
 ·intro i1 X Y r f;exact(cY r).2.trans (cY f).2.symm
 ·intro i1 X p r f;obtain⟨rfl,_⟩:=cY r;rw[C] at f;cases f
 ·intro i1;rcases ζl nx i1 with au|rfl
  ·exact .inl (Pl.kx au)
  ·exact .inr ⟨C,some (.cu i.e m.e (ξF n.toNat (some []))),by simp[news]⟩
 ·intro i1 X Z r f aH;obtain⟨rfl,_⟩:=cY r;obtain⟨p,hp,_⟩:=ak.al _ Z f;rw[C] at hp;cases hp
end
section
variable {S:bh} {K:Kit S} {P:Program} {rr:Option Nat} {o:Oper} {env:aP S} {g:Nat->Option (Ob S)} {nx:Nat} {R:Type} {z:R} {k:AV S->Up S->AH S->Option R}
theorem IX {A:Pl} {O:Γ} {w:World} {a:Act} {E:Env} {fs:List (Nat×Nat)} (he:cF A O w env a) (k:cC K O w): ∀ {ps:List (Nat×Operand)} {cs d:List (LV S)} {xs:Array Value},(∀p∈ps,ev E p.2=some (a.eval p.2))->tz K env fs ps cs=some d->bt A O w cs xs.toList-> ∃q,j' fs K.Θ E ps xs=some q/\bt A O w d q.toList
 |[],cs,d,xs,f,h,g=>by cases h;exact⟨xs,rfl,g⟩
 |(i,x)::r,cs,d,xs,f,h,g=>by
  simp only[tz] at h;split at h
  rotate_left
  ·cases h
  rename_i t off u;split at h
  rotate_left
  ·cases h
  rename_i b s;split at h
  rotate_left
  ·cases h
  rename_i o y;cases m:ζ (dO b.cells) o.size<;>rw[m] at h
  ·cases h
  simp only[cond_true] at h;split at h
  rotate_left
  ·cases h
  rename_i C v;have n:=an.rel.cells (dK he k s);obtain⟨z,B⟩:=iJ v g n;have hlen:(a.eval x).cells.size=o.size:=by rw[<-δ m,<-gF n];simp
  have hle:off+(a.eval x).cells.size<=xs.size:=by simpa using B
  have l:=Cj (a.eval x).cells.toList 0 off xs (by simpa using hle);have e:((a.eval x).cells.zipIdx.foldl (λcs (c,j)=>cs.setIfInBounds (off+j) c) xs).toList=putAt xs.toList off (a.eval x).cells.toList:=by
   rw[ξP] at l;rw[<-l]
   congr 1
   rw[<-ξQ];simp
  simp only[j',u,f (i,x) ν,y,hlen,ξu,ξW];rw[hlen] at hle;rw[ζE.mpr hle];simp only[cond_true];refine IX he k (λp hp=>f p (μ _ hp)) h ?_;rw[e];exact z
theorem IW {A:Pl} {O:Γ} {w:World} {a:Act} {size:Nat} (he:cF A O w env a) (g:cC K O w): ∀ {ps:List (Nat×Operand)} {cs d:List (LV S)} {xs:Array Value},tw K env size ps cs=some d->bt A O w cs xs.toList-> ∃n,ζF (λi=>some (i*size,size)) xs (ps.map λp=>(p.1,a.eval p.2))=some n/\bt A O w d n.toList
 |[],cs,d,xs,h,f=>by cases h;exact⟨xs,rfl,f⟩
 |(i,x)::r,cs,d,xs,h,f=>by
  simp only[tw] at h;split at h
  rotate_left
  ·cases h
  rename_i b o;cases l:ζ (dO b.cells) size<;>rw[l] at h
  ·cases h
  simp only[cond_true] at h;split at h
  rotate_left
  ·cases h
  rename_i v s;have m:=an.rel.cells (dK he g o);obtain⟨t,u⟩:=iJ s f m;have hlen:(a.eval x).cells.size=size:=by rw[<-δ l,<-gF m];simp
  have hle:i*size+(a.eval x).cells.size<=xs.size:=by simpa using u
  have k:=Cj (a.eval x).cells.toList 0 (i*size) xs (by simpa using hle);have e:((a.eval x).cells.zipIdx.foldl (λcs (c,j)=>cs.setIfInBounds (i*size+j) c) xs).toList=putAt xs.toList (i*size) (a.eval x).cells.toList:=by
   rw[ξP] at k;rw[<-k]
   congr 1
   rw[<-ξQ];simp
  simp only[ζH,ζF];have q: ¬((a.eval x).cells.size≠size\/i*size+(a.eval x).cells.size>xs.size):=by omega
  rw[if_neg (by simpa using q)];refine IW he g h ?_;rw[e];exact t
theorem X4 (e:bU K P) {t:Nat} {ps:Array (Nat×Operand)} (f:o.op= .build t ps) (h:DO K env k t ps.toList=some z):Good K P rr o env g nx k z:=by
 have r: ∀c,o.op≠ .defer c:=λc=>by rw[f];simp
 unfold DO at h;split at h
 rotate_left
 ·cases h
 rename_i i hi;cases q:ζ i.tag 8<;>rw[q] at h
 ·cases n:ζ i.tag 6<;>rw[n] at h
  ·cases h
  simp only[cond_true,cond_false] at h;split at h
  rotate_left
  ·cases h
  rename_i s y;split at h
  rotate_left
  ·cases h
  rename_i cs m;cases b:(i.zero.cells.toList.all ξR)<;>rw[b] at h
  ·cases h
  simp only[cond_true] at h;refine cH r h λA O w a he v hO l=>?_;obtain⟨d,h1,j⟩:=IW (xs:=i.zero.cells) he l m (qw b);refine⟨.agg d,?_,d.toList,by simp,j⟩;unfold execOp;rw[f];simp only[Instr.build,ξ,l5 (e.Θ.fits hi),π,run_underlying ((e.Θ.fits hi).array (δ n)),dS (e.Θ.fits y)];rw[ζw];have u:ζF (λi=>some (i*s.size,s.size)) i.zero.cells (ps.toList.map λx=>(x.1,a.eval x.2))=some d:=h1;rw[u];rfl
 simp only[cond_true] at h;split at h
 rotate_left
 ·cases h
 rename_i cs m;cases b:(hR K.Θ (.build t ps.toList.toArray)&&i.zero.cells.toList.all ξR)<;>rw[b] at h
 ·cases h
 simp only[cond_true,η] at h b;refine cH r h λA O w a he v hO l=>?_;obtain⟨d,h1,j⟩:=IX (E:=jg a (slotsOf (ps.toList.map (·.2)))) (xs:=i.zero.cells) he l (λp hp=>Is (Fg (ζs.2 ⟨p,hp,rfl⟩))) m (qw b.2);refine⟨.agg d,v8 e.Θ (Iu a (slotsOf (ps.toList.map (·.2)))) (by rw[f];simpa using b.1) ?_,d.toList,by simp,j⟩;rw[f];simp only[ih,hi,q,cond_true,h1]
theorem Jo (b:bU K P) {t t2:Nat} {x:Operand} {l:LV S} (m:o.op= .convert t t2 x) (M:bZ K env x=some l) (h:vj K g k t t2 l=some z):Good K P rr o env g nx k z:=by
 have D: ∀c,o.op≠ .defer c:=λc=>by rw[m];simp
 unfold vj at h;split at h
 rotate_left
 ·cases h
 rename_i i i2 hi H;split at h
 rotate_left
 ·cases h
 rename_i q I;cases f:(ζ i.tag 5&&(ζ i2.tag 3&&(ζ q.tag 2&&sameKind (Dc.noKind q.k) .u8)))<;>rw[f] at h
 ·cases h
 simp only[cond_true] at h;simp only[η] at f;obtain⟨u,s,r,hk⟩:=f;split at h
 rotate_left
 ·cases h
 rename_i ys N;split at h
 rotate_left
 ·cases h
 rename_i zs j;refine cH D h λA O w a he G hO v=>?_;have d:=jk b G N (b0 he v M);refine⟨.string (strOf zs),?_,rfl,rfl⟩;obtain⟨B,c,p,_,_⟩:=eS d;have n:=(b.Θ.fits I).int (δ r);rw[eR hk] at n;unfold execOp;rw[m];simp only[ξ,p];rw[run_convert_bytes_string w t t2 i.e B ys.length c ((b.Θ.fits hi).slice (δ u)) n ((b.Θ.fits H).string (δ s))];rw[p] at d;rcases B with _|ad
 ·have J:=wg d;subst J;cases j;simp[Conv.bytesToString,strOf,ξh]
 ·obtain⟨_,cs,L,E⟩:=qL d;have F:=Df b j L;have hlen:zs.length=ys.length:=by
   have: ∀ {ys:List (S.El i.e)} {zs:Γa},iA K i.e .u8 ys=some zs->zs.length=ys.length:=by
    intro ys
    induction ys with
    |nil=>intro zs h;cases h;rfl
    |cons y ys R=>
     intro zs h;simp only[iA] at h;split at h
     ·rename_i T x' U;cases C:sameKind .u8 T<;>rw[C] at h
      ·cases h
      simp only[cond_true] at h;split at h
      ·rename_i V Q;cases h;simp[R Q]
      ·cases h
     ·cases h
   exact this j
  subst F;have hl:=run_loadCells_list (P:=P) w ad (zs.map (ξ2 .u8)) E;rw[ξw] at hl;rw[<-hlen,run_bytesToString w ad zs.length c zs hl];rfl
theorem ZJ (v:bU K P) (h:qg K env g nx k o.type o.op=some z):Good K P rr o env g nx k z:=by
 unfold qg at h;split at h
 ·rename_i x a;split at h
  ·rename_i L E;exact Js v (.inl a) E h
  ·cases h
 ·rename_i x a;split at h
  ·split at h
   rotate_left
   ·cases h
   rename_i i hi;cases W:ζ i.tag 5<;>rw[W] at h
   ·cases h
   ·exact Ym a rfl h
  ·split at h
   ·rename_i L E;exact Js v (.inr a) E h
   ·cases h
 ·rename_i x i a;split at h
  ·rename_i aen B;split at h
   ·rename_i b C;exact X9 a B C h
   ·cases h
  ·cases h
 ·rename_i x a;split at h
  ·rename_i B;exact tG a B rfl h
  ·rename_i B;exact tG a B rfl h
  ·rename_i B;exact tG a B rfl h
  ·rename_i B;exact tG a B rfl h
  ·cases h
 ·rename_i c x y a;split at h
  ·rename_i t B;cases t with
   |true=>
    simp only[cond_true] at h;split at h
    ·rename_i L E;exact Ju a B E h
    ·cases h
   |false=>
    simp only[cond_false] at h;split at h
    ·rename_i L E;exact Ju a B E h
    ·cases h
  ·cases h
 ·rename_i t x f a;split at h
  ·rename_i ls B;split at h
   ·rename_i off n V I;split at h
    ·rename_i ab hl;split at h
     ·rename_i b C;exact X_ v a B I hl C h
     ·cases h
    ·cases h
   ·cases h
  ·cases h
 ·rename_i t x f a;split at h
  ·rename_i off n V I;cases hn:ζ n 0<;>rw[hn] at h
   ·simp only[cond_false] at h;split at h
    ·rename_i b q B;refine Cs v a B I hn (λA O w x F=>?_) h;obtain⟨m,h1,D⟩:=F;exact⟨⟨m,q,none⟩,by simpa using D,m,h1,by rw[hf]⟩
    ·rename_i e r j q B;refine Cs v a B I hn (λA O w x F=>?_) h;obtain⟨m,Y,c,h1,D⟩:=F;exact⟨⟨m,j*(S.ty e).n+q,none⟩,by simpa using D,m,Y,c,h1,by rw[hf,Nat.add_assoc]⟩
    ·rename_i t' x' q B;refine Cs v a B I hn (λA O w x F=>?_) h;obtain⟨ad,h1,D⟩:=F;exact⟨ad.add q,by simpa using h1,ad,by rw[add_add],D⟩
    ·cases h
   ·cases h
  ·cases h
 ·rename_i t x a;split at h
  ·rename_i i hi;split at h
   ·rename_i l B;split at h
    ·rename_i T M;exact Ye v a B M h
    ·exact Yf v a hi B h
   ·cases h
  ·cases h
 ·rename_i t a;split at h
  ·rename_i i hi;cases R:i.zero.cells.toList.all ξR<;>rw[R] at h
   ·cases h
   ·exact X0 v a hi R h
  ·cases h
 ·rename_i t x a;split at h
  ·rename_i b C;exact X3 a C h
  ·cases h
 ·rename_i t ps a;exact X4 v a h
 ·rename_i f fs cs a;split at h
  ·rename_i aa Z h1 D;exact Yh a h1 D h
  ·cases h
 ·rename_i t a;split at h
  ·rename_i i hi;split at h
   ·rename_i p q hp Q;cases C:(ζ i.tag 7&&(ζ p.tag 2&&ζ q.tag 2))<;>rw[C] at h
    ·cases h
    ·exact Yi a h
   ·cases h
  ·cases h
 ·rename_i t n c a;cases C:OR K t<;>rw[C] at h
  ·exact Yj v a h
  ·exact Yk v a h
 ·rename_i t n ps a;exact X5 v a h
 ·rename_i t x y a;split at h
  ·rename_i r F;cases C:JV g r<;>rw[C] at h
   ·exact Jp v a h
   ·exact Yc v a h
  ·exact Jp v a h
 ·rename_i t x y a;exact Yb v a h
 ·rename_i t x lo hi mx a;exact Yp v a h
 ·rename_i t x y ok a;exact Yg v a h
 ·rename_i b t x y t' a;exact X2 v a h
 ·rename_i t x a;split at h
  ·rename_i i u hi B;cases D:ζ i.tag 2<;>rw[D] at h
   ·cases h
   ·exact Ya v a hi (δ D) B h
  ·cases h
 ·rename_i t x a;split at h
  ·rename_i i s hi B;cases N:ζ i.tag 3<;>rw[N] at h
   ·cases h
   ·exact Yn v a hi (δ N) B h
  ·cases h
 ·rename_i x a;split at h
  ·rename_i i B;split at h
   ·rename_i s pos hi;exact Yl a B hi h
   ·cases h
  ·cases h
 ·rename_i t x y a;split at h
  ·rename_i l B;split at h
   ·rename_i T q M Q;exact X' v a B M Q h
   ·exact Jv v a h
  ·exact Jv v a h
 ·rename_i t x y q a;exact Jr v (.inl a) h
 ·rename_i t x y q a;exact Jr v (.inr a) h
 ·rename_i c a;split at h
  ·rename_i H;split at h
   ·rename_i x ty G J;exact Yd v a H G J h
   ·cases h
  ·rename_i H;split at h
   ·rename_i x y ty U G J;cases C:ζ ty U<;>rw[C] at h
    ·cases h
    ·have e:=δ C;subst e;exact X1 v a H G J h
   ·cases h
  ·rename_i H;split at h
   ·rename_i x y ty U G J;exact X6 v a H G J h
   ·cases h
  ·exact pQ v (λc=>by rw[a];simp) (by rw[a];exact h)
 ·rename_i t t2 x a;split at h
  ·rename_i r B;exact Jo v a B h
  ·rename_i t' d B;exact Jo v a B h
  ·exact pQ v (λc=>by rw[a];simp) (by rw[a];exact h)
 ·refine pQ v (λc X=>?_) h;rw[X] at h;simp[plain,hR,ih] at h
end
inductive AX|normal|exit (id:Nat)|ret|bq (u:Value)
structure kP where
 fn:Func
 L:Nat->Γ
structure g' (S:bh) where
 J:kP
 ps:Γ
 gn:Code
 body:Code
 env:aP S
 fa:Option AX
structure AS (S:bh) where
 env:aP S
 h:AH S
 nb:Nat
 lp:Option (g' S)
 inr:Bool
 df:List (LV S)
 dt:Γ
structure bc (S:bh) where
 id:Nat
 out: {R:Type}->AS S->(AX->AS S->Option R)->Option R
structure dm (S:bh) extends kP where
 lc:List (bc S)
structure fg (S:bh) where
 f:Nat
 out: {R:Type}->List (an S)->(Rs S->Option R)->Option R
structure dI (S:bh) where
 f:Nat
 out: {R:Type}->List (an S)->AH S->(Rs S->AH S->Γ->Option R)->Option R
structure l8 (S:bh) where
 g:Nat
 out: {R:Type}->List (an S)->Option Value->(Nat->Option (Ob S))->(Option Value->Up S->Option R)->Option R
structure bE (S:bh) where
 K:Kit S
 C:List (fg S)
 H:List (dI S)
 D:List (l8 S)
 T:Nat->Option (dm S)
 F:Γ:=[]
def tA {S:bh}:List (fg S)->Nat->Option (fg S)
 |[],_=>none
 |c::r,f=>bif ζ c.f f then some c else tA r f
def pL {S:bh}:List (dI S)->Nat->Option (dI S)
 |[],_=>none
 |c::r,f=>bif ζ c.f f then some c else pL r f
def pK {S:bh}:List (l8 S)->Nat->Option (l8 S)
 |[],_=>none
 |c::r,f=>bif ζ c.g f then some c else pK r f
def fZ {S:bh}:List (bc S)->Nat->Option (bc S)
 |[],_=>none
 |c::r,f=>bif ζ c.id f then some c else fZ r f
section
variable {S:bh}
def en:AH S->Up S->AH S
 |h,[]=>h
 |h,(i,X)::r=>en (h.set i X) r
def keys:Up S->Γ
 |[]=>[]
 |(i,_)::r=>i::keys r
def eZ (nb:Nat):Γ->Γ->Γ
 |dt,[]=>dt
 |dt,i::r=>eZ nb (bif υ i nb&&!(dy i dt) then dt++[i] else dt) r
def AS.b6 (st:AS S) (up:Up S) (nw:AH S):AS S:= {st with h:=en st.h up++nw,dt:=eZ st.nb st.dt (keys up)}
def eW (g:Nat->Option (Ob S)) (up:Up S):Bool:=(keys up).all λi=>(g i).isSome
def kept (g:Nat->Option (Ob S)) (nb:Nat) (roots:Γ):Γ:=ξs nb++reach g nb 1000 roots []
def gc (sl:Γ) (st:AS S):AS S:=
 let env:=eM st.env sl
 let a:=kept (av st.h) st.nb (nT (st.h.take st.nb)++(EJ env++nU st.df))
 match kD (λi=>posOf i a 0) st.df with
 |some df=> {st with env:=nW (λi=>posOf i a 0) env,h:=eO (λi=>posOf i a 0) (fN (av st.h) a),df:=df}
 |none=>st
def jM (rs:Γ) (ρ:Nat->Option Nat) (h:AH S):Γ->Up S
 |[]=>[]
 |j::r=>(match rs[j]? with|some i=>(i,lL ρ (av h j))::jM rs ρ h r|none=>jM rs ρ h r)
section
variable (G:bE S) {R:Type}
def sQ (c:Nat->List (an S)->AH S->(Rs S->AH S->Γ->Option R)->Option R) (f:Nat) (aen:List (an S)) (g:Nat->Option (Ob S)) (nx:Nat) (d:Value->Up S->AH S->Option R) (k:AV S->Up S->AH S->Option R):Option R:=
 let rs:=reach g 0 1000 (jD aen) []
 match lJ (λi=>posOf i rs 0) aen with
 |none=>none
 |some b=>c f b (eO (λi=>posOf i rs 0) (fN (nD g) rs)) λr h' dt=>
  let ρ:=λj=>bif υ j rs.length then rs[j]? else some (nx+(j-rs.length))
  match r with
  | .ret a=>(match a.ca ρ with|some a'=>k a' (jM rs ρ h' dt) (eO ρ (h'.drop rs.length))|none=>none)
  | .bq u=>bif u.oneCell' then d u (jM rs ρ h' dt) (eO ρ (h'.drop rs.length)) else none
def lk (g:Nat->Option (Ob S)) (rs:Γ):LV S->LV S
 | .own r=>bif dy r rs then(match iw G.K g (.own r) with|some (l,_)=>l|none=>.own r) else .own r
 |l=>l
def Jz (rs:Γ) (cs:List (LV S)):Bool:=cs.any λl=>match l with| .own r=>dy r rs|_=>false
def iq (g:Nat->Option (Ob S)) (rs:Γ):Γ->Up S
 |[]=>[]
 |j::t=>match g j with
  |some (.box a cs)=>bif Jz rs cs then(j,some (.box a (cs.map (lk G g rs))))::iq g rs t else iq g rs t
  |_=>iq g rs t
def Bi (c:Nat->List (an S)->AH S->(Rs S->AH S->Γ->Option R)->Option R) (f:Nat) (aen:List (an S)) (g:Nat->Option (Ob S)) (nx:Nat) (b:Value->Up S->AH S->Option R) (k:AV S->Up S->AH S->Option R):Option R:=
 match tA G.C f with
 |some e=>(match ir G.K g aen with
  |some (d,rs)=>e.out d λr=>(match r with
   | .ret a=>bif a.pure then(bif a.flat then k a [] [] else k a (bif dy f G.F then iq G g rs (ξs nx)++fp rs else fp rs) []) else none
   | .bq u=>bif u.oneCell' then b u [] [] else none)
  |none=>sQ c f aen g nx b k)
 |none=>sQ c f aen g nx b k
def Ic (env:aP S) (g:Nat->Option (Ob S)) (c:ζ8):Option (Nat×List (an S)):=
 match c.callee with
 | .value x=>
  (match bZ G.K env x with
  |some (.aM i)=>(match g i with
   |some (.aM f fs cs)=>(match gO G.K env c.args.toList with|some aen=>some (f,fs++aen++cs)|none=>none)
   |_=>none)
  |some (.v u)=>(match u with
   | .func (.func f) fs cs=>bif ζ fs.size 0&&ζ cs.size 0 then(match gO G.K env c.args.toList with|some aen=>some (f,aen)|none=>none) else none
   |_=>none)
  |_=>none)
 |_=>none
def nH (a:Nat->List (an S)->AH S->(Rs S->AH S->Γ->Option R)->Option R) (env:aP S) (g:Nat->Option (Ob S)) (nx:Nat) (o:Oper) (b:Value->Up S->AH S->Option R) (k:AV S->Up S->AH S->Option R):Option R:=
 match o.op with
 | .call c=>
  (match c.callee with
  | .value _=>(match Ic G env g c with|some (f,aen)=>Bi G a f aen g nx b k|none=>none)
  |_=>qg G.K env g nx k o.type o.op)
 | .panic _=>none
 |_=>qg G.K env g nx k o.type o.op
def hX (N:Nat) (o:Oper) (st:AS S) (a:AV S) (k:AS S->Option R):Option R:=
 match o.dst with
 |some d=>bif υ d N then k {st with env:=(d,a)::st.env} else none
 |none=>k st
def my (N:Nat) (ops:Array Oper) (g:Option (Nat×Bool)) (st:AS S) (yes no:AS S->Option R):Option R:=
 match g with
 |none=>yes st
 |some (j,b)=>
  match ops[j]? with
  |some o=>
   match o.dst with
   |some d=>
    bif υ d N then
     match aP.get st.env d with
     |some (.s (.one (.v (.bool c))))=>
      bif c then(match b with|true=>yes|false=>no) {st with env:=(d,.s (.one (.v (.bool true))))::st.env}
      else(match b with|true=>no|false=>yes) {st with env:=(d,.s (.one (.v (.bool false))))::st.env}
     |some (.bn [])=>no st
     |_=>none
    else none
   |none=>none
  |none=>none
def FK (env:aP S) (c:ζ8):Bool:=
 match c.callee with
 | .value x=>(match bZ G.K env x with|some .c4=>true|_=>false)
 |_=>false
def A4 (e:Nat->List (an S)->AH S->(Rs S->AH S->Γ->Option R)->Option R) (g:List (an S)->AS S->(Bool->AS S->Option R)->Option R) (N:Nat) (o:Oper) (st:AS S) (d:Value->AS S->Option R) (k:AS S->Option R):Option R:=
 match o.op with
 | .defer c=>(match c.callee with
  | .value x=>(match c.args.toList,bZ G.K st.env x,st.inr,st.lp,o.dst with
   |[],some (.aM i),false,none,none=>k {st with df:=.aM i::st.df}
   |_,_,_,_,_=>none)
  |_=>none)
 | .panic x=>(match bZ G.K st.env x with|some (.v (.iface t u))=>d (.iface t u) st|_=>none)
 | .call c=>
  bif FK G st.env c then(match gO G.K st.env c.args.toList with
   |some aen=>g aen st λb f=>hX N o f (.s (.one (.v (.bool b)))) k
   |none=>none)
  else nH G e st.env (av st.h) st.h.length o (λu up nw=>bif eW (av st.h) up then d u (st.b6 up nw) else none) λa up nw=>bif eW (av st.h) up then hX N o (st.b6 up nw) a k else none
 |_=>nH G e st.env (av st.h) st.h.length o (λu up nw=>bif eW (av st.h) up then d u (st.b6 up nw) else none) λa up nw=>bif eW (av st.h) up then hX N o (st.b6 up nw) a k else none
def o8 (a:Nat->List (an S)->AH S->(Rs S->AH S->Γ->Option R)->Option R) (c:List (an S)->AS S->(Bool->AS S->Option R)->Option R) (N:Nat) (ops:Array Oper) (b:Value->AS S->Option R):Γ->AS S->(AS S->Option R)->Option R
 |[],st,k=>k st
 |i::l,st,k=>
  match ops[i]? with
  |some o=>my N ops o.guard st (λst=>A4 G a c N o st b λst=>o8 a c N ops b l st k) (λst=>hX N o st (.bn []) λst=>o8 a c N ops b l st k)
  |none=>none
structure ck (S:bh) where
 rd:Γ
 up:Up S
 nx:Nat
 nw:AH S
def c' (ops:Array Oper) (j:Nat):Option Nat:=match ops[j]? with|some o=>o.dst|none=>none
def Jx (ops:Array Oper) (g:Option (Nat×Bool)):Γ:=match g with|some (j,_)=>(match c' ops j with|some d=>[d]|none=>[])|none=>[]
def fc (ops:Array Oper) (o:Oper):Γ:=slotsOf o.op.operands.toList++Jx ops o.guard
def et (ops:Array Oper) (i:Nat):Γ:=match ops[i]? with|some o=>k3 ops 12 (cK o)|none=>[]
def EC (env:aP S) (g:Nat->Option (Ob S)) (o:Oper):Γ:=
 match o.op with
 | .load _ x=>(match bZ G.K env x with|some l=>l.refs|none=>[])
 | .store _ x _=>(match bZ G.K env x with|some l=>l.refs|none=>[])
 | .indexAddr _ x _=>(match bZ G.K env x with|some (.own r)=>[r]|_=>[])
 | .lookup _ x _ _=>(match bZ G.K env x with|some l=>l.refs|none=>[])
 | .mapUpdate _ x _ _=>(match bZ G.K env x with|some l=>l.refs|none=>[])
 | .insert _ x _ _=>(match bZ G.K env x with|some l=>l.refs|none=>[])
 | .next x _=>(match bZ G.K env x with|some l=>l.refs|none=>[])
 | .convert _ _ x=>(match bZ G.K env x with|some l=>l.refs|none=>[])
 | .buildSlice _ _ ps=>(match gO G.K env (ps.toList.map (·.2)) with|some aen=>jD aen|none=>[])
 | .call c=>
  (match gO G.K env c.args.toList with
  |some aen=>(match c.callee with
   | .value x=>(match bZ G.K env x with|some l=>l.refs++reach g 0 1000 (l.refs++jD aen) []|none=>[])
   |_=>jD aen)
  |none=>[])
 |_=>[]
def iR (rd:Γ) (g:Nat->Option (Ob S)):Nat->Option (Ob S):=λi=>bif dy i rd then g i else none
def vf (l m:Γ):Bool:=l.all λi=>!(dy i m)
def DI (l:Γ) (nx n:Nat):Bool:=l.all λi=>!(ξH nx i&&υ i (nx+n))
def j4 (cl rd:Γ) (up:Up S):List (ck S)->Nat->Bool
 |[],_=>true
 |r::rs,k=>(dy k cl||(vf rd (keys r.up)&&(DI rd r.nx r.nw.length&&vf (keys up) r.rd)))&&j4 cl rd up rs (k+1)
def idle (cl:Γ):List (ck S)->Nat->Bool
 |[],_=>true
 |r::rs,k=>(dy k cl||(match r.up,r.nw with|[],[]=>true|_,_=>false))&&idle cl rs (k+1)
def Ff (ops:Array Oper) (i:Nat) (o:Oper) (s:Nat):Bool:=
 ((cK o).any λj=>match c' ops j with|some d=>ζ d s|none=>false)||
 (ξs ops.size).all λk=>match c' ops k with|some d=>!(ζ d s)||(ζ k i||dy i (et ops k))|none=>true
def L9 (N:Nat) (ops:Array Oper) (i:Nat):Bool:=
 match ops[i]? with
 |some o=>hh i (cK o)&&(hh i (et ops i)&&((match o.dst with
  |some d=>υ d N&&(ξs ops.size).all λk=>ζ k i||(match c' ops k with|some e=>!(ζ d e)|none=>true)
  |none=>true)&&(fc ops o).all (Ff ops i o)))
 |none=>false
def vQ (N:Nat) (ops:Array Oper):Bool:=(ξs ops.size).all (L9 N ops)
def Fp (ops:Array Oper) (env:aP S):aP S:=env.filter λp=>(ξs ops.size).all λk=>match c' ops k with|some d=>!(ζ d p.1)|none=>true
def Fq (up:Up S) (nw:AH S):Bool:=match up,nw with|[],[]=>true|_,_=>false
def sX (pn:Option (Γ×Value×AS S)) (cl:Γ):Bool:=match pn with|some (dead,_,_)=>dead.any λj=>dy j cl|none=>false
def aav (pn:Option (Γ×Value×AS S)) (i:Nat):Option (Γ×Value×AS S):=match pn with|some (dead,u,st)=>some (i::dead,u,st)|none=>none
def j0 (b:Nat->List (an S)->AH S->(Rs S->AH S->Γ->Option R)->Option R) (N:Nat) (ops:Array Oper) (d:Value->AS S->Option R) (k:AS S->Option R):Nat->List (ck S)->Option (Γ×Value×AS S)->AS S->Option R
 |0,_,pn,st=>(match pn with|none=>k st|some (_,u,f)=>d u f)
 |c+1,acc,pn,st=>
  match ops[acc.length]? with
  |none=>none
  |some o=>
   bif sX pn (et ops acc.length) then j0 b N ops d k c (acc++[⟨[],[],st.h.length,[]⟩]) (aav pn acc.length) st
   else my N ops o.guard st
    (λst=>
     let rd:=EC G (eM st.env (fc ops o)) (av st.h) o
     bif rd.all λi=>υ i st.h.length then
      nH G b (eM st.env (fc ops o)) (iR rd (av st.h)) st.h.length o
       (λu up nw=>match pn with
        |some _=>none
        |none=>bif eW (av st.h) up&&((keys up).all (λi=>dy i rd)&&(j4 (et ops acc.length) rd up acc 0&&idle (et ops acc.length) acc 0)) then
          j0 b N ops d k c (acc++[⟨rd,up,st.h.length,nw⟩]) (some ([acc.length],u,{st.b6 up nw with env:=Fp ops st.env})) (st.b6 up nw) else none)
       (λa up nw=>
        bif eW (av st.h) up&&((keys up).all (λi=>dy i rd)&&(j4 (et ops acc.length) rd up acc 0&&(pn.isNone||Fq up nw))) then
         hX N o (st.b6 up nw) a λe=>j0 b N ops d k c (acc++[⟨rd,up,st.h.length,nw⟩]) pn e
        else none)
     else none)
    (λst=>hX N o st (.bn []) λe=>j0 b N ops d k c (acc++[⟨[],[],st.h.length,[]⟩]) pn e)
def A6 (a:Nat->List (an S)->AH S->(Rs S->AH S->Γ->Option R)->Option R) (c:List (an S)->AS S->(Bool->AS S->Option R)->Option R) (N:Nat) (ops:Array Oper) (draw:Bool) (st:AS S) (b:Value->AS S->Option R) (k:AS S->Option R):Option R:=
 match draw with
 |false=>o8 G a c N ops b (ξs ops.size) st k
 |true=>bif vQ N ops then j0 G a N ops b k ops.size [] none st else none
def dG:Code->Nat
 | .region id _ _=>id+1
 | .seq x y=>(match dG x with|0=>dG y|n=>n)
 | .block _ x=>dG x
 | .loop x=>dG x
 | .scope x=>dG x
 |_=>0
def aaw (I:dm S) (body:Code) (st:AS S):AS S:=gc (I.L (2000001+dG body)) st
def Mx (I:dm S):Code->AS S->AS S
 | .loop x,st=>gc (I.L (dG x)) st
 |_,st=>st
def h_:Nat->List (an S)->aP S
 |_,[]=>[]
 |i,a::l=>(i,.s a)::h_ (i+1) l
def qR:List (an S)->AV S
 |[a]=>.s a
 |aen=>.bn aen
def jF (K:Kit S) (env:aP S) (h:AH S):List ResultVar->Option (List (an S))
 |[]=>some []
 | .tmp t::r=>(match aP.get env t with|some (.s a)=>(match jF K env h r with|some aen=>some (a::aen)|none=>none)|_=>none)
 | .cell x t::r=>
  (match aP.get env x with
  |some (.s (.one (.aK b 0)))=>(match K.Θ.get t,av h b with
   |some i,some (.box _ cs)=>bif ζ (dO cs) i.size then
     (match je (TI.f' i) cs with
     |some a=>(match jF K env h r with|some aen=>some (a::aen)|none=>none)
     |none=>none)
    else none
   |_,_=>none)
  |_=>none)
def jO:Γ->List (an S)->Option (aP S)
 |[],[]=>some []
 |p::ps,a::aen=>(match jO ps aen with|some e=>some ((p,.s a)::e)|none=>none)
 |_,_=>none
def LV.fL:LV S->Bool
 | .c4=>false
 |_=>true
def kp:List (LV S)->Bool
 |[]=>true
 |l::r=>l.fL&&kp r
def lC:List (an S)->Bool
 |[]=>true
 |a::r=>kp a.cells&&lC r
def AV.fL:AV S->Bool
 | .s a=>kp a.cells
 | .bn aen=>lC aen
def Ob.fL:Ob S->Bool
 | .box _ cs=>kp cs
 | .aM _ fs cs=>lC fs&&lC cs
 | .cu .. =>false
 |_=>true
def nB:aP S->Bool
 |[]=>true
 |(_,a)::r=>a.fL&&nB r
def hA:AH S->Bool
 |[]=>true
 |some X::r=>X.fL&&hA r
 |none::r=>hA r
def qB (fn:Func) (e:AX) (st:AS S) (k:Rs S->AS S->Option R):Option R:=
 match st.df with
 |[]=>(match e with
  | .exit _=>none
  | .bq u=>k (.bq u) st
  |_=>(match jF G.K st.env st.h fn.results.toList with|some aen=>k (.ret (qR aen)) st|none=>none))
 |[.aM i]=>(match av st.h i with
  |some (.aM g [] cs)=>(match pK G.D g with
   |some a=>
    let fin:Option Value->Up S->Option R:=λp up=>bif !(eW (av st.h) up) then none else(match p with
     |some u=>k (.bq u) {st.b6 up [] with df:=[]}
     |none=>(match jF G.K st.env (en st.h up) fn.results.toList with|some aen=>k (.ret (qR aen)) {st.b6 up [] with df:=[]}|none=>none))
    (match e with
    | .exit _=>none
    | .bq u=>a.out cs (some u) (av st.h) fin
    |_=>a.out cs none (av st.h) fin)
   |none=>none)
  |_=>none)
 |_=>none
def qo (r:Rs S) (st:AS S) (k:Rs S->AH S->Γ->Option R):Option R:=
 let b:=kept (av st.h) st.nb (nT (st.h.take st.nb)++(match r with| .ret a=>a.refs| .bq _=>[]))
 let h:=eO (λi=>posOf i b 0) (fN (av st.h) b)
 let dt:=st.dt.filter λi=>υ i st.nb
 match r with
 | .ret a=>(match a.ca (λi=>posOf i b 0) with|some a'=>k (.ret a') h dt|none=>none)
 | .bq u=>k (.bq u) h dt
def nQ (N:Nat):Γ->Bool
 |[]=>true
 |p::r=>υ p N&&(!(dy p r)&&nQ N r)
def jx:AH S->Bool
 |[]=>true
 |some X::r=>X.nt&&jx r
 |none::r=>jx r
def FJ (run:dm S->Code->AS S->(AX->AS S->Option R)->Option R) (aen:List (an S)) (st:AS S) (k:Bool->AS S->Option R):Option R:=
 match st.lp with
 |some a=>(match a.fa,jO a.ps aen with
  |none,some b=>bif nQ a.J.fn.ntmps a.ps&&jx st.h then
   run ⟨a.J,[]⟩ a.gn ⟨b++a.env,st.h,st.h.length,none,true,[],[]⟩ λe st1=>(match e,st1.inr with
   | .normal,true=>bif jx st1.h then run ⟨a.J,[]⟩ a.body ⟨st1.env,st1.h,st1.h.length,none,true,[],[]⟩ λe st2=>(match e with
    | .normal=>k true {st with h:=st2.h,dt:=eZ st.nb st.dt (st1.dt++st2.dt)}
    | .bq _=>none
    | .ret=>k false {st with h:=st2.h,dt:=eZ st.nb st.dt (st1.dt++st2.dt),lp:=some {a with fa:=some .ret}}
    | .exit id=>k false {st with h:=st2.h,dt:=eZ st.nb st.dt (st1.dt++st2.dt),lp:=some {a with fa:=some (.exit id)}}) else none
   |_,_=>none) else none
  |_,_=>none)
 |none=>none
def vH (st a:AS S) (k:AX->AS S->Option R):Option R:=
 match a.df,a.lp with
 |[],some b=>bif hA a.h then(match b.fa with
  |none=>k .normal {st with h:=a.h,dt:=eZ st.nb st.dt a.dt}
  |some .ret=>k .ret {st with h:=a.h,dt:=eZ st.nb st.dt a.dt}
  |some (.exit id)=>k (.exit id) {st with h:=a.h,dt:=eZ st.nb st.dt a.dt}
  |_=>none) else none
 |_,_=>none
def Et (run:dm S->Code->AS S->(AX->AS S->Option R)->Option R) (I:dm S) (fo:Operand) (ps:Array Nat) (gn body:Code) (st:AS S) (k:AX->AS S->Option R):Option R:=
 match st.lp,st.inr with
 |none,false=>(match c_ G.K st.env fo with
  |some (.s (.one (.aM i)))=>(match av st.h i with
   |some (.aM g [] cs)=>(match G.T g with
    |some J=>(match J.fn.body,J.fn.results.toList with
     |some b,[]=>bif ξH (1+cs.length) J.fn.ntmps&&(nB st.env&&hA st.h) then
       run J b ⟨h_ 0 (.one .c4::cs),st.h,st.h.length,some ⟨I.tokP,ps.toList,gn,body,st.env,none⟩,false,[],[]⟩ λe a=>
        (match e with
        | .normal=>vH st a k
        | .ret=>vH st a k
        |_=>none)
      else none
     |_,_=>none)
    |none=>none)
   |_=>none)
  |_=>none)
 |_,_=>none
def Bh (run:dm S->Code->AS S->(AX->AS S->Option R)->Option R) (f:Nat) (aen:List (an S)) (h:AH S) (k:Rs S->AH S->Γ->Option R):Option R:=
 match pL G.H f with
 |some a=>a.out aen h k
 |none=>(match G.T f with
  |some J=>(match J.fn.body with
   |some c=>bif ξH aen.length J.fn.ntmps then run J c ⟨h_ 0 aen,h,h.length,none,false,[],[]⟩ λe b=>qB G J.fn e b λr d=>qo r d k else none
   |none=>none)
  |none=>none)
def cc:Nat->dm S->Code->AS S->(AX->AS S->Option R)->Option R
 |0,_,_,_,_=>none
 |n+1,I,c,st,k=>
  let f:Nat->List (an S)->AH S->(Rs S->AH S->Γ->Option R)->Option R:=Bh G (cc n)
  let g:List (an S)->AS S->(Bool->AS S->Option R)->Option R:=FJ (cc n)
  match c with
  | .skip=>k .normal st
  | .label _=>k .normal st
  | .scope x=>bif st.inr then none else cc n I x st k
  | .region _ ops draw=>A6 G f g I.fn.ntmps ops draw st (λu st=>k (.bq u) st) λst=>k .normal st
  | .seq x y=>cc n I x st λe st=>(match e with| .normal=>cc n I y st k|e=>k e st)
  | .cond o x y=>
   (match c_ G.K st.env o with
   |some (.s (.one (.v (.bool b))))=>bif b then cc n I x st k else cc n I y st k
   |_=>none)
  | .block id x=>cc n I x (Mx I x st) λe st=>(match e with| .exit a=>bif ζ a id then k .normal (gc (I.L (1000001+id)) st) else k (.exit a) st|e=>k e st)
  | .loop x=>(match fZ I.lc (dG x) with
   |some lc=>lc.out st k
   |none=>cc n I x st λe d=>(match e with| .normal=>cc n I (.loop x) (gc (I.L (dG x)) d) k|e=>k e d))
  | .rangeFunc fo ps gn body=>Et G (cc n) I fo ps gn body (aaw I body st) k
  | .exit id=>k (.exit id) st
  | .ret=>k .ret (gc (I.L 1000000) st)
  |_=>none
def fh (n f:Nat) (aen:List (an S)) (h:AH S) (k:Rs S->AH S->Γ->Option R):Option R:=
 match G.T f with
 |some J=>(match J.fn.body with
  |some c=>bif ξH aen.length J.fn.ntmps then cc G n J c ⟨h_ 0 aen,h,h.length,none,false,[],[]⟩ λe a=>qB G J.fn e a λr b=>qo r b k else none
  |none=>none)
 |none=>none
end
end
section
variable {S:bh} {A A':Pl} {O:Γ} {w:World} {ρ:Nat->Option Nat}
structure fT (ρ:Nat->Option Nat) (A A':Pl):Prop where
 pl: ∀i j p,ρ i=some j->A.pl i=some p->A'.pl j=some p
 ls:A'.ls=A.ls
theorem LV.hD (h:fT ρ A A') {l l':LV S} {xs:Γb} (a:l.ca ρ=some l') (hl:l.rel A O w xs):l'.rel A' O w xs:=by
 cases l with
 |v u=>cases a;exact hl
 |aH t d=>cases a;exact hl
 |ptr t d q=>cases a;exact hl
 |aK i q=>simp only[LV.ca] at a;split at a<;>cases a;rename_i j o;obtain⟨m,h1,g⟩:=hl;exact⟨m,h.pl _ _ _ o h1,g⟩
 |e8 i q n y=>simp only[LV.ca] at a;split at a<;>cases a;rename_i j o;obtain⟨m,h1,g⟩:=hl;exact⟨m,h.pl _ _ _ o h1,g⟩
 |own i=>simp only[LV.ca] at a;split at a<;>cases a;rename_i j o;obtain⟨m,h1,g⟩:=hl;exact⟨m,h.pl _ _ _ o h1,g⟩
 |dY e i y q=>simp only[LV.ca] at a;split at a<;>cases a;rename_i j o;obtain⟨b,n,c,h1,g⟩:=hl;exact⟨b,n,c,h.pl _ _ _ o h1,g⟩
 |fB i q n=>simp only[LV.ca] at a;split at a<;>cases a;rename_i j o;obtain⟨m,h1,g⟩:=hl;exact⟨m,h.pl _ _ _ o h1,g⟩
 |mp i=>simp only[LV.ca] at a;split at a<;>cases a;rename_i j o;obtain⟨m,h1,g⟩:=hl;exact⟨m,h.pl _ _ _ o h1,g⟩
 |aM i=>simp only[LV.ca] at a;split at a<;>cases a;rename_i j o;obtain⟨f,u,c,h1,g⟩:=hl;exact⟨f,u,c,h.pl _ _ _ o h1,g⟩
 |c4=>cases a;obtain⟨m,h1,g⟩:=hl;exact⟨m,h.ls.trans h1,g⟩
 |cP i=>simp only[LV.ca] at a;split at a<;>cases a;rename_i j o;obtain⟨m,h1,g⟩:=hl;exact⟨m,h.pl _ _ _ o h1,g⟩
 |bG k n gs=>cases a;exact hl
 |cS n bs=>cases a;exact hl
theorem EN (h:fT ρ A A'): ∀ {ls b:List (LV S)} {xs:Γb},kD ρ ls=some b->bt A O w ls xs->bt A' O w b xs
 |[],_,_,a,hl=>by cases a;exact hl
 |l::r,_,_,a,⟨y,ys,e,h1,c⟩=>by
  simp only[kD] at a;split at a
  ·rename_i x d;split at a
   ·rename_i z f;cases a;exact⟨y,ys,e,LV.hD h d h1,EN h f c⟩
   ·cases a
  ·cases a
theorem an.hD (h:fT ρ A A') {a a':an S} {x:Value} (b:a.ca ρ=some a') (hl:a.rel A O w x):a'.rel A' O w x:=by
 cases a with
 |one l=>
  simp only[an.ca] at b;split at b<;>cases b;rename_i y c;exact LV.hD h c hl
 |agg ls=>
  simp only[an.ca] at b;split at b<;>cases b;rename_i y c;obtain⟨xs,h1,d⟩:=hl;exact⟨xs,h1,EN h c d⟩
theorem qx (h:fT ρ A A'): ∀ {ls b:List (an S)} {xs:Γb},lJ ρ ls=some b->cy A O w ls xs->cy A' O w b xs
 |[],_,_,a,hl=>by cases a;exact hl
 |l::r,_,_,a,⟨y,ys,e,h1,c⟩=>by
  simp only[lJ] at a;split at a
  ·rename_i x d;split at a
   ·rename_i z f;cases a;exact⟨y,ys,e,an.hD h d h1,qx h f c⟩
   ·cases a
  ·cases a
theorem AV.hD (h:fT ρ A A') {a a':AV S} {x:Value} (b:a.ca ρ=some a') (hl:a.rel A O w x):a'.rel A' O w x:=by
 cases a with
 |s l=>
  simp only[AV.ca] at b;split at b<;>cases b;rename_i y c;exact an.hD h c hl
 |bn ls=>
  simp only[AV.ca] at b;split at b<;>cases b;rename_i y c;obtain⟨xs,h1,d⟩:=hl;exact⟨xs,h1,qx h c d⟩
theorem Ob.hD (h:fT ρ A A') {X i:Ob S} {p:Value} (a:X.ca ρ=some i) (hl:dd A O w X p):dd A' O w i p:=by
 cases X with
 |box t cs=>
  simp only[Ob.ca] at a;split at a<;>cases a;rename_i y g;obtain⟨b,vs,h1,c,d⟩:=hl;exact⟨b,vs,h1,c,EN h g d⟩
 |row e xs=>cases a;exact hl
 |map k l m=>cases a;exact hl
 |aM f fs cs=>
  simp only[Ob.ca] at a;split at a<;>cases a;rename_i y n g j;obtain⟨us,vs,h1,c,d⟩:=hl;exact⟨us,vs,h1,qx h g c,qx h j d⟩
 |cP s pos=>cases a;exact hl
 |cu t e bD=>cases a;exact hl
theorem Ob.lM {X c:Ob S} {w:World} {p:Value} {b:Nat} (a:X.ca ρ=some c) (h:cv w c p b):cv w X p b:=by
 refine h.imp id λhi=>?_;cases X with
 |cu t e bD=>cases a;exact hi
 |box t cs=>simp only[Ob.ca] at a;split at a<;>cases a;cases hi
 |aM f fs cs=>simp only[Ob.ca] at a;split at a<;>cases a;cases hi
 |row e xs=>cases a;cases hi
 |map d g m=>cases a;cases hi
 |cP s pos=>cases a;cases hi
theorem Ob.vS {X b:Ob S} (a:X.ca ρ=some b):b.nt=X.nt:=by
 cases X with
 |box t cs=>simp only[Ob.ca] at a;split at a<;>cases a;rfl
 |aM f fs cs=>simp only[Ob.ca] at a;split at a<;>cases a;rfl
 |_=>cases a;rfl
theorem L0 {g:Nat->Option (Ob S)} {i:Nat} {X:Ob S} (h:nD g i=some X):g i=some X/\X.nt=true:=by
 unfold nD at h;split at h
 ·rename_i Y a;cases hn:Y.nt<;>rw[hn] at h
  ·cases h
  ·cases h;exact⟨a,hn⟩
 ·cases h
theorem get_mem {l:aP S} {s:Nat} {a:AV S}:aP.get l s=some a->(s,a)∈l:=by
 induction l with
 |nil=>intro h;cases h
 |cons p l d=>
  intro h;obtain⟨t,b⟩:=p;simp only[aP.get] at h;cases c:ζ t s with
  |true=>
   rw[c] at h;simp only[cond_true,ι] at h;have:=δ c;subst this;subst h;exact ν
  |false=>rw[c] at h;exact μ _ (d h)
theorem uO {env:aP S} {s:Nat} {a:AV S}: ∀ {l:Γ},(s,a)∈eM env l->s∈l/\aP.get env s=some a
 |[],h=>by cases h
 |t::r,h=>by
  simp only[eM] at h;split at h
  ·rename_i b d;rcases τ.1 h with e|h
   ·cases e;exact⟨ν,d⟩
   ·obtain⟨h1,c⟩:=uO h;exact⟨μ _ h1,c⟩
  ·obtain⟨h1,c⟩:=uO h;exact⟨μ _ h1,c⟩
theorem EL {s:Nat} {a':AV S}: ∀ {l:aP S},(s,a')∈nW ρ l-> ∃a,(s,a)∈l/\a.ca ρ=some a'
 |[],h=>by cases h
 |(t,b)::r,h=>by
  simp only[nW] at h;split at h
  ·rename_i x d;rcases τ.1 h with e|h
   ·cases e;exact⟨b,ν,d⟩
   ·obtain⟨a,h1,c⟩:=EL h;exact⟨a,μ _ h1,c⟩
  ·obtain⟨a,h1,c⟩:=EL h;exact⟨a,μ _ h1,c⟩
theorem ab5 (h:fT ρ A A') {a:Act} {env:aP S} {sl:Γ} (he:cF A O w env a):cF A' O w (nW ρ (eM env sl)) a:=λs e d=>by
 obtain⟨b,h1,c⟩:=EL (get_mem d);exact AV.hD h c (he s b (uO h1).2)
theorem bI.ca {g f:Nat->Option (Ob S)} {idx:Nat->Option Nat} (h:bI A O w g) (l: ∀j,A'.pl j=(idx j).bind A.pl) (B:A'.ls=A.ls) (inj: ∀i j d,idx j=some i->idx d=some i->j=d) (E: ∀i j,ρ i=some j->idx j=some i)
  (n: ∀j a,f j=some a-> ∃i X,idx j=some i/\g i=some X/\X.ca ρ=some a):bI A' O w f:=by
 have z:fT ρ A A':=⟨λi j p hi hp=>by rw[l,E i j hi];exact hp,B⟩;have back: ∀j a p,f j=some a->A'.pl j=some p-> ∃i X,idx j=some i/\g i=some X/\A.pl i=some p/\X.ca ρ=some a:=by
  intro j a p m hp;obtain⟨i,X,h1,c,k⟩:=n j a m;rw[l,h1] at hp;exact⟨i,X,h1,c,hp,k⟩
 constructor
 ·intro j a m;obtain⟨i,X,h1,c,k⟩:=n j a m;obtain⟨p,G,H,I⟩:=h.al i X c;exact⟨p,by rw[l,h1];exact G,Ob.hD z k H,I⟩
 ·intro j d X Y p q b C h1 c hp D;obtain⟨i,a,r,a2,a3,a4⟩:=back j X p h1 hp;obtain⟨F,o,s,t,x,y⟩:=back d Y q c D;exact λu v=>h.gr i F a o p q b (λe=>C (by subst e;exact inj i j d r s)) a2 t a3 x (Ob.lM a4 u) (Ob.lM y v)
theorem gB {i:Nat}: ∀ {l:Γ},dy i l=true↔i∈l
 |[]=>by simp[dy]
 |j::r=>by
  simp only[dy,τ];cases a:ζ i j with
  |true=>have:=δ a;simp[this]
  |false=>
   have b:i≠j:=λe=>by subst e;simp at a
   simp[b,gB]
theorem Mv {i j:Nat}: ∀ {l:Γ} {n:Nat},posOf i l n=some j->n<=j/\l[j-n]? =some i
 |[],n,h=>by cases h
 |t::r,n,h=>by
  simp only[posOf] at h;cases a:ζ i t with
  |true=>
   rw[a] at h;have:=δ a;simp only[cond_true,ι] at h;subst h;subst this;simp
  |false=>
   rw[a] at h;obtain⟨h1,b⟩:=Mv (n:=n+1) h;refine⟨by omega,?_⟩;rw[show j-n=(j-(n+1))+1 by omega];simpa using b
theorem nP {i j:Nat} {l:Γ} (h:posOf i l 0=some j):l[j]? =some i:=by simpa using(Mv h).2
structure Reach (g:Nat->Option (Ob S)) (nb:Nat) (l:Γ):Prop where
 nd:l.Nodup
 ge: ∀i∈l,nb<=i
 al: ∀i∈l,∃X,g i=some X
theorem lG {g:Nat->Option (Ob S)} {nb:Nat}: ∀ {n:Nat} {t seen:Γ},Reach g nb seen->Reach g nb (reach g nb n t seen)
 |0,t,seen,h=>h
 |n+1,[],seen,h=>h
 |n+1,i::t,seen,h=>by
  simp only[reach];cases d:υ i nb with
  |true=>exact lG h
  |false=>
   simp only[cond_false];cases hm:dy i seen with
   |true=>exact lG h
   |false=>
    simp only[cond_false];split
    ·rename_i X k;have p:i∉seen:=λo=>by rw[gB.2 o] at hm;cases hm
     have m:nb<=i:=by
      rcases ω i nb with h1|h1
      ·rw[ο.mpr h1] at d;cases d
      ·exact h1
     refine lG ⟨?_,?_,?_⟩
     ·rw[ζq];exact⟨h.nd,by simp,λa l b f=>by simp at f;subst f;exact λe=>p (e▸l)⟩
     ·intro j c;rcases ψ.1 c with c|c
      ·exact h.ge j c
      ·simp at c;subst c;exact m
     ·intro j c;rcases ψ.1 c with c|c
      ·exact h.al j c
      ·simp at c;subst c;exact⟨X,k⟩
    ·exact lG h
theorem EI {g:Nat->Option (Ob S)} {nb:Nat}:Reach g nb []:=⟨List.nodup_nil,(λi h=>nomatch h),(λi h=>nomatch h)⟩
theorem u' {l:Γ} (h:l.Nodup) {i j a:Nat} (h1:l[j]? =some i) (e:l[a]? =some i):j=a:=by
 obtain⟨b,a2⟩:=ε.1 h1;obtain⟨c,d⟩:=ε.1 e;have hp:=List.pairwise_iff_getElem.1 h;rcases ξd j a with g|he|f
 ·exact absurd (a2.trans d.symm) (hp j a b c g)
 ·exact he
 ·exact absurd (d.trans a2.symm) (hp a j c b f)
theorem J2 {g:Nat->Option (Ob S)} {nb:Nat} {roots:Γ}:(kept g nb roots).Nodup:=by
 have:=lG (g:=g) (nb:=nb) (n:=1000) (t:=roots) EI;unfold kept;rw[ζq];exact⟨List.nodup_range,this.nd,λa c b d e=>by have:=this.ge b d;simp at c;omega⟩
theorem J1 {g:Nat->Option (Ob S)} {nb i:Nat} {roots:Γ} (h:i<nb):(kept g nb roots)[i]? =some i:=by
 unfold kept;rw[φ (by simpa using h)];simp[h]
theorem JZ {g:Nat->Option (Ob S)} {nb i j:Nat} {roots:Γ} (h:nb<=j) (a:(kept g nb roots)[j]? =some i):nb<=i:=by
 unfold kept at a;rw[ξb (by simpa using h)] at a;exact(lG (g:=g) (nb:=nb) (n:=1000) (t:=roots) EI).ge i (ξL a)
theorem J0 {g:Nat->Option (Ob S)} {nb:Nat} {roots:Γ}:nb<=(kept g nb roots).length:=by unfold kept;simp
theorem Mt {g:Nat->Option (Ob S)}: ∀ {l:Γ} {j:Nat},(fN g l)[j]? =(l[j]?).map g
 |[],j=>by simp[fN]
 |i::r,0=>by simp[fN]
 |i::r,j+1=>by simp[fN,Mt]
theorem EM: ∀ {h:AH S} {j:Nat},(eO ρ h)[j]? =(h[j]?).map (lL ρ)
 |[],j=>by simp[eO]
 |i::r,0=>by simp[eO]
 |i::r,j+1=>by simp[eO,EM]
theorem lK: ∀ {h:AH S},(eO ρ h).length=h.length
 |[]=>rfl
 |i::r=>by simp[eO,lK]
theorem nN {g:Nat->Option (Ob S)}: ∀ {l:Γ},(fN g l).length=l.length
 |[]=>rfl
 |i::r=>by simp[fN,nN]
theorem iF {h:AH S} {i:Nat} {X:Ob S}:av h i=some X↔h[i]? =some (some X):=by
 unfold av;split
 ·rename_i Y a;rw[a];simp
 ·rename_i hn;constructor
  ·intro h;cases h
  ·intro h;exact absurd h (hn X)
theorem qy {X:Option (Ob S)} {a:Ob S} (h:lL ρ X=some a): ∃Y,X=some Y/\Y.ca ρ=some a:=by
 cases X with
 |none=>cases h
 |some Y=>exact⟨Y,rfl,h⟩
theorem jB {g:Nat->Option (Ob S)} {l:Γ} {j:Nat} {a:Ob S} (h:av (eO ρ (fN g l)) j=some a): ∃i X,l[j]? =some i/\g i=some X/\X.ca ρ=some a:=by
 rw[iF,EM,Mt] at h;cases hl:l[j]? with
 |none=>rw[hl] at h;cases h
 |some i=>
  rw[hl] at h;simp only[ξx,ι] at h;obtain⟨Y,h1,b⟩:=qy h;exact⟨i,Y,rfl,h1,b⟩
theorem e_ {h:AH S} {i:Nat} {X:Ob S} (hi:av h i=some X):i<h.length:=(ε.1 (iF.1 hi)).1
end
section
variable {S:bh} {K:Kit S} {P:Program} {R:Type} {z:R}
def ep (P:Program) (f:Nat):Prop:= ∀(vs:Array Value) (u:World),(callFunc f vs).run P u= .ok (.enter f vs) u
def h7 (A:Pl) (O:Γ) (w:World):Rs S->Ending->Prop
 | .ret a,e=> ∃v,e= .returned v/\a.rel A O w v
 | .bq u,e=>e= .panicked [{v:=u,recovered:=false}]
structure rK (A:Pl) (O:Γ) (w:World) (n:Nat) (h':AH S) (dt:Γ) (A':Pl) (O':Γ) (w':World):Prop where
 rel:bI A' O' w' (av h')
 ob:OB O' w'
 tr:Tr O w O' w'
 pl: ∀i,i<n->A'.pl i=A.pl i
 lt: ∀j∈dt,j<n
 ls:A'.ls=A.ls
 len:n<=h'.length
 free: ∀i,h'.length<=i->A'.pl i=none
 cl: ∀b,b∈O->(∀i∈dt,∀p,A.pl i=some p->bR p≠some b)->w'.heap[b]? =w.heap[b]? /\b∈O'/\ ∀i X p,n<=i->av h' i=some X->A'.pl i=some p-> ¬cv w' X p b
 nt: ∀i X,i<n->av h' i=some X->X.nt=true
def dv (K:Kit S) (P:Program) (f:Nat) (aen:List (an S)) (h:AH S) (r:Rs S) (h':AH S) (dt:Γ):Prop:=ep P f/\ ∀(A:Pl) (O:Γ) (w:World) (xs:Γb),cy A O w aen xs->bI A O w (av h)->OB O w->cC K O w->(∀i,h.length<=i->A.pl i=none)->(∀i X,av h i=some X->X.nt=true)->Calls P f xs.toArray w (λe w'=> ∃A' O',h7 A' O' w' r e/\rK A O w h.length h' dt A' O' w')
def jP (K:Kit S) (P:Program) (a:Nat->List (an S)->AH S->(Rs S->AH S->Γ->Option R)->Option R):Prop:= ∀(f:Nat) (aen:List (an S)) (h:AH S) (k:Rs S->AH S->Γ->Option R) (z:R),a f aen h k=some z-> ∃r h' dt,k r h' dt=some z/\dv K P f aen h r h' dt
def FO (K:Kit S) (P:Program) (f:Nat) (aen:List (an S)) (g:Nat->Option (Ob S)) (nx:Nat) (r:Rs S) (up:Up S) (nw:AH S):Prop:=ep P f/\ ∀(A:Pl) (O:Γ) (w:World) (xs:Γb),cy A O w aen xs->bI A O w g->OB O w->cC K O w->(∀j,j<nw.length->A.pl (nx+j)=none)->Calls P f xs.toArray w (λe w'=> ∃A' O',h7 A' O' w' r e/\b5 A O w g (up++news nx nw) A' O' w')
def jG (b:Value->Up S->AH S->Option R) (k:AV S->Up S->AH S->Option R):Rs S->Up S->AH S->Option R
 | .ret a,up,nw=>k a up nw
 | .bq u,up,nw=>bif u.oneCell' then b u up nw else none
theorem iD {i n:Nat} {X:Option (Ob S)}: ∀ {nw:AH S},(i,X)∈news n nw↔ ∃j,nw[j]? =some X/\i=n+j:=by
 intro nw
 induction nw generalizing n with
 |nil=>simp[news]
 |cons Y r a=>
  simp only[news,τ,ξl,a];constructor
  ·rintro (⟨rfl,rfl⟩|⟨j,h1,rfl⟩)
   ·exact⟨0,rfl,rfl⟩
   ·exact⟨j+1,by simpa using h1,by omega⟩
  ·rintro ⟨j,h1,rfl⟩;cases j with
   |zero=>simp at h1;exact .inl ⟨rfl,h1.symm⟩
   |succ j=>exact .inr ⟨j,by simpa using h1,by omega⟩
theorem Fs {rs:Γ} {ρ:Nat->Option Nat} {h:AH S} {i:Nat} {X:Option (Ob S)}: ∀ {dt:Γ},(i,X)∈jM rs ρ h dt↔ ∃j∈dt,rs[j]? =some i/\X=lL ρ (av h j):=by
 intro dt
 induction dt with
 |nil=>simp[jM]
 |cons j r c=>
  simp only[jM];split
  ·rename_i e d;simp only[τ,ξl,c,exists_eq_or_imp,d,ι];constructor
   ·rintro (⟨rfl,rfl⟩|h)
    ·exact .inl ⟨rfl,rfl⟩
    ·exact .inr h
   ·rintro (⟨rfl,rfl⟩|h)
    ·exact .inl ⟨rfl,rfl⟩
    ·exact .inr h
  ·rename_i hn;rw[c];constructor
   ·rintro ⟨b,h1,a⟩;exact⟨b,μ _ h1,a⟩
   ·rintro ⟨b,h1,a⟩;rcases τ.1 h1 with rfl|h1
    ·rw[hn] at a;cases a.1
    ·exact⟨b,h1,a⟩
theorem ab6 {ρ:Nat->Option Nat} {h:AH S} {m j:Nat} {X:Option (Ob S)} (a:(eO ρ (h.drop m))[j]? =some X):m+j<h.length/\X=lL ρ (av h (m+j)):=by
 rw[EM,ζm] at a;cases b:h[m+j]? with
 |none=>rw[b] at a;cases a
 |some Y=>
  rw[b] at a;simp only[ξx,ι] at a;refine⟨(ε.1 b).1,?_⟩;subst a;unfold av;rw[b];cases Y<;>rfl
theorem Ib {aj:Nat->List (an S)->AH S->(Rs S->AH S->Γ->Option R)->Option R} (aL:jP K P aj) {f nx:Nat} {aen:List (an S)} {g:Nat->Option (Ob S)} {af:Value->Up S->AH S->Option R} {k:AV S->Up S->AH S->Option R}
  (h:sQ aj f aen g nx af k=some z): ∃r up nw,jG af k r up nw=some z/\FO K P f aen g nx r up nw:=by
 unfold sQ at h;obtain⟨rs,ax⟩: ∃rs,rs=reach g 0 1000 (jD aen) []:=⟨_,rfl⟩;have J:Reach g 0 rs:=by rw[ax];exact lG EI
 simp only[<-ax] at h;split at h
 ·cases h
 rename_i a8 has;obtain⟨r,h',dt,hk,aM,aF⟩:=aL _ _ _ _ _ h;obtain⟨y,aa⟩: ∃y:Nat->Option Nat,y=λj=>bif υ j rs.length then rs[j]? else some (nx+(j-rs.length)):=⟨_,rfl⟩;simp only[<-aa] at hk;obtain⟨ab,aQ,aZ⟩: ∃ab,jG af k ab (jM rs y h' dt) (eO y (h'.drop rs.length))=some z/\(∀(A1 A':Pl) (O':Γ) (w':World) (e:Ending),fT y A1 A'->h7 A1 O' w' r e->h7 A' O' w' ab e):=by
  cases r with
  |ret a=>
   simp only at hk;split at hk
   ·rename_i a' aI;exact⟨.ret a',hk,λA1 A' O' w' e J ⟨v,h1,d⟩=>⟨v,h1,AV.hD J aI d⟩⟩
   ·cases hk
  |bq u=>exact⟨.bq u,hk,λA1 A' O' w' e J h=>h⟩
 refine⟨ab,_,_,aQ,aM,λA O w xs aH ad hO aD M=>?_⟩;obtain⟨H,D⟩: ∃H:Pl,H=⟨λj=>(rs[j]?).bind A.pl,A.ls⟩:=⟨_,rfl⟩;have aE:fT (λi=>posOf i rs 0) A H:=⟨λi j p hi hp=>by
  have:=nP hi;rw[D];simp only[this,ξo];exact hp,by rw[D]⟩
 have hlen:(eO (λi=>posOf i rs 0) (fN (nD g) rs)).length=rs.length:=by rw[lK,nN]
 have aT: ∀j U,av (eO (λi=>posOf i rs 0) (fN (nD g) rs)) j=some U->U.nt=true:=λj U E=>by
  obtain⟨i,X,_,d,n⟩:=jB E;rw[Ob.vS n];exact(L0 d).2
 have aO:bI H O w (av (eO (λi=>posOf i rs 0) (fN (nD g) rs))):=
  ad.ca (idx:=λj=>rs[j]?) (ρ:=λi=>posOf i rs 0) (λj=>by rw[D]) (by rw[D]) (λi j bb h1 d=>u' J.nd h1 d) (λi j hi=>nP hi) (λj U E=>by
   obtain⟨i,X,h1,d,n⟩:=jB E;exact⟨i,X,h1,(L0 d).1,n⟩)
 refine(aF H O w xs (qx aE has aH) aO hO aD (λi hi=>by rw[hlen] at hi;rw[D];simp[ξg hi]) aT).mono ?_;rintro e w' ⟨A1,O1,aY,hp⟩;rw[hlen] at hp;obtain⟨nw,ae⟩: ∃nw,nw=eO y (h'.drop rs.length):=⟨_,rfl⟩;rw[<-ae] at M ⊢;have ba:nw.length=h'.length-rs.length:=by rw[ae,lK,ξn]
 obtain⟨A',N⟩: ∃A':Pl,A'=⟨λi=>match A.pl i with|some p=>some p|none=>bif ξH nx i&&υ i (nx+nw.length) then A1.pl (rs.length+(i-nx)) else none,A.ls⟩:=⟨_,rfl⟩;have hold: ∀i p,A.pl i=some p->A'.pl i=some p:=λi p hp=>by rw[N];simp[hp]
 have aC: ∀j,j<rs.length->A1.pl j=(rs[j]?).bind A.pl:=λj E=>by rw[hp.pl j E,D]
 have aS: ∀c p,rs.length<=c->A1.pl c=some p->A'.pl (nx+(c-rs.length))=some p:=by
  intro c p t B;have G:c<h'.length:=by
   rcases ω c h'.length with h1|h1
   ·exact h1
   ·rw[hp.free c h1] at B;cases B
  have aN:=M (c-rs.length) (by omega);rw[N];simp only[aN];rw[ζE.mpr (ξI _ _),ο.mpr (show nx+(c-rs.length)<nx+nw.length by omega)];simp only[Bool.and_self,cond_true];rw[show rs.length+(nx+(c-rs.length)-nx)=c by omega];exact B
 have Q:fT y A1 A':=⟨λc i p t B=>by
  rw[aa] at t;simp only at t;cases l:υ c rs.length with
  |true=>
   rw[l] at t;simp only[cond_true] at t;rw[aC c (ο.mp l),t] at B;exact hold i p B
  |false=>
   rw[l] at t;simp only[cond_false,ι] at t;subst t;refine aS c p ?_ B;rcases ω c rs.length with h1|h1
   ·rw[ο.mpr h1] at l;cases l
   ·exact h1,by rw[N];rw[hp.ls,D]⟩
 have cY: ∀i X,(i,X)∈jM rs y h' dt++news nx nw-> ∃c,y c=some i/\X=lL y (av h' c)/\((c<rs.length/\c∈dt/\rs[c]? =some i)\/(rs.length<=c/\i=nx+(c-rs.length)/\c-rs.length<nw.length)):=by
  intro i X hi;rcases ψ.1 hi with hi|hi
  ·obtain⟨c,h1,d,n⟩:=Fs.1 hi;have G:=(ε.1 d).1;exact⟨c,by rw[aa];simp only[ο.mpr G,cond_true];exact d,n,.inl ⟨G,h1,d⟩⟩
  ·obtain⟨j,h1,rfl⟩:=iD.1 hi;have a_:=(ε.1 h1).1;rw[ae] at h1;obtain⟨d,n⟩:=ab6 h1;refine⟨rs.length+j,?_,n,.inr ⟨by omega,by omega,by omega⟩⟩;rw[aa];have:υ (rs.length+j) rs.length=false:=by
    cases l:υ (rs.length+j) rs.length with
    |false=>rfl
    |true=>have:=ο.mp l;omega
   simp only[this,cond_false]
   congr 1;omega
 have live: ∀c i:Nat,rs[c]? =some i-> ∃Z p,g i=some Z/\A.pl i=some p:=by
  intro c i t;obtain⟨Z,L⟩:=J.al i (ξL t);obtain⟨p,hp,_⟩:=ad.al i Z L;exact⟨Z,p,L,hp⟩
 have inj: ∀c m i:Nat,y c=some i->y m=some i->((c<rs.length/\rs[c]? =some i)\/(rs.length<=c/\i=nx+(c-rs.length)/\c-rs.length<nw.length))->((m<rs.length/\rs[m]? =some i)\/(rs.length<=m/\i=nx+(m-rs.length)/\m-rs.length<nw.length))->c=m:=by
  rintro c m i _ _ (⟨h1,d⟩|⟨h1,d,n⟩) (⟨o,s⟩|⟨o,s,x⟩)
  ·exact u' J.nd d s
  ·obtain⟨Z,p,_,hp⟩:=live c i d;rw[s,M _ x] at hp;cases hp
  ·obtain⟨Z,p,_,hp⟩:=live m i s;rw[d,M _ n] at hp;cases hp
  ·omega
 have src: ∀ {c i:Nat},((c<rs.length/\c∈dt/\rs[c]? =some i)\/(rs.length<=c/\i=nx+(c-rs.length)/\c-rs.length<nw.length))->((c<rs.length/\rs[c]? =some i)\/(rs.length<=c/\i=nx+(c-rs.length)/\c-rs.length<nw.length)):=
  λh=>h.imp (λ⟨a,_,b⟩=>⟨a,b⟩) id
 refine⟨A',O1,aZ A1 A' O1 w' e Q aY,⟨⟨hold,by rw[N]⟩,hp.tr,hp.ob,?_,?_,?_,?_,?_,?_,?_⟩⟩
 ·intro b l hk;obtain⟨F,ag,_⟩:=hp.cl b l λc t p B=>by
   have G:=hp.lt c t;rw[D] at B;obtain⟨i,hi,W⟩:=ξX.1 B;exact hk i _ p (ξ9 _ (Fs.2 ⟨c,t,hi,rfl⟩)) W
  exact⟨F,ag⟩
 ·intro i X hi;obtain⟨c,h1,d,n⟩:=cY i _ hi;obtain⟨Y,C,I⟩:=qy d.symm;obtain⟨p,F,ag,bc⟩:=hp.rel.al c Y C;refine⟨p,Q.pl c i p h1 F,Ob.hD Q I ag,λb l=>?_⟩;have l:=Ob.lM I l;have aq:=hp.rel.gu C F l;refine⟨aq,?_⟩;rcases ω b w.heap.size with G|aP
  rotate_left
  ·exact .inl aP
  right;have aJ:b∈O:=by
   rcases Decidable.em (b∈O) with h|h
   ·exact h
   ·exact absurd aq (hp.tr.keep b G h).1
  rcases Classical.em (∀i∈dt,∀p,H.pl i=some p->bR p≠some b) with T|T
  ·obtain⟨_,_,aB⟩:=hp.cl b aJ T;rcases n with⟨o,s,x⟩|⟨o,s,x⟩
   ·exact absurd (e0 (hp.nt c Y o C) l) (T c s p (by rw[<-hp.pl c o];exact F))
   ·exact absurd l (aB c Y p o C F)
  ·simp only[Classical.not_forall,Decidable.not_not] at T;obtain⟨m,aK,q,aw,aX⟩:=T;rw[D] at aw;obtain⟨ay,ar,aV⟩:=ξX.1 aw;obtain⟨V,_,aG,_⟩:=live m ay ar;exact⟨ay,_,q,V,ξ9 _ (Fs.2 ⟨m,aK,ar,rfl⟩),aG,aV,.inl aX⟩
 ·intro i j X Y p q b aR hi E aU aW;obtain⟨c,h1,d,n⟩:=cY i _ hi;obtain⟨m,o,s,x⟩:=cY j _ E;obtain⟨ah,C,I⟩:=qy d.symm;obtain⟨ai,az,a1⟩:=qy s.symm;obtain⟨a6,F,_⟩:=hp.rel.al c ah C;obtain⟨a7,aA,_⟩:=hp.rel.al m ai az;have ak:=Q.pl c i a6 h1 F;have ao:=Q.pl m j a7 o aA;rw[aU] at ak;rw[aW] at ao;cases ak;cases ao;exact λu v=>hp.rel.gr c m ah ai p q b (λe=>aR (by subst e;rw[h1] at o;exact ξA o)) C az F aA (Ob.lM I u) (Ob.lM a1 v)
 ·intro i X Y hi E;obtain⟨c,h1,d,n⟩:=cY i _ hi;obtain⟨m,o,s,x⟩:=cY i _ E;have:=inj c m i h1 o (src n) (src x);subst this;rw[d,s]
 ·intro i X p hi W;obtain⟨c,h1,d,n⟩:=cY i _ hi;rcases n with⟨o,s,x⟩|⟨o,s,x⟩
  ·obtain⟨Z,_,L,_⟩:=live c i x;exact⟨Z,L⟩
  ·rw[s,M _ x] at W;cases W
 ·intro i;rw[N];cases hi:A.pl i with
  |some p=>left;simp[hi]
  |none=>
   simp only[hi];cases l:(ξH nx i&&υ i (nx+nw.length)) with
   |false=>left;rfl
   |true=>
    simp only[η] at l;have h1:=ξ5 l.1;have d:=ο.mp l.2;have G:i-nx<nw.length:=by omega
    exact .inr ⟨trivial,nw[i-nx],ξ7 _ (iD.2 ⟨i-nx,σ G,by omega⟩)⟩
 ·intro i X Z hi L hn;obtain⟨c,h1,d,n⟩:=cY i _ hi;obtain⟨Y,C,I⟩:=qy d.symm;rw[Ob.vS I];rcases n with⟨o,s,x⟩|⟨o,s,x⟩
  ·exact hp.nt c Y o C
  ·obtain⟨p,au,_⟩:=ad.al i Z L;rw[s,M _ x] at au;cases au
def eA (K:Kit S) (P:Program) (f:Nat) (aen:List (an S)) (r:Rs S):Prop:=ep P f/\ ∀(A:Pl) (O:Γ) (w:World) (xs:Γb),cy A O w aen xs->OB O w->cC K O w->Calls P f xs.toArray w (λe w'=>h7 A O w' r e/\Fr [] w w')
theorem LV.lj {A A':Pl} {O O':Γ} {w w':World} {l:LV S} {xs:Γb} (a:l.flat=true) (h:l.rel A O w xs):l.rel A' O' w' xs:=by
 cases l<;>first|exact h|cases a
theorem I4 {A A':Pl} {O O':Γ} {w w':World}: ∀ {ls:List (LV S)} {xs:Γb},ls.all LV.flat=true->bt A O w ls xs->bt A' O' w' ls xs
 |[],_,_,h=>h
 |l::ls,_,hp,⟨y,ys,h,h1,a⟩=>by
  simp only[ξB,η] at hp;exact⟨y,ys,h,LV.lj hp.1 h1,I4 hp.2 a⟩
theorem an.lj {A A':Pl} {O O':Γ} {w w':World} {a:an S} {x:Value} (b:a.flat=true) (h:a.rel A O w x):a.rel A' O' w' x:=by
 cases a with
 |one l=>exact LV.lj b h
 |agg ls=>obtain⟨xs,h1,c⟩:=h;exact⟨xs,h1,I4 b c⟩
theorem I3 {A A':Pl} {O O':Γ} {w w':World}: ∀ {ls:List (an S)} {xs:Γb},ls.all an.flat=true->cy A O w ls xs->cy A' O' w' ls xs
 |[],_,_,h=>h
 |l::ls,_,hp,⟨y,ys,h,h1,a⟩=>by
  simp only[ξB,η] at hp;exact⟨y,ys,h,an.lj hp.1 h1,I3 hp.2 a⟩
theorem AV.lj {A A':Pl} {O O':Γ} {w w':World} {a:AV S} {x:Value} (b:a.flat=true) (h:a.rel A O w x):a.rel A' O' w' x:=by
 cases a with
 |s l=>exact an.lj b h
 |bn ls=>obtain⟨xs,h1,c⟩:=h;exact⟨xs,h1,I3 b c⟩
theorem Xa {A:Pl} {O:Γ} {w w':World} {g:Nat->Option (Ob S)} {rs:Γ} (hO:OB O w) (hl: ∀r∈rs,∃Z,g r=some Z) (a:Fr [] w w'):b5 A O w g (fp rs) A (db A rs O) w' where
 le:=Pl.le.refl A
 tr:=(Tr.less eE).trans a.dU
 ob:=a.ob λb f=>hO b (eE b f)
 keep c d h:=⟨a.block c (hO c d) (by simp),hz.2 ⟨d,λr k p hp=>h r none p (d_.2 ⟨k,rfl⟩) hp⟩⟩
 al i Y h:=by have:=(d_.1 h).2;cases this
 dj i j Y Z q r c _ h:=by have:=(d_.1 h).2;cases this
 nd i Y Z h1 e:=(d_.1 h1).2.trans (d_.1 e).2.symm
 lv i Y q h _:=hl i (d_.1 h).1
 pl _:=.inl rfl
 nt i X Z h _ _:=by have:=(d_.1 h).2;cases this
theorem BM {A:Pl} {O:Γ} {w w':World} {g:Nat->Option (Ob S)} (hO:OB O w) (a:Fr [] w w'):b5 A O w g [] A O w':=
 ⟨Pl.le.refl A,a.dU,a.ob hO,λb c _=>⟨a.block b (hO b c) (by simp),c⟩,(λ_ _ h=>nomatch h),(λ_ _ _ _ _ _ _ _ h=>nomatch h),(λ_ _ _ h=>nomatch h),(λ_ _ _ h=>nomatch h),(λ_=>.inl rfl),(λ_ _ _ h=>nomatch h)⟩
theorem Jj {g:Nat->Option (Ob S)} {l l':LV S} {rs:Γ} (h:iw K g l=some (l',rs)): ∀r∈rs,∃e xs,g r=some (.row e xs):=by
 intro r a;cases l with
 |own c=>
  simp only[iw] at h;split at h
  rotate_left
  ·cases h
  rename_i e ys b;split at h
  ·cases h;simp at a;subst a;exact⟨e,ys,b⟩
  ·cases h
 |v u=>cases h;cases a
 |aH t x=>cases h;cases a
 |ptr t x q=>cases h;cases a
 |bG k n gs=>cases h;cases a
 |cS n gs=>cases h;cases a
 |_=>cases h
theorem Jm {g:Nat->Option (Ob S)}: ∀ {ls i:List (LV S)} {rs:Γ},kd K g ls=some (i,rs)-> ∀r∈rs,∃e xs,g r=some (.row e xs)
 |[],_,_,h,r,c=>by cases h;cases c
 |l::ls,_,_,h,r,c=>by
  simp only[kd] at h;split at h
  ·rename_i l' a d;split at h
   ·rename_i j b f;cases h;rcases ψ.1 c with c|c
    ·exact Jj d r c
    ·exact Jm f r c
   ·cases h
  ·cases h
theorem Jh {g:Nat->Option (Ob S)}: ∀ {ls j:List (an S)} {rs:Γ},ir K g ls=some (j,rs)-> ∀r∈rs,∃e xs,g r=some (.row e xs)
 |[],_,_,h,r,d=>by cases h;cases d
 |l::ls,_,_,h,r,d=>by
  simp only[ir] at h;split at h
  ·rename_i l' a c;split at h
   ·rename_i m b i;cases h;rcases ψ.1 d with d|d
    ·cases l with
     |one l0=>
      simp only[js] at c;split at c
      ·rename_i x y f;cases c;exact Jj f r d
      ·cases c
     |agg k=>
      simp only[js] at c;split at c
      ·rename_i x y f;cases c;exact Jm f r d
      ·cases c
    ·exact Jh i r d
   ·cases h
  ·cases h
section
variable {G:bE S} {A:Pl} {O:Γ} {w w':World} {g:Nat->Option (Ob S)} {rs:Γ}
theorem XU (c:bU G.K P) (d:bI A O w g) {l:LV S} {xs:Γb} (h:l.rel A O w xs):(lk G g rs l).rel A (db A rs O) w xs:=by
 have same:l.rel A (db A rs O) w xs:=h.tr (Tr.less eE) (Pl.le.refl A);unfold lk;split
 ·rename_i r;cases hm:dy r rs
  ·exact same
  ·simp only[cond_true];split
   ·rename_i l' a hl;refine(Cq c d (all:=rs) hl h λf b=>?_).1;have e:a=[r]:=by
     simp only[iw] at hl;split at hl
     rotate_left
     ·cases hl
     split at hl<;>cases hl;rfl
    subst e;simp at b;subst b;exact gB.1 hm
   ·exact same
 ·exact same
theorem I' (a:bU G.K P) (b:bI A O w g): ∀ {ls:List (LV S)} {xs:Γb},bt A O w ls xs->bt A (db A rs O) w (ls.map (lk G g rs)) xs
 |[],_,h=>h
 |_::_,_,⟨y,ys,h,h1,c⟩=>⟨y,ys,h,XU a b h1,I' a b c⟩
theorem mW {i:Nat} {X:Option (Ob S)}: ∀ {l:Γ},(i,X)∈iq G g rs l-> ∃a cs,g i=some (.box a cs)/\X=some (.box a (cs.map (lk G g rs)))
 |[],h=>by cases h
 |j::t,h=>by
  simp only[iq] at h;split at h
  ·rename_i a cs c;cases b:Jz rs cs<;>rw[b] at h
   ·exact mW h
   ·rcases τ.1 h with e|h
    ·cases e;exact⟨a,cs,c,rfl⟩
    ·exact mW h
  ·exact mW h
theorem W' (F:bU G.K P) (u:bI A O w g) (hO:OB O w) (B: ∀r∈rs,∃e xs,g r=some (.row e xs)) (t:Fr [] w w') {l:Γ}:b5 A O w g (iq G g rs l++fp rs) A (db A rs O) w':=by
 have C:Tr (db A rs O) w (db A rs O) w':=t.dU;have bx: ∀ {i:Nat} {X:Ob S},(i,some X)∈iq G g rs l++fp rs-> ∃a cs b vs,g i=some (.box a cs)/\X= .box a (cs.map (lk G g rs))/\A.pl i=some (.pointer (some ⟨b,0,none⟩))/\bz w b a vs/\bt A O w cs vs/\b∈O:=by
  intro i X hi;rcases ψ.1 hi with hi|hi
  ·obtain⟨a,cs,h1,n⟩:=mW hi;cases n;obtain⟨p,hp,⟨b,vs,rfl,k,o⟩,x⟩:=u.al i _ h1;exact⟨a,cs,b,vs,h1,rfl,hp,k,o,x b rfl⟩
  ·have:=(d_.1 hi).2;cases this
 refine⟨Pl.le.refl A,(Tr.less eE).trans C,λb x=>Nat.lt_of_lt_of_le (hO b (eE b x)) t.size,λc m h=>⟨t.block c (hO c m) (by simp),hz.2 ⟨m,λr y p hp=>h r none p (ξ7 _ (d_.2 ⟨y,rfl⟩)) hp⟩⟩,?_,?_,?_,?_,λ_=>.inl rfl,?_⟩
 ·intro i X hi;obtain⟨a,cs,b,vs,h1,rfl,k,o,v,s⟩:=bx hi;have H:b∈db A rs O:=hz.2 ⟨s,λr y p hp J=>by
   obtain⟨e,xs,z⟩:=B r y;exact u.dj i r _ _ _ _ b (λE=>by subst E;rw[h1] at z;cases z) h1 z k hp rfl J⟩
  refine⟨_,k,⟨b,vs,rfl,(t.block b (hO b s) (by simp)).trans o,jE C (Pl.le.refl A) (I' F u v)⟩,λc m=>?_⟩;have m:=e0 rfl m;cases m;exact⟨H,.inr ⟨i,_,_,_,hi,h1,k,.inl rfl⟩⟩
 ·intro i j X Y p q b I h1 n k o v s;obtain⟨_,_,_,_,d,rfl,a3,_⟩:=bx h1;obtain⟨_,_,_,_,f,rfl,L,_⟩:=bx n;exact u.dj i j _ _ p q b I d f k o (e0 rfl v) (e0 rfl s)
 ·intro i X Y h1 n;have D: ∀ {X:Option (Ob S)},(i,X)∈iq G g rs l++fp rs->(∃a cs,g i=some (.box a cs)/\X=some (.box a (cs.map (lk G g rs))))\/((∃e xs,g i=some (.row e xs))/\X=none):=λ{X} h=>by
   rcases ψ.1 h with h|h
   ·exact .inl (mW h)
   ·exact .inr ⟨B i (d_.1 h).1,(d_.1 h).2⟩
  rcases D h1 with⟨a,cs,d,rfl⟩|⟨⟨e,xs,d⟩,rfl⟩<;>rcases D n with⟨Q,M,f,rfl⟩|⟨⟨N,R,f⟩,rfl⟩
  ·rw[d] at f;cases f;rfl
  ·rw[d] at f;cases f
  ·rw[d] at f;cases f
  ·rfl
 ·intro i X p h1 _;rcases ψ.1 h1 with h1|h1
  ·obtain⟨a,cs,d,_⟩:=mW h1;exact⟨_,d⟩
  ·obtain⟨e,xs,d⟩:=B i (d_.1 h1).1;exact⟨_,d⟩
 ·intro i X Z h1 _ _;obtain⟨_,_,_,_,_,rfl,_⟩:=bx h1;rfl
end
structure jQ (G:bE S) (P:Program):Prop where
 C: ∀f a,tA G.C f=some a-> ∀ {R:Type} (aen:List (an S)) (k:Rs S->Option R) (z:R),aen.all an.pure=true->a.out aen k=some z-> ∃r,k r=some z/\eA G.K P f aen r
theorem Uc {G:bE S} (q:bU G.K P) (M:jQ G P) {E:Nat->List (an S)->AH S->(Rs S->AH S->Γ->Option R)->Option R} (H:jP G.K P E) {f nx:Nat} {aen:List (an S)} {g:Nat->Option (Ob S)} {J:Value->Up S->AH S->Option R} {k:AV S->Up S->AH S->Option R}
  (h:Bi G E f aen g nx J k=some z): ∃r up nw,jG J k r up nw=some z/\FO G.K P f aen g nx r up nw:=by
 unfold Bi at h;split at h
 ·rename_i L N;split at h
  ·rename_i D rs o;have T:D.all an.pure=true:=by
    exact Jg o
   obtain⟨r,hk,t,s⟩:=M.C f L N D _ z T h;cases r with
   |ret a=>
    simp only at hk;cases hp:a.pure<;>rw[hp] at hk
    ·cases hk
    simp only[cond_true] at hk;cases I:a.flat<;>rw[I] at hk
    ·simp only[cond_false] at hk;cases Q:dy f G.F<;>rw[Q] at hk
     ·refine⟨.ret a,fp rs,[],hk,t,λA O w xs j c hO i y=>?_⟩;obtain⟨n,B,x⟩:=lq q c (all:=rs) o j (λr m=>m);refine(s A (db A rs O) w xs n (λb l=>hO b (eE b l)) (i.tr (Tr.less eE))).mono ?_;rintro e w' ⟨⟨v,h1,p⟩,d⟩;exact⟨A,db A rs O,⟨v,h1,p⟩,by simpa[news] using Xa hO x d⟩
     ·refine⟨.ret a,iq G g rs (ξs nx)++fp rs,[],hk,t,λA O w xs j c hO i y=>?_⟩;obtain⟨n,B,x⟩:=lq q c (all:=rs) o j (λr m=>m);refine(s A (db A rs O) w xs n (λb l=>hO b (eE b l)) (i.tr (Tr.less eE))).mono ?_;rintro e w' ⟨⟨v,h1,p⟩,d⟩;exact⟨A,db A rs O,⟨v,h1,p⟩,by simpa[news] using W' q c hO (Jh o) d⟩
    ·refine⟨.ret a,[],[],hk,t,λA O w xs j c hO i y=>?_⟩;obtain⟨n,B,x⟩:=lq q c (all:=rs) o j (λr m=>m);refine(s A (db A rs O) w xs n (λb l=>hO b (eE b l)) (i.tr (Tr.less eE))).mono ?_;rintro e w' ⟨⟨v,h1,p⟩,d⟩;exact⟨A,O,⟨v,h1,AV.lj I p⟩,BM hO d⟩
   |bq u=>
    refine⟨.bq u,[],[],hk,t,λA O w xs j c hO i y=>?_⟩;obtain⟨n,B,x⟩:=lq q c (all:=rs) o j (λr m=>m);refine(s A (db A rs O) w xs n (λb l=>hO b (eE b l)) (i.tr (Tr.less eE))).mono ?_;rintro e w' ⟨h1,d⟩;exact⟨A,O,h1,BM hO d⟩
  ·exact Ib H h
 ·exact Ib H h
theorem Uf {rr:Option Nat} {n f:Nat} {args:Array Value} {w:World} {Q b:Ending->World->Prop} (h:Calls P f args w Q) (d: ∀e w',Q e w'->b e w'):CallsIn (fw rr) n P f args w b:=by
 refine⟨trivial,λcs _=>?_⟩;obtain⟨e,b2,fr,i,a,c,hl⟩:=h cs;refine⟨e,b2,fr,d e b2 i,?_,c,hl⟩;cases e with
 |outgrown=>exact a
 |returned v=>
  refine ζM (λm _=>?_) (ζx a);intro g _;exact⟨λh=>by simp[fw] at h,Or.inl trivial,λ_ _=>trivial,λ_ h=>by simp[fw] at h⟩
 |panicked j=>
  refine ζM (λm _=>?_) (ζx a);intro g _;exact⟨λh=>by simp[fw] at h,Or.inl trivial,λ_ _=>trivial,λ_ h=>by simp[fw] at h⟩
theorem aah {rr:Option Nat} {o:Oper} {a:Act} {w:World} {f:Nat} {args:Array Value} {post bq:Value->World->Prop} {Q:Ending->World->Prop} (b: ∀c,o.op≠ .defer c) (i:(execOp a.eval o).run P w= .ok (.enter f args) w) (d:Calls P f args w Q)
  (h: ∀e w',Q e w'->(∃v,e= .returned v/\post v w')\/(∃u,e= .panicked [{v:=u,recovered:=false}]/\bq u w')):h6 P rr o a w post bq:=by
 refine⟨λ_ _=>trivial,?_⟩;rw[ζn _ _ _ b,i,Oper.uponIn_enter];refine⟨λh=>by simp[fw] at h,Uf d λe w' g=>?_⟩;rcases h e w' g with⟨v,rfl,h1⟩|⟨u,rfl,h1⟩
 ·exact⟨v,rfl,h1⟩
 ·exact⟨u,rfl,rfl,h1⟩
theorem acj {o:Oper} {c:ζ8} {x:Operand} {a:Act} {w:World} {f:Nat} {fs cs:Γb} (e:o.op= .call c) (d:c.callee= .value x) (g:a.eval x= .func (.func f) fs.toArray cs.toArray) (he:ep P f):
  (execOp a.eval o).run P w= .ok (.enter f (fs++c.args.toList.map a.eval++cs).toArray) w:=by
 unfold execOp;rw[e];have b:fs.toArray++c.args.map a.eval++cs.toArray=(fs++c.args.toList.map a.eval++cs).toArray:=by
  rw[<-ζw];simp
 simp only[ξ,resolve,d,g,ζ0,ξh,π,invoke];rw[b];exact he _ w
theorem kJ {F:Fence} {n:Nat} {o:Oper} {a:Act} {w:World} {X g:Act->World->Prop} {Q f:Exit->Act->World->Prop} (h: ∀a w,X a w->g a w) (c: ∀e a w,Q e a w->f e a w) (j:o.wpIn F n P a w X Q):o.wpIn F n P a w g f:=by
 obtain⟨h1,b⟩:=j;refine⟨h1,?_⟩;unfold Oper.uponIn at b ⊢;split at b
 ·exact h _ _ b
 ·exact h _ _ b
 ·exact h _ _ b
 ·refine⟨b.1,b.2.1,λcs k=>?_⟩;obtain⟨e,w',fr,d,l⟩:=b.2.2 cs k;refine⟨e,w',fr,?_,l⟩;cases e with
  |returned v=>exact h _ _ d
  |panicked i=>exact c _ _ _ d
  |outgrown=>obtain⟨a',w',q⟩:=d;exact⟨a',w',c _ _ _ q⟩
 ·exact⟨b.1,b.2.mono λv w' q=>h _ _ q⟩
 ·refine⟨b.1,b.2.mono λe w' q=>?_⟩;cases e with
  |returned v=>exact h _ _ q
  |panicked i=>exact c _ _ _ q
  |outgrown=>obtain⟨a',w',q⟩:=q;exact⟨a',w',c _ _ _ q⟩
 ·exact c _ _ _ b
 ·exact b
theorem h6.mono {rr:Option Nat} {o:Oper} {a:Act} {w:World} {post d bq c:Value->World->Prop} (h:h6 P rr o a w post bq) (h1: ∀v w',post v w'->d v w') (j: ∀v w',bq v w'->c v w'):h6 P rr o a w d c:=
 kJ (λa' w' ⟨v,e,k⟩=>⟨v,e,h1 v w' k⟩) (λe a' w' b=>by
  cases e with
  |panic l=>obtain⟨u,f,g,i⟩:=b;exact⟨u,f,g,j u w' i⟩
  |_=>exact b.elim) h
def sF (K:Kit S) (P:Program) (o:Oper) (env:aP S) (g:Nat->Option (Ob S)) (nx:Nat) (r:Rs S) (up:Up S) (nw:AH S):Prop:= ∀(rr:Option Nat) (A:Pl) (O:Γ) (w:World) (a:Act),cF A O w env a->bI A O w g->OB O w->cC K O w->(∀j,j<nw.length->A.pl (nx+j)=none)->h6 P rr o a w (λv w'=> ∃b,r= .ret b/\ ∃A' O',b.rel A' O' w' v/\b5 A O w g (up++news nx nw) A' O' w') (λu w'=>r= .bq u/\ ∃A' O',b5 A O w g (up++news nx nw) A' O' w')
theorem Sound.r {rr:Option Nat} {o:Oper} {env:aP S} {g:Nat->Option (Ob S)} {nx:Nat} {b:AV S} {up:Up S} {nw:AH S} (h:Sound K P rr o env g nx b up nw):sF K P o env g nx (.ret b) up nw:=λrr A O w a h1 c d e f=>by
 exact(h rr A O w a h1 c d e f).mono (λv w' i=>⟨b,rfl,i⟩) (λu w' hu=>hu.elim)
theorem L8 {G:bE S} (t:bU G.K P) (L:jQ G P) {s:Nat->List (an S)->AH S->(Rs S->AH S->Γ->Option R)->Option R} (N:jP G.K P s) {o:Oper} {env:aP S} {g:Nat->Option (Ob S)} {nx:Nat} {q:Value->Up S->AH S->Option R} {k:AV S->Up S->AH S->Option R}
  (h:nH G s env g nx o q k=some z): ∃r up nw,jG q k r up nw=some z/\sF G.K P o env g nx r up nw:=by
 have F:qg G.K env g nx k o.type o.op=some z-> ∃r up nw,jG q k r up nw=some z/\sF G.K P o env g nx r up nw:=λh=>by
  obtain⟨d,up,nw,h1,n⟩:=ZJ (rr:=none) t h;exact⟨.ret d,up,nw,h1,n.r⟩
 unfold nH at h;split at h
 ·rename_i c C;split at h
  ·rename_i x E;split at h
   rotate_left
   ·cases h
   rename_i f aen b;obtain⟨r,up,nw,h1,Q,n⟩:=Uc t L N h;refine⟨r,up,nw,h1,λrr A O w a he B hO j V=>?_⟩;have M: ∀c,o.op≠ .defer c:=λc=>by rw[C];simp
   have key: ∀(fs cs:Γb),a.eval x= .func (.func f) fs.toArray cs.toArray->cy A O w aen (fs++c.args.toList.map a.eval++cs)->h6 P rr o a w (λv w'=> ∃d,r= .ret d/\ ∃A' O',d.rel A' O' w' v/\b5 A O w g (up++news nx nw) A' O' w') (λu w'=>r= .bq u/\ ∃A' O',b5 A O w g (up++news nx nw) A' O' w'):=by
    intro fs cs T X;refine aah M (acj C E T Q) (n A O w _ X B hO j V) ?_;rintro e w' ⟨A',O',D,y⟩;cases r with
    |ret d=>
     obtain⟨v,rfl,l⟩:=D;exact .inl ⟨v,rfl,d,rfl,A',O',l,y⟩
    |bq u=>exact .inr ⟨u,D,rfl,A',O',y⟩
   unfold Ic at b;rw[E] at b;simp only at b;split at b
   ·rename_i i hi;split at b
    rotate_left
    ·cases b
    rename_i I fs cs W;split at b
    rotate_left
    ·cases b
    rename_i H has;cases b;obtain⟨f1,ab,c1,J,l⟩:=b0 he j hi;obtain⟨p,hp,⟨us,vs,rfl,Y,Z⟩,_⟩:=B.al i _ W;rw[J] at hp;cases hp;exact key us vs (by simpa using l) (EK (EK Y (k1 he j has)) Z)
   ·rename_i u U;split at b
    rotate_left
    ·cases b
    rename_i I fs cs;cases m:(ζ fs.size 0&&ζ cs.size 0)<;>rw[m] at b
    ·cases b
    simp only[cond_true] at b;split at b
    rotate_left
    ·cases b
    rename_i H has;cases b;simp only[η] at m;have aa:=ξG (δ m.1);have z2:=ξG (δ m.2);subst aa;subst z2;have l:=ed (b0 he j U);refine key [] [] l ?_;simpa using k1 he j has
   ·cases b
  ·exact F h
 ·cases h
 ·exact F h
end
structure cI where
 A0:Pl
 O0:Γ
 w0:World
 nb:Nat
 live:Nat->Prop
 ex:Option Nat
 rr:Option Nat
def AX.code:AX->Option Code
 | .exit id=>some (.exit id)
 | .ret=>some .ret
 |_=>none
def Dk:Obj->Bool
 | .loop _=>true
 | .deferred _=>true
 |_=>false
section
variable {S:bh} {K:Kit S} {P:Program} {N:Nat} {A A':Pl} {O O':Γ} {w w':World}
def eg (O:Γ) (w:World) (l:Nat) (o:Obj):Prop:=Rec w l o/\Dk o=true/\l∈O
theorem dd.vg {X:Ob S} {p:Value} {l:Nat} {o:Obj} (h:dd A O w X p) (hl:w.heap[l]? =some o) (a:Dk o=true):bR p≠some l:=by
 intro hp;cases X with
 |box t cs=>
  obtain⟨b,vs,rfl,h1,_⟩:=h;cases hp;unfold bz at h1;rw[hl] at h1;cases h1;cases a
 |row e xs=>
  rcases gZ h with⟨rfl,_⟩|⟨b,c,rfl⟩
  ·cases hp
  ·cases hp;obtain⟨cs,cur,h1,_⟩:=qp h;rw[hl] at h1;cases h1;cases a
 |map d g m=>
  obtain⟨b,rfl,es,c,h1,_⟩:=h;cases hp;rw[hl] at h1;cases h1;cases a
 |aM f fs cs=>obtain⟨us,vs,rfl,_⟩:=h;cases hp
 |cP s pos=>
  obtain⟨b,rfl,h1⟩:=h;cases hp;rw[hl] at h1;cases h1;cases a
 |cu t e bD=>
  obtain⟨b,c,cur,rfl,h1,_⟩:=h;cases hp;rw[hl] at h1;cases h1;cases a
theorem dd.ZG {X:Ob S} {p:Value} {l:Nat} {o:Obj} (h:dd A O w X p) (hl:w.heap[l]? =some o) (g:Dk o=true): ¬cv w X p l:=by
 rintro (hp|hp)
 ·exact h.vg hl g hp
 ·cases X with
  |cu t e bD=>
   obtain⟨b,c,cur,rfl,h1,_,_,_,_,_,q,_⟩:=h;obtain⟨r,s,t',x,j,u,xs,k,a,m,n,f⟩:=hp;cases k;rw[h1] at a;cases a;have hu:=(q j u xs m n).1;rcases gZ hu with⟨rfl,_⟩|⟨d,v,rfl⟩
   ·cases f
   ·cases f;obtain⟨cs,y,i,_⟩:=qp hu;rw[hl] at i;cases i;cases g
  |_=>cases hp
theorem eg.b6 {g:Nat->Option (Ob S)} {ef:Up S} {l:Nat} {o:Obj} (h:eg O w l o) (j:bI A O w g) (e:b5 A O w g ef A' O' w'):eg O' w' l o:=by
 obtain⟨h1,a,c⟩:=h;obtain⟨k,m⟩:=e.keep l c λi X p hi hp=>by
  obtain⟨Z,f⟩:=e.lv i X p hi hp;obtain⟨n,b,d,_⟩:=j.al i Z f;rw[hp] at b;cases b;exact d.vg h1.1 a
 exact⟨⟨k.trans h1.1,h1.2⟩,a,m⟩
def cW (n0:Nat) (A:Pl) (O:Γ) (w:World):List (LV S)->List Deferred->Prop
 |df,[]=>df=[]
 |df,d::ds=>(∃D,d=Dc.mark D/\(n0<=D/\Dc.mark D∉ds)/\eg O w D (.deferred (some []))/\cW n0 A O w df ds)\/
  (∃i r f u c,df= .aM i::r/\A.pl i=some (.func f u c)/\d= {target:=.fn f c,args:=u}/\cW n0 A O w r ds)
def ek (a:g' S) (fn:Nat) (tm:Array Value) (D:Nat):Loop:=
 {state:=(match a.fa with|none=>.ready|some _=>.done),pending:=a.fa.bind AX.code,fn:=fn,tmps:=tm,params:=a.ps.toArray,assign:=a.gn,body:=a.body,defers:=D}
def iW (P:Program) (B:cI) (O:Γ) (w:World):Option (g' S)->Prop
 |none=>True
 |some a=> ∃l fn tm D,B.A0.ls=some l/\B.ex=some l/\eg O w l (.loop (ek a fn tm D))/\eg O w D (.deferred (some []))/\cF B.A0 O w a.env {tmps:=tm,defers:=[]}/\tm.size=a.J.fn.ntmps
structure bg (K:Kit S) (P:Program) (N:Nat) (B:cI) (A:Pl) (O:Γ) (w:World) (st:AS S) (a:Act):Prop where
 size:a.tmps.size=N
 env:cF A O w st.env a
 rel:bI A O w (av st.h)
 ob:OB O w
 cZ:cC K O w
 free: ∀i,st.h.length<=i->A.pl i=none
 nb:st.nb=B.nb
 le:B.nb<=st.h.length
 tr:Tr B.O0 B.w0 O w
 pl: ∀i,i<B.nb->A.pl i=B.A0.pl i
 ls:A.ls=B.A0.ls
 lv: ∀i X,i<B.nb->av st.h i=some X->B.live i
 cl: ∀b,b∈B.O0->B.ex≠some b->(∀i∈st.dt,B.live i-> ∀p,B.A0.pl i=some p->bR p≠some b)->w.heap[b]? =B.w0.heap[b]? /\b∈O/\ ∀i X p,B.nb<=i->av st.h i=some X->A.pl i=some p-> ¬cv w X p b
 df:cW B.w0.heap.size A O w st.df a.defers
 lp:iW P B O w st.lp
 dl:(st.lp.isSome||st.inr)=true->a.defers=[]
 hi: ∀i,B.nb<=i->B.A0.pl i=none
 o0:OB B.O0 B.w0
 rr:st.inr=false->B.rr=none
 nt: ∀i X,i<B.nb->av st.h i=some X->X.nt=true
theorem cW.b6 {n0:Nat} {g:Nat->Option (Ob S)} {ef:Up S} (j:bI A O w g) (e:b5 A O w g ef A' O' w'): ∀ {ds:List Deferred} {df:List (LV S)},cW n0 A O w df ds->cW n0 A' O' w' df ds
 |[],df,h=>h
 |d::ds,df,h=>by
  rcases h with⟨D,h1,k,a,b⟩|⟨i,r,f,u,c,h1,a,b,l⟩
  ·exact .inl ⟨D,h1,k,a.b6 j e,cW.b6 j e b⟩
  ·exact .inr ⟨i,r,f,u,c,h1,e.le.at_ _ _ a,b,cW.b6 j e l⟩
theorem iW.b6 {B:cI} {g:Nat->Option (Ob S)} {ef:Up S} (a:bI A O w g) (e:b5 A O w g ef A' O' w'): ∀ {lp:Option (g' S)},iW P B O w lp->iW P B O' w' lp
 |none,h=>h
 |some j,⟨l,fn,tm,D,h1,b,c,d,f,i⟩=>⟨l,fn,tm,D,h1,b,c.b6 a e,d.b6 a e,f.tr e.tr (Pl.le.refl _),i⟩
theorem jh {nb x:Nat}: ∀ {l dt:Γ},x∈dt->x∈eZ nb dt l
 |[],dt,h=>h
 |i::r,dt,h=>by
  simp only[eZ];refine jh ?_;cases (υ i nb&&!(dy i dt)) with
  |true=>exact ξ9 _ h
  |false=>exact h
theorem j6 {nb x:Nat} (a:x<nb): ∀ {l dt:Γ},x∈l->x∈eZ nb dt l
 |i::r,dt,h=>by
  simp only[eZ];rcases τ.1 h with e|h
  ·subst e;refine jh ?_;rw[ο.mpr a,ξW];cases hm:dy x dt with
   |true=>exact gB.1 hm
   |false=>exact ξ7 _ ν
  ·exact j6 a h
theorem iM: ∀ {up:Up S} {h:AH S},(en h up).length=h.length
 |[],h=>rfl
 |(i,X)::r,h=>by simp[en,iM]
theorem Ou: ∀ {up:Up S} {h:AH S} {i:Nat},(∀j∈keys up,j<h.length)->i<h.length->av (en h up) i=bV (av h) up i
 |[],h,i,_,_=>rfl
 |(j,X)::r,h,i,hk,hi=>by
  have c:=hk j (by simp[keys]);rw[en,Ou (λq a=>by rw[ξf];exact hk q (by simp[keys,a])) (by rw[ξf];exact hi)];simp only[bV]
  congr 1
  funext q
  unfold av;rw[ξD]
  by_cases a:j=q
  ·subst a;simp[c];cases X<;>rfl
  ·have d:ζ j q=false:=by
    cases b:ζ j q with
    |false=>rfl
    |true=>exact absurd (δ b) a
   simp[a,d]
theorem ng {i:Nat}: ∀ {up:Up S},i∈keys up↔ ∃X,(i,X)∈up
 |[]=>by simp[keys]
 |(j,X)::r=>by
  simp only[keys,τ,ng,ξl];constructor
  ·rintro (rfl|⟨Y,h⟩)
   ·exact⟨X,.inl ⟨rfl,rfl⟩⟩
   ·exact⟨Y,.inr h⟩
  ·rintro ⟨Y,⟨rfl,rfl⟩|h⟩
   ·exact .inl rfl
   ·exact .inr ⟨Y,h⟩
theorem O2 {g:Nat->Option (Ob S)}: ∀ {u v:Up S},bV g (u++v)=bV (bV g u) v
 |[],v=>rfl
 |(j,X)::r,v=>by
  funext i
  simp only[ζ1,bV];rw[O2]
theorem ZA {n:Nat} {nw:AH S} {i:Nat} {X Y:Option (Ob S)} (h1:(i,X)∈news n nw) (c:(i,Y)∈news n nw):X=Y:=by
 obtain⟨j,b,a2⟩:=iD.1 h1;obtain⟨d,a,e⟩:=iD.1 c;have:j=d:=by omega
 subst this;rw[b] at a;exact ξA a
theorem s3 {h:AH S} {up:Up S} {nw:AH S} (hk: ∀j∈keys up,j<h.length):av (en h up++nw)=bV (av h) (up++news h.length nw):=by
 funext i
 rw[O2]
 by_cases hi: ∃X,(i,X)∈news h.length nw
 ·obtain⟨X,a⟩:=hi;rw[lX a λY d=>ZA d a];obtain⟨j,h1,rfl⟩:=iD.1 a;unfold av;rw[ξb (by rw[iM];omega),iM,ξV,h1];cases X<;>rfl
 ·rw[ec (λX a=>hi ⟨X,a⟩)];rcases ω i h.length with b|e
  ·rw[<-Ou hk b];unfold av;rw[φ (by rw[iM];exact b)]
  ·have hn:(en h up++nw)[i]? =none:=by
    rw[ξb (by rw[iM];omega),iM,ξS];rcases ω (i-h.length) nw.length with h1|h1
    ·exact absurd ⟨nw[i-h.length],iD.2 ⟨i-h.length,σ h1,by omega⟩⟩ hi
    ·exact h1
   have c:av h i=none:=by unfold av;rw[ξg e]
   rw[ec (λX a=>by have:=hk i (ng.2 ⟨X,a⟩);omega),c];unfold av;rw[hn]
theorem kY {h:AH S} {up:Up S} (a:eW (av h) up=true): ∀j∈keys up,∃X,av h j=some X:=by
 intro j b;unfold eW at a;rw[ξ4] at a;have:=a j b;cases c:av h j with
 |none=>rw[c] at this;cases this
 |some X=>exact⟨X,rfl⟩
variable {B:cI} {st:AS S} {a:Act}
theorem bg.b6 {up:Up S} {nw:AH S} (h:bg K P N B A O w st a) (m:eW (av st.h) up=true) (e:b5 A O w (av st.h) (up++news st.h.length nw) A' O' w'):bg K P N B A' O' w' (st.b6 up nw) a:=by
 have hk: ∀j∈keys up,j<st.h.length:=λj n=>by
  obtain⟨X,d⟩:=kY m j n;exact e_ d
 have t:=s3 (nw:=nw) hk;have hlen:(en st.h up++nw).length=st.h.length+nw.length:=by rw[χ,iM]
 have v: ∀i X,(i,X)∈up++news st.h.length nw->i∈keys up\/st.h.length<=i:=by
  intro i X hi;rcases ψ.1 hi with hi|hi
  ·exact .inl (ng.2 ⟨X,hi⟩)
  ·obtain⟨j,_,rfl⟩:=iD.1 hi;exact .inr (ξI _ _)
 have low: ∀i,i<st.h.length->A'.pl i=A.pl i:=by
  intro i hi;rcases e.pl i with h1|⟨h1,X,d⟩
  ·exact h1
  ·rcases v i X d with r|r
   ·obtain⟨Y,f⟩:=kY m i r;obtain⟨p,hp,_⟩:=h.rel.al i Y f;rw[h1] at hp;cases hp
   ·omega
 have E:=h.rel.b6 h.ob e;rw[<-t] at E;refine⟨h.size,h.env.tr e.tr e.le,E,e.ob,h.cZ.tr e.tr,?_,h.nb,?_,h.tr.trans e.tr,?_,e.le.ls.trans h.ls,?_,?_,cW.b6 h.rel e h.df,iW.b6 h.rel e h.lp,h.dl,h.hi,h.o0,h.rr,?_⟩
 ·intro i hi;have hi:st.h.length+nw.length<=i:=by rw[<-hlen];exact hi
  rcases e.pl i with h1|⟨h1,X,d⟩
  ·rw[h1];exact h.free i (by omega)
  ·rcases ψ.1 d with d|d
   ·have:=hk i (ng.2 ⟨X,d⟩);omega
   ·obtain⟨j,r,rfl⟩:=iD.1 d;have:=(ε.1 r).1;omega
 ·show B.nb<=(en st.h up++nw).length;rw[hlen];have:=h.le;omega
 ·intro i hi;have:=h.le;rw[low i (by omega)];exact h.pl i hi
 ·intro i X hi d;rw[show av (st.b6 up nw).h=bV (av st.h) (up++news st.h.length nw) from t] at d;have:=h.le
  by_cases k: ∃Y,(i,Y)∈up++news st.h.length nw
  ·obtain⟨Y,f⟩:=k;rcases v i Y f with h1|h1
   ·obtain⟨Z,g⟩:=kY m i h1;exact h.lv i Z hi g
   ·omega
  ·rw[ec λY f=>k ⟨Y,f⟩] at d;exact h.lv i X hi d
 ·intro b I M z;have L: ∀i∈st.dt,B.live i-> ∀p,B.A0.pl i=some p->bR p≠some b:=λi hi=>z i (jh hi);obtain⟨c1,c2,x⟩:=h.cl b I M L;have F: ∀i X p,(i,X)∈up++news st.h.length nw->A.pl i=some p->bR p≠some b:=by
   intro i X p hi hp;rcases v i X hi with h1|h1
   ·rcases ω i B.nb with o|s
    ·obtain⟨Y,f⟩:=kY m i h1;exact z i (j6 (by rw[h.nb];exact o) h1) (h.lv i Y o f) p (by rw[<-h.pl i o];exact hp)
    ·obtain⟨Y,f⟩:=kY m i h1;exact λl=>x i Y p s f hp (.inl l)
   ·rw[h.free i h1] at hp;cases hp
  obtain⟨R,T⟩:=e.keep b c2 F;have U: ∀i X p Z,(i,X)∈up++news st.h.length nw->av st.h i=some Z->A.pl i=some p-> ¬cv w Z p b:=by
   intro i X p Z hi g hp l;rcases ω i B.nb with o|s
   ·exact F i X p hi hp (e0 (h.nt i Z o g) l)
   ·exact x i Z p s g hp l
  refine⟨R.trans c1,T,?_⟩;intro i X p hi d hp l;rw[show av (st.b6 up nw).h=bV (av st.h) (up++news st.h.length nw) from t] at d
  by_cases k: ∃Y,(i,Y)∈up++news st.h.length nw
  ·obtain⟨Y,f⟩:=k;rw[lX f λZ g=>e.nd i Z Y g f] at d;subst d;obtain⟨W,D,_,J⟩:=e.al i X f;rw[hp] at D;cases D;rcases(J b l).2 with s|⟨j,Z,q,V,n,H,u,Q⟩
   ·have:=h.ob b c2;omega
   ·exact U j Z q V n H u Q
  ·have C: ∀Y,(i,Y)∉up++news st.h.length nw:=λY f=>k ⟨Y,f⟩;rw[ec C] at d;rw[low i (e_ d)] at hp;refine x i X p hi d hp (ka (λc y=>?_) l);refine(e.keep c (h.rel.gu d hp (.inl y)) λj Y q n u=>?_).1;obtain⟨Z,g⟩:=e.lv j Y q n u;exact h.rel.dj i j X Z p q c (λG=>by subst G;exact C Y n) d g hp u y
 ·intro i X hi d;rw[show av (st.b6 up nw).h=bV (av st.h) (up++news st.h.length nw) from t] at d;have:=h.le
  by_cases k: ∃Y,(i,Y)∈up++news st.h.length nw
  ·obtain⟨Y,f⟩:=k;rcases v i Y f with h1|h1
   ·obtain⟨Z,g⟩:=kY m i h1;rw[lX f λZ g=>e.nd i Z Y g f] at d;subst d;exact e.nt i X Z f g (h.nt i Z hi g)
   ·omega
  ·rw[ec λY f=>k ⟨Y,f⟩] at d;exact h.nt i X hi d
theorem bg.put {d:Nat} {g:AV S} {v:Value} (h:bg K P N B A O w st a) (j:υ d N=true) (m:g.rel A O w v):bg K P N B A O w {st with env:=(d,g)::st.env} (a.put (some d) v):=by
 have k:d<a.tmps.size:=by rw[h.size];exact ο.mp j
 refine⟨by simp[ζA,h.size],?_,h.rel,h.ob,h.cZ,h.free,h.nb,h.le,h.tr,h.pl,h.ls,h.lv,h.cl,h.df,h.lp,h.dl,h.hi,h.o0,h.rr,h.nt⟩;intro s b c;simp only[aP.get] at c;cases f:ζ d s with
 |true=>
  rw[f] at c;have i:=δ f;subst i;simp only[cond_true,ι] at c;subst c;simpa[ζA,θ,k] using m
 |false=>
  rw[f] at c;have l:d≠s:=λe=>by subst e;simp at f
  have:=h.env s b c;simp only[ζA,θ,ξ0 l] at this ⊢;exact this
end
section
variable {S:bh} {P:Program} {R:Type} {z:R} {N:Nat}
def AX.of:AX->Exit
 | .normal=>.normal
 | .exit id=>.exit id
 | .ret=>.ret
 | .bq u=>.panic [{v:=u,recovered:=false}]
def ha (K:Kit S) (P:Program) (N:Nat) (B:cI) (e:AX) (st:AS S) (x:Exit) (a:Act) (w:World):Prop:=x=e.of/\ ∃A O,bg K P N B A O w st a
inductive NP|go|bq (u:Value)
def NP.x:NP->AX
 | .go=>.normal
 | .bq u=>.bq u
def qe (a:Value->AS S->Option R) (k:AS S->Option R):NP->AS S->Option R
 | .go,st=>k st
 | .bq u,st=>a u st
def sL (K:Kit S) (P:Program) (e:List (an S)->AS S->(Bool->AS S->Option R)->Option R):Prop:= ∀(aen:List (an S)) (st:AS S) (k:Bool->AS S->Option R) (z:R),e aen st k=some z-> ∃b d,k b d=some z/\ ∀(N:Nat) (B:cI) (o:Oper) (c:ζ8) (x:Operand) (A:Pl) (O:Γ) (w:World) (a:Act) (l:Nat),o.op= .call c->c.callee= .value x->a.eval x= .func (.yield l) #[] #[]->A.ls=some l->cy A O w aen (c.args.toList.map a.eval)->bg K P N B A O w st a->h6 P B.rr o a w (λv w'=>v= .bool b/\ ∃A' O',bg K P N B A' O' w' d a) (λ_ _=>False)
theorem Pm {ops:Array Oper} {o:Oper} {a:Act} {j d:Nat} {b c:Bool} {g:Oper} (k:o.guard=some (j,b)) (l:ops[j]? =some g) (i:g.dst=some d) (h:υ d a.tmps.size=true) (e:a.tmps.getD d undef= .bool c):ξ1 o (yielded ops a.tmps)=(c==b):=by
 have f:d<a.tmps.size:=ο.mp h;rw[θ,κ f] at e;simp only[ξp] at e;unfold ξ1;rw[k];simp[yielded,l,i,f,e]
theorem OZ {ops:Array Oper} {o:Oper} {a:Act} {j d:Nat} {b:Bool} {f:Oper} {xs:Array Value} (i:o.guard=some (j,b)) (k:ops[j]? =some f) (h:f.dst=some d) (g:υ d a.tmps.size=true) (c:a.tmps.getD d undef= .tuple xs):ξ1 o (yielded ops a.tmps)=false:=by
 have e:d<a.tmps.size:=ο.mp g;rw[θ,κ e] at c;simp only[ξp] at c;unfold ξ1;rw[i];simp[yielded,k,h,e,c]
theorem bg.Y6 {K:Kit S} {B:cI} {A:Pl} {O:Γ} {w:World} {st:AS S} {a:Act} {d:Nat} {c:Bool} (h:bg K P N B A O w st a) (i:aP.get st.env d=some (.s (.one (.v (.bool c))))):bg K P N B A O w {st with env:=(d,.s (.one (.v (.bool c))))::st.env} a:=by
 refine⟨h.size,?_,h.rel,h.ob,h.cZ,h.free,h.nb,h.le,h.tr,h.pl,h.ls,h.lv,h.cl,h.df,h.lp,h.dl,h.hi,h.o0,h.rr,h.nt⟩;intro s b e;simp only[aP.get] at e;cases f:ζ d s with
 |true=>
  rw[f] at e;have g:=δ f;subst g;simp only[cond_true,ι] at e;subst e;exact h.env _ _ i
 |false=>rw[f] at e;exact h.env s b e
theorem TH {K:Kit S} {ops:Array Oper} {o:Oper} {st:AS S} {yes no:AS S->Option R} (h:my N ops o.guard st yes no=some z):
  ∃i,i.h=st.h/\(∀B A O w a,bg K P N B A O w st a->bg K P N B A O w i a)/\
   ((yes i=some z/\ ∀B A O w a,bg K P N B A O w st a->ξ1 o (yielded ops a.tmps)=true)\/(no i=some z/\ ∀B A O w a,bg K P N B A O w st a->ξ1 o (yielded ops a.tmps)=false)):=by
 unfold my at h;split at h
 ·rename_i g;exact⟨st,rfl,λ_ _ _ _ _ h=>h,.inl ⟨h,λB A O w a _=>by unfold ξ1;rw[g]⟩⟩
 ·rename_i j b g;split at h
  rotate_left
  ·cases h
  rename_i r n;split at h
  rotate_left
  ·cases h
  rename_i d m;cases k:υ d N<;>rw[k] at h
  ·cases h
  simp only[cond_true] at h;have l: ∀ {B A O w a},bg K P N B A O w st a->υ d a.tmps.size=true:=λh=>by rw[h.size];exact k
  split at h
  ·rename_i c f;have p: ∀ {B A O w a},bg K P N B A O w st a->a.tmps.getD d undef= .bool c:=λ{B A O w a} h=>ed (S:=S) (A:=A) (O:=O) (w:=w) (h.env d _ f);refine⟨{st with env:=(d,.s (.one (.v (.bool c))))::st.env},rfl,λB A O w a h=>h.Y6 f,?_⟩;have w1: ∀ {B A O w a},bg K P N B A O w st a->ξ1 o (yielded ops a.tmps)=(c==b):=λh=>Pm g n m (l h) (p h);cases c<;>cases b<;>simp only[cond_true,cond_false] at h
   ·exact .inl ⟨h,λB A O w a e=>by rw[w1 e];rfl⟩
   ·exact .inr ⟨h,λB A O w a e=>by rw[w1 e];rfl⟩
   ·exact .inr ⟨h,λB A O w a e=>by rw[w1 e];rfl⟩
   ·exact .inl ⟨h,λB A O w a e=>by rw[w1 e];rfl⟩
  ·rename_i f;refine⟨st,rfl,λB A O w a h=>h,.inr ⟨h,λB A O w a e=>?_⟩⟩;obtain⟨xs,q,_⟩:=e.env d _ f;exact OZ g n m (l e) q
  ·cases h
theorem Ek {K:Kit S} {o:Oper} {st:AS S} {f:AV S} {k:AS S->Option R} (h:hX N o st f k=some z): ∃b,k b=some z/\b.h=st.h/\b.dt=st.dt/\ ∀B A O w a v,bg K P N B A O w st a->f.rel A O w v->bg K P N B A O w b (a.put o.dst v):=by
 unfold hX at h;split at h
 ·rename_i d c;cases g:υ d N<;>rw[g] at h
  ·cases h
  ·exact⟨_,h,rfl,rfl,λB A O w a v e i=>by rw[c];exact e.put g i⟩
 ·rename_i c;exact⟨st,h,rfl,rfl,λB A O w a v e i=>by rw[c];exact e⟩
theorem TE {G:bE S} (X:bU G.K P) (W:jQ G P) {C:Nat->List (an S)->AH S->(Rs S->AH S->Γ->Option R)->Option R} (Z:jP G.K P C) {Q:List (an S)->AS S->(Bool->AS S->Option R)->Option R} (ag:sL G.K P Q) {o:Oper} {st:AS S} {y:Value->AS S->Option R} {k:AS S->Option R}
  (h:A4 G C Q N o st y k=some z): ∃e g,qe y k e g=some z/\ ∀B A O w a,bg G.K P N B A O w st a->
   o.wpIn (fw B.rr) 0 P a w (λa' w'=>e= .go/\ ∃A' O',bg G.K P N B A' O' w' g a') (λx a' w'=> ∃u,e= .bq u/\x=(AX.bq u).of/\ ∃A' O',bg G.K P N B A' O' w' g a'):=by
 have plain:nH G C st.env (av st.h) st.h.length o (λu up nw=>bif eW (av st.h) up then y u (st.b6 up nw) else none) (λa up nw=>bif eW (av st.h) up then hX N o (st.b6 up nw) a k else none)=some z-> ∃e g,qe y k e g=some z/\ ∀B A O w a,bg G.K P N B A O w st a->
   o.wpIn (fw B.rr) 0 P a w (λa' w'=>e= .go/\ ∃A' O',bg G.K P N B A' O' w' g a') (λx a' w'=> ∃u,e= .bq u/\x=(AX.bq u).of/\ ∃A' O',bg G.K P N B A' O' w' g a'):=by
  intro h;obtain⟨r,up,nw,h1,E⟩:=L8 X W Z h;have go: ∀B A O w a,bg G.K P N B A O w st a->_:=λB A O w a d=>E B.rr A O w a d.env d.rel d.ob d.cZ (λj _=>d.free _ (ξI _ _));cases r with
  |ret ah=>
   simp only[jG] at h1;cases s:eW (av st.h) up<;>rw[s] at h1
   ·cases h1
   simp only[cond_true] at h1;obtain⟨g,hk,_,_,H⟩:=Ek (K:=G.K) (P:=P) h1;refine⟨.go,g,hk,λB A O w a d=>kJ ?_ ?_ (go B A O w a d)⟩
   ·rintro a' w' ⟨v,rfl,T,e,A',O',m,F⟩;cases e;exact⟨rfl,A',O',H B A' O' w' a v (d.b6 s F) m⟩
   ·intro x a' w' n;cases x with
    |panic L=>obtain⟨u,_,_,e,_⟩:=n;cases e
    |_=>exact n.elim
  |bq u=>
   simp only[jG] at h1;cases U:u.oneCell'<;>rw[U] at h1
   ·cases h1
   simp only[cond_true] at h1;cases s:eW (av st.h) up<;>rw[s] at h1
   ·cases h1
   simp only[cond_true] at h1;refine⟨.bq u,_,h1,λB A O w a d=>kJ ?_ ?_ (go B A O w a d)⟩
   ·rintro a' w' ⟨v,rfl,T,e,_⟩;cases e
   ·intro x a' w' n;cases x with
    |panic L=>
     obtain⟨ai,rfl,rfl,e,A',O',F⟩:=n;cases e;exact⟨u,rfl,rfl,A',O',d.b6 s F⟩
    |_=>exact n.elim
 unfold A4 at h;split at h
 ·
  rename_i c p;split at h
  rotate_left
  ·cases h
  rename_i x J;split at h
  rotate_left
  ·cases h
  rename_i i Y hl M ab aa;refine⟨.go,_,h,λB A O w a d=>⟨λ_ _=>trivial,?_⟩⟩;have af:=d.rr M;rw[af];obtain⟨f,u,D,V,m⟩:=b0 d.env d.cZ hl;have m:a.eval x= .func f u D:=by simpa using m
  have I:(o.semAt (fw none).round a.eval).run P w= .ok (.defer {target:=.fn f D,args:=u}) w:=by
   show(o.semAt none a.eval).run P w=_;unfold Oper.semAt execOp;rw[p];have:c.args= #[]:=fE Y;simp[resolve,J,m,ζ0,this]
  rw[I,Oper.uponIn_defer];refine⟨rfl,A,O,?_⟩;rw[aa];exact⟨d.size,d.env,d.rel,d.ob,d.cZ,d.free,d.nb,d.le,d.tr,d.pl,d.ls,d.lv,d.cl,.inr ⟨i,st.df,f,u,D,rfl,V,rfl,d.df⟩,d.lp,(λh=>by rw[show((st.lp.isSome||st.inr)=true)=(((none:Option (g' S)).isSome||false)=true) by rw[ab,M]] at h;cases h),d.hi,d.o0,d.rr,d.nt⟩
 ·
  rename_i x p;split at h
  rotate_left
  ·cases h
  rename_i t u hl;refine⟨.bq (.iface t u),_,h,λB A O w a d=>⟨λ_ _=>trivial,?_⟩⟩;have m:=ed (b0 d.env d.cZ hl);rw[ζn _ _ _ (by rw[p];simp)];have I:(execOp a.eval o).run P w= .halt (.panic (.iface t u)) w:=by
   unfold execOp;rw[p];simp only[ξ,m,Instr.panic];rfl
  rw[I,Oper.uponIn_panic];exact⟨_,rfl,rfl,A,O,d⟩
 ·rename_i c p;cases q:FK G st.env c<;>rw[q] at h
  ·exact plain h
  ·simp only[cond_true] at h;unfold FK at q;split at q
   rotate_left
   ·cases q
   rename_i x J;split at q
   rotate_left
   ·cases q
   rename_i hl;split at h
   rotate_left
   ·cases h
   rename_i aen has;obtain⟨b,st1,h1,E⟩:=ag _ _ _ _ h;obtain⟨g,hk,_,_,H⟩:=Ek (K:=G.K) (P:=P) h1;refine⟨.go,g,hk,λB A O w a d=>?_⟩;obtain⟨l,ad,m⟩:=b0 d.env d.cZ hl;refine kJ ?_ ?_ (E N B o c x A O w a l p J (by simpa using m) ad (k1 d.env d.cZ has) d)
   ·rintro a' w' ⟨v,rfl,rfl,A',O',ae⟩;exact⟨rfl,A',O',H B A' O' w' a _ ae ⟨rfl,rfl⟩⟩
   ·intro x a' w' n;cases x with
    |panic L=>obtain⟨u,_,_,e⟩:=n;exact e.elim
    |_=>exact n.elim
 ·exact plain h
theorem A5 {G:bE S} (f:bU G.K P) (d:jQ G P) {t:Nat->List (an S)->AH S->(Rs S->AH S->Γ->Option R)->Option R} (g:jP G.K P t) {D:List (an S)->AS S->(Bool->AS S->Option R)->Option R} (r:sL G.K P D) {ops:Array Oper} {y:Value->AS S->Option R}:
  ∀ {l:Γ} {st:AS S} {k:AS S->Option R},o8 G t D N ops y l st k=some z-> ∃e C,qe y k e C=some z/\ ∀B A O w a,bg G.K P N B A O w st a->wpOpsIn (fw B.rr) 0 P ops (ha G.K P N B e.x C) l a w
 |[],st,k,h=>⟨.go,st,h,λB A O w a b=>⟨rfl,A,O,b⟩⟩
 |i::l,st,k,h=>by
  simp only[o8] at h;split at h
  rotate_left
  ·cases h
  rename_i o m;obtain⟨st1,M,q,E⟩:=TH (K:=G.K) (P:=P) h;rcases E with⟨J,hw⟩|⟨hn,hw⟩
  ·obtain⟨e,st2,hk,v⟩:=TE f d g r J;cases e with
   |bq u=>
    refine⟨.bq u,st2,hk,λB A O w a b=>?_⟩;simp only[wpOpsIn,m];rw[if_pos (hw B A O w a b)];refine kJ ?_ ?_ (v B A O w a (q B A O w a b))
    ·rintro a' w' ⟨e,_⟩;cases e
    ·rintro x a' w' ⟨L,e,I,A',O',n⟩;cases e;exact⟨I,A',O',n⟩
   |go=>
    obtain⟨c,s,j,p⟩:=A5 f d g r hk;refine⟨c,s,j,λB A O w a b=>?_⟩;simp only[wpOpsIn,m];rw[if_pos (hw B A O w a b)];refine kJ ?_ ?_ (v B A O w a (q B A O w a b))
    ·rintro a' w' ⟨_,A',O',n⟩;exact p B A' O' w' a' n
    ·rintro x a' w' ⟨L,e,_⟩;cases e
  ·obtain⟨st2,F,_,_,H⟩:=Ek (K:=G.K) (P:=P) hn;obtain⟨c,s,j,p⟩:=A5 f d g r F;refine⟨c,s,j,λB A O w a b=>?_⟩;simp only[wpOpsIn,m];rw[if_neg (by rw[hw B A O w a b];simp)];exact⟨λ_ _=>trivial,p B A O w _ (H B A O w a undef (q B A O w a b) ⟨[],rfl,rfl⟩)⟩
end
section
variable {S:bh} {K:Kit S} {P:Program} {N:Nat} {A A':Pl} {O O':Γ} {w w':World} {B:cI}
structure fS (K:Kit S) (P:Program) (N:Nat) (B:cI) (A:Pl) (O:Γ) (w:World) (g:Nat->Option (Ob S)) (free dt:Nat->Prop) (c:Option (g' S)) (inr:Bool) (df:List (LV S)) (a:Act):Prop where
 size:a.tmps.size=N
 rel:bI A O w g
 ob:OB O w
 cZ:cC K O w
 im: ∀i,free i->A.pl i=none
 low: ∀i,i<B.nb-> ¬free i
 tr:Tr B.O0 B.w0 O w
 pl: ∀i,i<B.nb->A.pl i=B.A0.pl i
 ls:A.ls=B.A0.ls
 lv: ∀i X,i<B.nb->g i=some X->B.live i
 cl: ∀b,b∈B.O0->B.ex≠some b->(∀i,dt i->B.live i-> ∀p,B.A0.pl i=some p->bR p≠some b)->w.heap[b]? =B.w0.heap[b]? /\b∈O/\ ∀i X p,B.nb<=i->g i=some X->A.pl i=some p-> ¬cv w X p b
 df:cW B.w0.heap.size A O w df a.defers
 lp:iW P B O w c
 dl:(c.isSome||inr)=true->a.defers=[]
 hi: ∀i,B.nb<=i->B.A0.pl i=none
 o0:OB B.O0 B.w0
 rr:inr=false->B.rr=none
 nt: ∀i X,i<B.nb->g i=some X->X.nt=true
variable {st:AS S} {a:Act}
theorem bg.toC (h:bg K P N B A O w st a):fS K P N B A O w (av st.h) (λi=>st.h.length<=i) (λi=>i∈st.dt) st.lp st.inr st.df a:=
 ⟨h.size,h.rel,h.ob,h.cZ,h.free,λi hi h1=>absurd h1 (by have:=h.le;omega),h.tr,h.pl,h.ls,h.lv,h.cl,h.df,h.lp,h.dl,h.hi,h.o0,h.rr,h.nt⟩
theorem fS.OT {g:Nat->Option (Ob S)} {free dt:Nat->Prop} (h:fS K P N B A O w g free dt st.lp st.inr st.df a) (k: ∀i,av st.h i=g i) (j: ∀i,st.h.length<=i->free i) (f: ∀i,i<B.nb->dt i->i∈st.dt) (hn:st.nb=B.nb) (hle:B.nb<=st.h.length) (he:cF A O w st.env a):bg K P N B A O w st a:=by
 have e:av st.h=g:=funext k;exact⟨h.size,he,by rw[e];exact h.rel,h.ob,h.cZ,λi hi=>h.im i (j i hi),hn,hle,h.tr,h.pl,h.ls,by rw[e];exact h.lv,λb c l d=>by
  rw[e];exact h.cl b c l λi hi m p hp=>(by
   rcases ω i B.nb with h1|h1
   ·exact d i (f i h1 hi) m p hp
   ·rw[h.hi i h1] at hp;cases hp),h.df,h.lp,h.dl,h.hi,h.o0,h.rr,by rw[e];exact h.nt⟩
theorem fS.b6 {g:Nat->Option (Ob S)} {free dt:Nat->Prop} {lp:Option (g' S)} {inr:Bool} {df:List (LV S)} {ef:Up S} (h:fS K P N B A O w g free dt lp inr df a) (o: ∀i X,(i,X)∈ef->(∃Z,g i=some Z)\/free i) (e:b5 A O w g ef A' O' w'):
  fS K P N B A' O' w' (bV g ef) (λi=>free i/\ ∀X,(i,X)∉ef) (λi=>dt i\/((∃Z,g i=some Z)/\ ∃X,(i,X)∈ef)) lp inr df a:=by
 have T: ∀i Z,g i=some Z-> ¬free i:=λi Z d l=>by
  obtain⟨p,hp,_⟩:=h.rel.al i Z d;rw[h.im i l] at hp;cases hp
 have low: ∀i,¬free i->A'.pl i=A.pl i:=by
  intro i hi;rcases e.pl i with h1|⟨h1,X,f⟩
  ·exact h1
  ·rcases o i X f with⟨Z,d⟩|l
   ·obtain⟨p,hp,_⟩:=h.rel.al i Z d;rw[h1] at hp;cases hp
   ·exact absurd l hi
 refine⟨h.size,h.rel.b6 h.ob e,e.ob,h.cZ.tr e.tr,?_,λi hi l=>h.low i hi l.1,h.tr.trans e.tr,λi hi=>(low i (h.low i hi)).trans (h.pl i hi),e.le.ls.trans h.ls,?_,?_,cW.b6 h.rel e h.df,iW.b6 h.rel e h.lp,h.dl,h.hi,h.o0,h.rr,?_⟩
 ·rintro i ⟨h1,F⟩;rcases e.pl i with G|⟨_,X,f⟩
  ·rw[G];exact h.im i h1
  ·exact absurd f (F X)
 ·intro i X hi f
  by_cases m: ∃Y,(i,Y)∈ef
  ·obtain⟨Y,k⟩:=m;rcases o i Y k with⟨Z,d⟩|l
   ·exact h.lv i Z hi d
   ·exact absurd l (h.low i hi)
  ·rw[ec λY k=>m ⟨Y,k⟩] at f;exact h.lv i X hi f
 ·intro b I L y;obtain⟨c1,c2,v⟩:=h.cl b I L λi hi=>y i (.inl hi);have D: ∀i X p,(i,X)∈ef->A.pl i=some p->bR p≠some b:=by
   intro i X p hi hp;rcases o i X hi with⟨Z,d⟩|l
   ·rcases ω i B.nb with t|r
    ·exact y i (.inr ⟨⟨Z,d⟩,X,hi⟩) (h.lv i Z t d) p (by rw[<-h.pl i t];exact hp)
    ·exact λn=>v i Z p r d hp (.inl n)
   ·rw[h.im i l] at hp;cases hp
  obtain⟨Q,R⟩:=e.keep b c2 D;have U: ∀i X p Z,(i,X)∈ef->g i=some Z->A.pl i=some p-> ¬cv w Z p b:=by
   intro i X p Z hi d hp n;rcases ω i B.nb with t|r
   ·exact D i X p hi hp (e0 (h.nt i Z t d) n)
   ·exact v i Z p r d hp n
  refine⟨Q.trans c1,R,?_⟩;intro i X p hi f hp n
  by_cases m: ∃Y,(i,Y)∈ef
  ·obtain⟨Y,k⟩:=m;rw[lX k λZ d=>e.nd i Z Y d k] at f;subst f;obtain⟨W,C,_,J⟩:=e.al i X k;rw[hp] at C;cases C;rcases(J b n).2 with r|⟨j,Z,q,V,s,H,u,M⟩
   ·have:=h.ob b c2;omega
   ·exact U j Z q V s H u M
  ·have z: ∀Y,(i,Y)∉ef:=λY k=>m ⟨Y,k⟩;rw[ec z] at f;rw[low i (T i X f)] at hp;refine v i X p hi f hp (ka (λc x=>?_) n);refine(e.keep c (h.rel.gu f hp (.inl x)) λj Y q s u=>?_).1;obtain⟨Z,d⟩:=e.lv j Y q s u;exact h.rel.dj i j X Z p q c (λE=>by subst E;exact z Y s) f d hp u x
 ·intro i X hi f
  by_cases m: ∃Y,(i,Y)∈ef
  ·obtain⟨Y,k⟩:=m;rw[lX k λZ d=>e.nd i Z Y d k] at f;subst f;rcases o i _ k with⟨Z,d⟩|l
   ·exact e.nt i X Z k d (h.nt i Z hi d)
   ·exact absurd l (h.low i hi)
  ·rw[ec λY k=>m ⟨Y,k⟩] at f;exact h.nt i X hi f
theorem fS.weaken {g:Nat->Option (Ob S)} {free c dt dt':Nat->Prop} {lp:Option (g' S)} {inr:Bool} {df:List (LV S)} (h:fS K P N B A O w g free dt lp inr df a) (d: ∀i,c i->free i) (j: ∀i,dt i->dt' i):fS K P N B A O w g c dt' lp inr df a:=
 ⟨h.size,h.rel,h.ob,h.cZ,λi hi=>h.im i (d i hi),λi hi h1=>h.low i hi (d i h1),h.tr,h.pl,h.ls,h.lv,λb e k f=>h.cl b e k λi hi=>f i (j i hi),h.df,h.lp,h.dl,h.hi,h.o0,h.rr,h.nt⟩
theorem fS.act {g:Nat->Option (Ob S)} {free dt:Nat->Prop} {lp:Option (g' S)} {inr:Bool} {df:List (LV S)} {a':Act} (h:fS K P N B A O w g free dt lp inr df a) (h1:a'.tmps.size=a.tmps.size) (b:a'.defers=a.defers):fS K P N B A O w g free dt lp inr df a':=
 ⟨h1.trans h.size,h.rel,h.ob,h.cZ,h.im,h.low,h.tr,h.pl,h.ls,h.lv,h.cl,by rw[b];exact h.df,h.lp,by rw[b];exact h.dl,h.hi,h.o0,h.rr,h.nt⟩
def ck.ef (r:ck S):Up S:=r.up++news r.nx r.nw
def cw (L:Nat->Bool):Nat->List (ck S)->(Nat->Option (Ob S))->Nat->Option (Ob S)
 |_,[],g=>g
 |k,r::rs,g=>cw L (k+1) rs (bif L k then bV g r.ef else g)
theorem qT {o:Nat}: ∀ {ef:Up S} {g b:Nat->Option (Ob S)},(∃X,(o,X)∈ef)->bV g ef o=bV b ef o
 |[],g,b,⟨X,h⟩=>by cases h
 |(j,Y)::r,g,b,⟨X,h⟩=>by
  simp only[bV]
  by_cases a: ∃Z,(o,Z)∈r
  ·exact qT a
  ·rw[ec (λZ c=>a ⟨Z,c⟩),ec (λZ c=>a ⟨Z,c⟩)];rcases τ.1 h with e|e
   ·cases e;simp
   ·exact absurd ⟨X,e⟩ a
theorem O3 {o:Nat} {ef:Up S} {g c:Nat->Option (Ob S)} (h:g o=c o):bV g ef o=bV c ef o:=by
 by_cases b: ∃X,(o,X)∈ef
 ·exact qT b
 ·rw[ec (λZ a=>b ⟨Z,a⟩),ec (λZ a=>b ⟨Z,a⟩),h]
theorem lr {L d:Nat->Bool} {o:Nat}: ∀ {rs:List (ck S)} {k:Nat} {g b:Nat->Option (Ob S)},(∀j r,rs[j]? =some r->(∃X,(o,X)∈r.ef)->L (k+j)=d (k+j))->g o=b o->cw L k rs g o=cw d k rs b o
 |[],k,g,b,_,h=>h
 |r::rs,k,g,b,hl,h=>by
  simp only[cw];refine lr (λj l i a=>by have:=hl (j+1) l (by simpa using i) a;rwa [show k+(j+1)=k+1+j by omega] at this) ?_
  by_cases a: ∃X,(o,X)∈r.ef
  ·have:=hl 0 r rfl a;rw[ξP] at this;rw[this];cases d k with
   |true=>exact qT a
   |false=>exact h
  ·have out: ∀(c:Bool) (f:Nat->Option (Ob S)),(bif c then bV f r.ef else f) o=f o:=λc f=>by
    cases c with
    |true=>exact ec (λZ e=>a ⟨Z,e⟩)
    |false=>rfl
   rw[out,out,h]
theorem uC {L:Nat->Bool}: ∀ {rs a:List (ck S)} {k:Nat} {g:Nat->Option (Ob S)},cw L k (rs++a) g=cw L (k+rs.length) a (cw L k rs g)
 |[],a,k,g=>rfl
 |r::rs,a,k,g=>by
  simp only[ζ1,cw,ζ2];rw[uC,show k+1+rs.length=k+(rs.length+1) by omega]
theorem C0 {o:Nat} {L:Nat->Bool} {rs:List (ck S)} {k:Nat} {g:Nat->Option (Ob S)} (h: ∀j r,rs[j]? =some r->(∃X,(o,X)∈r.ef)->L (k+j)=false):cw L k rs g o=g o:=by
 have h1:cw L k rs g o=cw (λ_=>false) k rs g o:=lr (λj r a b=>h j r a b) rfl;rw[h1];clear h h1
 induction rs generalizing k with
 |nil=>rfl
 |cons r rs c=>simp only[cw,cond_false];exact c
theorem JH {L:Nat->Bool} {i o:Nat} {acc:List (ck S)} {r:ck S} {g:Nat->Option (Ob S)} (l:acc[i]? =some r) (q:L i=false) (n:(∃X,(o,X)∈r.ef)-> ∀k a,i<k->acc[k]? =some a->(∃X,(o,X)∈a.ef)->L k=false):
  cw (λk=>ζ k i||L k) 0 acc g o=bV (cw L 0 acc g) r.ef o:=by
 by_cases c: ∃X,(o,X)∈r.ef
 ·obtain⟨hi,he⟩:=ε.1 l;have p:acc=acc.take i++r::acc.drop (i+1):=by
   rw[<-he,<-List.drop_eq_getElem_cons hi,ξ6]
  have hlen:(acc.take i).length=i:=by rw[ξ3];omega
  have lhs:cw (λk=>ζ k i||L k) 0 acc g o=bV (cw (λk=>ζ k i||L k) 0 (acc.take i) g) r.ef o:=by
   conv=>lhs;rw[p]
   rw[uC,hlen,ξe];simp only[cw,ξu,ζb,cond_true];refine C0 λj a b f=>?_;have hk:acc[i+1+j]? =some a:=by rw[<-ζm];exact b
   have h1:=n c (i+1+j) a (by omega) hk f;have d:ζ (i+1+j) i=false:=by
    cases e:ζ (i+1+j) i with
    |false=>rfl
    |true=>have:=δ e;omega
   simp only[h1,d,Bool.or_self]
  rw[lhs];exact qT c
 ·rw[ec (λZ m=>c ⟨Z,m⟩)];refine lr (λj a b f=>?_) rfl;rw[ξe]
  by_cases h:j=i
  ·subst h;rw[l] at b;cases b;exact absurd f c
  ·have d:ζ j i=false:=by
    cases e:ζ j i with
    |false=>rfl
    |true=>exact absurd (δ e) h
   simp[d]
theorem LR {l m:Γ}:vf l m=true↔ ∀i∈l,i∉m:=by
 unfold vf;rw[ξ4];exact forall_congr' λi=>forall_congr' λ_=>by rw[ξE,<-ζy,gB]
theorem ZE {l:Γ} {nx n:Nat}:DI l nx n=true↔ ∀i∈l,¬(nx<=i/\i<nx+n):=by
 unfold DI;rw[ξ4];refine forall_congr' λi=>forall_congr' λ_=>?_;rw[ξE,<-ζy,η];constructor
 ·rintro h ⟨h1,a⟩;exact h ⟨ζE.mpr h1,ο.mpr a⟩
 ·rintro h ⟨h1,a⟩;exact h ⟨ξ5 h1,ο.mp a⟩
theorem Ii {cl rd:Γ} {up:Up S}: ∀ {rs:List (ck S)} {k j:Nat} {r:ck S},j4 cl rd up rs k=true->rs[j]? =some r->k+j∈cl\/((∀i∈rd,i∉keys r.up)/\(∀i∈rd,¬(r.nx<=i/\i<r.nx+r.nw.length))/\ ∀i∈keys up,i∉r.rd)
 |[],k,j,r,_,a=>by simp at a
 |q::rs,k,j,r,h,a=>by
  simp only[j4,η,ξN] at h;cases j with
  |zero=>
   simp at a;subst a;rw[ξP];rcases h.1 with h1|h1
   ·exact .inl (gB.1 h1)
   ·exact .inr ⟨LR.1 h1.1,ZE.1 h1.2.1,LR.1 h1.2.2⟩
  |succ j=>
   have:=Ii (j:=j) h.2 (by simpa using a)
   rwa [show k+1+j=k+(j+1) by omega] at this
theorem JK {cl:Γ}: ∀ {rs:List (ck S)} {k j:Nat} {r:ck S},idle cl rs k=true->rs[j]? =some r->k+j∈cl\/(r.up=[]/\r.nw=[])
 |[],k,j,r,_,a=>by simp at a
 |q::rs,k,j,r,h,a=>by
  simp only[idle,η,ξN] at h;cases j with
  |zero=>
   simp at a;subst a;rw[ξP];rcases h.1 with h1|h1
   ·exact .inl (gB.1 h1)
   ·right;split at h1
    ·rename_i b c;exact⟨b,c⟩
    ·cases h1
  |succ j=>
   have:=JK (j:=j) h.2 (by simpa using a)
   rwa [show k+1+j=k+(j+1) by omega] at this
theorem ji {r:ck S} {o:Nat}:(∃X,(o,X)∈r.ef)↔o∈keys r.up\/(r.nx<=o/\o<r.nx+r.nw.length):=by
 unfold ck.ef;constructor
 ·rintro ⟨X,h⟩;rcases ψ.1 h with h|h
  ·exact .inl (ng.2 ⟨X,h⟩)
  ·obtain⟨j,h1,rfl⟩:=iD.1 h;have:=(ε.1 h1).1;exact .inr ⟨by omega,by omega⟩
 ·rintro (h|⟨h1,b⟩)
  ·obtain⟨X,h⟩:=ng.1 h;exact⟨X,ξ9 _ h⟩
  ·have a:o-r.nx<r.nw.length:=by omega
   exact⟨r.nw[o-r.nx],ξ7 _ (iD.2 ⟨o-r.nx,σ a,by omega⟩)⟩
end
section
variable {S:bh} {P:Program} {N:Nat} {ops:Array Oper}
theorem ab2 {id:Nat} {rr:Option Nat} {Q:Exit->Act->World->Prop} {I:Array Bool->Act->World->Prop} (hm:P.follows .mixedOrders=true) (v: ∀i o,ops[i]? =some o-> ∀x∈cK o,x<i)
  (N: ∀(listed:Array Bool) (a:Act) (w:World) (i:Nat) (o:Oper),listed.size=ops.size->(∀(k:Nat) (o:Oper),ops[k]? =some o->listed.getD k true=true-> ∀x∈cK o,listed.getD x true=true)->I listed a w->ops[i]? =some o->listed.getD i true=false->(∀x∈cK o,listed.getD x true=true)->
   wpOpIn (fw rr) 0 P ops Q i (λa' w'=>I (listed.setIfInBounds i true) a' w') a w)
  (G: ∀(listed:Array Bool) (a:Act) (w:World),listed.size=ops.size->(∀i,i<ops.size->listed.getD i true=true)->I listed a w->Q .normal a w) {a:Act} {w:World} (B:I (ξ8 ops.size false) a w.drew):(ζB id ops true).wpIn (fw rr) 0 P Q a w:=by
 refine wpIn_region_draw λt=>?_;simp only[Region.schedule,hm,ζb,if_true];refine wpAnyIn_sound ops.size t _ a _ ?_;have key: ∀(fuel:Nat) (listed:Array Bool) (a:Act) (w':World),listed.size=ops.size->ej listed ops.size=fuel->(∀(k:Nat) (o:Oper),ops[k]? =some o->listed.getD k true=true-> ∀x∈cK o,listed.getD x true=true)->I listed a w'->
   wpAnyIn (fw rr) 0 P .any ops Q fuel listed a w':=by
  intro fuel
  induction fuel with
  |zero=>
   intro listed a w' f hl l g;have u:=nj _ hl;refine⟨?_,G listed a w' f u g⟩;unfold ζc;rw[List.filter_eq_nil_iff];intro i hi;have:=u i (by simpa using hi);simp[this]
  |succ fuel r=>
   intro listed a w' f hl l g;refine⟨λL=>?_,λi hi=>?_⟩
   ·exfalso;obtain⟨i,h1,C,D⟩:=p9 ops.size (by rw[hl];omega:ej listed ops.size≠0);have b:=κ h1;have F:=v i _ b;have:i∈ζc .any ops listed:=by
     unfold ζc;rw[ξk];refine⟨by simpa using h1,?_⟩;rw[C,b];simp only[Bool.not_false,ξW,ξx,ξp,ξC];intro e he;cases j:Region.binds .any e with
     |false=>simp
     |true=>
      have d:=F e.on (iC.2 ⟨e,he,j,rfl⟩);have:=D e.on d;have q:e.on<listed.size:=by omega
      simp only[θ,κ q,ξp] at this ⊢;simp[this]
    rw[L] at this;cases this
   ·unfold ζc at hi;rw[ξk] at hi;obtain⟨H,m⟩:=hi;have y:i<ops.size:=by simpa using H
    have b:=κ y;rw[b] at m;simp only[η,ξE,ξx,ξp,ξC] at m;obtain⟨z,K⟩:=m;have s: ∀x∈cK ops[i],listed.getD x true=true:=by
     intro x c;obtain⟨e,he,j,rfl⟩:=iC.1 c;have h1:=K e he;rw[j] at h1;simp only[ξY,ξZ] at h1;have d:=v i _ b e.on c;have q:e.on<listed.size:=by omega
     simp only[θ,κ q,ξp] at h1 ⊢;exact h1
    have A:i<listed.size:=by omega
    have M: ∀k,(listed.setIfInBounds i true).getD k true=true↔k=i\/listed.getD k true=true:=by
     intro k
     by_cases hk:i=k
     ·subst hk;simp[θ,A]
     ·simp only[θ,ξ0 hk];constructor
      ·exact λh=>.inr h
      ·rintro (h|h)
       ·exact absurd h.symm hk
       ·exact h
    have J:=DC A z ops.size;simp only[y,if_true] at J;refine wpOpIn_mono (λa' b2 E=>?_) (N listed a w' i _ f l g b z s);refine r _ a' b2 (by simpa using f) (by omega) ?_ E;intro k o' p hk x c;rw[M] at hk ⊢;right;rcases hk with rfl|hk
    ·rw[b] at p;cases p;exact s x c
    ·exact l k o' p hk x c
 refine key ops.size _ a _ (by simp) ?_ ?_ B
 ·have: ∀n,n<=ops.size->ej (ξ8 ops.size false) n=n:=by
   intro n
   induction n with
   |zero=>intro _;rfl
   |succ n r=>
    intro hn;simp only[ej,r (by omega)];have:(ξ8 ops.size false).getD n true=false:=by simp[θ,show n<ops.size by omega]
    simp[this]
  exact this _ (ξc _)
 ·intro k o b hk;have d:=(ξa.1 b).1;simp[θ,d] at hk
inductive Gh (S:bh)|done (a:AV S)|bq (u:Value)|never
def jS (ops:Array Oper) (a8:AS S) (b:List (Gh S)) (s:Nat) (a:AV S):Prop:=(∃k,c' ops k=some s/\b[k]? =some (.done a))\/(aP.get a8.env s=some a/\ ∀k c,c' ops k=some s->b[k]? ≠some (.done c))
structure Want (K:Kit S) (P:Program) (N:Nat) (ops:Array Oper) (a8:AS S) (pre:List (ck S)) (d:List (Gh S)) (i:Nat) (o:Oper) (r:ck S) (res:Rs S) (env:aP S) (gc:Nat->Option (Ob S)):Prop where
 snd:sF K P o env (iR r.rd gc) r.nx res r.up r.nw
 ev: ∀s c,aP.get env s=some c->s∈fc ops o/\jS ops a8 d s c
 Ps: ∀A O w a,a.tmps.size=N->cF A O w env a->ξ1 o (yielded ops a.tmps)=true
 gh: ∀x,gc x=cw (λ_=>true) 0 pre (av a8.h) x
 al: ∀k∈keys r.up,∃Z,gc k=some Z
 sub: ∀k∈keys r.up,k∈r.rd
 lt: ∀x∈r.rd,x<r.nx
 sS: ∀k b,pre[k]? =some b->k∈et ops i\/((∀i∈r.rd,i∉keys b.up)/\(∀i∈r.rd,¬(b.nx<=i/\i<b.nx+b.nw.length))/\ ∀i∈keys r.up,i∉b.rd)
def Sc (N:Nat) (ops:Array Oper) (a8:AS S) (c:List (Gh S)) (o:Oper) (r:ck S) (b:AV S) (env:aP S):Prop:=(∀s b,aP.get env s=some b->s∈fc ops o/\jS ops a8 c s b)/\(∀A O w a,a.tmps.size=N->cF A O w env a->ξ1 o (yielded ops a.tmps)=false)/\b= .bn []/\r.up=[]/\r.nw=[]
def o6 (K:Kit S) (P:Program) (N:Nat) (ops:Array Oper) (a8:AS S) (pre:List (ck S)) (b:List (Gh S)) (i:Nat) (o:Oper) (r:ck S):Gh S->Prop
 | .done a=>(∃env gc,Want K P N ops a8 pre b i o r (.ret a) env gc)\/ ∃env,Sc N ops a8 b o r a env
 | .bq u=> ∃env gc,Want K P N ops a8 pre b i o r (.bq u) env gc
 | .never=>(r.up=[]/\r.nw=[])/\ ∃k∈et ops i,∀a,b[k]? ≠some (.done a)
structure r7 (ops:Array Oper) (a8:AS S) (acc:List (ck S)) (gs:List (Gh S)) (i:Nat) (r:ck S) (b:AS S):Prop where
 hp: ∀x,av b.h x=bV (cw (λ_=>true) 0 (acc.take i) (av a8.h)) r.ef x
 hl:b.h.length=r.nx+r.nw.length
 env: ∀s c,aP.get b.env s=some c->(∀k,c' ops k≠some s)/\aP.get a8.env s=some c
 ks:b.nb=a8.nb/\b.lp=a8.lp/\b.inr=a8.inr/\b.df=a8.df
 mE: ∀x∈a8.dt,x∈b.dt
 dt: ∀k a x,k<=i->acc[k]? =some a->x∈keys a.up->x<a8.nb->x∈b.dt
 pre: ∀k a,k<i->acc[k]? =some a->k∈et ops i\/(a.up=[]/\a.nw=[])
 post: ∀k a,i<k->acc[k]? =some a->a.up=[]/\a.nw=[]
structure AnyF (K:Kit S) (P:Program) (N:Nat) (ops:Array Oper) (a8:AS S) (acc:List (ck S)) (gs:List (Gh S)) (pn:Option (Γ×Value×AS S)) (st:AS S):Prop where
 lg:gs.length=acc.length
 hp: ∀x,av st.h x=cw (λ_=>true) 0 acc (av a8.h) x
 hl:a8.h.length<=st.h.length
 pos: ∀(i k:Nat) r b,i<k->acc[i]? =some r->acc[k]? =some b->r.nx+r.nw.length<=b.nx
 top: ∀(i:Nat) r,acc[i]? =some r->a8.h.length<=r.nx/\r.nx+r.nw.length<=st.h.length
 env: ∀s a,aP.get st.env s=some a->jS ops a8 gs s a
 ks:st.nb=a8.nb/\st.lp=a8.lp/\st.inr=a8.inr/\st.df=a8.df
 mE: ∀x∈a8.dt,x∈st.dt
 dt: ∀(i:Nat) r x,acc[i]? =some r->x∈keys r.up->x<a8.nb->x∈st.dt
 step: ∀i o r gh,ops[i]? =some o->acc[i]? =some r->gs[i]? =some gh->o6 K P N ops a8 (acc.take i) (gs.take i) i o r gh
 lF:pn=none-> ∀(k:Nat) (gh:Gh S),gs[k]? =some gh-> ∃a,gh=Gh.done a
 ku: ∀dead u c,pn=some (dead,u,c)-> ∃i r,gs[i]? =some (.bq u)/\acc[i]? =some r/\r7 ops a8 acc gs i r c/\(∀k d,gs[k]? =some (.bq d)->k=i)/\(∀(k:Nat) (gh:Gh S),gs[k]? =some gh->((∃a,gh=Gh.done a)\/k∈dead)/\(k∈dead-> ∀a,gh≠Gh.done a))/\ ∀k∈dead,k<acc.length
structure mb (K:Kit S) (P:Program) (N:Nat) (ops:Array Oper) (a8:AS S) (acc:List (ck S)) (gs:List (Gh S)) (B:cI) (L:Nat->Bool) (A:Pl) (O:Γ) (w:World) (a:Act):Prop where
 c:fS K P N B A O w (cw L 0 acc (av a8.h)) (λx=>a8.h.length<=x/\ ∀(k:Nat) r,acc[k]? =some r->L k=true-> ¬(r.nx<=x/\x<r.nx+r.nw.length)) (λx=>x∈a8.dt\/ ∃(k:Nat) (r:ck S),acc[k]? =some r/\L k=true/\x∈keys r.up) a8.lp a8.inr a8.df a
 base: ∀s b,aP.get a8.env s=some b->(∀k,c' ops k=some s->L k=false)->b.rel A O w (a.tmps.getD s undef)
 done: ∀k s b,L k=true->c' ops k=some s->gs[k]? =some (.done b)->b.rel A O w (a.tmps.getD s undef)
 all: ∀k,L k=true-> ∃b,gs[k]? =some (.done b)
structure mh (N:Nat) (ops:Array Oper):Prop where
 below: ∀(i:Nat) o,ops[i]? =some o-> ∀x∈cK o,x<i
 cl: ∀i,i<ops.size-> ∀k∈et ops i,k<i
 dN: ∀i s,c' ops i=some s->s<N
 un: ∀i k s,c' ops i=some s->c' ops k=some s->i=k
 slot: ∀(i:Nat) o s,ops[i]? =some o->s∈fc ops o->(∃j∈cK o,c' ops j=some s)\/ ∀k,c' ops k=some s->k=i\/i∈et ops k
theorem mD {k s:Nat} (h:c' ops k=some s):k<ops.size:=by
 unfold c' at h;split at h
 ·rename_i o a;exact(ξa.1 a).1
 ·cases h
theorem HN {k:Nat}: ∀ {l:Γ},hh k l=true-> ∀x∈l,x<k:=Dc.Ba
theorem MY (h:vQ N ops=true):mh N ops:=by
 unfold vQ at h;rw[ξ4] at h;have at_: ∀i o,ops[i]? =some o->hh i (cK o)=true/\hh i (et ops i)=true/\(match o.dst with
   |some d=>υ d N&&(ξs ops.size).all λk=>ζ k i||(match c' ops k with|some e=>!(ζ d e)|none=>true)
   |none=>true)=true/\(fc ops o).all (Ff ops i o)=true:=by
  intro i o a;have hi:=(ξa.1 a).1;have:=h i (by simpa using hi);unfold L9 at this;rw[a] at this;simp only[η] at this;exact this
 have m: ∀ {i s},c' ops i=some s-> ∃o,ops[i]? =some o/\o.dst=some s:=by
  intro i s f;unfold c' at f;split at f
  ·rename_i o a;exact⟨o,a,f⟩
  ·cases f
 constructor
 ·exact λi o a=>HN (at_ i o a).1
 ·intro i hi;exact HN (at_ i _ (κ hi)).2.1
 ·intro i s f;obtain⟨o,a,g⟩:=m f;have:=(at_ i o a).2.2.1;rw[g] at this;simp only[η] at this;exact ο.mp this.1
 ·intro i k s hi hk;obtain⟨o,a,g⟩:=m hi;have:=(at_ i o a).2.2.1;rw[g] at this;simp only[η,ξ4] at this;have b:=this.2 k (by simpa using mD hk);rw[hk] at b;simp at b;exact b.symm
 ·intro i o s a f;have:=(at_ i o a).2.2.2;rw[ξ4] at this;have b:=this s f;unfold Ff at b;simp only[ξN,ζz,ξ4] at b;rcases b with⟨j,c,l⟩|b
  ·left;refine⟨j,c,?_⟩;split at l
   ·rename_i d g;rw[g,δ l]
   ·cases l
  ·right;intro k hk;have c:=b k (by simpa using mD hk);rw[hk] at c;simp only[ξN,ξu,ξY,ζo,false_or] at c;rcases c with c|c
   ·exact .inl (δ c)
   ·exact .inr (gB.1 c)
end
section
variable {S:bh} {K:Kit S} {P:Program} {N:Nat} {ops:Array Oper} {a8:AS S}
theorem px {r:ck S} (h:r.up=[]/\r.nw=[]) {x:Nat}: ¬ ∃X,(x,X)∈r.ef:=by
 rintro ⟨X,a⟩;unfold ck.ef at a;rw[h.1,h.2] at a;cases a
theorem JI {acc:List (ck S)} {i x:Nat} {g:Nat->Option (Ob S)} (hi:i<=acc.length):cw (λ_=>true) 0 (acc.take i) g x=cw (λk=>υ k i) 0 acc g x:=by
 have hlen:(acc.take i).length=i:=by rw[ξ3];omega
 have h1:cw (λk=>υ k i) 0 acc g x=cw (λk=>υ k i) 0 (acc.take i) g x:=by
  conv=>lhs;rw[<-ξ6 i acc]
  rw[uC,hlen,ξe];refine C0 λj r a _=>?_;cases b:υ (i+j) i with
  |false=>rfl
  |true=>have:=ο.mp b;omega
 rw[h1];refine lr (λj r a _=>?_) rfl;have:j<i:=by
  have:=(ε.1 a).1;omega
 rw[ξe];exact(ο.mpr this).symm
theorem o6.cl {pre:List (ck S)} {b:List (Gh S)} {i:Nat} {o:Oper} {r:ck S} {gh:Gh S} (h:o6 K P N ops a8 pre b i o r gh):
  (r.up=[]/\r.nw=[])\/((∀k∈keys r.up,k∈r.rd)/\(∀x∈r.rd,x<r.nx)/\ ∀(k:Nat) (a:ck S),pre[k]? =some a->k∈et ops i\/((∀i∈r.rd,i∉keys a.up)/\(∀i∈r.rd,¬(a.nx<=i/\i<a.nx+a.nw.length))/\ ∀i∈keys r.up,i∉a.rd)):=by
 cases gh with
 |done c=>
  rcases h with⟨env,gc,hw⟩|⟨env,hw⟩
  ·exact .inr ⟨hw.sub,hw.lt,hw.sS⟩
  ·exact .inl hw.2.2.2
 |bq u=>obtain⟨env,gc,hw⟩:=h;exact .inr ⟨hw.sub,hw.lt,hw.sS⟩
 |never=>exact .inl h.1
structure kW (ops:Array Oper) (L:Nat->Bool) (i:Nat) (o:Oper):Prop where
 oi:ops[i]? =some o
 up: ∀k,L k=true->k<ops.size/\ ∀j∈et ops k,L j=true
 cl: ∀j∈et ops i,L j=true
 no:L i=false
 af: ∀j∈cK o,L j=true
variable {acc:List (ck S)} {gs:List (Gh S)} {pn:Option (Γ×Value×AS S)} {st:AS S} {L:Nat->Bool} {i:Nat} {o:Oper} {r:ck S}
theorem AnyF.OF (c:AnyF K P N ops a8 acc gs pn st) (e:acc.length=ops.size) {k:Nat} {d:ck S} (hk:acc[k]? =some d): ∃o' gh,ops[k]? =some o'/\gs[k]? =some gh/\o6 K P N ops a8 (acc.take k) (gs.take k) k o' d gh:=by
 have h1:=(ε.1 hk).1;have a:k<ops.size:=by omega
 have b:k<gs.length:=by rw[c.lg];exact h1
 exact⟨_,_,κ a,σ b,c.step k _ _ _ (κ a) hk (σ b)⟩
theorem pP {α:Type} {l:List α} {i k:Nat} {x:α} (h:l[k]? =some x) (hk:k<i):(l.take i)[k]? =some x:=by
 rw[ξU hk];exact h
theorem agree (n:AnyF K P N ops a8 acc gs pn st) (v:acc.length=ops.size) (c:kW ops L i o) (g:acc[i]? =some r) (t: ∀x∈r.rd,x<r.nx)
  (s: ∀(k:Nat) (a:ck S),(acc.take i)[k]? =some a->k∈et ops i\/((∀i∈r.rd,i∉keys a.up)/\(∀i∈r.rd,¬(a.nx<=i/\i<a.nx+a.nw.length))/\ ∀i∈keys r.up,i∉a.rd)):
  ∀x∈r.rd,cw L 0 acc (av a8.h) x=cw (λ_=>true) 0 (acc.take i) (av a8.h) x:=by
 intro x d;rw[JI (ζd (ε.1 g).1)];refine lr (λk a hk j=>?_) rfl;rw[ξe];rcases ξd k i with h|h|h
 ·rw[show υ k i=true from ο.mpr h];rcases s k a (pP hk h) with h1|⟨h1,l,_⟩
  ·exact c.cl k h1
  ·rcases ji.1 j with b|b
   ·exact absurd b (h1 x d)
   ·exact absurd b (l x d)
 ·subst h;rw[c.no];cases f:υ k k with
  |false=>rfl
  |true=>have:=ο.mp f;omega
 ·rw[show υ k i=false by
   cases f:υ k i with
   |false=>rfl
   |true=>have:=ο.mp f;omega]
  have hp:=n.pos i k r a h g hk;have y:=t x d;obtain⟨o',gh,w,_,u⟩:=n.OF v hk;rcases u.cl with p|⟨h1,l,b⟩
  ·exact absurd j (px p)
  ·rcases ji.1 j with m|m
   ·rcases b i r (pP g h) with e|⟨_,_,e⟩
    ·cases q:L k with
     |false=>rfl
     |true=>have:=(c.up k q).2 i e;rw[c.no] at this;cases this
    ·exact absurd d (e x m)
   ·omega
theorem late (f:AnyF K P N ops a8 acc gs pn st) (u:acc.length=ops.size) (j:kW ops L i o) (g:acc[i]? =some r) (q: ∀x∈r.rd,x<r.nx) (t: ∀k∈keys r.up,k∈r.rd) {x:Nat} (v: ∃X,(x,X)∈r.ef):
  ∀k c,i<k->acc[k]? =some c->(∃X,(x,X)∈c.ef)->L k=false:=by
 intro k c h hk e;have hp:=f.pos i k r c h g hk;obtain⟨o',gh,z,_,s⟩:=f.OF u hk;rcases s.cl with l|⟨h1,w,m⟩
 ·exact absurd e (px l)
 ·rcases m i r (pP g h) with d|⟨d,n,y⟩
  ·cases p:L k with
   |false=>rfl
   |true=>have:=(j.up k p).2 i d;rw[j.no] at this;cases this
  ·exfalso;rcases ji.1 v with b|b
   ·have A:=q x (t x b);rcases ji.1 e with a|a
    ·exact d x (h1 x a) b
    ·omega
   ·rcases ji.1 e with a|a
    ·exact n x (h1 x a) b
    ·omega
variable {B:cI} {A:Pl} {O:Γ} {w:World} {a:Act}
theorem BR (d:mh N ops) (c:kW ops L i o) (l:mb K P N ops a8 acc gs B L A O w a) {env:aP S} (t: ∀s b,aP.get env s=some b->s∈fc ops o/\jS ops a8 (gs.take i) s b):cF A O w env a:=by
 intro s b h;obtain⟨p,he⟩:=t s b h;rcases he with⟨k,hk,e⟩|⟨r,x⟩
 ·have v:k<i:=by
   have:=(ε.1 e).1;rw[ξ3] at this;omega
  have u:gs[k]? =some (.done b):=by rw[ξU v] at e;exact e
  refine l.done k s b ?_ hk u;rcases d.slot i o s c.oi p with⟨j,m,n⟩|h1
  ·rw[<-d.un j k s n hk];exact c.af j m
  ·rcases h1 k hk with rfl|g
   ·omega
   ·have:=d.cl k (mD hk) i g;omega
 ·refine l.base s b r λk hk=>?_;cases f:L k with
  |false=>rfl
  |true=>
   exfalso;rcases d.slot i o s c.oi p with⟨j,m,n⟩|h1
   ·have:=d.un j k s n hk;subst this;obtain⟨q,e⟩:=l.all j f;exact x j q hk (pP e (d.below i o c.oi j m))
   ·rcases h1 k hk with rfl|g
    ·rw[c.no] at f;cases f
    ·have:=(c.up k f).2 i g;rw[c.no] at this;cases this
theorem bI.view {rd:Γ} {g gc:Nat->Option (Ob S)} (h:bI A O w g) (b: ∀x∈rd,g x=gc x):bI A O w (iR rd gc):=by
 refine h.less λx X a=>?_;unfold iR at a;cases hm:dy x rd<;>rw[hm] at a
 ·cases a
 ·rw[b x (gB.1 hm)];exact a
theorem b5.view {A':Pl} {O':Γ} {w':World} {rd:Γ} {ef:Up S} {g gc:Nat->Option (Ob S)} (h:b5 A O w (iR rd gc) ef A' O' w') (e: ∀x∈rd,g x=gc x) (l: ∀x X,(x,X)∈ef->x∈rd\/g x=Option.none):b5 A O w g ef A' O' w':=by
 have at_: ∀x Z,iR rd gc x=some Z->g x=some Z:=λx Z a=>by
  unfold iR at a;cases hm:dy x rd<;>rw[hm] at a
  ·cases a
  ·rw[e x (gB.1 hm)];exact a
 refine⟨h.le,h.tr,h.ob,h.keep,λi X hi=>?_,h.dj,h.nd,λx X p m hp=>?_,h.pl,λi X Z hi a hn=>?_⟩
 ·obtain⟨p,h1,k,c⟩:=h.al i X hi;exact⟨p,h1,k,λb d=>⟨(c b d).1,(c b d).2.imp id λ⟨j,Y,q,V,f,a2,a3⟩=>⟨j,Y,q,V,f,at_ _ _ a2,a3⟩⟩⟩
 ·obtain⟨Z,a⟩:=h.lv x X p m hp;exact⟨Z,at_ _ _ a⟩
 ·rcases l i _ hi with h1|h1
  ·refine h.nt i X Z hi ?_ hn;unfold iR;rw[gB.2 h1,cond_true,<-e i h1];exact a
  ·rw[a] at h1;cases h1
theorem OG (n:AnyF K P N ops a8 acc gs pn st) (E:acc.length=ops.size) (C:kW ops L i o) (j:acc[i]? =some r) (z: ∀x∈r.rd,x<r.nx) (m: ∀k∈keys r.up,k∈r.rd)
  {gc:Nat->Option (Ob S)} (s: ∀x∈r.rd,cw L 0 acc (av a8.h) x=gc x) (t: ∀k∈keys r.up,∃Z,gc k=some Z) (f:mb K P N ops a8 acc gs B L A O w a) {A':Pl} {O':Γ} {w':World} (he:b5 A O w (iR r.rd gc) r.ef A' O' w'):
  fS K P N B A' O' w' (bV (cw L 0 acc (av a8.h)) r.ef) (λx=>a8.h.length<=x/\ ∀(k:Nat) r,acc[k]? =some r->(ζ k i||L k)=true-> ¬(r.nx<=x/\x<r.nx+r.nw.length)) (λx=>x∈a8.dt\/ ∃(k:Nat) (r:ck S),acc[k]? =some r/\(ζ k i||L k)=true/\x∈keys r.up) a8.lp a8.inr a8.df a:=by
 have q: ∀x,r.nx<=x->x<r.nx+r.nw.length->a8.h.length<=x/\ ∀(k:Nat) r,acc[k]? =some r->L k=true-> ¬(r.nx<=x/\x<r.nx+r.nw.length):=by
  intro x h1 l;refine⟨by have:=(n.top i r j).1;omega,λk e hk d D=>?_⟩;rcases ξd k i with h|h|h
  ·have:=n.pos k i e r h hk j;omega
  ·subst h;rw[C.no] at d;cases d
  ·have:=n.pos i k r e h j hk;omega
 have u: ∀x X,(x,X)∈r.ef->x∈r.rd\/cw L 0 acc (av a8.h) x=none:=λx X b=>by
  rcases ji.1 ⟨X,b⟩ with h|h
  ·exact .inl (m x h)
  ·right;cases g:cw L 0 acc (av a8.h) x with
   |none=>rfl
   |some Z=>
    obtain⟨p,hp,_⟩:=f.c.rel.al x Z g;rw[f.c.im x (q x h.1 h.2)] at hp;cases hp
 refine(f.c.b6 (λx X b=>?_) (he.view s u)).weaken ?_ ?_
 ·rcases ji.1 ⟨X,b⟩ with h|h
  ·obtain⟨Z,g⟩:=t x h;exact .inl ⟨Z,by rw[s x (m x h)];exact g⟩
  ·exact .inr (q x h.1 h.2)
 ·rintro x ⟨h1,l⟩;refine⟨⟨h1,λk e hk d=>l k e hk (by rw[d,ξv])⟩,λX b=>?_⟩;rcases ji.1 ⟨X,b⟩ with h|h
  ·have:=z x (m x h);obtain⟨Z,g⟩:=t x h;have y:cw L 0 acc (av a8.h) x=some Z:=by rw[s x (m x h)];exact g
   obtain⟨p,hp,_⟩:=f.c.rel.al x Z y;rw[f.c.im x ⟨h1,λk e hk d=>l k e hk (by rw[d,ξv])⟩] at hp;cases hp
  ·exact l i r j (by rw[ξu,ζb]) h
 ·rintro x (⟨h|⟨k,e,hk,d,b⟩⟩|⟨⟨Z,g⟩,X,b⟩)
  ·exact .inl h
  ·exact .inr ⟨k,e,hk,by rw[d,ξv],b⟩
  ·rcases ji.1 ⟨X,b⟩ with h|h
   ·exact .inr ⟨i,r,j,by rw[ξu,ζb],h⟩
   ·have v:=q x h.1 h.2;obtain⟨p,hp,_⟩:=f.c.rel.al x Z g;rw[f.c.im x v] at hp;cases hp
theorem aaE {a:Act} {d s:Nat} {v:Value} (c:d<a.tmps.size):(a.put (some d) v).tmps.getD s undef=bif ζ d s then v else a.tmps.getD s undef:=by
 cases b:ζ d s with
 |true=>
  have:=δ b;subst this;simp[ζA,θ,c]
 |false=>
  have f:d≠s:=λe=>by subst e;simp at b
  simp[ζA,θ,ξ0 f]
theorem OH (t:mh N ops) (q:kW ops L i o) (l:mb K P N ops a8 acc gs B L A O w a) {A':Pl} {O':Γ} {w':World} (D:Tr O w O' w') (hle:A.le A') {m:AV S} {v:Value} (y:gs[i]? =some (.done m)) (I:m.rel A' O' w' v)
  (F:fS K P N B A' O' w' (cw (λk=>ζ k i||L k) 0 acc (av a8.h)) (λx=>a8.h.length<=x/\ ∀(k:Nat) r,acc[k]? =some r->(ζ k i||L k)=true-> ¬(r.nx<=x/\x<r.nx+r.nw.length)) (λx=>x∈a8.dt\/ ∃(k:Nat) (r:ck S),acc[k]? =some r/\(ζ k i||L k)=true/\x∈keys r.up) a8.lp a8.inr a8.df a):
  mb K P N ops a8 acc gs B (λk=>ζ k i||L k) A' O' w' (a.put o.dst v):=by
 have C: ∀s,(a.put o.dst v).tmps.getD s undef=(match o.dst with|some d=>bif ζ d s then v else a.tmps.getD s undef|none=>a.tmps.getD s undef):=by
  intro s;cases e:o.dst with
  |none=>rfl
  |some d=>
   have G:c' ops i=some d:=by unfold c';rw[q.oi];exact e
   exact aaE (by rw[l.c.size];exact t.dN i d G)
 have u: ∀d,o.dst=some d->c' ops i=some d:=λd e=>by unfold c';rw[q.oi];exact e
 refine⟨F.act ?_ ?_,?_,?_,?_⟩
 ·cases o.dst<;>simp[ζA]
 ·cases o.dst<;>rfl
 ·intro s b E z;rw[C s];have g:=(l.base s b E λk hk=>by have:=z k hk;simp only[Bool.or_eq_false_iff] at this;exact this.2).tr D hle;split
  ·rename_i d e;cases p:ζ d s with
   |true=>
    have:=δ p;subst this;have:=z i (u d e);simp at this
   |false=>exact g
  ·exact g
 ·intro k s b hk j n;rw[C s];cases f:ζ k i with
  |true=>
   have:=δ f;subst this;rw[y] at n;cases n;have H:o.dst=some s:=by unfold c' at j;rw[q.oi] at j;exact j
   rw[H];simpa using I
  |false=>
   simp only[f,ξZ] at hk;have g:=(l.done k s b hk j n).tr D hle;split
   ·rename_i d e;cases p:ζ d s with
    |true=>
     have:=δ p;subst this;have:=t.un k i d j (u d e);subst this;simp at f
    |false=>exact g
   ·exact g
 ·intro k hk;cases f:ζ k i with
  |true=>
   have:=δ f;subst this;exact⟨m,y⟩
  |false=>
   simp only[f,ξZ] at hk;exact l.all k hk
end
section
variable {S:bh} {K:Kit S} {P:Program} {N:Nat} {ops:Array Oper} {a8:AS S}
variable {acc:List (ck S)} {gs:List (Gh S)} {pn:Option (Γ×Value×AS S)} {st:AS S} {L:Nat->Bool} {i:Nat} {o:Oper} {r:ck S}
variable {B:cI} {A:Pl} {O:Γ} {w:World} {a:Act}
def e2 (n:Nat) (listed:Array Bool):Nat->Bool:=λk=>υ k n&&listed.getD k true
theorem Zd {n:Nat} {listed:Array Bool} (c:listed.size=n) {i:Nat} (hi:i<n):e2 n (listed.setIfInBounds i true)=λk=>ζ k i||e2 n listed k:=by
 funext k
 unfold e2;cases a:ζ k i with
 |true=>
  have:=δ a;subst this;have h1:υ k n=true:=ο.mpr hi;rw[h1];simp[θ,c,hi]
 |false=>
  have b:i≠k:=λe=>by subst e;simp at a
  simp[θ,ξ0 b]
theorem aap (e:AnyF K P N ops a8 acc gs pn st) (F:acc.length=ops.size) (R:mh N ops) (t:kW ops L i o) (c:acc[i]? =some r) (C: ∀x∈r.rd,x<r.nx) (D: ∀k∈keys r.up,k∈r.rd)
  {gc:Nat->Option (Ob S)} (G: ∀x∈r.rd,cw L 0 acc (av a8.h) x=gc x) (z: ∀k∈keys r.up,∃Z,gc k=some Z) (p:mb K P N ops a8 acc gs B L A O w a) {A':Pl} {O':Γ} {w':World} (he:b5 A O w (iR r.rd gc) r.ef A' O' w')
  {u:AS S} (hp:r7 ops a8 acc gs i r u) (hle:B.nb<=a8.h.length) (q:a8.nb=B.nb):bg K P N B A' O' w' u a:=by
 have n:=OG e F t c C D G z p he;obtain⟨I,J,M,Q⟩:=hp.ks;rw[<-J,<-M,<-Q] at n;refine n.OT (λx=>?_) (λx d=>?_) (λx H d=>?_) (I.trans q) (by rw[hp.hl];have:=(e.top i r c).1;omega) (λs l E=>?_)
 ·rw[hp.hp x]
  by_cases f: ∃X,(x,X)∈r.ef
  ·exact qT f
  ·rw[ec (λX g=>f ⟨X,g⟩),ec (λX g=>f ⟨X,g⟩),JI (ζd (ε.1 c).1)]
   symm
   refine lr (λk b hk j=>?_) rfl;rw[ξe];rcases ξd k i with h|h|h
   ·rw[show υ k i=true from ο.mpr h];rcases hp.pre k b h hk with h1|h1
    ·exact t.cl k h1
    ·exact absurd j (px h1)
   ·subst h;rw[c] at hk;cases hk;exact absurd j f
   ·exact absurd j (px (hp.post k b h hk))
 ·rw[hp.hl] at d;refine⟨by have:=(e.top i r c).1;omega,λk b hk y m=>?_⟩;rcases ξd k i with h|h|h
  ·have:=e.pos k i b r h hk c;omega
  ·subst h;rw[c] at hk;cases hk;omega
  ·rw[(hp.post k b h hk).2] at m;simp at m;omega
 ·rcases d with h|⟨k,b,hk,y,d⟩
  ·exact hp.mE x h
  ·rcases ω i k with h|h
   ·rw[(hp.post k b h hk).1] at d;cases d
   ·exact hp.dt k b x h hk d (by rw[q];exact H)
 ·obtain⟨h1,v⟩:=hp.env s l E;exact(p.base s l v λk hk=>absurd hk (h1 k)).tr he.tr he.le
theorem TX (hm:P.follows .mixedOrders=true) (q:mh N ops) (f:AnyF K P N ops a8 acc gs pn st) (J:acc.length=ops.size) {e:NP} {ae:AS S} (he:(pn=none/\e= .go/\ae=st)\/ ∃dead u V,pn=some (dead,u,V)/\e= .bq u/\ae=V) {id:Nat} (h:bg K P N B A O w a8 a):
  (ζB id ops true).wpIn (fw B.rr) 0 P (ha K P N B e.x ae) a w:=by
 refine ab2 (I:=λlisted a w=> ∃A O,mb K P N ops a8 acc gs B (e2 ops.size listed) A O w a) hm q.below ?_ ?_ ?_
 ·rintro listed a w i o aj Z ⟨A,O,b⟩ G ay af;have aa:i<ops.size:=(ξa.1 G).1;have ab: ∀k,k<ops.size->listed.getD k true=true->e2 ops.size listed k=true:=λk h1 C=>by
   unfold e2;rw[C,ζp];exact ο.mpr h1
  have g:kW ops (e2 ops.size listed) i o:=by
   refine⟨G,?_,?_,?_,?_⟩
   ·intro k hk;unfold e2 at hk;rw[η] at hk;have Q:=ο.mp hk.1;refine⟨Q,λj m=>?_⟩;have aw:=q.cl k Q j m;refine ab j (by omega) ?_;unfold et at m;rw[κ Q] at m;exact k4 Z 12 _ (λx d=>Z k _ (κ Q) hk.2 x d) j m
   ·intro j m;have aw:=q.cl i aa j m;refine ab j (by omega) ?_;unfold et at m;rw[G] at m;exact k4 Z 12 _ af j m
   ·unfold e2;rw[ay,Bool.and_false]
   ·intro j m;exact ab j (by have:=q.below i o G j m;omega) (af j m)
  have ai:i<acc.length:=by omega
  have n:acc[i]? =some acc[i]:=σ ai;have ah:i<gs.length:=by rw[f.lg];exact ai
  have R:=f.step i o acc[i] gs[i] G n (σ ah);have F:gs[i]? =some gs[i]:=σ ah;have ag: ∀j,j<acc[i].nw.length->A.pl (acc[i].nx+j)=none:=by
   intro j m;refine b.c.im _ ⟨by have:=(f.top i _ n).1;omega,λk l hk E Y=>?_⟩;rcases ξd k i with h|h|h
   ·have:=f.pos k i l _ h hk n;omega
   ·subst h;rw[g.no] at E;cases E
   ·have:=f.pos i k _ l h n hk;omega
  simp only[wpOpIn,G];rw[Zd aj aa];generalize aP:gs[i]=an at R F;cases an with
  |done p=>
   rcases R with⟨env,gc,hw⟩|⟨env,aD,aE,aF,ad⟩
   ·have D:=BR q g b hw.ev;rw[if_pos (hw.Ps A O w a b.c.size D)];have L: ∀x∈acc[i].rd,cw (e2 ops.size listed) 0 acc (av a8.h) x=gc x:=λx d=>(agree f J g n hw.lt hw.sS x d).trans (hw.gh x).symm;refine kJ ?_ ?_ (hw.snd B.rr A O w a D (b.c.rel.view L) b.c.ob b.c.cZ ag)
    ·rintro a' w' ⟨v,rfl,W,z,A',O',aC,r⟩;cases z;refine⟨A',O',OH q g b r.tr r.le F aC ?_⟩;have M:=OG f J g n hw.lt hw.sub L hw.al b r;rw[show cw (λk=>ζ k i||e2 ops.size listed k) 0 acc (av a8.h)=bV (cw (e2 ops.size listed) 0 acc (av a8.h)) acc[i].ef from funext λx=>JH n g.no λd=>late f J g n hw.lt hw.sub d];exact M
    ·intro x a' w' H;cases x with
     |panic ak=>obtain⟨u,_,_,z,_⟩:=H;cases z
     |_=>exact H.elim
   ·have D:=BR q g b aD;rw[if_neg (by rw[aE A O w a b.c.size D];simp)];refine⟨λ_ _=>trivial,A,O,?_⟩;subst aF;refine OH q g b (Tr.refl O w) (Pl.le.refl A) F ⟨[],rfl,rfl⟩ ?_;have ar:acc[i].ef=[]:=by unfold ck.ef;rw[ad.1,ad.2];rfl
    rw[show cw (λk=>ζ k i||e2 ops.size listed k) 0 acc (av a8.h)=cw (e2 ops.size listed) 0 acc (av a8.h) from funext λx=>by
     rw[JH n g.no λd=>absurd d (px ad),ar];rfl]
    refine b.c.weaken ?_ ?_
    ·rintro x ⟨h1,C⟩;exact⟨h1,λk l hk E=>C k l hk (by rw[E,ξv])⟩
    ·rintro x (h1|⟨k,l,hk,E,d⟩)
     ·exact .inl h1
     ·exact .inr ⟨k,l,hk,by rw[E,ξv],d⟩
  |bq u=>
   obtain⟨env,gc,hw⟩:=R;have D:=BR q g b hw.ev;rw[if_pos (hw.Ps A O w a b.c.size D)];have L: ∀x∈acc[i].rd,cw (e2 ops.size listed) 0 acc (av a8.h) x=gc x:=λx d=>(agree f J g n hw.lt hw.sS x d).trans (hw.gh x).symm;refine kJ ?_ ?_ (hw.snd B.rr A O w a D (b.c.rel.view L) b.c.ob b.c.cZ ag)
   ·rintro a' w' ⟨v,rfl,W,z,_⟩;cases z
   ·intro x a' w' H;cases x with
    |panic ak=>
     obtain⟨aQ,rfl,rfl,z,A',O',r⟩:=H;cases z;rcases he with⟨h1,_⟩|⟨dead,aO,V,h1,rfl,rfl⟩
     ·obtain⟨p,C⟩:=f.lF h1 i _ F;cases C
     ·obtain⟨i0,aN,T,U,aL,aM,_⟩:=f.ku dead aO _ h1;have:=aM i u F;subst this;rw[F] at T;cases T;rw[n] at U;cases U;exact⟨rfl,A',O',aap f J q g n hw.lt hw.sub L hw.al b r aL h.le h.nb⟩
    |_=>exact H.elim
  |never=>
   obtain⟨_,k,hk,az⟩:=R;exfalso;obtain⟨p,y⟩:=b.all k (g.cl k hk);exact az p (pP y (q.cl i aa k hk))
 ·rintro listed a w aj ao ⟨A,O,b⟩;have t: ∀k,k<ops.size->e2 ops.size listed k=true:=λk hk=>by unfold e2;rw[ao k hk,ζp];exact ο.mpr hk
  rcases he with⟨h1,rfl,rfl⟩|⟨dead,u,V,h1,rfl,rfl⟩
  ·refine⟨rfl,A,O,?_⟩;obtain⟨aH,aI,aJ,aK⟩:=f.ks;have M:=b.c;rw[<-aI,<-aJ,<-aK] at M;have ax: ∀ {k:Nat} {l:ck S},acc[k]? =some l->k<ops.size:=λhk=>by have:=(ε.1 hk).1;omega
   refine M.OT (λx=>?_) (λx d=>?_) (λx aG d=>?_) (aH.trans h.nb) (ζe h.le f.hl) (λs p aB=>?_)
   ·rw[f.hp x];refine lr (λk l hk _=>?_) rfl;rw[ξe];exact(t k (ax hk)).symm
   ·exact⟨ζe f.hl d,λk l hk _ Y=>by have:=(f.top k l hk).2;omega⟩
   ·rcases d with d|⟨k,l,hk,_,d⟩
    ·exact f.mE x d
    ·exact f.dt k l x hk d (by rw[h.nb];exact aG)
   ·rcases f.env s p aB with⟨k,hk,y⟩|⟨C,Y⟩
    ·exact b.done k s p (t k (mD hk)) hk y
    ·refine b.base s p C λk hk=>?_;exfalso;obtain⟨W,y⟩:=b.all k (t k (mD hk));exact Y k W hk y
  ·exfalso;obtain⟨i0,aN,T,U,_⟩:=f.ku dead u _ h1;have au:i0<ops.size:=by have:=(ε.1 U).1;omega
   obtain⟨p,y⟩:=b.all i0 (t i0 au);rw[T] at y;cases y
 ·have r:b5 A O w (av a8.h) [] A O w.drew:=BM h.ob (Fr.drew [] w);have t: ∀k,e2 ops.size (ξ8 ops.size false) k=false:=λk=>by
   unfold e2;cases aq:υ k ops.size with
   |false=>rfl
   |true=>
    have:=ο.mp aq;simp[θ,this]
  refine⟨A,O,?_,?_,?_,?_⟩
  ·rw[show cw (e2 ops.size (ξ8 ops.size false)) 0 acc (av a8.h)=av a8.h from funext λx=>C0 λj l _ _=>by rw[ξe];exact t j];refine(h.toC.b6 (ef:=[]) (λx X d=>by cases d) r).weaken ?_ ?_
   ·rintro x ⟨h1,_⟩;exact⟨h1,λX d=>by cases d⟩
   ·rintro x (h1|⟨_,X,d⟩)
    ·exact .inl h1
    ·cases d
  ·intro s p aA _;exact(h.env s p aA).tr r.tr r.le
  ·intro k s p hk;rw[t k] at hk;cases hk
  ·intro k hk;rw[t k] at hk;cases hk
end
section
variable {S:bh} {P:Program} {N:Nat} {ops:Array Oper} {a8:AS S} {R:Type} {z:R}
theorem Dq {env:aP S} {s:Nat} {a:AV S} {l:Γ} (h:aP.get (eM env l) s=some a):s∈l/\aP.get env s=some a:=uO (get_mem h)
theorem p7 {env:aP S} {s:Nat}: ∀ {l:Γ},s∈l->aP.get (eM env l) s=aP.get env s
 |t::r,h=>by
  simp only[eM]
  by_cases c:t=s
  ·subst c;cases d:aP.get env t with
   |some a=>simp[aP.get]
   |none=>
    simp only
    by_cases b:t∈r
    ·rw[p7 b,d]
    ·cases hk:aP.get (eM env r) t with
     |none=>rfl
     |some a=>exact absurd (Dq hk).1 b
  ·have b:s∈r:=by
    rcases τ.1 h with h|h
    ·exact absurd h.symm c
    ·exact h
   cases d:aP.get env t with
   |some a=>
    have f:ζ t s=false:=by
     cases e:ζ t s with
     |false=>rfl
     |true=>exact absurd (δ e) c
    simp only[aP.get,f,cond_false];exact p7 b
   |none=>exact p7 b
theorem adB {env:aP S} {s:Nat} {c:AV S} (h:aP.get (Fp ops env) s=some c):(∀k,c' ops k≠some s)/\aP.get env s=some c:=by
 constructor
 ·have:=(ξk.1 (get_mem h)).2;rw[ξ4] at this;intro k hk;have h1:=this k (by simpa using mD hk);rw[hk] at h1;simp at h1
 ·unfold Fp at h
  induction env with
  |nil=>cases h
  |cons p r d=>
   obtain⟨t,b⟩:=p;rw[List.filter_cons] at h;simp only[aP.get];split at h
   ·simp only[aP.get] at h;cases a:ζ t s with
    |true=>rw[a] at h;exact h
    |false=>rw[a] at h;exact d h
   ·rename_i e;cases a:ζ t s with
    |true=>
     exfalso;have f:=δ a;subst f;have h1:=(ξk.1 (get_mem h)).2;exact e h1
    |false=>exact d h
theorem TG {o:Oper} {st:AS S} {yes no:AS S->Option R} (h:my N ops o.guard st yes no=some z):
  ∃g,(∀s,aP.get g s=aP.get st.env s)/\
   ((yes {st with env:=g}=some z/\ ∀A O w a,a.tmps.size=N->cF A O w (eM g (fc ops o)) a->ξ1 o (yielded ops a.tmps)=true)\/(no {st with env:=g}=some z/\ ∀A O w a,a.tmps.size=N->cF A O w (eM g (fc ops o)) a->ξ1 o (yielded ops a.tmps)=false)):=by
 unfold my at h;split at h
 ·rename_i i;exact⟨st.env,λ_=>rfl,.inl ⟨h,λA O w a _ _=>by unfold ξ1;rw[i]⟩⟩
 ·rename_i j b i;split at h
  rotate_left
  ·cases h
  rename_i t n;split at h
  rotate_left
  ·cases h
  rename_i d m;cases l:υ d N<;>rw[l] at h
  ·cases h
  simp only[cond_true] at h;have p:d∈fc ops o:=by
   unfold fc Jx c';rw[i];simp[n,m]
  split at h
  ·rename_i c k;have same: ∀s,aP.get ((d,AV.s (.one (.v (.bool c))))::st.env) s=aP.get st.env s:=λs=>by
    simp only[aP.get];cases q:ζ d s with
    |true=>
     have:=δ q;subst this;exact k.symm
    |false=>rfl
   refine⟨(d,AV.s (.one (.v (.bool c))))::st.env,same,?_⟩;have w1: ∀(A:Pl) (O:Γ) (w:World) (a:Act),a.tmps.size=N->cF A O w (eM ((d,AV.s (.one (.v (.bool c))))::st.env) (fc ops o)) a->ξ1 o (yielded ops a.tmps)=(c==b):=λA O w a f e=>
    Pm i n m (by rw[f];exact l) (ed (S:=S) (A:=A) (O:=O) (w:=w) (e d (.s (.one (.v (.bool c)))) (by rw[p7 p,same d];exact k)))
   cases c<;>cases b<;>simp only[cond_true,cond_false] at h
   ·exact .inl ⟨h,λA O w a f e=>by rw[w1 A O w a f e];rfl⟩
   ·exact .inr ⟨h,λA O w a f e=>by rw[w1 A O w a f e];rfl⟩
   ·exact .inr ⟨h,λA O w a f e=>by rw[w1 A O w a f e];rfl⟩
   ·exact .inl ⟨h,λA O w a f e=>by rw[w1 A O w a f e];rfl⟩
  ·rename_i k;refine⟨st.env,λ_=>rfl,.inr ⟨h,λA O w a f e=>?_⟩⟩;obtain⟨xs,r,_⟩:=e d _ (by rw[p7 p];exact k);exact OZ i n m (by rw[f];exact l) r
  ·cases h
variable {K:Kit S} {acc:List (ck S)} {gs:List (Gh S)} {pn:Option (Γ×Value×AS S)} {st st1:AS S} {r:ck S} {gh:Gh S}
theorem jS.snoc {s:Nat} {d:AV S} (h:jS ops a8 gs s d) (hn: ∀b,gh= .done b->c' ops gs.length≠some s):jS ops a8 (gs++[gh]) s d:=by
 rcases h with⟨k,h1,c⟩|⟨h1,c⟩
 ·exact .inl ⟨k,h1,by rw[φ (ε.1 c).1];exact c⟩
 ·refine .inr ⟨h1,λk b hk a=>?_⟩;rcases ξd k gs.length with e|heq|f
  ·rw[φ e] at a;exact c k b hk a
  ·subst heq;simp at a;exact hn b a hk
  ·rw[ξg (by simp;omega)] at a;cases a
theorem fk {α:Type} {l:List α} {x y:α} {k:Nat} (h:(l++[x])[k]? =some y):l[k]? =some y\/(k=l.length/\y=x):=by
 rcases ξd k l.length with a|heq|b
 ·rw[φ a] at h;exact .inl h
 ·subst heq;simp at h;exact .inr ⟨rfl,h.symm⟩
 ·rw[ξg (by simp;omega)] at h;cases h
theorem oe {α:Type} {l:List α} {x:α} {k:Nat} (h:k<=l.length):(l++[x]).take k=l.take k:=ξJ h
theorem AnyF.snoc (c:AnyF K P N ops a8 acc gs pn st) (n: ∀x,av st1.h x=bV (av st.h) r.ef x) (O:r.nx=st.h.length) (hl:st1.h.length=st.h.length+r.nw.length)
  (I: ∀s d,aP.get st1.env s=some d->(gh= .done d/\c' ops acc.length=some s)\/(aP.get st.env s=some d/\ ∀B,gh= .done B->c' ops acc.length≠some s))
  (Q:st1.nb=st.nb/\st1.lp=st.lp/\st1.inr=st.inr/\st1.df=st.df) (q: ∀x∈st.dt,x∈st1.dt) (H: ∀x∈keys r.up,x<st.nb->x∈st1.dt) (V: ∀o,ops[acc.length]? =some o->o6 K P N ops a8 acc gs acc.length o r gh)
  {ku:Option (Γ×Value×AS S)} (R:ku=none->pn=none/\ ∃d,gh= .done d)
  (T: ∀dead u z,ku=some (dead,u,z)-> ∃i y,(gs++[gh])[i]? =some (.bq u)/\(acc++[r])[i]? =some y/\r7 ops a8 (acc++[r]) (gs++[gh]) i y z/\(∀k Y,(gs++[gh])[k]? =some (.bq Y)->k=i)/\(∀(k:Nat) (g:Gh S),(gs++[gh])[k]? =some g->((∃d,g=Gh.done d)\/k∈dead)/\(k∈dead-> ∀d,g≠Gh.done d))/\ ∀k∈dead,k<(acc++[r]).length):
  AnyF K P N ops a8 (acc++[r]) (gs++[gh]) ku st1:=by
 have l:=c.lg;refine⟨by simp[l],?_,?_,?_,?_,?_,?_,?_,?_,?_,?_,T⟩
 ·intro x;rw[uC,ξe,n x];simp only[cw,cond_true];exact O3 (c.hp x)
 ·have:=c.hl;omega
 ·intro i k a b L f G;rcases fk G with p|⟨rfl,rfl⟩
  ·rcases fk f with e|⟨rfl,rfl⟩
   ·exact c.pos i k a b L e p
   ·have:=(ε.1 p).1;omega
  ·rcases fk f with e|⟨rfl,rfl⟩
   ·rw[O];exact(c.top i a e).2
   ·omega
 ·intro i a f;rcases fk f with e|⟨rfl,rfl⟩
  ·have:=c.top i a e;omega
  ·have:=c.hl;omega
 ·intro s d U;rcases I s d U with⟨h1,m⟩|⟨h1,m⟩
  ·exact .inl ⟨acc.length,m,by rw[<-l];simp[h1]⟩
  ·exact(c.env s d h1).snoc (by rw[l];exact m)
 ·obtain⟨A,a2,a3,a4⟩:=c.ks;obtain⟨C,D,E,F⟩:=Q;exact⟨C.trans A,D.trans a2,E.trans a3,F.trans a4⟩
 ·exact λx n=>q x (c.mE x n)
 ·intro i a x f v w;rcases fk f with e|⟨rfl,rfl⟩
  ·exact q x (c.dt i a x e v w)
  ·exact H x v (by rw[c.ks.1];exact w)
 ·intro i o a g t f j;rcases fk f with e|⟨rfl,rfl⟩
  ·have M:=(ε.1 e).1;rw[oe (ζd M),oe (by omega)];refine c.step i o a g t e ?_;rw[φ (by omega)] at j;exact j
  ·rw[oe (ξc _),ζ3];rw[<-l,oe (ξc _),ζ3,l];have:g=gh:=by
    rw[<-l] at j;simp at j;exact j.symm
   subst this;exact V o t
 ·intro h k g j;obtain⟨W,X⟩:=R h;rcases fk j with J|⟨rfl,rfl⟩
  ·exact c.lF W k g J
  ·exact X
theorem AnyF.Ee (t:AnyF K P N ops a8 acc gs pn st) (D:r.up=[]/\r.nw=[]) {o:Γ} {y:Value} {w:AS S} (C:pn=some (o,y,w)) {dead:Γ} (l:dead=o/\(∃b,gh= .done b)\/dead=acc.length::o/\gh= .never):
  ∃i m,(gs++[gh])[i]? =some (.bq y)/\(acc++[r])[i]? =some m/\r7 ops a8 (acc++[r]) (gs++[gh]) i m w/\(∀k n,(gs++[gh])[k]? =some (.bq n)->k=i)/\(∀(k:Nat) (g:Gh S),(gs++[gh])[k]? =some g->((∃b,g=Gh.done b)\/k∈dead)/\(k∈dead-> ∀b,g≠Gh.done b))/\ ∀k∈dead,k<(acc++[r]).length:=by
 obtain⟨i,m,h1,q,c,A,s,p⟩:=t.ku _ _ _ C;have v:=(ε.1 q).1;have B:=t.lg;have G: ∀u,gh≠ .bq u:=by
  intro u e;rcases l with⟨_,b,h⟩|⟨_,h⟩<;>rw[h] at e<;>cases e
 refine⟨i,m,?_,?_,?_,?_,?_,?_⟩
 ·rw[φ (by omega)];exact h1
 ·rw[φ v];exact q
 ·refine⟨?_,c.hl,c.env,c.ks,c.mE,?_,?_,?_⟩
  ·rw[oe (ζd v)];exact c.hp
  ·intro k a x hk d E F;rcases fk d with f|⟨rfl,rfl⟩
   ·exact c.dt k a x hk f E F
   ·omega
  ·intro k a hk d;rcases fk d with f|⟨rfl,rfl⟩
   ·exact c.pre k a hk f
   ·omega
  ·intro k a hk d;rcases fk d with f|⟨rfl,rfl⟩
   ·exact c.post k a hk f
   ·exact D
 ·intro k n hk;rcases fk hk with j|⟨rfl,e⟩
  ·exact A k n j
  ·exact absurd e.symm (G n)
 ·intro k g hk;rcases fk hk with j|⟨rfl,rfl⟩
  ·have H:=(ε.1 j).1;rcases l with⟨rfl,_⟩|⟨rfl,_⟩
   ·exact s k g j
   ·obtain⟨z,a2⟩:=s k g j;refine⟨z.imp id (μ _),λh=>?_⟩;rcases τ.1 h with e|h
    ·omega
    ·exact a2 h
  ·rcases l with⟨rfl,b,rfl⟩|⟨rfl,rfl⟩
   ·exact⟨.inl ⟨b,rfl⟩,λh=>by have:=p _ h;omega⟩
   ·exact⟨.inr (by rw[B];exact ν),λ_ b e=>by cases e⟩
 ·intro k hk;rw[χ];rcases l with⟨rfl,_⟩|⟨rfl,_⟩
  ·have:=p k hk;omega
  ·rcases τ.1 hk with e|h
   ·subst e;simp
   ·have:=p k h;omega
end
section
variable {S:bh} {P:Program} {N:Nat} {ops:Array Oper} {a8:AS S} {R:Type} {z:R}
theorem UR {pn:Option (Γ×Value×AS S)} {cl:Γ} (h:sX pn cl=true): ∃dead u a,pn=some (dead,u,a)/\ ∃j∈dead,j∈cl:=by
 unfold sX at h;split at h
 ·rename_i dead u a;rw[ζz] at h;obtain⟨j,h1,b⟩:=h;exact⟨dead,u,a,rfl,j,h1,gB.1 b⟩
 ·cases h
theorem J6 {l rd:Γ} (h:l.all (λi=>dy i rd)=true): ∀k∈l,k∈rd:=λk hk=>gB.1 (ξ4.1 h k hk)
theorem MC {st:AS S} {o:Oper} {g:AV S} {k:AS S->Option R} (h:hX N o st g k=some z):
  ∃i,k {st with env:=i}=some z/\ ∀s b,aP.get i s=some b->(o.dst=some s/\b=g)\/(aP.get st.env s=some b/\o.dst≠some s):=by
 unfold hX at h;split at h
 ·rename_i d c;cases j:υ d N<;>rw[j] at h
  ·cases h
  ·refine⟨(d,g)::st.env,h,λs b a=>?_⟩;simp only[aP.get] at a;cases f:ζ d s with
   |true=>
    rw[f] at a;have:=δ f;subst this;simp only[cond_true,ι] at a;exact .inl ⟨c,a.symm⟩
   |false=>
    rw[f] at a;refine .inr ⟨a,λe=>?_⟩;rw[c] at e;cases e;simp at f
 ·rename_i c;exact⟨st.env,h,λs b a=>.inr ⟨a,by rw[c];simp⟩⟩
theorem o7 {G:bE S} (D:bU G.K P) (C:jQ G P) (I:mh N ops) {ae:Nat->List (an S)->AH S->(Rs S->AH S->Γ->Option R)->Option R} (H:jP G.K P ae) {ai:Value->AS S->Option R} {k:AS S->Option R}:
  ∀ {c:Nat} {acc:List (ck S)} {gs:List (Gh S)} {pn:Option (Γ×Value×AS S)} {st:AS S},AnyF G.K P N ops a8 acc gs pn st->acc.length+c=ops.size->j0 G ae N ops ai k c acc pn st=some z->
   ∃ad ao Z ak e aa,AnyF G.K P N ops a8 ad ao Z ak/\ad.length=ops.size/\qe ai k e aa=some z/\((Z=none/\e= .go/\aa=ak)\/ ∃dead u t,Z=some (dead,u,t)/\e= .bq u/\aa=t)
 |0,acc,gs,pn,st,d,hl,h=>by
  simp only[j0] at h;split at h
  ·exact⟨acc,gs,none,st,.go,st,d,by omega,h,.inl ⟨rfl,rfl,rfl⟩⟩
  ·rename_i dead u t;exact⟨acc,gs,_,st,.bq u,t,d,by omega,h,.inr ⟨dead,u,t,rfl,rfl,rfl⟩⟩
 |c+1,acc,gs,pn,st,d,hl,h=>by
  have W:=d.lg;simp only[j0] at h;split at h
  ·cases h
  rename_i o O;have aI:acc.length<ops.size:=by omega
  have J: ∀s,c' ops acc.length=some s↔o.dst=some s:=λs=>by unfold c';rw[O]
  cases ag:sX pn (et ops acc.length)<;>rw[ag] at h
  rotate_left
  ·
   simp only[cond_true] at h;obtain⟨dead,u,t,rfl,j,ay,az⟩:=UR ag;refine o7 D C I H (c:=c) (gs:=gs++[.never]) (d.snoc (λx=>rfl) rfl (by simp) (λs f n=>.inr ⟨n,λaG e=>by cases e⟩) ⟨rfl,rfl,rfl,rfl⟩ (λ_ h=>h) (λx l=>by cases l) ?_ (λe=>by cases e) ?_) (by rw[χ,ξr];omega) h
   ·intro o' q;refine⟨⟨rfl,rfl⟩,j,az,λf aw=>?_⟩;obtain⟨i,r,_,_,_,_,ar,_⟩:=d.ku _ _ _ rfl;exact(ar j _ aw).2 ay f rfl
   ·rintro aH al aM e;cases e;exact d.Ee ⟨rfl,rfl⟩ rfl (.inr ⟨rfl,rfl⟩)
  simp only[cond_false] at h;obtain⟨w,y,au⟩:=TG h;have lF: ∀ {gh:Gh S},(∃f,gh= .done f)->pn=none->pn=none/\ ∃f,gh=Gh.done f:=λh e=>⟨e,h⟩;rcases au with⟨B,hw⟩|⟨aA,hw⟩
  ·simp only at B;cases X:(EC G (eM w (fc ops o)) (av st.h) o).all (λi=>υ i st.h.length)<;>rw[X] at B
   ·cases B
   simp only[cond_true] at B;generalize aK:EC G (eM w (fc ops o)) (av st.h) o=rd at B X;have ah: ∀x∈rd,x<st.h.length:=λx l=>ο.mp (ξ4.1 X x l);obtain⟨res,up,nw,m,aB⟩:=L8 D C H B;have ev: ∀s f,aP.get (eM w (fc ops o)) s=some f->s∈fc ops o/\jS ops a8 gs s f:=λs f n=>by
    obtain⟨h1,p⟩:=Dq n;rw[y s] at p;exact⟨h1,d.env s f p⟩
   have af: ∀ {b:Bool},(eW (av st.h) up&&((keys up).all (λi=>dy i rd)&&(j4 (et ops acc.length) rd up acc 0&&b)))=true->
     b=true/\Want G.K P N ops a8 acc gs acc.length o ⟨rd,up,st.h.length,nw⟩ res (eM w (fc ops o)) (av st.h)/\(∀k∈keys up,k<st.h.length):=by
    intro b v;simp only[η] at v;obtain⟨aD,aj,aE,aF⟩:=v;refine⟨aF,⟨aB,ev,hw,d.hp,kY aD,J6 aj,ah,λk aL hk=>?_⟩,λk hk=>?_⟩
    ·have:=Ii aE hk
     rwa [ξe] at this
    ·exact ah k (J6 aj k hk)
   cases res with
   |ret f=>
    simp only[jG] at m;cases v:(eW (av st.h) up&&((keys up).all (λi=>dy i rd)&&(j4 (et ops acc.length) rd up acc 0&&(pn.isNone||Fq up nw))))<;>rw[v] at m
    ·cases m
    simp only[cond_true] at m;obtain⟨Q,Y,M⟩:=af v;obtain⟨T,V,U⟩:=MC m;refine o7 D C I H (c:=c) (acc:=acc++[⟨rd,up,st.h.length,nw⟩]) (gs:=gs++[.done f]) (d.snoc (st1:= {st.b6 up nw with env:=T}) (λx=>?_) rfl ?_ (λs b n=>?_) ⟨rfl,rfl,rfl,rfl⟩ (λx l=>jh l) (λx l A=>j6 A l) (λo' q=>?_) (lF ⟨f,rfl⟩) ?_) (by rw[χ,ξr];omega) V
    ·exact congrFun (s3 M) x
    ·show(en st.h up++nw).length=_;rw[χ,iM]
    ·rcases U s b n with⟨h1,rfl⟩|⟨h1,p⟩
     ·exact .inl ⟨rfl,(J s).2 h1⟩
     ·exact .inr ⟨by rw[<-y s];exact h1,λ_ _ e=>p ((J s).1 e)⟩
    ·rw[O] at q;cases q;exact .inl ⟨_,_,Y⟩
    ·intro dead u t e;subst e;have aC:up=[]/\nw=[]:=by
      simp only[Option.isNone_some,ξZ] at Q;unfold Fq at Q;split at Q
      ·exact⟨rfl,rfl⟩
      ·cases Q
     exact d.Ee aC rfl (.inl ⟨rfl,f,rfl⟩)
   |bq u=>
    simp only[jG] at m;cases aq:u.oneCell'<;>rw[aq] at m
    ·cases m
    simp only[cond_true] at m;split at m
    ·cases m
    cases v:(eW (av st.h) up&&((keys up).all (λi=>dy i rd)&&(j4 (et ops acc.length) rd up acc 0&&idle (et ops acc.length) acc 0)))<;>rw[v] at m
    ·cases m
    simp only[cond_true] at m;obtain⟨ax,Y,M⟩:=af v;refine o7 D C I H (c:=c) (acc:=acc++[⟨rd,up,st.h.length,nw⟩]) (gs:=gs++[.bq u]) (d.snoc (st1:=({st with env:=w}:AS S).b6 up nw) (λx=>?_) rfl ?_ (λs b n=>?_) ⟨rfl,rfl,rfl,rfl⟩ (λx l=>jh l) (λx l A=>j6 A l) (λo' q=>?_) (λe=>by cases e) ?_) (by rw[χ,ξr];omega) m
    ·exact congrFun (s3 M) x
    ·show(en st.h up++nw).length=_;rw[χ,iM]
    ·exact .inr ⟨by rw[<-y s];exact n,λ_ e=>by cases e⟩
    ·rw[O] at q;cases q;exact⟨_,_,Y⟩
    ·intro dead al t e;cases e;refine⟨acc.length,⟨rd,up,st.h.length,nw⟩,by rw[<-W,ξb (ξc _),ζt];rfl,by rw[ξb (ξc _),ζt];rfl,⟨?_,?_,?_,?_,?_,?_,?_,?_⟩,?_,?_,?_⟩
     ·intro x;rw[oe (ξc _),ζ3];rw[show av (({st with env:=w}:AS S).b6 up nw).h x=bV (av st.h) (up++news st.h.length nw) x from congrFun (s3 M) x];exact O3 (d.hp x)
     ·show(en st.h up++nw).length=_;rw[χ,iM]
     ·intro s b n;obtain⟨ab,a2⟩:=adB n;refine⟨ab,?_⟩;rw[y s] at a2;rcases d.env s b a2 with⟨k,hk,_⟩|⟨h1,_⟩
      ·exact absurd hk (ab k)
      ·exact h1
     ·exact d.ks
     ·exact λx l=>jh (d.mE x l)
     ·intro k a x hk E l A;rcases fk E with F|⟨rfl,rfl⟩
      ·exact jh (d.dt k a x F l A)
      ·exact j6 (by show x<st.nb;rw[d.ks.1];exact A) l
     ·intro k a hk E;rcases fk E with F|⟨rfl,rfl⟩
      ·have:=JK ax F
       rwa [ξe] at this
      ·omega
     ·intro k a hk E;rcases fk E with F|⟨rfl,rfl⟩
      ·have:=(ε.1 F).1;omega
      ·omega
     ·intro k al hk;rcases fk hk with L|⟨rfl,_⟩
      ·obtain⟨f,e⟩:=d.lF rfl k _ L;cases e
      ·exact W
     ·intro k g hk;rcases fk hk with L|⟨rfl,rfl⟩
      ·have aJ:=(ε.1 L).1;exact⟨.inl (d.lF rfl k g L),λhm=>by simp at hm;omega⟩
      ·exact⟨.inr (by rw[W];exact ν),λ_ f e=>by cases e⟩
     ·intro k hk;simp at hk;subst hk;simp
  ·obtain⟨T,V,U⟩:=MC aA;refine o7 D C I H (c:=c) (acc:=acc++[⟨[],[],st.h.length,[]⟩]) (gs:=gs++[.done (.bn [])]) (d.snoc (st1:= {st with env:=T}) (λx=>rfl) rfl (by simp) (λs b n=>?_) ⟨rfl,rfl,rfl,rfl⟩ (λ_ h=>h) (λx l=>by cases l) (λo' q=>?_) (lF ⟨_,rfl⟩) ?_) (by rw[χ,ξr];omega) V
   ·rcases U s b n with⟨h1,rfl⟩|⟨h1,p⟩
    ·exact .inl ⟨rfl,(J s).2 h1⟩
    ·exact .inr ⟨by rw[<-y s];exact h1,λ_ _ e=>p ((J s).1 e)⟩
   ·rw[O] at q;cases q;refine .inr ⟨eM w (fc ops o),λs f n=>?_,hw,rfl,rfl,rfl⟩;obtain⟨h1,p⟩:=Dq n;rw[y s] at p;exact⟨h1,d.env s f p⟩
   ·intro dead u t e;exact d.Ee ⟨rfl,rfl⟩ e (.inl ⟨rfl,_,rfl⟩)
theorem AnyF.start {K:Kit S}:AnyF K P N ops a8 [] [] none a8:=by
 refine⟨rfl,λx=>rfl,ξc _,?_,?_,?_,⟨rfl,rfl,rfl,rfl⟩,λx h=>h,?_,?_,?_,?_⟩
 ·intro i k r d _ h;simp at h
 ·intro i r h;simp at h
 ·exact λs b h=>.inr ⟨h,λk c _ a=>by simp at a⟩
 ·intro i r x h;simp at h
 ·intro i o r gh _ h;simp at h
 ·intro _ k gh h;simp at h
 ·intro dead u e h;cases h
theorem TF {G:bE S} (hm:P.follows .mixedOrders=true) (j:bU G.K P) (i:jQ G P) {g:Nat->List (an S)->AH S->(Rs S->AH S->Γ->Option R)->Option R} (l:jP G.K P g) {n:List (an S)->AS S->(Bool->AS S->Option R)->Option R} (q:sL G.K P n) {draw:Bool} {st:AS S} {m:Value->AS S->Option R} {k:AS S->Option R} {id:Nat}
  (h:A6 G g n N ops draw st m k=some z): ∃e b,qe m k e b=some z/\ ∀B A O w a,bg G.K P N B A O w st a->(ζB id ops draw).wpIn (fw B.rr) 0 P (ha G.K P N B e.x b) a w:=by
 unfold A6 at h;split at h
 ·obtain⟨e,b,h1,c⟩:=A5 j i l q h;refine⟨e,b,h1,λB A O w a f=>?_⟩;exact wpIn_region (c B A O w a f)
 ·cases d:vQ N ops<;>rw[d] at h
  ·cases h
  simp only[cond_true] at h;obtain⟨r,s,t,u,e,b,h1,c,o,p⟩:=o7 j i (MY d) l AnyF.start (by simp) h;exact⟨e,b,o,λB A O w a f=>TX hm (MY d) h1 c p f⟩
end
section
variable {S:bh} {K:Kit S} {P:Program} {N:Nat} {B:cI} {A A':Pl} {O O':Γ} {w w':World} {st:AS S} {a:Act}
theorem cW.ca {n0:Nat} {ρ:Nat->Option Nat} (k:fT ρ A A'): ∀ {ds:List Deferred} {df b:List (LV S)},kD ρ df=some b->cW n0 A O w df ds->cW n0 A' O w b ds
 |[],df,b,a,h=>by
  rw[show df=[] from h] at a;cases a;rfl
 |d::ds,df,b,a,h=>by
  rcases h with⟨D,h1,m,e,g⟩|⟨i,r,f,u,c,rfl,e,g,n⟩
  ·exact .inl ⟨D,h1,m,e,cW.ca k a g⟩
  ·simp only[kD,LV.ca] at a;split at a
   ·rename_i x l;split at a
    ·rename_i y p;cases a;split at l
     ·rename_i j o;cases l;exact .inr ⟨j,y,f,u,c,rfl,k.pl _ _ _ o e,g,cW.ca k p n⟩
     ·cases l
    ·cases a
   ·cases a
theorem bg.gc {sl:Γ} (h:bg K P N B A O w st a): ∃A',bg K P N B A' O w (gc sl st) a:=by
 unfold Vx.gc;simp only;obtain⟨c,k⟩: ∃c,c=kept (av st.h) st.nb (nT (st.h.take st.nb)++(EJ (eM st.env sl)++nU st.df)):=⟨_,rfl⟩;rw[<-k];split
 ·rename_i df t;obtain⟨A',d⟩: ∃A':Pl,A'=⟨λj=>(c[j]?).bind A.pl,A.ls⟩:=⟨_,rfl⟩;have o:fT (λi=>posOf i c 0) A A':=⟨λi j p hi hp=>by
   rw[d];simp only[nP hi,ξo];exact hp,by rw[d]⟩
  have n: ∀i,i<B.nb->c[i]? =some i:=λi hi=>by rw[k];exact J1 (by rw[h.nb];exact hi)
  have v: ∀i j,B.nb<=j->c[j]? =some i->B.nb<=i:=λi j m hi=>by rw[k,h.nb] at hi;exact JZ m hi
  have x: ∀i,i<B.nb->A'.pl i=A.pl i:=λi hi=>by rw[d];simp[n i hi]
  refine⟨A',h.size,ab5 o h.env,?_,h.ob,h.cZ,?_,h.nb,?_,h.tr,λi hi=>(x i hi).trans (h.pl i hi),by rw[d];exact h.ls,?_,?_,cW.ca o t h.df,h.lp,h.dl,h.hi,h.o0,h.rr,?_⟩
  ·exact h.rel.ca (idx:=λj=>c[j]?) (λj=>by rw[d]) (by rw[d]) (λi j C h1 e=>u' (by rw[k];exact J2) h1 e) (λi j hi=>nP hi) (λj z m=>jB m)
  ·intro i hi;have:c.length<=i:=by simpa[lK,nN] using hi
   rw[d];simp[ξg this]
  ·show B.nb<=(eO _ (fN _ c)).length;rw[lK,nN,k,<-h.nb];exact J0
  ·intro i X hi g;obtain⟨i0,f,h1,e,_⟩:=jB g;rw[n i hi] at h1;cases h1;exact h.lv i f hi e
  ·intro b r y s;obtain⟨c1,c2,q⟩:=h.cl b r y s;refine⟨c1,c2,λi X p hi g hp=>?_⟩;obtain⟨i0,f,h1,e,l⟩:=jB g;rw[d] at hp;simp only[h1,ξo] at hp;exact λu=>q i0 f p (v i0 i hi h1) e hp (Ob.lM l u)
  ·intro i X hi g;obtain⟨i0,f,h1,e,l⟩:=jB g;rw[n i hi] at h1;cases h1;rw[Ob.vS l];exact h.nt i f hi e
 ·exact⟨A,h⟩
theorem eg.put {l m:Nat} {o o' u:Obj} (h:eg O w m u) (a:m≠l):eg O (w.putObj l o') m u:=⟨⟨(ξm a).trans h.1.1,h.1.2⟩,h.2.1,h.2.2⟩
theorem ph {l:Nat} {o o':Obj} (hl:eg O w l o):Tr O w O (w.putObj l o'):=(H6 (n0:=0) o' hl.1.1 hl.1.2 hl.2.2 (ξt _)).tr
theorem bI.book {g:Nat->Option (Ob S)} {l:Nat} {o o':Obj} (h:bI A O w g) (hl:eg O w l o):bI A O (w.putObj l o') g:=by
 have same: ∀ {i:Nat} {X:Ob S} {p:Value} {b:Nat},g i=some X->A.pl i=some p->cv w X p b->(w.putObj l o').heap[b]? =w.heap[b]? :=λ{i X p b} hi hp d=>by
  obtain⟨t,m,a,_⟩:=h.al i X hi;rw[hp] at m;cases m;exact ξm λe=>a.ZG hl.1.1 hl.2.1 (by rw[<-e];exact d)
 refine⟨λi X hi=>?_,λi j X Y p q b s hi k hp r u v=>h.gr i j X Y p q b s hi k hp r (ka (λc f=>same hi hp (.inl f)) u) (ka (λc f=>same k r (.inl f)) v)⟩;obtain⟨p,hp,a,d⟩:=h.al i X hi;exact⟨p,hp,a.keep (ph hl) (Pl.le.refl A) λb n=>⟨same hi hp n,h.gu hi hp n⟩,d⟩
theorem bg.book {l:Nat} {o o':Obj} {lp':Option (g' S)} {a':Act} (h:bg K P N B A O w st a) (hl:eg O w l o) (hex:l∉B.O0\/B.ex=some l) (z:iW P B O (w.putObj l o') lp') (x:(lp'.isSome||st.inr)=true->a'.defers=[]) (v:cW B.w0.heap.size A O (w.putObj l o') st.df a'.defers) (g:a'.tmps=a.tmps):
  bg K P N B A O (w.putObj l o') {st with lp:=lp'} a':=by
 have d:Tr O w O (w.putObj l o'):=ph hl;refine⟨by rw[g];exact h.size,?_,h.rel.book hl,?_,h.cZ.tr d,h.free,h.nb,h.le,h.tr.trans d,h.pl,h.ls,h.lv,?_,v,z,x,h.hi,h.o0,h.rr,h.nt⟩
 ·intro s n D;rw[g];exact(h.env s n D).tr d (Pl.le.refl A)
 ·exact(H6 (n0:=0) o' hl.1.1 hl.1.2 hl.2.2 (ξt _)).ob h.ob
 ·intro b j m u;obtain⟨c1,c2,q⟩:=h.cl b j m u;refine⟨?_,c2,λi X p hi f hp y=>q i X p hi f hp (ka (λc t=>?_) y)⟩
  rotate_left
  ·obtain⟨E,k,r,_⟩:=h.rel.al i X f;rw[hp] at k;cases k;exact ξm λe=>r.vg hl.1.1 hl.2.1 (by rw[<-e];exact t)
  have C:b≠l:=by
   rintro rfl;rcases hex with hex|hex
   ·exact hex j
   ·exact m hex
  exact(ξm C).trans c1
theorem cW.qQ {n0:Nat} {A2:Pl} {j:Γ} {w2:World} (e: ∀i p,A.pl i=some p->A2.pl i=some p) (g: ∀D,eg O w D (.deferred (some []))->eg j w2 D (.deferred (some []))): ∀ {ds:List Deferred} {df:List (LV S)},cW n0 A O w df ds->cW n0 A2 j w2 df ds
 |[],df,h=>h
 |d::ds,df,h=>by
  rcases h with⟨D,h1,k,a,b⟩|⟨i,r,f,u,c,h1,a,b,l⟩
  ·exact .inl ⟨D,h1,k,g D a,cW.qQ e g b⟩
  ·exact .inr ⟨i,r,f,u,c,h1,e _ _ a,b,cW.qQ e g l⟩
def cI.of (A:Pl) (O:Γ) (w:World) (h:AH S) (ex rr:Option Nat):cI:=⟨A,O,w,h.length,λi=> ∃X,av h i=some X,ex,rr⟩
theorem bg.init {h:AH S} {ex rr:Option Nat} {env:aP S} {lp:Option (g' S)} {inr:Bool} {dt:Γ} (j:bI A O w (av h)) (hO:OB O w) (f:cC K O w) (e: ∀i,h.length<=i->A.pl i=none) (n:a.tmps.size=N) (he:cF A O w env a) (k:iW P (cI.of A O w h ex rr) O w lp) (m:inr=false->rr=none) (d:a.defers=[]) (l: ∀i X,av h i=some X->X.nt=true):
  bg K P N (cI.of A O w h ex rr) A O w ⟨env,h,h.length,lp,inr,[],dt⟩ a:=
 ⟨n,he,j,hO,f,e,rfl,ξc _,Tr.refl _ _,λ_ _=>rfl,rfl,λi X _ c=>⟨X,c⟩,λb g _ _=>⟨rfl,g,λi X p hi c=>absurd (e_ c) (Nat.not_lt.mpr hi)⟩,by rw[d];rfl,k,λ_=>d,e,hO,m,λi X _ c=>l i X c⟩
theorem bg.inner {L:Nat} {O1 f:Γ} {s e:World} {A1 A2:Pl} {ex rr:Option Nat} {st2:AS S} {a2:Act} (h:bg K P N B A O w st a) (T:Tr O w O1 s) (R: ∀b∈O,b∈O1/\s.heap[b]? =w.heap[b]?) (H:A1.pl=A.pl) (Z: ∀b∈O,ex≠some b) (d:bg K P L (cI.of A1 O1 s st.h ex rr) A2 f e st2 a2) {dt':Γ} (U: ∀x∈st.dt,x∈dt') (V: ∀x∈st2.dt,x<st.nb->x∈dt') (W:bI ⟨A2.pl,A.ls⟩ f e (av st2.h)):
  bg K P N B ⟨A2.pl,A.ls⟩ f e {st with h:=st2.h,dt:=dt'} a/\(∀l o,eg O w l o->eg f e l o)/\Pl.le A ⟨A2.pl,A.ls⟩:=by
 have C: ∀i,i<st.h.length->A2.pl i=A.pl i:=λi hi=>by rw[d.pl i hi];exact congrFun H i
 have M: ∀i p,A.pl i=some p->A2.pl i=some p:=λi p hp=>by
  rcases ω i st.h.length with h1|h1
  ·rw[C i h1];exact hp
  ·rw[h.free i h1] at hp;cases hp
 have t:Pl.le A ⟨A2.pl,A.ls⟩:=⟨M,rfl⟩;have u:Tr O w f e:=T.trans d.tr;have I: ∀b∈O,(∀i∈st2.dt,(∃X,av st.h i=some X)-> ∀p,A.pl i=some p->bR p≠some b)->e.heap[b]? =w.heap[b]? /\b∈f/\ ∀i X p,st.h.length<=i->av st2.h i=some X->A2.pl i=some p-> ¬cv e X p b:=by
  intro b m q;obtain⟨s1,s2⟩:=R b m;obtain⟨g,j,E⟩:=d.cl b s1 (Z b m) λi hi hl p hp=>q i hi hl p (by rw[<-congrFun H i];exact hp);exact⟨g.trans s2,j,E⟩
 have n: ∀l o,eg O w l o->eg f e l o:=by
  rintro l o ⟨k,r,F⟩;obtain⟨g,j,_⟩:=I l F λi _ ⟨X,c⟩ p hp=>by
   obtain⟨ag,J,Q,_⟩:=h.rel.al i X c;rw[hp] at J;cases J;exact Q.vg k.1 r
  exact⟨⟨g.trans k.1,k.2⟩,r,j⟩
 refine⟨⟨h.size,h.env.tr u t,W,d.ob,d.cZ,d.free,h.nb,ζe h.le d.le,h.tr.trans u,λi hi=>(C i (by have:=h.le;omega)).trans (h.pl i hi),h.ls,?_,?_,h.df.qQ t.at_ (λD=>n D _),?_,h.dl,h.hi,h.o0,h.rr,λi X hi c=>d.nt i X (by have:=h.le;show i<st.h.length;omega) c⟩,n,t⟩
 ·intro i X hi c;obtain⟨Y,v⟩:=d.lv i X (by have:=h.le;show i<st.h.length;omega) c;exact h.lv i Y hi v
 ·intro b m aa q;obtain⟨c1,c2,G⟩:=h.cl b m aa λi hi=>q i (U i hi);obtain⟨g,j,E⟩:=I b c2 λi hi ⟨X,c⟩ p hp=>by
   rcases ω i B.nb with h1|h1
   ·exact q i (V i hi (by rw[h.nb];exact h1)) (h.lv i X h1 c) p (by rw[<-h.pl i h1];exact hp)
   ·exact λy=>G i X p h1 c hp (.inl y)
  refine⟨g.trans c1,j,λi X p hi c hp=>?_⟩;rcases ω i st.h.length with h1|h1
  ·obtain⟨Y,v⟩:=d.lv i X h1 c;have hp:A2.pl i=some p:=hp;rw[C i h1] at hp;exact λy=>G i Y p hi v hp (.inl (e0 (d.nt i X h1 c) y))
  ·exact E i X p h1 c hp
 ·have z:=h.lp
  revert z
  generalize st.lp=lp;intro z;cases lp with
  |none=>trivial
  |some af=>
   obtain⟨l,fn,tm,D,k,ab,r,F,ad,ae⟩:=z;exact⟨l,fn,tm,D,k,ab,n _ _ r,n _ _ F,ad.tr u (Pl.le.refl _),ae⟩
variable {A1 A2:Pl}
theorem LV.rel.fL {l:LV S} {xs:Γb} (hn:l.fL=true) (g:A2.pl=A1.pl) (h:l.rel A1 O w xs):l.rel A2 O w xs:=by
 cases l with
 |v u=>exact h
 |aH t d=>exact h
 |ptr t d q=>exact h
 |aK i q=>obtain⟨m,h1,a⟩:=h;exact⟨m,by rw[g];exact h1,a⟩
 |e8 i q n y=>obtain⟨m,h1,a⟩:=h;exact⟨m,by rw[g];exact h1,a⟩
 |own i=>obtain⟨m,h1,a⟩:=h;exact⟨m,by rw[g];exact h1,a⟩
 |dY e i y q=>obtain⟨b,n,c,h1,a⟩:=h;exact⟨b,n,c,by rw[g];exact h1,a⟩
 |fB i q n=>obtain⟨m,h1,a⟩:=h;exact⟨m,by rw[g];exact h1,a⟩
 |mp i=>obtain⟨m,h1,a⟩:=h;exact⟨m,by rw[g];exact h1,a⟩
 |aM i=>obtain⟨f,u,c,h1,a⟩:=h;exact⟨f,u,c,by rw[g];exact h1,a⟩
 |c4=>cases hn
 |cP i=>obtain⟨m,h1,a⟩:=h;exact⟨m,by rw[g];exact h1,a⟩
 |bG k n gs=>exact h
 |cS n bs=>exact h
theorem DJ (a:A2.pl=A1.pl): ∀ {ls:List (LV S)} {xs:Γb},kp ls=true->bt A1 O w ls xs->bt A2 O w ls xs
 |[],_,_,h=>h
 |l::r,_,hn,⟨y,ys,e,h1,b⟩=>by
  simp only[kp,η] at hn;exact⟨y,ys,e,h1.fL hn.1 a,DJ a hn.2 b⟩
theorem LY (b:A2.pl=A1.pl) {a:an S} {x:Value} (hn:kp a.cells=true) (h:a.rel A1 O w x):a.rel A2 O w x:=by
 cases a with
 |one l=>
  simp only[an.cells,kp,ζp] at hn;exact LV.rel.fL hn b h
 |agg ls=>obtain⟨xs,h1,c⟩:=h;exact⟨xs,h1,DJ b hn c⟩
theorem qd (a:A2.pl=A1.pl): ∀ {ls:List (an S)} {xs:Γb},lC ls=true->cy A1 O w ls xs->cy A2 O w ls xs
 |[],_,_,h=>h
 |l::r,_,hn,⟨y,ys,e,h1,b⟩=>by
  simp only[lC,η] at hn;exact⟨y,ys,e,LY a hn.1 h1,qd a hn.2 b⟩
theorem AV.DK (b:A2.pl=A1.pl) {a:AV S} {x:Value} (hn:a.fL=true) (h:a.rel A1 O w x):a.rel A2 O w x:=by
 cases a with
 |s l=>exact LY b hn h
 |bn ls=>obtain⟨xs,h1,c⟩:=h;exact⟨xs,h1,qd b hn c⟩
theorem Ob.DK (d:A2.pl=A1.pl) {X:Ob S} {p:Value} (hn:X.fL=true) (h:dd A1 O w X p):dd A2 O w X p:=by
 cases X with
 |box t cs=>obtain⟨b,vs,h1,a,c⟩:=h;exact⟨b,vs,h1,a,DJ d hn c⟩
 |row e xs=>exact h
 |map g i m=>exact h
 |aM f fs cs=>
  simp only[Ob.fL,η] at hn;obtain⟨us,vs,h1,a,c⟩:=h;exact⟨us,vs,h1,qd d hn.1 a,qd d hn.2 c⟩
 |cP s pos=>exact h
 |cu t e bD=>cases hn
theorem Ob.LZ {X:Ob S} (hn:X.fL=true):X.nt=true:=by cases X<;>first|rfl|cases hn
theorem nC: ∀ {h:AH S} {i:Nat} {X:Ob S},hA h=true->av h i=some X->X.fL=true
 |[],i,X,_,hi=>by simp[av] at hi
 |none::r,0,X,_,hi=>by simp[av] at hi
 |some Y::r,0,X,hn,hi=>by
  simp only[hA,η] at hn;simp only[av,ξy,ι] at hi;subst hi;exact hn.1
 |none::r,i+1,X,hn,hi=>nC (h:=r) (i:=i) hn (by simpa[av] using hi)
 |some Y::r,i+1,X,hn,hi=>by
  simp only[hA,η] at hn;exact nC (h:=r) (i:=i) hn.2 (by simpa[av] using hi)
theorem LX (a:A2.pl=A1.pl) {h:AH S} (hn:hA h=true) (c:bI A1 O w (av h)):bI A2 O w (av h):=by
 refine⟨λi X hi=>?_,λi j X Y p q b f hi g hp k=>c.gr i j X Y p q b f hi g (by rw[<-a];exact hp) (by rw[<-a];exact k)⟩;obtain⟨p,hp,d,e⟩:=c.al i X hi;exact⟨p,by rw[a];exact hp,Ob.DK a (nC hn hi) d,e⟩
theorem vh: ∀ {h:AH S} {i:Nat} {X:Ob S},jx h=true->av h i=some X->X.nt=true
 |[],i,X,_,hi=>by simp[av] at hi
 |none::r,0,X,_,hi=>by simp[av] at hi
 |some Y::r,0,X,hn,hi=>by
  simp only[jx,η] at hn;simp only[av,ξy,ι] at hi;subst hi;exact hn.1
 |none::r,i+1,X,hn,hi=>vh (h:=r) (i:=i) hn (by simpa[av] using hi)
 |some Y::r,i+1,X,hn,hi=>by
  simp only[jx,η] at hn;exact vh (h:=r) (i:=i) hn.2 (by simpa[av] using hi)
theorem LW: ∀ {env:aP S} {s:Nat} {a:AV S},nB env=true->aP.get env s=some a->a.fL=true
 |[],s,a,_,h=>by cases h
 |(t,b)::r,s,a,hn,h=>by
  simp only[nB,η] at hn;simp only[aP.get] at h;cases c:ζ t s with
  |true=>rw[c] at h;simp only[cond_true,ι] at h;subst h;exact hn.1
  |false=>rw[c] at h;exact LW hn.2 h
theorem ZH (d:A2.pl=A1.pl) {env:aP S} {a:Act} (hn:nB env=true) (he:cF A1 O w env a):cF A2 O w env a:=λs c b=>AV.DK d (LW hn b) (he s c b)
end
section
variable {S:bh} {K:Kit S} {P:Program} {N:Nat} {B:cI} {A A':Pl} {O O':Γ} {w w':World} {st:AS S} {a:Act} {R:Type} {z:R}
theorem OU {aen:List (an S)} {vs:Γb} (h:cy A O w aen vs):(qR aen).rel A O w (hF vs):=by
 match aen,vs,h with
 |[],vs,h=>rw[show vs=[] from h];exact⟨[],rfl,rfl⟩
 |[x],vs,⟨y,ys,e,h1,a⟩=>subst e;rw[show ys=[] from a];exact h1
 |x::x'::r,vs,h=>
  obtain⟨y,ys,rfl,h1,b,zs,rfl,a,c⟩:=h;exact⟨y::b::zs,by simp[hF],y,_,rfl,h1,b,_,rfl,a,c⟩
theorem E1 (z:bU K P) {fn:Func} {env:aP S} {h:AH S} {aen:List (an S)} (H:jF K env h fn.results.toList=some aen) (he:cF A O w env a) (E:bI A O w (av h)): ∃vs,cy A O w aen vs/\(results fn a.tmps).run P w= .ok (hF vs) w:=by
 have key: ∀(l:List ResultVar) (aen:List (an S)),jF K env h l=some aen-> ∃vs,cy A O w aen vs/\ ∀(F:ResultVar->Sem Value) (_: ∀t,F (.tmp t)=pure (a.tmps.getD t undef)) (_: ∀b t,F (.cell b t)=do loadVar t (<-asAddr (a.tmps.getD b undef))),(l.mapM F).run P w= .ok vs w:=by
  intro l
  induction l with
  |nil=>intro aen d;cases d;exact⟨[],rfl,λF _ _=>by simp⟩
  |cons x l r=>
   intro aen d;cases x with
   |tmp t=>
    simp only[jF] at d;split at d
    ·rename_i b m;split at d
     ·rename_i bs n;cases d;obtain⟨vs,h1,f⟩:=r bs n;refine⟨a.tmps.getD t undef::vs,⟨_,_,rfl,he t _ m,h1⟩,λF g k=>?_⟩;simp only[ζD,g,ξ,ξh,π,f F g k]
     ·cases d
    ·cases d
   |cell c t=>
    simp only[jF] at d;split at d
    rotate_left
    ·cases d
    rename_i b m;split at d
    rotate_left
    ·cases d
    rename_i i U cs hi C;cases q:ζ (dO cs) i.size<;>rw[q] at d
    ·cases d
    simp only[cond_true] at d;split at d
    rotate_left
    ·cases d
    rename_i R B;split at d
    rotate_left
    ·cases d
    rename_i bs n;cases d;obtain⟨us,h1,f⟩:=r bs n;obtain⟨bB,L,M⟩:=he c _ m;obtain⟨p,s,⟨T,vs,p2,J,y⟩,_⟩:=E.al b _ C;rw[L] at s;cases s;cases p2;have hlen:vs.length=i.size:=(gF y).trans (δ q);obtain⟨N,Q⟩:=Bj B y;have D:dB w ⟨bB,0,none⟩ vs:=λj u G=>by
     have:(⟨bB,0,none⟩:Addr).add j=⟨bB,j,none⟩:=by unfold Addr.add;split<;>simp_all
     rw[this,J.cell];exact G
    have o:=lQ (P:=P) (z.Θ.fits hi) hlen D (λe=>by have:=Q e;omega);simp only[Instr.loadAt,Instr.sureAddr,ξ,ξh,π] at o;have I:a.tmps.getD c undef= .pointer (some ⟨bB,0,none⟩):=by simpa using M
    refine⟨_::us,⟨_,_,rfl,N,h1⟩,λF g k=>?_⟩;simp only[ζD,k,ξ,I,asAddr,ξh,π,o,f F g k]
 obtain⟨vs,h1,f⟩:=key _ _ H;refine⟨vs,h1,?_⟩;unfold results;rw[Array.mapM_eq_mapM_toList];simp only[ξ,Sem.run_map];rw[f _ (λt=>rfl) (λb t=>rfl)];simp only[π,ξh]
 congr 1
 match vs with
 |[]=>rfl
 |[v]=>rfl
 |v::u::vs=>simp[hF]
end
section
variable {S:bh} {K:Kit S} {P:Program} {N:Nat} {B:cI} {A A':Pl} {O O':Γ} {w w':World} {st:AS S} {a:Act} {R:Type} {z:R}
theorem Zm {D a:Nat} (h:Dc.mark D=Dc.mark a):D=a:=by
 unfold Dc.mark at h;simp only[Deferred.mk.injEq,ζK,and_true] at h;exact h
theorem cW.put {n0 D:Nat} {o':Obj}: ∀ {ds:List Deferred} {df:List (LV S)},Dc.mark D∉ds->cW n0 A O w df ds->cW n0 A O (w.putObj D o') df ds
 |[],df,_,h=>h
 |d::ds,df,hn,h=>by
  have g:Dc.mark D∉ds:=λhm=>hn (μ _ hm);rcases h with⟨j,h1,k,a,b⟩|⟨i,r,f,u,c,h1,a,b,l⟩
  ·exact .inl ⟨j,h1,k,a.put (o:=.deferred (some [])) (λe=>hn (by rw[h1,e];exact ν)),cW.put g b⟩
  ·exact .inr ⟨i,r,f,u,c,h1,a,b,cW.put g l⟩
theorem bg.take {tm:Array Value} {D:Nat} {ds:List Deferred} (h:bg K P N B A O w st {tmps:=tm,defers:=Dc.mark D::ds}) (c:B.w0.heap.size<=D/\Dc.mark D∉ds) (e:eg O w D (.deferred (some []))) (f:cW B.w0.heap.size A O w st.df ds):
  bg K P N B A O (w.putObj D (.deferred none)) st {tmps:=tm,defers:=ds}:=by
 have a:=h.dl;have b:st.lp=none:=by
  cases hl:st.lp with
  |none=>rfl
  |some i=>rw[hl] at a;have:=a rfl;cases this
 have g:st.inr=false:=by
  cases hl:st.inr with
  |false=>rfl
  |true=>rw[hl,ξv] at a;have:=a rfl;cases this
 refine h.book (lp':=st.lp) e (.inl λd=>?_) ?_ (λh=>?_) (f.put c.2) rfl
 ·have:=h.o0 D d;omega
 ·rw[b];trivial
 ·rw[b,g] at h;cases h
theorem uT {fn:Func} {a:Ending->World->Prop} {u:FrameMode} (hu:u≠ .run) (e:st.df=[]) {tm:Array Value}: ∀ {ds:List Deferred} {w:World},bg K P N B A O w st {tmps:=tm,defers:=ds}->(∀w',bg K P N B A O w' st {tmps:=tm,defers:=[]}->LeavesIn (fw none) 0 P fn tm a [] u w')->LeavesInM (fw none) 0 P fn tm a ds u w
 |[],w,h,hk=>hk w h
 |d::ds,w,h,hk=>by
  rcases h.df with⟨D,h1,g,b,j⟩|⟨i,r,f,k,c,h1,_⟩
  ·subst h1;exact⟨hu,.inl ⟨D,_,rfl,run_takeDeferred b.1.1,uT hu e (h.take g b j) hk⟩⟩
  ·rw[e] at h1;cases h1
def kT:Option Value->FrameMode->Prop
 |none,u=>u= .returning
 |some v,u=>u= .panicking [{v:=v,recovered:=false}]
theorem kT.out {p:Option Value} {u:FrameMode} (h:kT p u):u≠ .run:=by
 cases p<;>rw[show u=_ from h]<;>simp
def l9 (K:Kit S) (P:Program) (g:Nat) (cs:List (an S)) (p:Option Value) (a:Nat->Option (Ob S)) (q:Option Value) (up:Up S):Prop:=ep P g/\ ∀(A:Pl) (O:Γ) (w:World) (xs:Γb) (u:FrameMode),cy A O w cs xs->bI A O w a->OB O w->cC K O w->kT p u->CallsDIn (fw none) 0 P g xs.toArray u w (λe b w'=>(∃v,e= .returned v)/\kT q (settle b)/\ ∃A' O',b5 A O w a up A' O' w')
theorem DB {fn:Func} {m:Ending->World->Prop} {i g:Nat} {cs:List (an S)} {p q:Option Value} {up:Up S} (l:st.df=[.aM i]) (x:av st.h i=some (.aM g [] cs)) (n:l9 K P g cs p (av st.h) q up) (o:eW (av st.h) up=true) {tm:Array Value}:
  ∀ {ds:List Deferred} {w:World} {u:FrameMode},kT p u->bg K P N B A O w st {tmps:=tm,defers:=ds}->(∀A' O' w' j,kT q j->bg K P N B A' O' w' {st.b6 up [] with df:=[]} {tmps:=tm,defers:=[]}->LeavesIn (fw none) 0 P fn tm m [] j w')->LeavesInM (fw none) 0 P fn tm m ds u w
 |[],w,u,hm,h,hk=>by have:=h.df;rw[l] at this;cases this
 |d::ds,w,u,hm,h,hk=>by
  rcases h.df with⟨D,h1,E,b,k⟩|⟨W,r,f,X,c,h1,b,k,F⟩
  ·subst h1;exact⟨hm.out,.inl ⟨D,_,rfl,run_takeDeferred b.1.1,DB l x n o hm (h.take E b k) hk⟩⟩
  ·rw[l] at h1;cases h1;obtain⟨L,G⟩:=n;obtain⟨pp,z,⟨us,vs,p2,T,U⟩,_⟩:=h.rel.al i _ x;rw[b] at z;cases z;rw[show us=[] from T] at p2;cases p2;subst k;have s:=G A O w vs u U h.rel h.ob h.cZ hm;refine⟨hm.out,.inr ⟨λh=>by simp[fw] at h,.func g,vs.toArray,g,vs.toArray,rfl,?_,λ_ _=>trivial,s.1,λc C H Q=>?_⟩⟩
   ·show(invoke (.fn (.func g) vs.toArray) #[]).run P w=_;have:=L vs.toArray w;simpa[invoke] using this
   ·obtain⟨e,j,w',fr,⟨⟨v,rfl⟩,y,A',O',t⟩,V⟩:=s.2 c C H Q;refine⟨.returned v,j,w',fr,?_,V⟩;have a:bg K P N B A' O' w' (st.b6 up []) {tmps:=tm,defers:= {target:=.fn (.func g) vs.toArray,args:= #[]}::ds}:=h.b6 o (by simpa[news] using t);have R:bg K P N B A' O' w' {st.b6 up [] with df:=[]} {tmps:=tm,defers:=ds}:=by
     have I:cW B.w0.heap.size A' O' w' ([]:List (LV S)) ds:=cW.b6 h.rel t F;have J:=h.dl;refine⟨a.size,a.env,a.rel,a.ob,a.cZ,a.free,a.nb,a.le,a.tr,a.pl,a.ls,a.lv,a.cl,I,a.lp,λM=>?_,a.hi,a.o0,a.rr,a.nt⟩;have:=J M;cases this
    exact uT y.out rfl R λw2 b=>hk A' O' w2 _ y b
structure FM (G:bE S) (P:Program):Prop where
 K:bU G.K P
 C:jQ G P
 H: ∀f c,pL G.H f=some c-> ∀ {R:Type} (aen:List (an S)) (h:AH S) (k:Rs S->AH S->Γ->Option R) (z:R),c.out aen h k=some z-> ∃r h' dt,k r h' dt=some z/\dv G.K P f aen h r h' dt
 D: ∀g a,pK G.D g=some a-> ∀ {R:Type} (cs:List (an S)) (p:Option Value) (b:Nat->Option (Ob S)) (k:Option Value->Up S->Option R) (z:R),a.out cs p b k=some z-> ∃q up,k q up=some z/\l9 G.K P g cs p b q up
 T: ∀f J,G.T f=some J->P.funcs[f]? =some J.fn
 E: ∀f J,G.T f=some J->ep P f
 M:P.follows .mixedOrders=true
theorem ab_ {G:bE S} (n:FM G P) {fn:Func} {e:AX} {k:Rs S->AS S->Option R} (h:qB G fn e st k=some z):
  ∃r d,k r d=some z/\d.nb=st.nb/\ ∀(N:Nat) (B:cI) (A:Pl) (O:Γ) (w:World) (a:Act) (b:Ending->World->Prop),bg G.K P N B A O w st a->
   (∀A' O' w' a' f,bg G.K P N B A' O' w' d a'->h7 A' O' w' r f->b f w')->bodyPostM (fw none) 0 P fn b e.of a w:=by
 unfold qB at h;split at h
 ·rename_i j;split at h
  ·cases h
  ·rename_i u;refine⟨.bq u,st,h,rfl,λN B A O w a b c hk=>?_⟩;show LeavesInM (fw none) 0 P fn a.tmps b a.defers (.panicking _) w;exact uT (by simp) j (tm:=a.tmps) c λw' h'=>hk A O w' _ _ h' rfl
  ·rename_i s t;split at h
   rotate_left
   ·cases h
   rename_i aen has;refine⟨.ret (qR aen),st,h,rfl,λN B A O w a b c hk=>?_⟩;have fin:LeavesInM (fw none) 0 P fn a.tmps b a.defers .returning w:=uT (by simp) j (tm:=a.tmps) c λw' h'=>by
    obtain⟨vs,x,y⟩:=E1 n.K (a:= {tmps:=a.tmps,defers:=[]}) has h'.env h'.rel;exact⟨_,y,hk A O w' _ _ h' ⟨_,rfl,OU x⟩⟩
   cases e with
   |normal=>exact fin
   |ret=>exact fin
   |exit id=>exact absurd rfl (s id)
   |bq u=>exact absurd rfl (t u)
 ·rename_i i j;split at h
  rotate_left
  ·cases h
  rename_i g cs H;split at h
  rotate_left
  ·cases h
  rename_i E I;have main: ∀ {p:Option Value},E.out cs p (av st.h) (λp up=>bif !(eW (av st.h) up) then none else(match p with
     |some u=>k (.bq u) {st.b6 up [] with df:=[]}
     |none=>(match jF G.K st.env (en st.h up) fn.results.toList with|some aen=>k (.ret (qR aen)) {st.b6 up [] with df:=[]}|none=>none)))=some z->
    ∃r d,k r d=some z/\d.nb=st.nb/\ ∀(N:Nat) (B:cI) (A:Pl) (O:Γ) (w:World) (a:Act) (b:Ending->World->Prop) (u:FrameMode),kT p u->bg G.K P N B A O w st a->
   (∀A' O' w' a' f,bg G.K P N B A' O' w' d a'->h7 A' O' w' r f->b f w')->LeavesInM (fw none) 0 P fn a.tmps b a.defers u w:=by
   intro p hp;obtain⟨q,up,h1,F⟩:=n.D g E I _ _ _ _ _ hp;cases o:eW (av st.h) up<;>rw[o] at h1
   ·cases h1
   simp only[ξY,cond_false] at h1;cases q with
   |some u=>
    refine⟨_,_,h1,rfl,λN B A O w a b L hm c hk=>?_⟩;refine DB j H F o (tm:=a.tmps) hm c λA' O' w' C v h'=>?_;rw[show C=_ from v];exact hk A' O' w' _ _ h' rfl
   |none=>
    simp only at h1;split at h1
    rotate_left
    ·cases h1
    rename_i aen has;refine⟨_,_,h1,rfl,λN B A O w a b L hm c hk=>?_⟩;refine DB j H F o (tm:=a.tmps) hm c λA' O' w' C v h'=>?_;rw[show C=_ from v];have J:bI A' O' w' (av (en st.h up)):=by
     have:=h'.rel;simpa[AS.b6] using this
    obtain⟨vs,x,y⟩:=E1 n.K (a:= {tmps:=a.tmps,defers:=[]}) has h'.env J;exact⟨_,y,hk A' O' w' _ _ h' ⟨_,rfl,OU x⟩⟩
  simp only at h;split at h
  ·cases h
  ·rename_i u;obtain⟨r,d,h1,l,m⟩:=main h;exact⟨r,d,h1,l,λN B A O w a b c hk=>m N B A O w a b _ rfl c hk⟩
  ·rename_i s t;obtain⟨r,d,h1,l,m⟩:=main h;refine⟨r,d,h1,l,λN B A O w a b c hk=>?_⟩;have fin:=m N B A O w a b .returning rfl c hk;cases e with
   |normal=>exact fin
   |ret=>exact fin
   |exit id=>exact absurd rfl (s id)
   |bq u=>exact absurd rfl (t u)
 ·cases h
theorem aan {r:Rs S} {k:Rs S->AH S->Γ->Option R} (h:qo r st k=some z):
  ∃y h' dt,k y h' dt=some z/\ ∀(N:Nat) (B:cI) (A:Pl) (O:Γ) (w:World) (a:Act) (e:Ending),B.ex=none->bg K P N B A O w st a->h7 A O w r e-> ∃A',h7 A' O w y e/\rK B.A0 B.O0 B.w0 B.nb h' dt A' O w:=by
 unfold qo at h;simp only at h;obtain⟨c,f⟩: ∃c,c=kept (av st.h) st.nb (nT (st.h.take st.nb)++(match r with| .ret a=>a.refs| .bq _=>[])):=⟨_,rfl⟩;have key: ∀(N:Nat) (B:cI) (A:Pl) (O:Γ) (w:World) (a:Act),B.ex=none->bg K P N B A O w st a-> ∃A',fT (λi=>posOf i c 0) A A'/\rK B.A0 B.O0 B.w0 B.nb (eO (λi=>posOf i c 0) (fN (av st.h) c)) (st.dt.filter λi=>υ i st.nb) A' O w:=by
  intro N B A O w a hex h;obtain⟨A',d⟩: ∃A':Pl,A'=⟨λj=>(c[j]?).bind A.pl,A.ls⟩:=⟨_,rfl⟩;have D:fT (λi=>posOf i c 0) A A':=⟨λi j p hi hp=>by
   rw[d];simp only[nP hi,ξo];exact hp,by rw[d]⟩
  have t: ∀i,i<B.nb->c[i]? =some i:=λi hi=>by rw[f];exact J1 (by rw[h.nb];exact hi)
  have I: ∀i j,B.nb<=j->c[j]? =some i->B.nb<=i:=λi j l hi=>by rw[f,h.nb] at hi;exact JZ l hi
  refine⟨A',D,?_,h.ob,h.tr,λi hi=>?_,λj l=>?_,by rw[d];exact h.ls,?_,?_,?_,?_⟩
  ·exact h.rel.ca (idx:=λj=>c[j]?) (λj=>by rw[d]) (by rw[d]) (λi j M h1 g=>u' (by rw[f];exact J2) h1 g) (λi j hi=>nP hi) (λj J l=>jB l)
  ·rw[d];simp only[t i hi,ξo];exact h.pl i hi
  ·have:=(ξk.1 l).2;rw[<-h.nb];exact ο.mp this
  ·rw[lK,nN,f,<-h.nb];exact J0
  ·intro i hi;rw[lK,nN] at hi;rw[d];simp[ξg hi]
  ·intro b F G;obtain⟨c1,c2,C⟩:=h.cl b F (by rw[hex];simp) λi hi _ p hp=>by
    rcases ω i B.nb with h1|h1
    ·exact G i (ξk.2 ⟨hi,ο.mpr (by rw[h.nb];exact h1)⟩) p hp
    ·rw[h.hi i h1] at hp;cases hp
   refine⟨c1,c2,λi X p hi o hp=>?_⟩;obtain⟨i0,m,h1,g,n⟩:=jB o;rw[d] at hp;simp only[h1,ξo] at hp;exact λH=>C i0 m p (I i0 i hi h1) g hp (Ob.lM n H)
  ·intro i X hi o;obtain⟨i0,m,h1,g,n⟩:=jB o;rw[t i hi] at h1;cases h1;rw[Ob.vS n];exact h.nt i m hi g
 cases r with
 |ret L=>
  simp only at h f;rw[<-f] at h;split at h
  ·rename_i a' E;refine⟨_,_,_,h,λN B A O w a e hex q ⟨v,h1,g⟩=>?_⟩;obtain⟨A',x,s⟩:=key N B A O w a hex q;exact⟨A',⟨v,h1,AV.hD x E g⟩,s⟩
  ·cases h
 |bq u=>
  simp only at h f;rw[<-f] at h;refine⟨_,_,_,h,λN B A O w a e hex q he=>?_⟩;obtain⟨A',x,s⟩:=key N B A O w a hex q;exact⟨A',he,s⟩
end
section
variable {S:bh} {K:Kit S} {P:Program} {N:Nat} {B:cI} {A A':Pl} {O O':Γ} {w w':World} {st:AS S} {a:Act} {R:Type} {z:R}
inductive Sub:Code->Code->Prop
 |refl (c):Sub c c
 |seq1 {x y d}:Sub x d->Sub (.seq x y) d
 |On {x y d}:Sub y d->Sub (.seq x y) d
 |Iv {o x y d}:Sub x d->Sub (.cond o x y) d
 |Iw {o x y d}:Sub y d->Sub (.cond o x y) d
 |block {id x d}:Sub x d->Sub (.block id x) d
 |loop {x d}:Sub x d->Sub (.loop x) d
 |scope {x d}:Sub x d->Sub (.scope x) d
def aO (K:Kit S) (P:Program) (I:dm S) (c:Code):Prop:= ∀(x:Code) (lc:bc S),Sub c (.loop x)->fZ I.lc (dG x)=some lc-> ∀ {R:Type} (st:AS S) (k:AX->AS S->Option R) (z:R),lc.out st k=some z-> ∃e b,k e b=some z/\ ∀B A O w a,bg K P I.fn.ntmps B A O w st a->(Code.loop x).wpIn (fw B.rr) 0 P (ha K P I.fn.ntmps B e b) a w
theorem aO.nil {I:kP} {c:Code}:aO K P (⟨I,[]⟩:dm S) c:=λx lc _ h=>by cases h
theorem aO.sub {I:dm S} {c d:Code} (h:aO K P I c) (b: ∀x,Sub d x->Sub c x):aO K P I d:=λx lc h1 a=>h x lc (b _ h1) a
def iX (K:Kit S) (P:Program) (run: {R:Type}->dm S->Code->AS S->(AX->AS S->Option R)->Option R):Prop:= ∀ {R:Type} (I:dm S) (c:Code) (st:AS S) (k:AX->AS S->Option R) (z:R),aO K P I c->run I c st k=some z-> ∃e b,k e b=some z/\ ∀B A O w a,bg K P I.fn.ntmps B A O w st a->c.wpIn (fw B.rr) 0 P (ha K P I.fn.ntmps B e b) a w
theorem PF: ∀ {ps:Γ} {aen:List (an S)} {b:aP S},jO ps aen=some b->ps.length=aen.length
 |[],[],_,_=>rfl
 |p::ps,a::aen,b,h=>by
  simp only[jO] at h;split at h
  ·rename_i e he;simp[PF he]
  ·cases h
 |[],_::_,_,h=>by cases h
 |_::_,[],_,h=>by cases h
theorem I6: ∀ {l:List (Nat×Value)} {tm:Array Value},(l.foldl (λt p=>t.setIfInBounds p.1 p.2) tm).size=tm.size
 |[],tm=>rfl
 |(p,v)::l,tm=>by simp[I6]
theorem Ci {s:Nat}: ∀ {l:List (Nat×Value)} {tm:Array Value},(∀p∈l,p.1≠s)->(l.foldl (λt p=>t.setIfInBounds p.1 p.2) tm).getD s undef=tm.getD s undef
 |[],tm,_=>rfl
 |(p,v)::l,tm,h=>by
  rw[List.foldl_cons,Ci λq b=>h q (μ _ b)];have a:p≠s:=h (p,v) ν;simp only[θ,ξ0 a]
theorem PG {s:Nat} {b:AV S}: ∀ {ps:Γ} {aen:List (an S)} {g:aP S} {xs:Γb} {tm:Array Value},jO ps aen=some g->nQ tm.size ps=true->cy A O w aen xs->aP.get g s=some b->b.rel A O w (((ps.zip xs).foldl (λt p=>t.setIfInBounds p.1 p.2) tm).getD s undef)
 |[],[],g,xs,tm,d,_,u,f=>by cases d;cases f
 |p::ps,c::aen,g,xs,tm,d,hp,⟨y,ys,e,h1,j⟩,f=>by
  subst e;simp only[jO] at d;split at d
  rotate_left
  ·cases d
  rename_i v r;cases d;simp only[nQ,η] at hp;obtain⟨n,i,o⟩:=hp;have k:p<tm.size:=ο.mp n;have l:p∉ps:=λhm=>by rw[gB.2 hm] at i;cases i
  have m: ∀q∈ps.zip ys,q.1≠p:=λq h e=>l (by rw[<-e];exact(ζC (a:=q.1) (b:=q.2) h).1);simp only[aP.get] at f;show b.rel A O w (((ps.zip ys).foldl (λt p=>t.setIfInBounds p.1 p.2) (tm.setIfInBounds p y)).getD s undef);cases h:ζ p s with
  |true=>
   rw[h] at f;have:=δ h;subst this;simp only[cond_true,ι] at f;subst f;rw[Ci m];have e:(tm.setIfInBounds p y).getD p undef=y:=by simp[θ,k]
   rw[e];exact h1
  |false=>
   rw[h] at f;exact PG r (by simpa using o) j f
 |[],_::_,g,xs,tm,d,_,_,_=>by cases d
 |_::_,[],g,xs,tm,d,_,_,_=>by cases d
theorem PH {s:Nat}: ∀ {ps:Γ} {aen:List (an S)} {b:aP S},jO ps aen=some b->aP.get b s=none->s∉ps
 |[],[],b,a,_=>by simp
 |p::ps,c::aen,b,a,d=>by
  simp only[jO] at a;split at a
  rotate_left
  ·cases a
  rename_i h g;cases a;simp only[aP.get] at d;cases f:ζ p s with
  |true=>rw[f] at d;cases d
  |false=>
   rw[f] at d;intro hm;rcases τ.1 hm with e|hm
   ·subst e;simp at f
   ·exact PH g d hm
 |[],_::_,b,a,_=>by cases a
 |_::_,[],b,a,_=>by cases a
theorem Jd {env:aP S} {s:Nat}: ∀ {a:aP S},aP.get (a++env) s=(match aP.get a s with|some b=>some b|none=>aP.get env s)
 |[]=>rfl
 |(t,b)::r=>by
  simp only[ζ1,aP.get];cases ζ t s with
  |true=>rfl
  |false=>exact Jd
theorem aej {env:aP S} {ps:Γ} {aen:List (an S)} {g:aP S} {xs:Γb} {tm:Array Value} (f:jO ps aen=some g) (hp:nQ tm.size ps=true) (j:cy A O w aen xs) (he:cF A O w env {tmps:=tm,defers:=[]}):cF A O w (g++env) {tmps:=(ps.zip xs).foldl (λt p=>t.setIfInBounds p.1 p.2) tm,defers:=[]}:=by
 intro s d c;rw[Jd] at c;split at c
 ·rename_i b h;cases c;exact PG f hp j h
 ·rename_i hn;have hn:=PH f hn;show d.rel A O w (((ps.zip xs).foldl (λt p=>t.setIfInBounds p.1 p.2) tm).getD s undef);rw[Ci λq i e=>hn (by rw[<-e];exact(ζC (a:=q.1) (b:=q.2) i).1)];exact he s d c
theorem aeh {run: {R:Type}->dm S->Code->AS S->(AX->AS S->Option R)->Option R} (an:iX K P run) {R:Type}:sL (R:=R) K P (FJ run):=by
 intro aen st k z h;unfold FJ at h;split at h
 rotate_left
 ·cases h
 rename_i d Q;split at h
 rotate_left
 ·cases h
 rename_i au al ar;cases T:(nQ d.J.fn.ntmps d.ps&&jx st.h)<;>rw[T] at h
 ·cases h
 simp only[cond_true] at h;rw[η] at T;obtain⟨aV,aU⟩:=T;obtain⟨f,st1,h1,aY⟩:=an _ _ _ _ _ aO.nil h;split at h1
 rotate_left
 ·cases h1
 rename_i aP;cases aj:jx st1.h<;>rw[aj] at h1
 ·cases h1
 simp only[cond_true] at h1;obtain⟨m,st2,u,aZ⟩:=an _ _ _ _ _ aO.nil h1;obtain⟨dt',F⟩: ∃dt',dt'=eZ st.nb st.dt (st1.dt++st2.dt):=⟨_,rfl⟩;rw[<-F] at u;obtain⟨b,j,hk,aL⟩: ∃b j,k b {st with h:=st2.h,dt:=dt',lp:=some {d with fa:=j}}=some z/\(m= .normal/\b=true/\j=none\/m= .ret/\b=false/\j=some .ret\/ ∃id,m= .exit id/\b=false/\j=some (.exit id)):=by
  split at u
  ·refine⟨true,none,?_,.inl ⟨rfl,rfl,rfl⟩⟩;have:({d with fa:=none}:g' S)=d:=by rw[<-al]
   rw[this,<-Q];exact u
  ·cases u
  ·exact⟨false,_,u,.inr (.inl ⟨rfl,rfl,rfl⟩)⟩
  ·exact⟨false,_,u,.inr (.inr ⟨_,rfl,rfl,rfl⟩)⟩
 refine⟨b,_,hk,?_⟩;intro N B o c x A O w a l ak aH n aT ab g;have ah:=g.lp;rw[Q] at ah;obtain⟨l',fn,tm,D,aw,U,ax,ay,az,V⟩:=ah;have aS:l'=l:=by
  have:=g.ls;rw[aT,aw] at this;exact ξA this.symm
 subst aS;have L:a.defers=[]:=g.dl (by rw[Q];rfl);have aC: ∀i p,B.A0.pl i=some p->A.pl i=some p:=λi p hp=>by
  rcases ω i B.nb with h1|h1
  ·rw[g.pl i h1];exact hp
  ·rw[g.hi i h1] at hp;cases hp
 have aB:Pl.le B.A0 A:=⟨aC,g.ls⟩;have ag:w.heap[l']? =some (.loop (ek d fn tm D)):=ax.1.1;have a1:(c.args.map a.eval).size=(ek d fn tm D).params.size:=by
  have f:=vR ab;simp only[ξw,Array.length_toList] at f;simp[ek,f,PF ar]
 have a6:=run_yield (P:=P) ag a1;obtain⟨r,ao⟩: ∃r,r=((ek d fn tm D).params.zip (c.args.map a.eval)).foldl (λtmps (t,a)=>tmps.setIfInBounds t a) tm:=⟨_,rfl⟩;have aq:r=(d.ps.zip (c.args.toList.map a.eval)).foldl (λt p=>t.setIfInBounds p.1 p.2) tm:=by
  rw[ao,<-ξQ];simp[ek]
 have a7:(Instr.yield l' (c.args.map a.eval)).run P w= .ok (.round l' fn r d.gn d.body) w:=by rw[a6,ao];rfl
 have aX:(execOp a.eval o).run P w= .ok (.round l' fn r d.gn d.body) w:=by
  simp only[execOp,ak,ξ,resolve,aH,n,ζ0,ξh,π,invoke];simpa using a7
 refine⟨λ_ _=>trivial,?_⟩;rw[ζn _ _ _ (by rw[ak];simp),aX,Oper.uponIn_round];refine⟨λh=>by simp[fw] at h,roundIn_of_wpIn trivial ?_⟩;have aM:cF A O w (au++d.env) {tmps:=r,defers:=[]}:=by
  rw[aq];exact aej ar (by rw[V];exact aV) ab (az.tr (Tr.refl _ _) aB)
 have i1:bg K P d.J.fn.ntmps (cI.of A O w st.h none (some l')) A O w ⟨au++d.env,st.h,st.h.length,none,true,[],[]⟩ {tmps:=r,defers:=[]}:=
  bg.init g.rel g.ob g.cZ g.free (by show r.size=_;rw[aq,I6,V]) aM trivial (λh=>by cases h) rfl (λi X H=>vh aU H)
 refine wpIn_mono (aY _ A O w _ i1) ?_;rintro e Y w1 ⟨rfl,⟨av,a8⟩,O1,q⟩;have aQ:a8=A.ls:=q.ls;subst aQ;show ∃bj,_;have aI: ∀x∈st.dt,x∈dt':=λx n=>by rw[F];exact jh n
 have aJ: ∀x∈st1.dt,x<st.nb->x∈dt':=λx n hn=>by rw[F];exact j6 hn (ξ9 _ n)
 have aK: ∀x∈st2.dt,x<st.nb->x∈dt':=λx n hn=>by rw[F];exact j6 hn (ξ7 _ n)
 obtain⟨bc,Z,bf⟩:=g.inner (Tr.refl O w) (λb I=>⟨I,rfl⟩) rfl (λ_ _ h=>by cases h) q aI aJ q.rel;have s:=Z _ _ ax;refine⟨_,run_beginRound s.1.1 (by simp[ek,al]),?_⟩;obtain⟨busy,ad⟩: ∃busy,busy=({ek d fn tm D with state:=.busy}:Loop):=⟨_,rfl⟩;rw[<-ad];have ae: ∀ {w':World} {A':Pl} {O':Γ},cW B.w0.heap.size A' O' w' st.df a.defers:=λ{w' A' O'}=>by
  have:=g.df;rw[L] at this ⊢;exact this
 have W:=bc.book (o':=.loop busy) (lp':=none) (a':=a) s (.inr U) trivial (λ_=>L) ae rfl;have aF:Y.defers=[]:=q.dl (by rw[aP,ξv]);have i2:bg K P d.J.fn.ntmps (cI.of ⟨av,A.ls⟩ O1 (w1.putObj l' (.loop busy)) st1.h none (some l')) ⟨av,A.ls⟩ O1 (w1.putObj l' (.loop busy)) ⟨st1.env,st1.h,st1.h.length,none,true,[],[]⟩ Y:=
  bg.init (q.rel.book s) W.ob W.cZ q.free q.size (q.env.tr (ph s) (Pl.le.refl _)) trivial (λh=>by cases h) aF (λi X H=>vh aj H)
 refine wpIn_mono (aZ _ _ _ _ _ i2) ?_;rintro e a2 w2 ⟨rfl,⟨ba,a_⟩,aA,G⟩;have aR:a_=A.ls:=G.ls;subst aR;obtain⟨bd,aa,bh⟩:=W.inner (st2:=st2) (Tr.refl O1 _) (λb I=>⟨I,rfl⟩) rfl (λ_ _ h=>by cases h) G (dt':=dt') (λx n=>n) aK G.rel;have aD:=Z _ _ ay;have ai:D≠l':=by
  rintro rfl;have f:=ay.1.1;rw[ag] at f;cases f
 have bb:eg O1 (w1.putObj l' (.loop busy)) l' (.loop busy):=⟨⟨ζ6 s.1.lt,rfl⟩,rfl,s.2.2⟩;have E:=aa _ _ bb;have aE:=aa _ _ (aD.put (o:=.loop (ek d fn tm D)) (o':=.loop busy) ai);have M: ∀jump:Option Code,jump=j.bind AX.code->(j=none↔jump=none)-> ∃v w',(Instr.endRound l' jump).run P w2= .ok v w'/\v= .bool jump.isNone/\ ∃A' O',bg K P N B A' O' w' {st with h:=st2.h,dt:=dt',lp:=some {d with fa:=j}} a:=by
  intro jump af aN;refine⟨_,_,run_endRound jump E.1.1,rfl,⟨ba,A.ls⟩,aA,?_⟩;have aW:({busy with state:=if jump.isNone then .ready else .done,pending:=jump}:Loop)=ek {d with fa:=j} fn tm D:=by
   rw[ad,af];unfold ek;cases j with
   |none=>rfl
   |some x=>
    have: ¬(jump=none):=λe=>by cases aN.2 e
    rw[af] at this;cases aG:(some x).bind AX.code with
    |none=>exact absurd aG this
    |some y=>rfl
  rw[aW];refine bd.book (o':=.loop (ek {d with fa:=j} fn tm D)) (lp':=some {d with fa:=j}) E (.inr U) ?_ (λ_=>L) ae rfl;exact⟨l',fn,tm,D,aw,U,⟨⟨ζ6 E.1.lt,rfl⟩,rfl,E.2.2⟩,aE.put (o:=.loop busy) ai,(((az.tr q.tr (Pl.le.refl _)).tr (ph s) (Pl.le.refl _)).tr G.tr (Pl.le.refl _)).tr (ph E) (Pl.le.refl _),V⟩
 rcases aL with⟨rfl,rfl,rfl⟩|⟨rfl,rfl,rfl⟩|⟨id,rfl,rfl,rfl⟩
 ·obtain⟨v,w',f,m,C⟩:=M none rfl (by simp);exact⟨v,w',f,v,rfl,by rw[m];rfl,C⟩
 ·obtain⟨v,w',f,m,C⟩:=M (some .ret) rfl (by simp);exact⟨v,w',f,v,rfl,by rw[m];rfl,C⟩
 ·obtain⟨v,w',f,m,C⟩:=M (some (.exit id)) rfl (by simp);exact⟨v,w',f,v,rfl,by rw[m];rfl,C⟩
end
section
variable {S:bh} {P:Program} {N:Nat} {B:cI} {A A':Pl} {O O':Γ} {w w':World} {st:AS S} {a:Act} {R:Type} {z:R}
theorem HU {s:Nat} {c:AV S}: ∀ {aen:List (an S)} {i:Nat} {xs:Γb},cy A O w aen xs->aP.get (h_ i aen) s=some c-> ∃x,i<=s/\xs[s-i]? =some x/\c.rel A O w x
 |[],i,xs,_,h=>by cases h
 |b::r,i,xs,⟨y,ys,e,h1,d⟩,h=>by
  subst e;simp only[h_,aP.get] at h;cases a:ζ i s with
  |true=>
   rw[a] at h;have:=δ a;subst this;simp only[cond_true,ι] at h;subst h;exact⟨y,ξc _,by simp,h1⟩
  |false=>
   rw[a] at h;obtain⟨x,j,f,g⟩:=HU (i:=i+1) d h;refine⟨x,by omega,?_,g⟩;rw[show s-i=(s-(i+1))+1 by omega];simpa using f
theorem HV {aen:List (an S)} {xs:Γb} {n:Nat} (h:cy A O w aen xs):cF A O w (h_ 0 aen) {tmps:=xs.toArray++ξ8 n undef,defers:=[]}:=by
 intro s a d;obtain⟨x,_,h1,b⟩:=HU h d;simp only[ζN] at h1;have c:=(ε.1 h1).1;have e:(xs.toArray++ξ8 n undef).getD s undef=x:=by
  rw[θ,Array.getElem?_append_left (by simpa using c)];simp[h1]
 show a.rel A O w ((xs.toArray++ξ8 n undef).getD s undef);rw[e];exact b
structure a7 (G:bE S) (P:Program):Prop extends FM G P where
 L: ∀f J c,G.T f=some J->J.fn.body=some c->aO G.K P J c
theorem H8 {G:bE S} (a:a7 G P) {run: {R:Type}->dm S->Code->AS S->(AX->AS S->Option R)->Option R} (v:iX G.K P run) {f:Nat} {J:dm S} {c:Code} {aen:List (an S)} {h:AH S} {k:Rs S->AH S->Γ->Option R} (b:G.T f=some J) (g:J.fn.body=some c) (hl:ξH aen.length J.fn.ntmps=true)
  (t:run J c ⟨h_ 0 aen,h,h.length,none,false,[],[]⟩ (λe M=>qB G J.fn e M λr N=>qo r N k)=some z): ∃r h' dt,k r h' dt=some z/\dv G.K P f aen h r h' dt:=by
 obtain⟨e,st1,h1,x⟩:=v _ _ _ _ _ (a.L f J c b g) t;obtain⟨r,st2,l,W,y⟩:=ab_ a.toFM h1;obtain⟨F,h',dt,m,B⟩:=aan (K:=G.K) (P:=P) l;refine⟨F,h',dt,m,a.E f J b,λA O w xs d q hO o p s=>?_⟩;refine(callsIn_wide (n:=0)).1 (callsIn_of_wp_marks (a.T f J b) g trivial ?_);have hlen:=vR d;have hle:=ξ5 hl;have i1:bg G.K P J.fn.ntmps (cI.of A O w h none none) A O w ⟨h_ 0 aen,h,h.length,none,false,[],[]⟩ {tmps:=xs.toArray++ξ8 (J.fn.ntmps-xs.toArray.size) undef,defers:=[]}:=
  bg.init q hO o p (by simp;omega) (HV d) trivial (λ_=>rfl) rfl s
 refine wpIn_mono (x _ A O w _ i1) ?_;rintro U Q w1 ⟨rfl,A1,O1,H⟩;refine y _ _ _ _ _ _ _ H λA2 j w2 a2 V I u=>?_;obtain⟨i,C,D⟩:=B _ _ _ _ _ _ _ rfl I u;exact⟨i,j,C,D⟩
theorem abR {G:bE S} (ab:a7 G P) {run: {R:Type}->dm S->Code->AS S->(AX->AS S->Option R)->Option R} (bc:iX G.K P run) {I:dm S} {fo:Operand} {ps:Array Nat} {gn body:Code} {k:AX->AS S->Option R} (h:Et G run I fo ps gn body st k=some z):
  ∃e aG,k e aG=some z/\ ∀B A O w a,bg G.K P I.fn.ntmps B A O w st a->(Code.rangeFunc fo ps gn body).wpIn (fw B.rr) 0 P (ha G.K P I.fn.ntmps B e aG) a w:=by
 unfold Et at h;split at h
 rotate_left
 ·cases h
 rename_i ax aw;split at h
 rotate_left
 ·cases h
 rename_i i aW;split at h
 rotate_left
 ·cases h
 rename_i g cs az;split at h
 rotate_left
 ·cases h
 rename_i J af;split at h
 rotate_left
 ·cases h
 rename_i aJ ar ba;cases ag:(ξH (1+cs.length) J.fn.ntmps&&(nB st.env&&hA st.h))<;>rw[ag] at h
 ·cases h
 simp only[cond_true] at h;simp only[η] at ag;obtain⟨hle,a1,ad⟩:=ag;obtain⟨ae,st1,h1,bd⟩:=bc _ _ _ _ _ (ab.L g J aJ af ar) h;obtain⟨e,f,hk,N,bw,aZ,aU,aV⟩: ∃e f,k e {st with h:=st1.h,dt:=eZ st.nb st.dt st1.dt}=some z/\st1.lp=some f/\st1.df=[]/\hA st1.h=true/\(ae= .normal\/ae= .ret)/\(f.fa=none/\e= .normal\/f.fa=some .ret/\e= .ret\/ ∃id,f.fa=some (.exit id)/\e= .exit id):=by
  have tail:vH st st1 k=some z-> ∃e f,k e {st with h:=st1.h,dt:=eZ st.nb st.dt st1.dt}=some z/\st1.lp=some f/\st1.df=[]/\hA st1.h=true/\(f.fa=none/\e= .normal\/f.fa=some .ret/\e= .ret\/ ∃id,f.fa=some (.exit id)/\e= .exit id):=by
   intro h1;unfold vH at h1;split at h1
   ·rename_i f ah N;cases hn:hA st1.h<;>rw[hn] at h1
    ·cases h1
    simp only[cond_true] at h1;split at h1
    ·rename_i hp;exact⟨.normal,f,h1,N,ah,rfl,.inl ⟨hp,rfl⟩⟩
    ·rename_i hp;exact⟨.ret,f,h1,N,ah,rfl,.inr (.inl ⟨hp,rfl⟩)⟩
    ·rename_i id hp;exact⟨.exit id,f,h1,N,ah,rfl,.inr (.inr ⟨id,hp,rfl⟩)⟩
    ·cases h1
   ·cases h1
  cases ae with
  |normal=>obtain⟨e,f,t1,t2,t3,t4,t5⟩:=tail h1;exact⟨e,f,t1,t2,t3,t4,.inl rfl,t5⟩
  |ret=>obtain⟨e,f,t1,t2,t3,t4,t5⟩:=tail h1;exact⟨e,f,t1,t2,t3,t4,.inr rfl,t5⟩
  |exit id=>cases h1
  |bq u=>cases h1
 refine⟨e,_,hk,λB A O w a l=>?_⟩;have bb:=l.rr aw;rw[bb];refine wpIn_rangeFunc λfn _=>?_;obtain⟨f0,br,aI,bl,p2⟩:=dK l.env l.cZ aW;have p2:a.eval fo= .func f0 br aI:=by simpa using p2
 obtain⟨p,aE,⟨us,vs,aF,bm,bn⟩,_⟩:=l.rel.al i _ az;rw[bl] at aE;cases aE;rw[show us=[] from bm] at aF;cases aF;obtain⟨rec,aA⟩: ∃rec:Loop,rec=ek ⟨I.tokP,ps.toList,gn,body,st.env,none⟩ fn a.tmps w.heap.size:=⟨_,rfl⟩;obtain⟨m,W⟩: ∃m,(w.alloc (.deferred (some []))).alloc (.loop rec)=m:=⟨_,rfl⟩;have aM:m.heap[w.heap.size+1]? =some (.loop rec):=by
  rw[<-W];have:=ζg (w.alloc (.deferred (some []))) (.loop rec);rwa [World.size_alloc] at this
 have ak:m.heap[w.heap.size]? =some (.deferred (some [])):=by
  rw[<-W];exact(ζ4 _ _ _ (by simp)).trans (ζg w _)
 have M:Fr [] w m:=by
  rw[<-W];exact⟨rfl,rfl,rfl,by simp;omega,λk hk _=>(ζ4 _ _ _ (by simp;omega)).trans (ζ4 _ _ _ hk)⟩
 have bB:m.heap.size=w.heap.size+2:=by rw[<-W];simp
 obtain⟨O1,U⟩: ∃O1,O1=w.heap.size::(w.heap.size+1)::O:=⟨_,rfl⟩;have ai: ∀b∈O,b∈O1:=λb q=>by rw[U];exact μ _ (μ _ q)
 have V:Tr O w O1 m:=⟨M.os,M.tape,M.output,M.size,λk hk a8=>⟨by rw[U];simp;exact⟨by omega,by omega,a8⟩,M.block k hk (by simp)⟩⟩;have aN:OB O1 m:=λk hk=>by
  rw[U] at hk;simp at hk;rcases hk with rfl|rfl|hk
  ·omega
  ·omega
  ·have:=l.ob k hk;omega
 have ao: ∀b∈O,b∈O1/\m.heap[b]? =w.heap[b]? :=λb q=>⟨ai b q,M.block b (l.ob b q) (by simp)⟩;obtain⟨A1,aa⟩: ∃A1:Pl,A1=⟨A.pl,some (w.heap.size+1)⟩:=⟨_,rfl⟩;have H:A1.pl=A.pl:=by rw[aa]
 refine⟨w.heap.size+1,[{target:=.collected w.heap.size,args:= #[]}],m,{target:=.fn (.func g) vs.toArray,args:= #[.func (.yield (w.heap.size+1)) #[] #[]]},m,g,
  #[.func (.yield (w.heap.size+1)) #[] #[]]++vs.toArray,m,?_,?_,?_,?_,λh=>by simp[fw] at h,?_⟩
 ·rw[<-W,aA];exact run_enterLoop_outer _ _ _ _ _
 ·simp only[resolve,p2];simp[go_sem]
 ·intro aL bx;trivial
 ·have aK: ∀(vs:Array Value) (u:World),(callFunc g vs).run P u= .ok (.enter g vs) u:=ab.E g J af;simp[invoke,go_sem,aK]
 ·
  have aB:cy A1 O1 m (.one .c4::cs) (.func (.yield (w.heap.size+1)) #[] #[]::vs):=by
   refine⟨_,_,rfl,⟨w.heap.size+1,by rw[aa],rfl⟩,?_⟩;have aS:lC cs=true:=by
    have:=nC ad az;simp only[Ob.fL,η] at this;exact this.2
   exact qd H aS (lI V (Pl.le.refl A) bn)
  have hlen:=vR aB;simp only[ζ2] at hlen;have bz:=ξ5 hle;have aX:bI A O1 m (av st.h):=by
   refine bI.qc (λj X r=>Ob.LZ (nC ad r)) (λj X r=>?_) l.rel.dj;obtain⟨p,hp,an,q⟩:=l.rel.al j X r;exact⟨p,hp,an.keep V (Pl.le.refl A) λb Q=>⟨(ao b (l.rel.gu r hp Q)).2,ai b (l.rel.gu r hp Q)⟩,λb Q=>ai b (q b Q)⟩
  have aQ:eg O1 m (w.heap.size+1) (.loop rec):=⟨⟨aM,rfl⟩,rfl,by rw[U];simp⟩;have aq:eg O1 m w.heap.size (.deferred (some [])):=⟨⟨ak,rfl⟩,rfl,by rw[U];simp⟩;have i1:bg G.K P J.fn.ntmps (cI.of A1 O1 m st.h (some (w.heap.size+1)) none) A1 O1 m ⟨h_ 0 (.one .c4::cs),st.h,st.h.length,some ⟨I.tokP,ps.toList,gn,body,st.env,none⟩,false,[],[]⟩ {tmps:=(#[ζr (.yield (w.heap.size+1)) #[] #[]]++vs.toArray)++ξ8 (J.fn.ntmps-(#[ζr (.yield (w.heap.size+1)) #[] #[]]++vs.toArray).size) undef,defers:=[]}:=by
   refine bg.init (LX H ad aX) aN (l.cZ.tr V) (λj r=>by rw[H];exact l.free j r) (by simp at hlen ⊢;omega) ?_ ?_ (λ_=>rfl) rfl (λj X r=>Ob.LZ (nC ad r))
   ·have:=HV (n:=J.fn.ntmps-(#[ζr (.yield (w.heap.size+1)) #[] #[]]++vs.toArray).size) aB;have e:(ζr (.yield (w.heap.size+1)) #[] #[]::vs).toArray= #[.func (.yield (w.heap.size+1)) #[] #[]]++vs.toArray:=by simp
    rw[e] at this;exact this
   ·refine⟨w.heap.size+1,fn,a.tmps,w.heap.size,by rw[cI.of,aa],rfl,by rw[<-aA];exact aQ,aq,?_,l.size⟩;exact ZH H a1 (l.env.tr V (Pl.le.refl A))
  refine callsIn_of_wp_marks (ab.T g J af) ar trivial (wpIn_mono (bd _ A1 O1 m _ i1) ?_);rintro bu a2 s ⟨rfl,A2,Z,t⟩;have bA:A2.ls=some (w.heap.size+1):=by rw[t.ls,cI.of,aa]
  have au:a2.defers=[]:=t.dl (by rw[N];rfl);have Y: ∀b∈O,some (w.heap.size+1)≠some b:=λb q e=>by
   cases e;have:=l.ob _ q;omega
  have a':bI ⟨A2.pl,A.ls⟩ Z s (av st1.h):=LX (A1:=A2) (A2:=⟨A2.pl,A.ls⟩) rfl aZ t.rel;obtain⟨bp,aH,bk⟩:=l.inner V ao H Y t (dt':=eZ st.nb st.dt st1.dt) (λx Y=>jh Y) (λx Y hn=>j6 hn Y) a';have ay:=t.lp;rw[N] at ay;obtain⟨l',C,D,y,s1,s0,s2,bF,bG,bH⟩:=ay;have:l'=w.heap.size+1:=by
   have:some (w.heap.size+1)=some l':=s0;exact(ξA this).symm
  subst this;have aP:eg Z s w.heap.size (.deferred (some [])):=by
   obtain⟨bh,bj,_⟩:=t.cl w.heap.size aq.2.2 (λe=>by have e:some (w.heap.size+1)=some w.heap.size:=e;have:=ξA e;omega) λj _ hl p hp=>by
    obtain⟨X,aO⟩:=hl;obtain⟨bD,a_,an,q⟩:=l.rel.al j X aO;have hp:A1.pl j=some p:=hp;rw[H,a_] at hp;cases hp;intro Q;have:=l.ob _ (q _ Q);omega
   exact⟨⟨bh.trans ak,rfl⟩,rfl,bj⟩
  have fin: ∀v,rangePost (fw none) 0 P (w.heap.size+1) (ha G.K P I.fn.ntmps B e {st with h:=st1.h,dt:=eZ st.nb st.dt st1.dt}) {a with defers:=[{target:=.collected w.heap.size,args:= #[]}]++a.defers} (.returned v) s:=by
   intro v;refine⟨_,_,run_endLoop s2.1.1 ?_,?_⟩
   ·unfold ek;cases f.fa<;>simp
   ·have a6:w.heap.size≠w.heap.size+1:=by omega
    have bf:B.w0.heap.size<=w.heap.size:=l.tr.size;have aY:Dc.mark w.heap.size∉a.defers:=by
     have: ∀(ds:List Deferred) (df:List (LV S)),cW B.w0.heap.size A O w df ds->Dc.mark w.heap.size∉ds:=by
      intro ds
      induction ds with
      |nil=>intro df _ hm;cases hm
      |cons d ds aD=>
       intro df aT hm;rcases aT with⟨F,d1,d0,d2,d3⟩|⟨bC,bo,aL,bJ,bt,d1,d2,d3,d4⟩
       ·rcases τ.1 hm with e|hm
        ·rw[d1] at e;have:=Zm e;have:=d2.1.lt;omega
        ·exact aD df d3 hm
       ·rcases τ.1 hm with e|hm
        ·rw[d3] at e;unfold Dc.mark at e;cases e
        ·exact aD bo d4 hm
     exact this _ _ l.df
    have aR: ∀F,eg O w F (.deferred (some []))->F≠w.heap.size+1:=λF h e=>by
     have:=h.1.lt;omega
    have aj:bg G.K P I.fn.ntmps B ⟨A2.pl,A.ls⟩ Z (s.putObj (w.heap.size+1) (.loop {ek f C D y with state:=.exhausted})) {st with h:=st1.h,dt:=eZ st.nb st.dt st1.dt} {a with defers:=[{target:=.collected w.heap.size,args:= #[]}]++a.defers}:=by
     refine bp.book (o':=.loop {ek f C D y with state:=.exhausted}) (lp':=st.lp) s2 (.inl λhm=>?_) (by rw[ax];trivial) (λh=>by rw[ax,show st.inr=false from aw] at h;cases h) ?_ rfl
     ·have:=l.o0 _ hm;have:=l.tr.size;omega
     ·refine .inl ⟨w.heap.size,rfl,⟨bf,aY⟩,aP.put (o:=.loop (ek f C D y)) a6,?_⟩;exact l.df.qQ bk.at_ λF q=>(aH _ _ q).put (o:=.loop (ek f C D y)) (aR F q)
    have go: ∀j:Option Code,j=(ek f C D y).pending->(match j with
      |none=>ha G.K P I.fn.ntmps B e {st with h:=st1.h,dt:=eZ st.nb st.dt st1.dt} .normal {a with defers:=[{target:=.collected w.heap.size,args:= #[]}]++a.defers} (s.putObj (w.heap.size+1) (.loop {ek f C D y with state:=.exhausted}))
      |some c=>c.wpIn (fw none) 0 P (ha G.K P I.fn.ntmps B e {st with h:=st1.h,dt:=eZ st.nb st.dt st1.dt}) {a with defers:=[{target:=.collected w.heap.size,args:= #[]}]++a.defers} (s.putObj (w.heap.size+1) (.loop {ek f C D y with state:=.exhausted}))):=by
     intro j r;rcases aV with⟨hp,rfl⟩|⟨hp,rfl⟩|⟨id,hp,rfl⟩
     ·have:j=none:=by rw[r];unfold ek;rw[hp];rfl
      subst this;exact⟨rfl,_,_,aj⟩
     ·have:j=some .ret:=by rw[r];unfold ek;rw[hp];rfl
      subst this;exact wpIn_ret ⟨rfl,_,_,aj⟩
     ·have:j=some (.exit id):=by rw[r];unfold ek;rw[hp];rfl
      subst this;exact wpIn_exit ⟨rfl,_,_,aj⟩
    exact go _ rfl
  have aC:(results J.fn a2.tmps).run P s= .ok (hF []) s:=by
   obtain⟨bs,t1,t2⟩:=E1 (A:=A2) (O:=Z) (w:=s) (a:=a2) (env:=st1.env) (h:=st1.h) (aen:=[]) (fn:=J.fn) ab.K (by rw[ba];rfl) t.env t.rel;rw[show bs=[] from t1] at t2;exact t2
  rcases aU with rfl|rfl
  ·show LeavesInM (fw none) 0 P J.fn a2.tmps _ a2.defers .returning s;rw[au];exact⟨_,aC,fin _⟩
  ·show LeavesInM (fw none) 0 P J.fn a2.tmps _ a2.defers .returning s;rw[au];exact⟨_,aC,fin _⟩
theorem aax {K:Kit S} {I:dm S} {x:Code} (h:bg K P N B A O w st a): ∃A',bg K P N B A' O w (Mx I x st) a:=by
 cases x<;>first|exact⟨A,h⟩|exact h.gc
def r6 (K:Kit S) (P:Program) (n:Nat) (run: {R:Type}->dm S->Code->AS S->(AX->AS S->Option R)->Option R):Prop:= ∀ {R:Type} (I:dm S) (x:Code) (st:AS S) (k:AX->AS S->Option R) (z:R),aO K P I (.loop x)->fZ I.lc (dG x)=none->run I (.loop x) st k=some z-> ∃e b,k e b=some z/\ ∀B A O w a,bg K P I.fn.ntmps B A O w st a->Code.roundsIn (fw B.rr) 0 P x (ha K P I.fn.ntmps B e b) n a w
theorem Ub {G:bE S} (b:a7 G P) {run: {R:Type}->dm S->Code->AS S->(AX->AS S->Option R)->Option R} (i:iX G.K P run):jP (R:=R) G.K P (Bh G run):=by
 intro f aen h k z a;unfold Bh at a;split at a
 ·rename_i e g;exact b.H f e g aen h k z a
 ·split at a
  ·rename_i J c;split at a
   ·rename_i j d;cases hl:ξH aen.length J.fn.ntmps<;>rw[hl] at a
    ·cases a
    ·exact H8 b i c d hl a
   ·cases a
  ·cases a
theorem Lt {G:bE S} {n:Nat} (o:iX G.K P (λ{_}=>cc G n)) (p:r6 G.K P n (λ{_}=>cc G n)):r6 G.K P (n+1) (λ{_}=>cc G (n+1)):=by
 intro R I x st k z d f h;simp only[cc,f] at h;obtain⟨e,st1,h1,g⟩:=o _ _ _ _ _ (d.sub λ_ h=>.loop h) h
 by_cases he:e= .normal
 ·subst he;obtain⟨i,st2,j,m⟩:=p _ _ _ _ _ d f h1;refine⟨i,st2,j,λB A O w a b=>wpIn_mono (g B A O w a b) ?_⟩;rintro x' a' w' ⟨rfl,A',O',c⟩;obtain⟨A2,l⟩:=c.gc (sl:=I.L (dG x));exact m B A2 O' w' a' l
 ·refine⟨e,st1,by cases e<;>first|exact h1|exact absurd rfl he,λB A O w a b=>wpIn_mono (g B A O w a b) ?_⟩;rintro x' a' w' ⟨rfl,A',O',c⟩;cases e<;>first|exact⟨rfl,A',O',c⟩|exact absurd rfl he
theorem ac_ {G:bE S} (p:a7 G P) {n:Nat} (i:iX G.K P (λ{_}=>cc G n)) (H:r6 G.K P (n+1) (λ{_}=>cc G (n+1))):iX G.K P (λ{_}=>cc G (n+1)):=by
 intro R I c st k z j h;cases c with
 |loop x=>
  cases r:fZ I.lc (dG x) with
  |some lc=>
   simp only[cc,r] at h;exact j x lc (.refl _) r st k z h
  |none=>
   obtain⟨e,st1,h1,g⟩:=H _ _ _ _ _ j r h;exact⟨e,st1,h1,λB A O w a d=>wpIn_loop_rounds (n+1) (g B A O w a d)⟩
 |skip=>simp only[cc] at h;exact⟨.normal,st,h,λB A O w a d=>wpIn_skip ⟨rfl,A,O,d⟩⟩
 |label l=>simp only[cc] at h;exact⟨.normal,st,h,λB A O w a d=>wpIn_label ⟨rfl,A,O,d⟩⟩
 |exit id=>simp only[cc] at h;exact⟨.exit id,st,h,λB A O w a d=>wpIn_exit ⟨rfl,A,O,d⟩⟩
 |ret=>simp only[cc] at h;exact⟨.ret,_,h,λB A O w a d=>wpIn_ret (have⟨A2,s⟩:=d.gc (sl:=I.L 1000000);⟨rfl,A2,O,s⟩)⟩
 |seq x y=>
  simp only[cc] at h;obtain⟨e,st1,h1,g⟩:=i _ _ _ _ _ (j.sub λ_ h=>.seq1 h) h
  by_cases he:e= .normal
  ·subst he;obtain⟨v,st2,D,F⟩:=i _ _ _ _ _ (j.sub λ_ h=>.On h) h1;refine⟨v,st2,D,λB A O w a d=>wpIn_seq (wpIn_mono (g B A O w a d) ?_)⟩;rintro x' a' w' ⟨rfl,A',O',f⟩;exact F B A' O' w' a' f
  ·refine⟨e,st1,by cases e<;>first|exact h1|exact absurd rfl he,λB A O w a d=>wpIn_seq (wpIn_mono (g B A O w a d) ?_)⟩;rintro x' a' w' ⟨rfl,A',O',f⟩;cases e<;>first|exact⟨rfl,A',O',f⟩|exact absurd rfl he
 |cond o x y=>
  simp only[cc] at h;split at h
  rotate_left
  ·cases h
  rename_i b m;cases b with
  |true=>
   simp only[cond_true] at h;obtain⟨e,st1,h1,g⟩:=i _ _ _ _ _ (j.sub λ_ h=>.Iv h) h;exact⟨e,st1,h1,λB A O w a d=>wpIn_cond_true (ed (S:=S) (A:=A) (O:=O) (w:=w) (dK d.env d.cZ m)) (g B A O w a d)⟩
  |false=>
   simp only[cond_false] at h;obtain⟨e,st1,h1,g⟩:=i _ _ _ _ _ (j.sub λ_ h=>.Iw h) h;exact⟨e,st1,h1,λB A O w a d=>wpIn_cond_false (ed (S:=S) (A:=A) (O:=O) (w:=w) (dK d.env d.cZ m)) (g B A O w a d)⟩
 |block id x=>
  simp only[cc] at h;obtain⟨e,st1,h1,g⟩:=i _ _ _ _ _ (j.sub λ_ h=>.block h) h;have body: ∀B A O w a,bg G.K P I.fn.ntmps B A O w st a->x.wpIn (fw B.rr) 0 P (ha G.K P I.fn.ntmps B e st1) a w:=λB A O w a d=>by
   obtain⟨A',f⟩:=aax (I:=I) (x:=x) d;exact g B A' O w a f
  cases e with
  |exit q=>
   cases m:ζ q id with
   |true=>
    simp only[m,cond_true] at h1;refine⟨.normal,_,h1,λB A O w a d=>wpIn_block (wpIn_mono (body B A O w a d) ?_)⟩;rintro x' a' w' ⟨rfl,A',O',f⟩;show if q=id then _ else _;rw[if_pos (δ m)];obtain⟨A2,s⟩:=f.gc (sl:=I.L (1000001+id));exact⟨rfl,A2,O',s⟩
   |false=>
    simp only[m,cond_false] at h1;refine⟨.exit q,st1,h1,λB A O w a d=>wpIn_block (wpIn_mono (body B A O w a d) ?_)⟩;rintro x' a' w' ⟨rfl,A',O',f⟩;show if q=id then _ else _;rw[if_neg (λe=>by subst e;simp at m)];exact⟨rfl,A',O',f⟩
  |normal=>
   refine⟨.normal,st1,h1,λB A O w a d=>wpIn_block (wpIn_mono (body B A O w a d) ?_)⟩;rintro x' a' w' ⟨rfl,A',O',f⟩;exact⟨rfl,A',O',f⟩
  |ret=>
   refine⟨.ret,st1,h1,λB A O w a d=>wpIn_block (wpIn_mono (body B A O w a d) ?_)⟩;rintro x' a' w' ⟨rfl,A',O',f⟩;exact⟨rfl,A',O',f⟩
  |bq u=>
   refine⟨.bq u,st1,h1,λB A O w a d=>wpIn_block (wpIn_mono (body B A O w a d) ?_)⟩;rintro x' a' w' ⟨rfl,A',O',f⟩;exact⟨rfl,A',O',f⟩
 |scope x=>
  simp only[cc] at h;cases t:st.inr<;>rw[t] at h
  rotate_left
  ·cases h
  simp only[cond_false] at h;obtain⟨e,st1,h1,g⟩:=i _ _ _ _ _ (j.sub λ_ h=>.scope h) h;refine⟨e,st1,h1,λB A O w a d=>?_⟩;have E:=d.rr t;have:=g B A O w a d;rw[E] at this ⊢;rw[XV] at this ⊢;refine wpIn_wide.2 (wp_scope_straight (wpIn_wide.1 (wpIn_mono this ?_)));rintro x' a' w' ⟨rfl,A',O',f⟩;cases e<;>exact⟨rfl,A',O',f⟩
 |rangeFunc fo ps gn body=>
  simp only[cc] at h;obtain⟨e,st1,h1,g⟩:=abR p i h;refine⟨e,st1,h1,λB A O w a d=>?_⟩;obtain⟨A',f⟩:=d.gc (sl:=I.L (2000001+dG body));exact g B A' O w a f
 |region id ops draw=>
  simp only[cc] at h;obtain⟨e,st1,h1,g⟩:=TF p.M p.K p.C (Ub p i) (aeh i) (id:=id) h;cases e with
  |go=>exact⟨.normal,st1,h1,g⟩
  |bq u=>exact⟨.bq u,st1,h1,g⟩
 |_=>simp only[cc] at h;cases h
theorem mw {G:bE S} (a:a7 G P): ∀n,iX G.K P (λ{_}=>cc G n)/\r6 G.K P n (λ{_}=>cc G n)
 |0=>⟨λI c st k z _ h=>(by cases h),λI c st k z _ _ h=>(by cases h)⟩
 |n+1=>
  ⟨ac_ a (mw a n).1 (Lt (mw a n).1 (mw a n).2),Lt (mw a n).1 (mw a n).2⟩
theorem AZ {G:bE S} (a:a7 G P) (n:Nat):iX G.K P (λ{_}=>cc G n):=(mw a n).1
theorem A3 {G:bE S} (b:a7 G P) {n f:Nat} {aen:List (an S)} {h:AH S} {k:Rs S->AH S->Γ->Option R} (a:fh G n f aen h k=some z): ∃r h' dt,k r h' dt=some z/\dv G.K P f aen h r h' dt:=by
 unfold fh at a;split at a
 ·rename_i J c;split at a
  ·rename_i e d;cases hl:ξH aen.length J.fn.ntmps<;>rw[hl] at a
   ·cases a
   ·exact H8 b (AZ b n) c d hl a
  ·cases a
 ·cases a
end
section
variable {S:bh} {P:Program}
def hU:Code->List Code
 | .loop x=>x::hU x
 | .seq x y=>hU x++hU y
 | .cond _ x y=>hU x++hU y
 | .block _ x=>hU x
 | .scope x=>hU x
 |_=>[]
def p' (c:Code) (id:Nat):Code:=match(hU c).filter (λx=>ζ (dG x) id) with|[x]=>x|_=>.skip
def vp (c:Code) (id:Nat):Bool:=match(hU c).filter (λx=>ζ (dG x) id) with|[_]=>true|_=>false
theorem ada {c d x:Code} (b:d= .loop x) (h:Vx.Sub c d):x∈hU c:=by
 induction h with
 |refl c=>subst b;exact ν
 |seq1 _ a=>exact ξ9 _ (a b)
 |On _ a=>exact ξ7 _ (a b)
 |Iv _ a=>exact ξ9 _ (a b)
 |Iw _ a=>exact ξ7 _ (a b)
 |block _ a=>exact a b
 |loop _ a=>exact μ _ (a b)
 |scope _ a=>exact a b
theorem Zf {c x:Code} {id:Nat} (h:vp c id=true) (a:Vx.Sub c (.loop x)) (hi:dG x=id):x=p' c id:=by
 have hm:x∈(hU c).filter (λx=>ζ (dG x) id):=ξk.2 ⟨ada rfl a,by rw[hi];exact ξu id⟩;unfold vp at h;unfold p';split at h
 ·rename_i y b;rw[b] at hm;simpa using hm
 ·cases h
def aZ (K:Kit S) (P:Program) (J:kP) (x:Code) (lc:bc S):Prop:= ∀ {R:Type} (st:AS S) (k:AX->AS S->Option R) (z:R),lc.out st k=some z-> ∃e b,k e b=some z/\ ∀B A O w a,bg K P J.fn.ntmps B A O w st a->(Code.loop x).wpIn (fw B.rr) 0 P (ha K P J.fn.ntmps B e b) a w
theorem aO.cons {K:Kit S} {J:kP} {lc:bc S} {lcs:List (bc S)} {c:Code} (h:aO K P ⟨J,lcs⟩ c) (h1:vp c lc.id=true) (e:aZ K P J (p' c lc.id) lc):aO K P ⟨J,lc::lcs⟩ c:=by
 intro x f d a;simp only[fZ] at a;cases b:ζ lc.id (dG x) with
 |true=>
  rw[b] at a;simp only[cond_true,ι] at a;subst a;rw[Zf h1 d (δ b).symm];exact e
 |false=>
  rw[b] at a;exact h x f d a
def qO (P:Program) (L:Nat->Nat->Γ) (f:Nat):Option (dm S):=
 match P.funcs[f]? with
 |some fn=>(match fn.body with|some _=>some ⟨⟨fn,L f⟩,[]⟩|none=>none)
 |none=>none
def h2 (T:Nat->Option (dm S)) (f:Nat) (J:dm S):Nat->Option (dm S):=λh=>bif ζ h f then some J else T h
def oG (P:Program):Prop:= ∀(f:Nat) (fn:Func),P.funcs[f]? =some fn->fn.body.isSome=true->(fn.name== "runtime.NumGoroutine")=false
theorem cG (h:oG P) {f:Nat} {fn:Func} (d:P.funcs[f]? =some fn) (a:fn.body.isSome=true):ep P f:=by
 intro vs u;have h1:fn.name≠ "runtime.NumGoroutine" :=by simpa using h f fn d a
 cases b:fn.body with
 |none=>rw[b] at a;cases a
 |some c=>simp[callFunc,d,h1,b,mark]
structure aj (G:bE S) (P:Program):Prop where
 K:bU G.K P
 C:jQ G P
 H: ∀f c,pL G.H f=some c-> ∀ {R:Type} (aen:List (an S)) (h:AH S) (k:Rs S->AH S->Γ->Option R) (z:R),c.out aen h k=some z-> ∃r h' dt,k r h' dt=some z/\dv G.K P f aen h r h' dt
 D: ∀g a,pK G.D g=some a-> ∀ {R:Type} (cs:List (an S)) (p:Option Value) (b:Nat->Option (Ob S)) (k:Option Value->Up S->Option R) (z:R),a.out cs p b k=some z-> ∃q up,k q up=some z/\l9 G.K P g cs p b q up
 M:P.follows .mixedOrders=true
 N:oG P
theorem aj.all {G:bE S} (h:aj G P) {L:Nat->Nat->Γ} (b:G.T=qO P L):a7 G P where
 K:=h.K
 C:=h.C
 H:=h.H
 D:=h.D
 M:=h.M
 T f J a:=by
  rw[b] at a;unfold qO at a;split at a
  ·rename_i fn d;split at a
   ·cases a;exact d
   ·cases a
  ·cases a
 E f J a:=by
  rw[b] at a;unfold qO at a;split at a
  ·rename_i fn d;split at a
   ·rename_i c e;exact cG h.N d (by rw[e];rfl)
   ·cases a
  ·cases a
 L f J c a e:=by
  rw[b] at a;unfold qO at a;split at a
  ·split at a
   ·cases a;exact aO.nil
   ·cases a
  ·cases a
theorem a7.hG {G:bE S} (h:a7 G P) {f:Nat} {J:dm S} (i:P.funcs[f]? =some J.fn) (b:J.fn.body.isSome=true) (k:oG P) (j: ∀c,J.fn.body=some c->aO G.K P J c):a7 {G with T:=h2 G.T f J} P where
 K:=h.K
 C:=⟨h.C.C⟩
 H:=h.H
 D:=h.D
 M:=h.M
 T g I a:=by
  simp only[h2] at a;cases b:ζ g f<;>rw[b] at a
  ·exact h.T g I a
  ·cases a;rw[δ b];exact i
 E g I a:=by
  simp only[h2] at a;cases d:ζ g f<;>rw[d] at a
  ·exact h.E g I a
  ·cases a;rw[δ d];exact cG k i b
 L g I c a e:=by
  simp only[h2] at a;cases d:ζ g f<;>rw[d] at a
  ·exact h.L g I c a e
  ·cases a;exact j c e
def vy (K:Kit S) {R:Type} (k:Rs S->Option R) (r:Rs S) (h:AH S) (_:Γ):Option R:=
 match r with
 | .ret (.s a)=>(match js K (av h) a with|some (a',_)=>k (.ret (.s a'))|none=>none)
 | .ret (.bn aen)=>(match ir K (av h) aen with|some (b,_)=>k (.ret (.bn b))|none=>none)
 | .bq u=>k (.bq u)
variable {A A':Pl} {O O':Γ} {w w':World}
theorem LV.qs {l:LV S} {xs:Γb} (hp:l.pure=true) (b:Tr O w O' w') (h:l.rel A O w xs):l.rel A' O' w' xs:=by
 cases l with
 |v u=>exact h
 |aH t d=>obtain⟨x,h1,a,c⟩:=h;exact⟨x,h1,a.tr b,c⟩
 |ptr t d o=>obtain⟨x,h1,a⟩:=h;exact⟨x,h1,Ty.is.tr a b⟩
 |bG k n gs=>exact h
 |cS n gs=>exact h
 |_=>cases hp
theorem MA (a:Tr O w O' w'): ∀ {ls:List (LV S)} {xs:Γb},ls.all LV.pure=true->bt A O w ls xs->bt A' O' w' ls xs
 |[],_,_,h=>h
 |l::ls,_,hp,⟨y,ys,h,h1,b⟩=>by
  simp only[ξB,η] at hp;exact⟨y,ys,h,LV.qs hp.1 a h1,MA a hp.2 b⟩
theorem an.qs (b:Tr O w O' w') {a:an S} {x:Value} (hp:a.pure=true) (h:a.rel A O w x):a.rel A' O' w' x:=by
 cases a with
 |one l=>exact LV.qs hp b h
 |agg ls=>obtain⟨xs,h1,c⟩:=h;exact⟨xs,h1,MA b hp c⟩
theorem Ej (a:Tr O w O' w'): ∀ {ls:List (an S)} {xs:Γb},ls.all an.pure=true->cy A O w ls xs->cy A' O' w' ls xs
 |[],_,_,h=>h
 |l::ls,_,hp,⟨y,ys,h,h1,b⟩=>by
  simp only[ξB,η] at hp;exact⟨y,ys,h,an.qs a hp.1 h1,Ej a hp.2 b⟩
theorem eA.L3 {K:Kit S} (H:bU K P) {f:Nat} {aen:List (an S)} {r:Rs S} {h':AH S} {dt:Γ} (hp:aen.all an.pure=true) (h:dv K P f aen [] r h' dt) {R:Type} {k:Rs S->Option R} {z:R} (c:vy K k r h' dt=some z): ∃L,k L=some z/\eA K P f aen L:=by
 obtain⟨B,Q⟩:=h;have key: ∀(A:Pl) (O:Γ) (w:World) (xs:Γb),cy A O w aen xs->OB O w->cC K O w->Calls P f xs.toArray w (λe w'=> ∃A' O',h7 A' O' w' r e/\bI A' O' w' (av h')/\(∀rs:Γ,(∀r∈rs,∃Z,av h' r=some Z)->Tr (db A' rs O') w' O w')/\Fr [] w w'):=by
  intro A O w xs m hO l;refine(Q ⟨λ_=>none,none⟩ O w xs (Ej (Tr.refl O w) hp m) ⟨λi X hi=>by simp[av] at hi,λi j X Y p q b _ hi=>by simp[av] at hi⟩ hO l (λ_ _=>rfl) (λi X hi=>by simp[av] at hi)).mono ?_;rintro e w' ⟨A',O',d,g⟩;have U: ∀i,i∉dt:=λi hi=>by have:=g.lt i hi;simp at this
  have J: ∀b∈O,w'.heap[b]? =w.heap[b]? /\b∈O'/\ ∀i X p,av h' i=some X->A'.pl i=some p-> ¬cv w' X p b:=λb o=>by
   obtain⟨c1,c2,t⟩:=g.cl b o λi hi=>absurd hi (U i);exact⟨c1,c2,λi X p=>t i X p (ξt _)⟩
  refine⟨A',O',d,g.rel,λrs aa=>Tr.less λb o=>?_,?_⟩
  ·obtain⟨c1,c2,t⟩:=J b o;refine hz.2 ⟨c2,λr d p W=>?_⟩;obtain⟨Z,T⟩:=aa r d;exact λV=>t r Z p T W (.inl V)
  ·refine⟨g.tr.os,g.tr.tape,g.tr.output,g.tr.size,λb o _=>?_⟩
   by_cases I:b∈O
   ·exact(J b I).1
   ·exact(g.tr.keep b o I).2
 cases r with
 |bq u=>
  refine⟨.bq u,c,B,λA O w xs m hO l=>(key A O w xs m hO l).mono ?_⟩;rintro e w' ⟨A',O',d,_,_,n⟩;exact⟨d,n⟩
 |ret M=>
  cases M with
  |s a=>
   simp only[vy] at c;split at c
   ·rename_i a' rs y;refine⟨_,c,B,λA O w xs m hO l=>(key A O w xs m hO l).mono ?_⟩;rintro e w' ⟨A',O',⟨v,h1,x⟩,C,D,n⟩;obtain⟨E,F,G⟩:=Jf H C (all:=rs) y x (λr d=>d);exact⟨⟨v,h1,an.qs (D rs G) F E⟩,n⟩
   ·cases c
  |bn bs=>
   simp only[vy] at c;split at c
   ·rename_i ab rs y;refine⟨_,c,B,λA O w xs m hO l=>(key A O w xs m hO l).mono ?_⟩;rintro e w' ⟨A',O',⟨v,h1,ys,x,N⟩,C,D,n⟩;obtain⟨E,F,G⟩:=lq H C (all:=rs) y N (λr d=>d);exact⟨⟨v,h1,ys,x,Ej (D rs G) F E⟩,n⟩
   ·cases c
def shape (a b:an S):Bool:=match a,b with| .one _,.one _=>true| .agg _,.agg _=>true|_,_=>false
def vI (K:Kit S) (t:Nat) (a:an S):Option (S.El t):=match K.cls t a.cells with|some x=>bif shape a (K.a_ t x) then some x else none|none=>none
theorem MM {K:Kit S} (f:bU K P) {t:Nat} {a:an S} {x:S.El t} {v:Value} (h:vI K t a=some x) (d:a.rel A O w v):(K.a_ t x).rel A O w v:=by
 unfold vI at h;split at h
 ·rename_i y j;cases c:shape a (K.a_ t y)<;>rw[c] at h
  ·cases h
  ·cases h;have h1:=f.a_ A O w t x _ (f.cls A O w t _ x _ j (an.rel.cells d));cases a with
   |one l=>
    have i:=L6 (LV.rel.one d v ν);rw[i] at h1;cases b:K.a_ t x with
    |one l'=>
     rw[b] at h1;obtain⟨ys,zs,e,g,k⟩:=h1;rw[show zs=[] from k,ξz] at e;rw[<-e] at g;exact g
    |agg ls=>rw[b] at c;cases c
   |agg ls=>
    obtain⟨xs,rfl,q⟩:=d;cases b:K.a_ t x with
    |one l'=>rw[b] at c;cases c
    |agg m=>
     rw[b] at h1;exact⟨xs,rfl,by simpa[ζP,an.cells] using h1⟩
 ·cases h
inductive hJ (S:bh):Γ->Type
 |nil:hJ S []
 |cons {t a} (x:S.El t) (r:hJ S a):hJ S (t::a)
def qu (K:Kit S):(b:Γ)->List (an S)->Option (hJ S b)
 |[],[]=>some .nil
 |t::b,a::aen=>(match vI K t a with|some x=>(match qu K b aen with|some r=>some (.cons x r)|none=>none)|none=>none)
 |_,_=>none
def kq (K:Kit S): {a:Γ}->hJ S a->List (an S)
 |_,.nil=>[]
 |_,.cons (t:=t) x r=>K.a_ t x::kq K r
theorem vJ {K:Kit S} (d:bU K P): ∀ {c:Γ} {aen:List (an S)} {xs:hJ S c} {vs:Γb},qu K c aen=some xs->cy A O w aen vs->cy A O w (kq K xs) vs
 |[],[],xs,vs,h,b=>by cases h;exact b
 |t::c,a::aen,xs,vs,h,⟨y,ys,e,h1,f⟩=>by
  simp only[qu] at h;split at h
  ·rename_i x g;split at h
   ·rename_i r b;cases h;exact⟨y,ys,e,MM d g h1,vJ d b f⟩
   ·cases h
  ·cases h
 |[],_::_,xs,vs,h,_=>by cases h
 |_::_,[],xs,vs,h,_=>by cases h
def gq (K:Kit S) (f:Nat) (a:Γ) (spec: {R:Type}->hJ S a->(Rs S->Option R)->Option R):fg S:=⟨f,λaen k=>match qu K a aen with|some xs=>bif (kq K xs).all an.pure then spec xs k else none|none=>none⟩
theorem aj.ho {G:bE S} (h:aj G P) {c:fg S} (g: ∀ {R:Type} (aen:List (an S)) (k:Rs S->Option R) (z:R),aen.all an.pure=true->c.out aen k=some z-> ∃r,k r=some z/\eA G.K P c.f aen r):aj {G with C:=c::G.C} P where
 K:=h.K
 H:=h.H
 D:=h.D
 M:=h.M
 N:=h.N
 C:=⟨λf e a=>by
  simp only[tA] at a;cases d:ζ c.f f<;>rw[d] at a
  ·exact h.C.C f e a
  ·cases a;intro R aen k z hp i;obtain⟨r,h1,b⟩:=g aen k z hp i;rw[δ d] at b;exact⟨r,h1,b⟩⟩
theorem aj.dw {G:bE S} (h:aj G P) {c:dI S} (i: ∀ {R:Type} (aen:List (an S)) (b:AH S) (k:Rs S->AH S->Γ->Option R) (z:R),c.out aen b k=some z-> ∃r h' dt,k r h' dt=some z/\dv G.K P c.f aen b r h' dt):aj {G with H:=c::G.H} P where
 K:=h.K
 C:=⟨h.C.C⟩
 D:=h.D
 M:=h.M
 N:=h.N
 H f g a:=by
  simp only[pL] at a;cases e:ζ c.f f<;>rw[e] at a
  ·exact h.H f g a
  ·cases a;intro R aen b k z j;obtain⟨r,h',dt,h1,d⟩:=i aen b k z j;rw[δ e] at d;exact⟨r,h',dt,h1,d⟩
theorem aj.Iy {G:bE S} (h:aj G P) {c:l8 S} (i: ∀ {R:Type} (cs:List (an S)) (p:Option Value) (a:Nat->Option (Ob S)) (k:Option Value->Up S->Option R) (z:R),c.out cs p a k=some z-> ∃q up,k q up=some z/\l9 G.K P c.g cs p a q up):aj {G with D:=c::G.D} P where
 K:=h.K
 C:=⟨h.C.C⟩
 H:=h.H
 M:=h.M
 N:=h.N
 D g f b:=by
  simp only[pK] at b;cases e:ζ c.g g<;>rw[e] at b
  ·exact h.D g f b
  ·cases b;intro R cs p a k z j;obtain⟨q,up,h1,d⟩:=i cs p a k z j;rw[δ e] at d;exact⟨q,up,h1,d⟩
end
def jb (k:IntKind) (n:Nat):Ty (Γa) where
 agg:=true
 n:=n
 rep _ _ cs xs:=xs.length=n/\cs=xs.map (ξ2 k)
 tr _ h:=h
 len h:=by rw[h.2,ξw];exact h.1
 one h u hu:=by
  rw[h.2] at hu;obtain⟨x,_,rfl⟩:=ζs.1 hu;rfl
 fv h:=by cases h
section
variable {S:bh} {α β γ:Type}
def dQ (T:Ty α) (f:α->List (LV S)):Prop:= ∀(A:Pl) (O:Γ) (w:World) (x:α) (cs:Γb),T.rep O w cs x->bt A O w (f x) cs
theorem d' {k:IntKind}:dQ (S:=S) (Ty.int k) λx=>[.v (.int k x)]:=λA O w x cs h=>by subst h;exact⟨_,[],rfl,⟨rfl,rfl⟩,rfl⟩
theorem Md:dQ (S:=S) Ty.bool λx=>[.v (.bool x)]:=λA O w x cs h=>by subst h;exact⟨_,[],rfl,⟨rfl,rfl⟩,rfl⟩
theorem Z3:dQ (S:=S) Ty.str λx=>[.v (.string x)]:=λA O w x cs h=>by subst h;exact⟨_,[],rfl,⟨rfl,rfl⟩,rfl⟩
theorem e4 {t:Nat} (a:(S.ty t).agg=false):dQ (S:=S) (S.ty t) λx=>[.aH t x]:=λA O w x cs h=>by
 have hl:=(S.ty t).len h;rw[(S.ty t).fv a] at hl
 match cs,hl with
 |[c],_=>exact⟨[c],[],rfl,⟨c,rfl,⟨[c],h,by unfold Ty.mk';rw[a];rfl⟩,a⟩,rfl⟩
theorem vq {k:IntKind} {n:Nat}:dQ (S:=S) (jb k n) λx=>[.bG k n x]:=λA O w x cs h=>⟨cs,[],(ξz _).symm,h,rfl⟩
theorem eF {X:Ty α} {Y:Ty β} {f:α->List (LV S)} {g:β->List (LV S)} (b:dQ X f) (c:dQ Y g):dQ (Ty.pair X Y) λx=>f x.1++g x.2:=λA O w x cs ⟨c1,c2,h,h1,a⟩=>by
 subst h;exact M1 (b A O w _ _ h1) (c A O w _ _ a)
theorem gD {X:Ty α} {f:α->List (LV S)} {e:β->α} (a:dQ X f):dQ (X.fm e) λx=>f (e x):=λA O w x cs h=>a A O w _ _ h
theorem Z2 {X:Ty α} {f:α->List (LV S)} (a:dQ X f):dQ (Ty.single X) f:=λA O w x cs h=>a A O w _ _ h
def dJ (T:Ty α) (f:List (LV S)->Option (α×List (LV S))):Prop:= ∀(A:Pl) (O:Γ) (w:World) (ls:List (LV S)) (x:α) (r:List (LV S)) (cs:Γb),f ls=some (x,r)->bt A O w ls cs-> ∃c1 c2,cs=c1++c2/\T.rep O w c1 x/\bt A O w r c2
def dM (k:IntKind):List (LV S)->Option (Int×List (LV S))
 | .v (.int a x)::r=>bif sameKind k a then some (x,r) else none
 |_=>none
def vK:List (LV S)->Option (Bool×List (LV S))
 | .v (.bool x)::r=>some (x,r)
 |_=>none
def ED:List (LV S)->Option (ByteArray×List (LV S))
 | .v (.string x)::r=>some (x,r)
 |_=>none
def kA (k:IntKind) (n:Nat) (ls:List (LV S)):Option (Γa×List (LV S)):=
 match ls with
 | .bG a b x::r=>bif sameKind k a&&ζ n b then some (x,r) else none
 |ls=>(match iB (ls.take n) with|some (a,gs)=>bif sameKind k a&&ζ gs.length n then some (gs,ls.drop n) else none|none=>none)
def eG (t:Nat) (nl:Option (S.El t)):List (LV S)->Option (S.El t×List (LV S))
 | .aH t' x::r=>(match ζl t' t with| .isTrue p=>some (p▸x,r)| .isFalse _=>none)
 | .v (.slice none 0 0)::r=>(match nl with|some x=>some (x,r)|none=>none)
 |_=>none
def rdPair (f:List (LV S)->Option (α×List (LV S))) (g:List (LV S)->Option (β×List (LV S))) (ls:List (LV S)):Option ((α×β)×List (LV S)):=
 match f ls with|some (a,r)=>(match g r with|some (b,c)=>some ((a,b),c)|none=>none)|none=>none
def fO (f:List (LV S)->Option (α×List (LV S))) (m:α->β) (ls:List (LV S)):Option (β×List (LV S)):=match f ls with|some (a,r)=>some (m a,r)|none=>none
def b':Option (α×List (LV S))->Option α
 |some (x,[])=>some x
 |_=>none
theorem ea {k:IntKind}:dJ (S:=S) (Ty.int k) (dM k):=λA O w ls x r cs h c=>by
 unfold dM at h;split at h
 ·rename_i d y e;cases a:sameKind k d<;>rw[a] at h
  ·cases h
  ·simp only[cond_true,ι,ξl] at h;obtain⟨rfl,rfl⟩:=h;obtain⟨ys,zs,rfl,⟨h1,_⟩,b⟩:=c;refine⟨ys,zs,rfl,?_,b⟩;rw[eR a];exact h1
 ·cases h
theorem MW:dJ (S:=S) Ty.bool vK:=λA O w ls x r cs h b=>by
 unfold vK at h;split at h
 ·cases h;obtain⟨ys,zs,rfl,⟨h1,_⟩,a⟩:=b;exact⟨ys,zs,rfl,h1,a⟩
 ·cases h
theorem abZ:dJ (S:=S) Ty.str ED:=λA O w ls x r cs h b=>by
 unfold ED at h;split at h
 ·cases h;obtain⟨ys,zs,rfl,⟨h1,_⟩,a⟩:=b;exact⟨ys,zs,rfl,h1,a⟩
 ·cases h
theorem M3 {A:Pl} {O:Γ} {w:World}: ∀ {b a:List (LV S)} {cs:Γb},bt A O w (b++a) cs-> ∃c1 c2,cs=c1++c2/\bt A O w b c1/\bt A O w a c2
 |[],a,cs,h=>⟨[],cs,rfl,rfl,h⟩
 |l::b,a,cs,⟨ys,zs,e,h1,c⟩=>by
  obtain⟨c1,c2,q,d,f⟩:=M3 c;subst q;exact⟨ys++c1,c2,by rw[e,ξj],⟨ys,c1,rfl,h1,d⟩,f⟩
theorem JS {A:Pl} {O:Γ} {w:World} {k:IntKind}: ∀ {ls:List (LV S)} {gs:Γa} {cs:Γb},iB ls=some (k,gs)->bt A O w ls cs->cs=gs.map (ξ2 k)
 |[],gs,cs,h,_=>by simp[iB] at h
 |l::r,gs,cs,h,⟨ys,zs,e,h1,a⟩=>by
  unfold iB at h;split at h
  ·rename_i d x g heq;cases heq;split at h
   ·cases h;rw[e,show zs=[] from a,h1.1];rfl
   ·split at h
    ·rename_i f xs c;cases b:sameKind d f<;>rw[b] at h
     ·cases h
     ·simp only[cond_true,ι,ξl] at h;obtain⟨rfl,rfl⟩:=h;have:=eR b;subst this;rw[e,h1.1,JS c a];rfl
    ·cases h
  ·cases h
theorem nS {k:IntKind} {n:Nat}:dJ (S:=S) (jb k n) (kA k n):=λA O w ls x r cs h c=>by
 unfold kA at h;split at h
 ·rename_i d j y o;cases a:(sameKind k d&&ζ n j)<;>rw[a] at h
  ·cases h
  ·simp only[cond_true,ι,ξl] at h;obtain⟨rfl,rfl⟩:=h;simp only[η] at a;obtain⟨ys,zs,rfl,h1,g⟩:=c;refine⟨ys,zs,rfl,?_,g⟩;have b:=eR a.1;have f:=δ a.2;subst b;subst f;exact h1
 ·split at h
  ·rename_i d gs i;cases a:(sameKind k d&&ζ gs.length n)<;>rw[a] at h
   ·cases h
   ·simp only[cond_true,ι,ξl] at h;obtain⟨rfl,rfl⟩:=h;simp only[η] at a;rw[<-ξ6 n ls] at c;obtain⟨c1,c2,e,l,m⟩:=M3 c;have b:=eR a.1;subst b;exact⟨c1,c2,e,⟨δ a.2,JS i l⟩,m⟩
  ·cases h
theorem e6 {t:Nat} {nl:Option (S.El t)} (d: ∀x,nl=some x-> ∀O w,(S.ty t).rep O w [.slice none 0 0] x):dJ (S:=S) (S.ty t) (eG t nl):=λA O w ls x r cs h b=>by
 unfold eG at h;split at h
 ·rename_i t' y e;split at h
  ·rename_i p hp;cases h;subst p;obtain⟨ys,zs,rfl,⟨v,rfl,h1,c⟩,a⟩:=b;exact⟨[v],zs,rfl,lN c h1,a⟩
  ·cases h
 ·split at h
  ·rename_i y;cases h;obtain⟨ys,zs,rfl,⟨h1,_⟩,a⟩:=b;exact⟨ys,zs,rfl,by rw[h1];exact d _ rfl O w,a⟩
  ·cases h
 ·cases h
theorem e3 {T:Ty α} (O:Γ) (w:World):(Ty.slice T).rep O w [.slice none 0 0] []:=⟨none,0,rfl,⟨ξc _,ξt _⟩,λk x hk=>by simp at hk⟩
theorem eH {X:Ty α} {Y:Ty β} {f:List (LV S)->Option (α×List (LV S))} {g:List (LV S)->Option (β×List (LV S))} (j:dJ X f) (k:dJ Y g):dJ (Ty.pair X Y) (rdPair f g):=λA O w ls x r cs h l=>by
 unfold rdPair at h;split at h
 ·rename_i a d h1;split at h
  ·rename_i b p i;cases h;obtain⟨c1,c2,rfl,m,p2⟩:=j A O w ls a d cs h1 l;obtain⟨c,e,rfl,n,o⟩:=k A O w d b r c2 i p2;exact⟨c1++c,e,(ξj _ _ _).symm,⟨c1,c,rfl,m,n⟩,o⟩
  ·cases h
 ·cases h
theorem gE {X:Ty α} {f:List (LV S)->Option (α×List (LV S))} {e:β->α} {m:α->β} (b:dJ X f) (hm: ∀a,e (m a)=a):dJ (X.fm e) (fO f m):=λA O w ls x r cs h c=>by
 unfold fO at h;split at h
 ·rename_i a g h1;cases h;obtain⟨c1,c2,rfl,d,p2⟩:=b A O w ls a r cs h1 c;exact⟨c1,c2,rfl,by show X.rep O w c1 (e (m a));rw[hm];exact d,p2⟩
 ·cases h
theorem abY {X:Ty α} {f:List (LV S)->Option (α×List (LV S))} (a:dJ X f):dJ (Ty.single X) f:=a
theorem ch {X:Ty α} {f:List (LV S)->Option (α×List (LV S))} (a:dJ X f) {A:Pl} {O:Γ} {w:World} {ls:List (LV S)} {x:α} {cs:Γb} (h:b' (f ls)=some x) (b:bt A O w ls cs):X.rep O w cs x:=by
 unfold b' at h;split at h
 ·rename_i y c;cases h;obtain⟨c1,c2,rfl,d,p2⟩:=a A O w ls x [] cs c b;rw[show c2=[] from p2,ξz];exact d
 ·cases h
end
theorem HS: ∀(xs ys:Γa),xs.length=ys.length->((ξs xs.length).all λi=>xs.getD i 0==ys.getD i 0)=(xs==ys)
 |[],[],_=>rfl
 |x::xs,y::ys,h=>by
  have a:=HS xs ys (by simpa using h);rw[ζ2,List.range_succ_eq_map,ξB,List.all_map];simp only[List.getD_cons_zero,Function.comp_def,List.getD_cons_succ,a];simp[List.cons_beq_cons]
 |[],_::_,h=>by simp at h
 |_::_,[],h=>by simp at h
section
variable {P:Program} (w:World)
theorem Nx (d:Nat) (t e:TypeId) (n:Nat) (k b:IntKind) (g:P.underlying t=some (.array n e)) (he:P.underlying e=some (.int b)) (f: ∀w,(sizeOf e).run P w= .ok 1 w)
  (xs ys:Γa) (a:xs.length=n) (h:ys.length=n):
  (ζG (d+2) t (.agg (xs.map (ξ2 k)).toArray) (.agg (ys.map (ξ2 k)).toArray)).run P w= .ok (xs==ys) w:=by
 rw[<-HS xs ys (a.trans h.symm),a,List.range_eq_range',ζG];simp only[ξ,run_underlying g,π,f,ζf,ζO,ζN,Nat.add_sub_cancel,Nat.div_one];have hl: ∀i∈ζQ 0 n 1,i<n:=λi hi=>by simpa using(List.mem_range'_1.1 hi).2
 generalize ζQ 0 n 1=l at hl ⊢
 induction l with
 |nil=>simp
 |cons i l m=>
  have hi:i<n:=hl i (by simp);have p:(part e (xs.map (ξ2 k)).toArray (i*1)).run P w= .ok (.int k (xs.getD i 0)) w:=by
   simp[part,isAgg,run_underlying he,List.getD,σ (show i<xs.length by omega)]
  have q:(part e (ys.map (ξ2 k)).toArray (i*1)).run P w= .ok (.int k (ys.getD i 0)) w:=by
   simp[part,isAgg,run_underlying he,List.getD,σ (show i<ys.length by omega)]
  have o:(ζG (d+1) e (.int k (xs.getD i 0)) (.int k (ys.getD i 0))).run P w= .ok (xs.getD i 0==ys.getD i 0) w:=run_equalIn_int w d e k b _ _ he;simp only[List.forIn_cons,ξ,p,q,o,π,ξB];cases r:(xs.getD i 0==ys.getD i 0)
  ·simp
  ·simp only[ξY,ζo,if_false,ξh,π,ξW];exact m λj c=>hl j (by simp[c])
theorem acv (t e:TypeId) (n:Nat) (k a:IntKind) (d:P.underlying t=some (.array n e)) (he:P.underlying e=some (.int a)) (c: ∀w,(sizeOf e).run P w= .ok 1 w) (b:P.eqGuardType P.depth t=false)
  (xs ys:Γa) (f:xs.length=n) (g:ys.length=n) (ox oy:Operand):
  (do eqGuard .eql t ox oy (.agg (xs.map (ξ2 k)).toArray) (.agg (ys.map (ξ2 k)).toArray);binOp .eql t (.agg (xs.map (ξ2 k)).toArray) (.agg (ys.map (ξ2 k)).toArray):Sem Value).run P w= .ok (.bool (xs==ys)) w/\
  (do eqGuard .neq t ox oy (.agg (xs.map (ξ2 k)).toArray) (.agg (ys.map (ξ2 k)).toArray);binOp .neq t (.agg (xs.map (ξ2 k)).toArray) (.agg (ys.map (ξ2 k)).toArray):Sem Value).run P w= .ok (.bool (!(xs==ys))) w:=by
 constructor
 ·simp only[ξ];rw[run_eqGuard_agg w .eql t ox oy _ _ b];simp only[π];rw[run_eql_struct,show(10000:Nat)=9998+2 from rfl,Nx w 9998 t e n k a d he c xs ys f g];rfl
 ·simp only[ξ];rw[run_eqGuard_agg w .neq t ox oy _ _ b];simp only[π];rw[run_neq_struct,show(10000:Nat)=9998+2 from rfl,Nx w 9998 t e n k a d he c xs ys f g];rfl
end
section
variable {S:bh} {K:Kit S} {P:Program} {A:Pl} {O:Γ} {w w1 w2:World} {g:Nat->Option (Ob S)}
theorem b5.two {i j:Nat} {X Y:Ob S} (F:bI A O w g) (m:i≠j) (h1:b5 A O w g [(i,some X)] A O w1) (f:b5 A O w1 (bV g [(i,some X)]) [(j,some Y)] A O w2) (hO:OB O w):b5 A O w g [(i,some X),(j,some Y)] A O w2:=by
 have N:=F.b6 hO h1;have I:bV g [(i,some X)] i=some X:=by simp[bV]
 have n: ∀ {k:Nat} {Z:Option (Ob S)},(k,Z)∈[(i,some X),(j,some Y)]->(k=i/\Z=some X)\/(k=j/\Z=some Y):=by
  intro k Z h;simp only[τ,ξl,List.not_mem_nil,or_false] at h;exact h
 have one: ∀ {k l:Nat} {Z W:Option (Ob S)},(k,Z)∈[(l,W)]->k=l/\Z=W:=by
  intro k l Z W h;simpa using h
 obtain⟨p,hp,ag,L⟩:=h1.al i X (by simp);obtain⟨q,x,aj,M⟩:=f.al j Y (by simp);obtain⟨Z,E⟩:=f.lv j (some Y) q (by simp) x;have G: ∀b,cv w1 X p b->w2.heap[b]? =w1.heap[b]? /\b∈O:=λb d=>f.keep b (L b d).1 λk V r hk a B=>by
  obtain⟨rfl,rfl⟩:=one hk;exact N.gr i k X Z p r b m I E hp a d (.inl B)
 have ae:dd A O w2 X p:=ag.keep f.tr (Pl.le.refl A) G;have K: ∀b,cv w2 X p b->cv w1 X p b:=λb=>ka λc z=>(G c (.inl z)).1;have ah: ∃Z,g j=some Z:=by
  have:bV g [(i,some X)] j=g j:=ec λV o=>m (one o).1.symm;rw[this] at E;exact⟨Z,E⟩
 obtain⟨U,ak⟩:=ah;refine⟨Pl.le.refl A,h1.tr.trans f.tr,f.ob,λb d hn=>?_,λk V hk=>?_,λk l V W r s b P hk hl a C B=>?_,λk V W hk hl=>?_,λk V r hk a=>?_,λ_=>.inl rfl,λk V H hk J hn=>?_⟩
 ·obtain⟨u,a2⟩:=h1.keep b d λk V r hk a=>hn k V r (by obtain⟨rfl,rfl⟩:=one hk;simp) a;obtain⟨aa,ab⟩:=f.keep b a2 λk V r hk a=>hn k V r (by obtain⟨rfl,rfl⟩:=one hk;simp) a;exact⟨aa.trans u,ab⟩
 ·rcases n hk with⟨rfl,e⟩|⟨rfl,e⟩
  ·cases e;refine⟨p,hp,ae,λb d=>⟨(G b (K b d)).2,(L b (K b d)).2.imp id ?_⟩⟩;rintro ⟨y,T,D,t,u,a2,a3,a4⟩;obtain⟨rfl,rfl⟩:=one u;exact⟨y,some X,D,t,by simp,a2,a3,a4⟩
  ·cases e;refine⟨q,x,aj,λb d=>⟨(M b d).1,(M b d).2.elim (λh=>.inl (ζe h1.tr.size h)) ?_⟩⟩;rintro ⟨y,T,D,t,u,a2,a3,a4⟩;obtain⟨rfl,rfl⟩:=one u;rw[ec (λV o=>m (one o).1.symm)] at a2;refine .inr ⟨y,some Y,D,t,by simp,a2,a3,?_⟩;obtain⟨ar,Q,aq,hm⟩:=F.al y t a2;rw[a3] at Q;cases Q;refine ka (λc z=>?_) a4;refine(h1.keep c (hm c z) λk V r hk a ao=>?_).1;obtain⟨rfl,rfl⟩:=one hk;obtain⟨R,ad⟩:=h1.lv k (some X) r (by simp) a;exact F.dj k y R t r D c m ad a2 a a3 ao z
 ·have an:=N.b6 h1.ob f;have ai:bV (bV g [(i,some X)]) [(j,some Y)] j=some Y:=by simp[bV]
  have af:bV (bV g [(i,some X)]) [(j,some Y)] i=some X:=by
   rw[ec (λV o=>m (one o).1)];exact I
  have key: ∀b,cv w2 X p b-> ¬cv w2 Y q b:=λb=>an.gr i j X Y p q b m af ai hp x;rcases n hk with⟨rfl,e⟩|⟨rfl,e⟩
  ·rcases n hl with⟨rfl,v⟩|⟨rfl,v⟩
   ·exact absurd rfl P
   ·cases e;cases v;rw[hp] at a;cases a;rw[x] at C;cases C;exact key b B
  ·rcases n hl with⟨rfl,v⟩|⟨rfl,v⟩
   ·cases e;cases v;rw[x] at a;cases a;rw[hp] at C;cases C;exact λh=>key b h B
   ·exact absurd rfl P
 ·rcases n hk with⟨rfl,rfl⟩|⟨rfl,rfl⟩
  ·rcases n hl with⟨e,rfl⟩|⟨e,rfl⟩
   ·rfl
   ·exact absurd e m
  ·rcases n hl with⟨e,rfl⟩|⟨e,rfl⟩
   ·exact absurd e.symm m
   ·rfl
 ·rcases n hk with⟨rfl,rfl⟩|⟨rfl,rfl⟩
  ·exact h1.lv k (some X) r (by simp) a
  ·exact⟨U,ak⟩
 ·rcases n hk with⟨rfl,e⟩|⟨rfl,e⟩
  ·cases e;exact h1.nt k X H (by simp) J hn
  ·cases e;refine f.nt k Y H (by simp) ?_ hn;rw[ec (λV o=>m (one o).1.symm)];exact J
theorem sZ {i b t:Nat} {Z:Ob S} {cs:List (LV S)} {vs:Γb} (f:bI A O w g) (hO:OB O w) (hi:g i=some Z) (hp:A.pl i=some (.pointer (some ⟨b,0,none⟩))) (d:Fr [b] w w1) (c:bz w1 b t vs) (h:bt A O w1 cs vs):b5 A O w g [(i,some (.box t cs))] A O w1:=by
 obtain⟨p,a,_,e⟩:=f.al i Z hi;rw[hp] at a;cases a;exact mG hO (e b rfl) hi hp rfl d ⟨b,vs,rfl,c,h⟩
theorem qj {i t:Nat} {cs:List (LV S)} (d:bI A O w g) (hi:g i=some (.box t cs)): ∃b vs,A.pl i=some (.pointer (some ⟨b,0,none⟩))/\bz w b t vs/\bt A O w cs vs/\b∈O:=by
 obtain⟨p,hp,⟨b,vs,rfl,h1,a⟩,c⟩:=d.al i _ hi;exact⟨b,vs,hp,h1,a,c b rfl⟩
theorem M6: ∀ {ls:List (LV S)} {vs:Γb},bt A O w ls vs-> ∀u∈vs,u.oneCell'=true
 |[],vs,h,u,hu=>by rw[show vs=[] from h] at hu;cases hu
 |l::ls,vs,⟨ys,zs,e,h1,a⟩,u,hu=>by
  subst e;rcases ψ.1 hu with h|h
  ·exact h1.one u h
  ·exact M6 a u h
theorem M8: ∀ {vs:Γb},(∀u∈vs,u.oneCell'=true)->bt (S:=S) A O w (vs.map .v) vs
 |[],_=>rfl
 |v::vs,h=>⟨[v],vs,rfl,⟨rfl,h v (by simp)⟩,M8 λu hu=>h u (by simp[hu])⟩
end
section
variable {S:bh} {R:Type}
noncomputable def pS (p:Prop) (x:Option R):Option R:=open Classical in if p then x else none
theorem Jy {p:Prop} {x:Option R} {z:R} (h:pS p x=some z):p/\x=some z:=by
 unfold pS at h;split at h
 ·exact⟨by assumption,h⟩
 ·cases h
noncomputable def gd {α:Type} (a:α) (x:Option R):Option R:=pS (a=a) x
theorem XX {α:Type} (a:α) (x:Option R):gd a x=x:=by unfold gd pS;simp
def aU:Option (LV S)->Option Int
 |some (.v (.int _ x))=>some x
 |_=>none
def k_:Option (LV S)->Option Bool
 |some (.v (.bool x))=>some x
 |_=>none
def s7:Option (LV S)->Option ByteArray
 |some (.v (.string x))=>some x
 |_=>none
def fX:Option (LV S)->Option (Γa)
 |some (.bG _ _ x)=>some x
 |_=>none
def bo (t:Nat):Option (LV S)->Option (S.El t)
 |some (.aH t' x)=>(match ζl t' t with| .isTrue p=>some (p▸x)| .isFalse _=>none)
 |_=>none
def aJ (st:AS S) (s n:Nat):Option (LV S):=match aP.get st.env s with
 |some (.s (.one l))=>some l
 |some (.s (.agg ls))=>ls[n]?
 |_=>none
def bj (st:AS S) (j n:Nat):Option (LV S):=match av st.h j with
 |some (.box _ cs)=>cs[n]?
 |_=>none
def b3 (st:AS S) (j e:Nat):Option (List (S.El e)):=match av st.h j with
 |some (.row a xs)=>(match ζl a e with| .isTrue p=>some (jd p xs)| .isFalse _=>none)
 |_=>none
def gw (st:AS S) (j:Nat):Option (Γc):=match av st.h j with
 |some (.map _ _ m)=>some m
 |_=>none
def Zh (st:AS S) (s n:Nat):Option (LV S):=match st.lp with
 |some a=>(match aP.get a.env s with
  |some (.s (.one l))=>some l
  |some (.s (.agg ls))=>ls[n]?
  |_=>none)
 |none=>none
def cg (st:AS S) (j g:Nat):Option Unit:=match av st.h j with
 |some (.aM a _ _)=>bif ζ a g then some () else none
 |_=>none
def gA (st:AS S) (m n:Nat):Option Unit:=match st.lp with
 |some a=>bif ζ a.J.fn.ntmps m&&ζ (dG a.body) n then some () else none
 |none=>none
def mA (c:AS S->Option Unit) (a b:bc S):bc S:=⟨a.id,λst k=>match c st with|some _=>a.out st k|none=>b.out st k⟩
end
def cr (fn:Func):Code:=match fn.body with|some c=>c|none=>.skip
def kF:Code->List (Code×Code)
 | .rangeFunc _ _ x y=>[(x,y)]
 | .loop x=>kF x
 | .seq x y=>kF x++kF y
 | .cond _ x y=>kF x++kF y
 | .block _ x=>kF x
 | .scope x=>kF x
 |_=>[]
def Nc (c:Code) (id:Nat):Code×Code:=match(kF c).filter (λx=>ζ (dG x.2) id) with|[x]=>x|_=>(.skip,.skip)
def eP (c:Code) (id:Nat):Code:=(Nc c id).1
def eQ (c:Code) (id:Nat):Code:=(Nc c id).2
theorem J3 {S:bh} {l:List (bc S)} {n:Nat} (h:(match fZ l n with|some _=>false|none=>true)=true):fZ l n=none:=by
 cases a:fZ l n with
 |none=>rfl
 |some c=>rw[a] at h;cases h
section
variable {S:bh} {P:Program} {R:Type}
def vx (K:Kit S) (b:Γ) (k:Rs S->Option R):Rs S->Option R
 | .bq u=>k (.bq u)
 | .ret (.s a)=>(match b with|[t]=>(match vI K t a with|some x=>k (.ret (.s (K.a_ t x)))|none=>none)|_=>none)
 | .ret (.bn aen)=>(match qu K b aen with|some xs=>k (.ret (.bn (kq K xs)))|none=>none)
theorem Ml {K:Kit S} (l:bU K P) {f:Nat} {aen:List (an S)} {p:Γ} {k:Rs S->Option R} {r:Rs S} {z:R} (h:vx K p k r=some z) (b:eA K P f aen r): ∃m,k m=some z/\eA K P f aen m:=by
 cases r with
 |bq u=>exact⟨_,h,b⟩
 |ret n=>
  cases n with
  |s a=>
   simp only[vx] at h;split at h
   ·split at h
    ·rename_i x j;refine⟨_,h,b.1,λA O w xs i hO g=>(b.2 A O w xs i hO g).mono ?_⟩;rintro e w' ⟨⟨v,h1,c⟩,d⟩;exact⟨⟨v,h1,MM l j c⟩,d⟩
    ·cases h
   ·cases h
  |bn bs=>
   simp only[vx] at h;split at h
   ·rename_i q j;refine⟨_,h,b.1,λA O w xs i hO g=>(b.2 A O w xs i hO g).mono ?_⟩;rintro e w' ⟨⟨v,h1,ys,c,o⟩,d⟩;exact⟨⟨v,h1,ys,c,vJ l j o⟩,d⟩
   ·cases h
def hW (K:Kit S) (a:Γ) (k:Rs S->Option R) (r:Rs S) (h:AH S) (dt:Γ):Option R:=vy K (vx K a k) r h dt
theorem k6 {G:bE S} (b:a7 G P) {f:Nat} {c rs:Γ} {spec: {R:Type}->hJ S c->(Rs S->Option R)->Option R}
  (h: ∀ {R:Type} (xs:hJ S c) (k:Rs S->Option R) (z:R),spec xs k=some z-> ∃n,fh G n f (kq G.K xs) [] (hW G.K rs k)=some z) {aen:List (an S)} {k:Rs S->Option R} {z:R} (a:(gq G.K f c spec).out aen k=some z): ∃r,k r=some z/\eA G.K P f aen r:=by
 simp only[gq] at a;split at a
 rotate_left
 ·cases a
 rename_i xs p;cases hp:(kq G.K xs).all an.pure<;>rw[hp] at a
 ·cases a
 simp only[cond_true] at a;obtain⟨n,hn⟩:=h xs k z a;obtain⟨r,h',dt,h1,d⟩:=A3 b hn;obtain⟨s,e,g⟩:=eA.L3 b.K hp d h1;obtain⟨q,i,j,l⟩:=Ml b.K e g;exact⟨q,i,j,λA O w vs o hO m=>l A O w vs (vJ b.K p o) hO m⟩
end
section
variable {S:bh} {P:Program} {G:bE S} {I:dm S} {x:Code} {R:Type}
def qa (G:bE S) (n:Nat) (I:dm S) (x:Code) (k:AX->AS S->Option R):AX->AS S->Option R:=λe a=>match e with| .normal=>cc G n I (.loop x) (gc (I.L (dG x)) a) k|e=>k e a
theorem DF (a:fZ I.lc (dG x)=none) {n:Nat} {st:AS S} {k:AX->AS S->Option R}:cc G (n+1) I (.loop x) st k=cc G n I x st (qa G n I x k):=by
 show(match fZ I.lc (dG x) with|some lc=>lc.out st k|none=>_)=_;rw[a];rfl
theorem Zj {i n:Nat} (h:i<n):decide ((i:Int)<(n:Int))=true:=by simp;exact h
theorem Zi {n:Nat}:decide ((n:Int)<(n:Int))=false:=by simp
theorem dq {α:Type} {l:List α} {i:Nat} {z:α} (h:l[i]? =some z):idx l (i:Int)=some z:=by
 unfold idx;rw[if_pos (Int.natCast_nonneg i),Int.toNat_natCast,h]
theorem aZ.alt {K:Kit S} {J:kP} {c:AS S->Option Unit} {a b:bc S} (d:aZ K P J x a) (e:aZ K P J x b):aZ K P J x (mA c a b):=by
 intro R st k z h;simp only[mA] at h;split at h
 ·exact d st k z h
 ·exact e st k z h
theorem cL {α:Type} {T:Ty α} {A:Pl} {O:Γ} {w:World} {N:Nat} {C:cI} {K:Kit S} {st:AS S} {a:Act} {sl t:Nat} {d:S.El t} (e:bg K P N C A O w st a) (f:aP.get st.env sl=some (.s (.one (.aH t d)))) {l:List α} (c: ∀v,(S.ty t).is O w v d->T.slice.is O w v l):l.length<=maxLen:=by
 obtain⟨x,h1,b,_⟩:=e.env sl _ f;cases h1;obtain⟨_,_,_,g,h⟩:=eS (c _ b);omega
theorem M4 {A:Pl} {O:Γ} {w:World}: ∀ {ls:List (LV S)} {xs:Γb} {n:Nat} {l:LV S},bt A O w ls xs->ls[n]? =some l-> ∃ys,l.rel A O w ys
 |[],_,n,l,_,h=>by simp at h
 |a::ls,_,0,l,⟨ys,_,_,h1,_⟩,h=>by
  have h:a=l:=by simpa using h
  subst h;exact⟨ys,h1⟩
 |a::ls,_,n+1,l,⟨_,_,_,_,b⟩,h=>M4 b (by simpa using h)
theorem DD {α:Type} {T:Ty α} {A:Pl} {O:Γ} {w:World} {N:Nat} {C:cI} {K:Kit S} {st:AS S} {a:Act} {j k n t:Nat} {cs:List (LV S)} {d:S.El t} (g:bg K P N C A O w st a) (i:av st.h j=some (.box k cs)) (hn:cs[n]? =some (.aH t d)) {l:List α} (f: ∀v,(S.ty t).is O w v d->T.slice.is O w v l):l.length<=maxLen:=by
 obtain⟨p,_,⟨b,vs,_,_,e⟩,_⟩:=g.rel.al j _ i;obtain⟨ys,x,_,c,_⟩:=M4 e hn;obtain⟨_,_,_,m,o⟩:=eS (f _ c);omega
theorem lB {e j:Nat} {xs:List (S.El e)} {A:Pl} {O:Γ} {w:World} {N:Nat} {C:cI} {K:Kit S} {st:AS S} {a:Act} (c:bg K P N C A O w st a) (d:av st.h j=some (.row e xs)):xs.length<=maxLen:=by
 obtain⟨p,_,b,_⟩:=c.rel.al j _ d;obtain⟨_,_,_,f,g⟩:=Dc.Own.form b;omega
end
end Go.Vx
end
