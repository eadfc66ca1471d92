/- A part of the proof that OrderIs returns true for every input: the machine of values, its soundness, the program as plain functions, the law. Conditions: those of the given rows. -/
import Derived.Test.YtoggponeookhbaaGreatDoorI1
import Derived.Recover
import Derived.LoopNIn
import Derived.Stop.BytesEq
import Derived.KernelRfl
import Derived.RecoverIn
set_option linter.unusedVariables false
set_option linter.unusedSimpArgs false
noncomputable section
set_option maxRecDepth 1000000
set_option maxHeartbeats 12000000
open Array renaming getD_eq_getD_getElem?→θ,getElem?_eq_getElem→κ,getElem?_setIfInBounds_ne→ξ0,replicate→ξ8,getElem?_eq_some_iff→ξa,getElem?_toList→ξi,all_eq_true_iff_forall_mem→ξC,eq_empty_of_size_eq_zero→ξG,foldl_toList→ξQ,toList_map→ζw
open Bool renaming and_eq_true→η,or_true→ξv,not_eq_true'→ξE,or_eq_true→ξN,true_and→ξW,not_true→ξY,false_or→ξZ,true_or→ζb,false_eq_true→ζo,and_true→ζp,not_eq_true→ζy
open Go renaming Call→ζ8
open Go.Act renaming put→ζA
open Go.Builtin renaming copy_→ζj,firstCells→ζk,lenOf→ζJ
open Go.Code renaming region→ζB
open Go.Deferred renaming ofValue→ζ0
open Go.Instr renaming fill→ζF
open Go.Lib renaming byteCells→ζI
open Go.Op renaming equalIn→ζG
open Go.Oper renaming semAt_eq→ζn
open Go.Region renaming wanted→ξ1,ready→ζc
open Go.Result renaming andThen_ok→π
open Go.RowKit.Below renaming heap_alloc→ζ4
open Go.Sem renaming run_bind→ξ,run_pure→ξh
open Go.StepsIn renaming of_steps→ζx,mono→ζM
open Go.Target.collected renaming injEq→ζK
open Go.Value renaming int→ξ2,oneCell'→ξR,func→ζr,cells→ζP,bool→ζR
open Go.World renaming putObj_heap_other→ξm,putObj_heap_same→ζ6,alloc_heap_new→ζg
open List renaming getElem?_eq_some_iff→ε,mem_cons_of_mem→μ,mem_cons_self→ν,getElem?_eq_getElem→σ,mem_cons→τ,getElem?_append_left→φ,length_append→χ,mem_append→ψ,length_take→ξ3,all_eq_true→ξ4,take_append_drop→ξ6,mem_append_right→ξ7,mem_append_left→ξ9,getElem?_append_right→ξb,length_set→ξf,getElem?_eq_none→ξg,append_assoc→ξj,mem_filter→ξk,length_drop→ξn,take_of_length_le→ξq,length_singleton→ξr,range→ξs,length_map→ξw,getElem?_cons_zero→ξy,append_nil→ξz,all_cons→ξB,getElem?_set→ξD,replicate→ξF,take_append_of_le_length→ξJ,mem_of_getElem?→ξL,getElem?_take→ξO,getElem?_eq_none_iff→ξS,drop→ξT,getElem?_take_of_lt→ξU,cons_append→ζ1,length_cons→ζ2,take_length→ζ3,drop_of_length_le→ζ5,length_replicate→ζ7,drop_drop→ζh,toList_toArray→ζi,getElem?_drop→ζm,nodup_append→ζq,mem_map→ζs,drop_append→ζu,any_eq_true→ζz,of_mem_zip→ζC,mapM_cons→ζD,map_cons→ζH,range'→ζQ
open Nat renaming eq_of_beq_eq_true→δ,beq→ζ,blt_eq→ο,blt→υ,lt_or_ge→ω,le_of_ble_eq_true→ξ5,le_refl→ξc,lt_trichotomy→ξd,zero_add→ξe,zero_le→ξt,beq_refl→ξu,ble→ξH,le_add_right→ξI,mul_le_mul_right→ξK,min_eq_left→ξM,add_zero→ξP,add_sub_cancel_left→ξV,min→ζ9,succ_mul→ζa,le_of_lt→ζd,le_trans→ζe,decEq→ζl,sub_self→ζt,min_eq_right→ζv,ble_eq→ζE,le_total→ζL,sub_zero→ζN
open Option renaming bind_some→ξo,getD_some→ξp,map_some→ξx,bind_eq_some_iff→ξX
open Option.some renaming injEq→ι,inj→ξA
open Prod.mk renaming injEq→ξl
open Std.Legacy.Range renaming forIn_eq_forIn_range'→ζf,size→ζO
section
namespace Go.Vx
open Go.RowKit Go.Dc
section
variable {S:bo} {K:Kit S} {P:Program} {rr:Option Nat} {o:Oper} {env:aV S} {g:Nat->Option (Ob S)} {nx:Nat} {R:Type} {z:R} {k:AV S->Up S->AH S->Option R}
def jn (a:Act):Γ->Env
 |[]=>[]
 |s::r=>(s,a.tmps.getD s undef)::jn a r
theorem Ji (a:Act) (l:Γ):Has a.tmps.size (jn a l) a.defers a:=by
 refine⟨rfl,rfl,?_⟩
 induction l with
 |nil=>intro i v h;simp[jn,Env.get] at h
 |cons s r d=>
  intro i v h;simp only[jn,Env.get] at h;cases b:ζ s i with
  |true=>
   rw[b] at h;have c:=δ b;subst c;simp only[cond_true,ι] at h;exact h
  |false=>rw[b] at h;exact d i v h
theorem Jh {a:Act} {s:Nat}: ∀ {l:Γ},s∈l->(jn a l).get s=some (a.tmps.getD s undef)
 |t::r,h=>by
  simp only[jn,Env.get];cases b:ζ t s with
  |true=>have c:=δ b;subst c;rfl
  |false=>
   rcases τ.1 h with rfl|h
   ·simp at b
   ·exact Jh h
theorem Jg {a:Act} {x:Operand} {l:Γ} (h: ∀s∈slotsOf [x],s∈l):ev (jn a l) x=some (a.eval x):=by
 cases x with
 |tmp t=>exact Jh (h t (by simp[slotsOf]))
 |const v=>rfl
 |global g=>rfl
 |func f=>rfl
theorem FU {x:Operand}: ∀ {l:List Operand},x∈l-> ∀s∈slotsOf [x],s∈slotsOf l
 |y::r,h,s,a=>by
  rcases τ.1 h with rfl|h
  ·cases x<;>simp[slotsOf] at a ⊢;exact .inl a
  ·have:=FU h s a;cases y<;>simp[slotsOf,this]
theorem KH: ∀ {ps:List (Nat×Operand)} {n:Nat} {xs:List Operand},uV n ps=some xs-> ∀ {E:Env} {f:Operand->Value},(∀x∈xs,ev E x=some (f x))->jK E n ps=some (xs.map f)
 |[],n,xs,h,E,f,a=>by cases h;rfl
 |(i,x)::r,n,xs,h,E,f,a=>by
  simp only[uV] at h;cases b:ζ i n<;>rw[b] at h
  ·cases h
  simp only[cond_true] at h;split at h
  rotate_left
  ·cases h
  rename_i ys d;cases h;simp only[jK,b,cond_true,a x ν,KH d (λy c=>a y (μ _ c)),ζH]
theorem I8 (b:bW K P) {A:Pl} {O:Γ} {w:World} {t:Nat}: ∀ {afC:List (ay S)} {ys:List (S.El t)} {vs:Γb},tc K t afC=some ys->cF A O w afC vs->bN (S.ty t) O w (ha vs) ys/\vs.length=ys.length/\ ∀v∈vs,v.cells.size=(S.ty t).n
 |[],ys,vs,h,e=>by cases h;rw[show vs=[] from e];exact⟨rfl,rfl,λv h=>by cases h⟩
 |a::r,ys,vs,h,⟨v,m,f,h1,d⟩=>by
  subst f;simp only[tc] at h;split at h
  rotate_left
  ·cases h
  rename_i y g;split at h
  rotate_left
  ·cases h
  rename_i o i;cases h;have c:=b.cls A O w t _ y _ g h1.cells;obtain⟨j,k,l⟩:=I8 b i d;refine⟨⟨v.cells.toList,ha m,by simp[ha],c,j⟩,by simp[k],λu hu=>?_⟩;rcases τ.1 hu with rfl|hu
  ·have:=(S.ty t).len c;simpa using this
  ·exact l u hu
theorem Ze (j:bW K P) {t n:Nat} {ps:Array (Nat×Operand)} (C:o.op= .buildSlice t n ps) (h:En K env g nx k t n ps.toList=some z):Good K P rr o env g nx k z:=by
 have m: ∀c,o.op≠ .defer c:=λc=>by rw[C];simp
 unfold En at h;split at h
 rotate_left
 ·cases h
 rename_i i hi;split at h
 rotate_left
 ·cases h
 rename_i d xs N ab;split at h
 rotate_left
 ·cases h
 rename_i afC has;split at h
 rotate_left
 ·cases h
 rename_i ai rs M;split at h
 rotate_left
 ·cases h
 rename_i ys ad;cases l:(ζ i.tag 5&&(ζ ys.length n&&(ζ (S.ty i.e).n d.size&&(ζ d.zero.cells.size d.size&&(ξH (n*d.size) 16777216&&ξH n 16777216)))))<;>rw[l] at h
 ·cases h
 simp only[cond_true,η] at h l;obtain⟨G,hlen,s,ae,V,W⟩:=l;have s:=δ s;refine gi m h λA O w a he y hO H L=>?_;have u:A.pl nx=none:=L 0 (by simp);obtain⟨af,aj,D⟩:=lJ j y (all:=rs) M (lr he H has) (λr q=>q);obtain⟨F,ag,ah⟩:=I8 j ad af;have hk:=Jo (A:=A) hO D;have hn:n=ys.length:=(δ hlen).symm;have Q:n<=maxLen:=by have:=ξ5 W;unfold maxLen;omega
 have b:=jG hk.ob i.e (ha (xs.map a.eval));have I:Dc.Lit (S.ty i.e) i.e (dm A rs O) w w.heap.size n ys (w.alloc (.cells (ha (xs.map a.eval)).toArray i.e)):=⟨⟨ha (xs.map a.eval),b,F.tr b.tr,by rw[F.len,hn]⟩,hn.symm,Q⟩;have T:=I.own (B:=0) (ξt _);have R:nx∉rs:=λq=>by
  obtain⟨Z,J⟩:=D nx q;obtain⟨p,hp,_⟩:=y.al nx Z J;rw[u] at hp;cases hp
 refine⟨.slice (some ⟨w.heap.size,0,none⟩) n n,_,_,_,?_,⟨_,Pl.ff A nx (.slice (some ⟨w.heap.size,0,none⟩) n n),rfl,rfl⟩,
  hk.Iw (mS (p:=.slice (some ⟨w.heap.size,0,none⟩) n n) hk.ob u b.fr b.tr b.ob b.ge T (λc m=>by cases m;rfl)) (λi X hi=>by obtain⟨rfl,_⟩:=cY hi;exact R)⟩
 simp only[execOp,C,ξ];have U:=KH ab (E:=jn a (slotsOf xs)) (f:=a.eval) λx aa=>Jg (FU aa);rw[FB j.Θ (Ji a _) hi (δ G) N (δ ae) U (λv Y=>(ah v Y).trans s) (ag.trans hn.symm) (ξ5 V)];rfl
theorem Zu (l:bW K P) {t:Nat} {x y:Operand} (C:o.op= .makeSlice t x y) (h:Ex K env nx k t x y=some z):Good K P rr o env g nx k z:=by
 have q: ∀c,o.op≠ .defer c:=λc=>by rw[C];simp
 unfold Ex at h;split at h
 rotate_left
 ·cases h
 rename_i i hi;split at h
 rotate_left
 ·cases h
 rename_i b U;split at h
 rotate_left
 ·cases h
 rename_i n c u ad af M;cases m:(ζ i.tag 5&&(ζ (S.ty i.e).n b.size&&(ζ b.zero.cells.size b.size&&b.zero.cells.toList.all ξR)))<;>rw[m] at h
 ·cases h
 simp only[cond_true,η] at h m;obtain⟨J,aa,f,h1⟩:=m;have hn:=δ aa;have f:=δ f;obtain⟨zs,hm,I⟩:=bind_some h;refine gi q I λA O w a he B hO v R=>?_;have T:A.pl nx=none:=R 0 (by simp);have ab:=l.Θ.fits U;obtain⟨x',ae,Z,L,ag⟩:=ab.info;have Y:(S.ty i.e).rep O w b.zero.cells.toList u:=l.cls A O w i.e _ u _ M (qD h1);unfold h4 at hm;split at hm
 rotate_left
 ·cases hm
 rename_i Q;obtain⟨F,G,H,aj⟩:=Q;simp only[ι] at hm;subst hm;obtain⟨ai,W⟩:=hY he v ad;obtain⟨ah,V⟩:=hY he v af;have hu:=(l.Θ.fits hi).slice (δ J);have E:=run_make (P:=P) w t i.e x' b.zero hu ae ag ai ah n c F G (by rw[L];exact H) (by omega);rw[Z] at E;have d:=jG hO i.e (madeCells b.zero.cells (c.toNat*b.size)).toList;have X:Dc.Own (S.ty i.e) i.e 0 (w.heap.size::O) (w.alloc (.cells (madeCells b.zero.cells (c.toNat*b.size)).toList.toArray i.e)) (.slice (some ⟨w.heap.size,0,none⟩) n.toNat c.toNat) (ξF n.toNat u):=by
  have N:c.toNat<=maxLen:=by unfold maxLen;omega
  have D:=(adn Y n.toNat).tr d.tr;have s:=D.len;simp only[ζ7] at s;have hle:n.toNat*b.size<=c.toNat*b.size:=ξK _ (by omega);refine⟨⟨_,⟨by rw[s];simp,.inr ⟨w.heap.size,c.toNat,madeCells b.zero.cells (c.toNat*b.size),by simp,ξt _,?_,by simp;omega,N,by simp[madeCells,hn],?_⟩⟩,D⟩,λg B=>by cases B;exact ν⟩
  ·have:=d.bG;unfold bE at this;simpa using this
  ·apply List.ext_getElem?;intro j;simp only[ξO,ζ7,hn]
   by_cases r:j<n.toNat*b.size
   ·rw[if_pos r,Mz _ _ _ (by omega) f,Y1 (by simpa using f) _ _ r]
   ·rw[if_neg r]
    symm
    rw[ξS,s,hn];omega
 refine⟨.slice (some ⟨w.heap.size,0,none⟩) n.toNat c.toNat,_,_,_,?_,⟨_,Pl.ff A nx (.slice (some ⟨w.heap.size,0,none⟩) n.toNat c.toNat),rfl,rfl⟩,
  mS (p:=.slice (some ⟨w.heap.size,0,none⟩) n.toNat c.toNat) hO T d.fr d.tr d.ob d.ge X (λc q=>by cases q;rfl)⟩
 simp only[execOp,C,ξ,W,V,E];simp
theorem js (j:bW K P) {A:Pl} {O:Γ} {w:World} (m:bK A O w g) {e:Nat} {l:LV S} {xs:List (S.El e)} {u:Value} (h:ea K g e l=some xs) (c:l.rel A O w [u]):(S.ty e).slice.is (dm A (jM l) O) w u xs:=by
 have less:Tr O w (dm A (jM l) O) w:=Tr.less eE;unfold ea at h;split at h
 ·rename_i r;split at h
  rotate_left
  ·cases h
  rename_i q ys o;split at h
  rotate_left
  ·cases h
  rename_i p _;subst p;cases h;obtain⟨v,h1,a,d⟩:=c;have a:u=v:=by simpa using a
  subst a;obtain⟨p,hp,f,hm⟩:=m.al r _ o;rw[h1] at hp;cases hp;exact Dc.Own.share f eE λb k n=>(hG.1 n).2 r (by simp[jM]) u h1 (fB k)
 ·rename_i t y;split at h
  rotate_left
  ·cases h
  rename_i I i;split at h
  rotate_left
  ·cases h
  rename_i p _;subst p;cases h;obtain⟨v,h1,a,d⟩:=c;have h1:u=v:=by simpa using h1
  subst h1;exact((j.sl t I i).2.1 O w u y a).tr less
 ·cases h;have:=ej c;subst this;exact gN _ _ _
 ·cases h
theorem ady {c:ζ8} {x y:Operand} {ty:Nat} {a:Act} {w w':World} {u v r:Value} (f:o.op= .call c) (d:c.callee= .builtin .append) (b:c.args.toList=[x,y]) (g:c.argTypes.toList=[ty,ty]) (i:a.eval x=u) (j:a.eval y=v)
  (h:(Builtin.append_ #[ty,ty] o.type #[u,v]).run P w= .ok r w'):(execOp a.eval o).run P w= .ok (.value r) w':=by
 refine qP f d λcs=>?_;rw[fH b,fH g];simp only[builtin,ξ];have e:(#[x,y].map a.eval)= #[u,v]:=by simp[i,j]
 rw[show([x,y]:List Operand).toArray.map a.eval= #[u,v] from e,show([ty,ty]:Γ).toArray= #[ty,ty] from rfl,h];rfl
theorem Za (L:bW K P) {ty:Nat} {c:ζ8} {x y:Operand} (ad:o.op= .call c) (an:c.callee= .builtin .append) (ai:c.args.toList=[x,y]) (aD:c.argTypes.toList=[ty,ty]) (h:Ej K env g nx k ty x y=some z):Good K P rr o env g nx k z:=by
 have ak: ∀c,o.op≠ .defer c:=λc=>by rw[ad];simp
 unfold Ej at h;split at h
 rotate_left
 ·cases h
 rename_i i hi;split at h
 rotate_left
 ·cases h
 rename_i d au;split at h
 rotate_left
 ·cases h
 rename_i aL I G H;have key: ∀ {l:LV S} {xs ys:List (S.El i.e)} {kl:Γ},b5 K env x=some l->(∀r∈kl,∃Z,g r=some Z)->(∀(A:Pl) (O:Γ) (w:World) (u:Value),bK A O w g->l.rel A O w [u]->Dc.Own (S.ty i.e) i.e 0 (dm A kl O) w u xs/\u.oneCell'=true)->
   (∀(A:Pl) (O:Γ) (w:World) (u:Value),bK A O w g->I.rel A O w [u]->(S.ty i.e).slice.is (dm A kl O) w u ys)->
   ∀ {ef0:Up S},(∀(A:Pl) (O:Γ) (w:World) (u:Value),bK A O w g->l.rel A O w [u]->(∀i X,(i,X)∈ef0->X=none/\A.pl i=some u/\ ∃Z,g i=some Z)/\((∃i,(i,none)∈ef0)\/u.ownBlock=none))->(∀i X,(i,X)∈ef0->i∉kl)->
   (ζ i.tag 5&&(ζ (S.ty i.e).n d.size&&(ζ d.zero.cells.size d.size&&(υ 0 d.size&&υ 0 d.bytes))))=true->
   ∀ {up:Up S},up=fp kl++ef0->((app d.bytes xs ys).bind λzs=>k (.s (.one (.own nx))) up [some (.row i.e zs)])=some z->Good K P rr o env g nx k z:=by
  intro l xs ys kl G M ax D ef0 aq ao B up aE h;simp only[η] at B;obtain⟨ah,aC,aG,ay,aj⟩:=B;obtain⟨zs,aH,J⟩:=bind_some h;obtain⟨hlen,rfl⟩:=s7 aH;subst aE;refine gi ak J λA O w a he m hO Q ar=>?_;have aa:A.pl nx=none:=ar 0 (by simp);have hk:=Jo (A:=A) (w:=w) hO M;obtain⟨aI,aM⟩:=ax A O w _ m (b6 he Q G);have aJ:=D A O w _ m (b6 he Q H);obtain⟨N,w',O',aB,W⟩:=FA (P:=P) (ty:=o.type) L.Θ hi (δ ah) au (δ aC) (ο.mp ay) (δ aG) (ξt _) hk.ob aI aJ hlen (ο.mp aj);obtain⟨af,ag⟩:=aq A O w _ m (b6 he Q G);have aF:N.oneCell'=true:=by
   rcases hd W.own with⟨rfl,_⟩|⟨_,_,rfl⟩<;>rfl
  have Y:=hk.Iw (Yg (g:=g) hk.ob aa af ag W) (λi X hi=>by
   rcases ψ.1 hi with hi|hi
   ·exact ao i X hi
   ·obtain⟨rfl,_⟩:=cY hi;intro C;obtain⟨Z,R⟩:=M _ C;obtain⟨p,hp,_⟩:=m.al _ Z R;rw[aa] at hp;cases hp)
  refine⟨N,w',_,O',ady ad an ai aD rfl rfl aB,⟨N,Pl.ff A nx N,rfl,aF⟩,?_⟩;rw[<-ξj] at Y;exact Y
 have ae: ∀ {r:Nat} {xs:List (S.El i.e)} {kl:Γ},ea K g i.e (.own r)=some xs->r∉kl->(∀q∈kl,∃Z,g q=some Z)-> ∀(A:Pl) (O:Γ) (w:World) (u:Value),bK A O w g->(LV.own r:LV S).rel A O w [u]->Dc.Own (S.ty i.e) i.e 0 (dm A kl O) w u xs/\u.oneCell'=true:=by
  intro r xs kl t C M A O w u m aA;unfold ea at t;simp only at t;split at t
  rotate_left
  ·cases t
  rename_i aK ys H;split at t
  rotate_left
  ·cases t
  rename_i p _;subst p;cases t;obtain⟨v,h1,E,J⟩:=aA;have E:u=v:=by simpa using E
  subst E;obtain⟨p,hp,V,hm⟩:=m.al r _ H;rw[h1] at hp;cases hp;refine⟨Dc.Own.keep V (Tr.less eE) λb B=>⟨rfl,hG.2 ⟨V.mem b B,λq f p hp az=>?_⟩⟩,J⟩;obtain⟨Z,R⟩:=M q f;exact m.dj r q _ Z u p b (λe=>C (e▸f)) H R h1 hp (fB B) az
 have live: ∀ {r:Nat} {xs:List (S.El i.e)},ea K g i.e (.own r)=some xs-> ∃Z,g r=some Z:=by
  intro r xs h;unfold ea at h;simp only at h;split at h
  ·rename_i e ys H;exact⟨_,H⟩
  ·cases h
 have U: ∀ {r:Nat} {xs:List (S.El i.e)},ea K g i.e (.own r)=some xs-> ∀(A:Pl) (O:Γ) (w:World) (u:Value),bK A O w g->(LV.own r:LV S).rel A O w [u]->(∀j X,(j,X)∈([(r,none)]:Up S)->X=none/\A.pl j=some u/\ ∃Z,g j=some Z)/\((∃j,(j,none)∈([(r,none)]:Up S))\/u.ownBlock=none):=by
  intro r xs t A O w u m ⟨v,h1,E,J⟩;have E:u=v:=by simpa using E
  subst E;refine⟨λj X F=>?_,.inl ⟨r,ν⟩⟩;obtain⟨rfl,rfl⟩:=cY F;exact⟨rfl,h1,live t⟩
 split at h
 ·rename_i r;split at h
  ·rename_i T;cases f:ζ r T<;>rw[f] at h
   ·simp only[cond_false] at h;have ab:r≠T:=λe=>by subst e;simp at f
    split at h
    rotate_left
    ·cases h
    rename_i xs ys t D;cases B:(ζ i.tag 5&&(ζ (S.ty i.e).n d.size&&(ζ d.zero.cells.size d.size&&(υ 0 d.size&&υ 0 d.bytes))))<;>rw[B] at h
    ·cases h
    refine key (kl:=[T]) G (λq f=>by simp at f;subst f;exact live D) (ae t (by simpa using ab) (λq f=>by simp at f;subst f;exact live D)) (λA O w u m C=>?_) (U t) (λj X F=>by obtain⟨rfl,_⟩:=cY F;simpa using ab) B rfl h;exact js L m D C
   ·cases h
  ·rename_i aw;split at h
   rotate_left
   ·cases h
   rename_i xs ys t D;cases B:(ζ i.tag 5&&(ζ (S.ty i.e).n d.size&&(ζ d.zero.cells.size d.size&&(υ 0 d.size&&υ 0 d.bytes))))<;>rw[B] at h
   ·cases h
   have av:jM I=[]:=by cases I<;>first|rfl|exact absurd rfl (aw _)
   refine key (kl:=[]) G (λq f=>by cases f) (ae t (by simp) (λq f=>by cases f)) (λA O w u m C=>?_) (U t) (λj X F=>by simp) B rfl h;have:=js L m D C;rw[av] at this;exact this
 ·split at h
  rotate_left
  ·cases h
  rename_i ys D;cases B:(ζ i.tag 5&&(ζ (S.ty i.e).n d.size&&(ζ d.zero.cells.size d.size&&(υ 0 d.size&&υ 0 d.bytes))))<;>rw[B] at h
  ·cases h
  have hl: ∀q∈jM I,∃Z,g q=some Z:=by
   intro q f;cases I<;>simp[jM] at f;subst f;exact live D
  refine key (kl:=jM I) (xs:=[]) (ef0:=[]) G hl (λA O w u m C=>?_) (λA O w u m C=>js L m D C) (λA O w u m C=>⟨(λi X h=>nomatch h),.inr ?_⟩) (λj X F=>nomatch F) B (by simp) h
  ·rw[ej C];exact⟨Dc.Own.iN,rfl⟩
  ·rw[ej C];rfl
 ·cases h
end
section
variable {S:bo} {K:Kit S} {P:Program} {rr:Option Nat} {o:Oper} {env:aV S} {g:Nat->Option (Ob S)} {nx:Nat} {R:Type} {z:R} {k:AV S->Up S->AH S->Option R}
theorem DM (b:bW K P) {O:Γ} {w:World} {e:Nat} {a:IntKind}: ∀ {ys:List (S.El e)} {zs:Γa} {cs:Γb},iJ K e a ys=some zs->bN (S.ty e) O w cs ys->cs=zs.map (ξ2 a)
 |[],zs,cs,h,i=>by cases h;exact i
 |y::ys,zs,cs,h,⟨c,r,f,h1,g⟩=>by
  simp only[iJ] at h;split at h
  ·rename_i k x j;cases d:sameKind a k<;>rw[d] at h
   ·cases h
   simp only[cond_true] at h;split at h
   ·rename_i t l;cases h;have q:=b.a1 ⟨λ_=>none,none⟩ O w e y c h1;rw[j] at q;obtain⟨s,p,m,n,o⟩:=q;rw[f,m,n.1,show p=[] from o,DM b l g,<-eR d];rfl
   ·cases h
  ·cases h
theorem abM {vs us:Γb} {off n:Nat} (h1:us.length<=n) (a:off+n<=vs.length):putAt vs off (us++((vs.drop off).take n).drop us.length)=putAt vs off us:=by
 unfold putAt;rw[ξj,ξj,ξj]
 congr 2
 have hl:(us++ξT us.length (List.take n (ξT off vs))).length=n:=by
  rw[χ,ξn,ξ3,ξn];omega
 rw[hl];have e:ξT (off+us.length) vs=ξT us.length (ξT off vs):=by rw[ζh]
 rw[e,<-ζh]
 conv=>rhs;rw[<-ξ6 n (ξT off vs)]
 rw[ζu,ξ3,ξn];have:us.length-min n (vs.length-off)=0:=by omega
 rw[this,List.drop_zero]
theorem Zg (E:bW K P) {ty D:Nat} {c:ζ8} {x y:Operand} (ab:o.op= .call c) (aq:c.callee= .builtin .copy) (ak:c.args.toList=[x,y]) (aI:c.argTypes.toList=[ty,D]) {i I:TI} (hi:K.Θ.get ty=some i) (az:K.Θ.get i.e=some I) {b off n:Nat} {ag:LV S} (aP:b5 K env x=some (.fC b off n)) (aR:b5 K env y=some ag)
  (h:Ep K g k i I b off n ag=some z):Good K P rr o env g nx k z:=by
 have ao: ∀c,o.op≠ .defer c:=λc=>by rw[ab];simp
 unfold Ep at h;split at h
 rotate_left
 ·cases h
 rename_i C cs W;split at h
 rotate_left
 ·cases h
 rename_i ls aB;split at h
 rotate_left
 ·cases h
 rename_i t gs ay;split at h
 rotate_left
 ·cases h
 rename_i zs d;split at h
 rotate_left
 ·cases h
 rename_i T av;cases f:(ζ i.tag 5&&(ζ (S.ty i.e).n I.size&&(ζ I.size 1&&ζ gs.length n)))<;>rw[f] at h
 ·cases h
 simp only[cond_true,η] at h f;have aj:=δ f.1;have hn:=δ f.2.1;have h1:=δ f.2.2.1;have ax:=δ f.2.2.2;refine gi ao h λA O w a he Z hO V a1=>?_;obtain⟨bG,ai,R⟩:=b6 he V aP;have R:a.eval x= .slice (some ⟨bG,off,none⟩) n n:=by simpa using R
 obtain⟨p,hp,⟨aX,vs,aU,B,ah⟩,hm⟩:=Z.al b _ W;rw[ai] at hp;cases hp;cases aU;obtain⟨aV,aW⟩:=gX aB ah;have hold:=pv ay aV;have N:=(E.Θ.fits hi).slice aj;have M:=E.Θ.fits az;obtain⟨us,l⟩: ∃us,us=(zs.take n).map (ξ2 t):=⟨_,rfl⟩;have H:us.length=ζ9 zs.length n:=by rw[l,ξw,ξ3];exact Nat.min_comm _ _
 have aK:us.length<=n:=by rw[H];exact Nat.min_le_right _ _
 have aN: ∀u∈us,u.oneCell'=true:=λu hu=>by
  rw[l] at hu;obtain⟨x,_,rfl⟩:=ζs.1 hu;rfl
 have L:=run_storeCells_at (P:=P) bG off C us 0 vs.toArray w B (by simp;omega) aN;have aG:(vs.toArray.toList.take (off+0)++us++vs.toArray.toList.drop (off+0+us.length)).toArray=(putAt vs off us).toArray:=by simp[putAt]
 rw[aG] at L;have J:(ζj #[ty,D] o.type #[.slice (some ⟨bG,off,none⟩) n n,a.eval y]).run P w= .ok (goInt (ζ9 zs.length n)) (w.setRow bG (putAt vs off us).toArray):=by
  have af:=b6 he V aR;unfold wI at d;split at d
  ·rename_i s;cases hk:(sameKind t .u8&&ξH s.size n)<;>rw[hk] at d
   ·cases d
   simp only[cond_true,ι] at d;simp only[η] at hk;have aA:=eR hk.1;have G:=ξ5 hk.2;have aT:a.eval y= .string s:=ej (S:=S) (A:=A) (O:=O) (w:=w) af;have q:zs.length=s.size:=by rw[<-d];simp
   obtain⟨a7,aQ,aH,_,_⟩:=M.info;have J:=Lib.run_copy_row_string (P:=P) w ty D o.type i.e bG off n n s vs.toArray C N (by rw[aQ,ξx,aH,h1]) B G (by simp;omega);have aM:us=ζI s.data.toList:=by
    rw[l,<-d,ξq (by simp;exact G),aA];simp[ζI]
   rw[aT,J,q,show ζ9 s.size n=s.size from ξM G]
   congr 2
   have aF:us.length=s.size:=by rw[H,q];exact ξM G
   simp[putAt,<-aM,aF]
  ·split at d
   rotate_left
   ·cases d
   rename_i ys aS;have hu:=js E Z aS af;obtain⟨A',aY,Q,a6,_⟩:=eS hu;rw[Q];rcases A' with _|ad
   ·have aC:ys=[]:=wF (by rw[Q] at hu;exact hu);subst aC;cases d;have aJ:us=[]:=by rw[l];simp
    rw[aJ] at L ⊢;have:putAt vs off []=vs:=by simp[putAt]
    rw[this];have aE:w.setRow bG vs.toArray=w:=setRow_self w bG vs.toArray C (0,0) B;rw[aE];simp[ζj,run_underlying N,ζJ,ζk,dV M,storeCells]
   ·rw[Q] at hu;obtain⟨_,ds,ae,aw⟩:=qR hu;have Y:=DM E d ae;have q:zs.length=ys.length:=by
     have r:=ae.len;rw[hn,h1,Nat.mul_one,Y,ξw] at r;exact r
    obtain⟨m,hm⟩: ∃m,m=ζ9 ys.length n:=⟨_,rfl⟩;have aO:us=ds.take m:=by
     rw[l,Y,<-List.map_take]
     congr 1
     rw[hm,<-q];rcases ζL zs.length n with h|h
     ·rw[show ζ9 zs.length n=zs.length from ξM h,ξq h,ξq (ξc _)]
     ·rw[show ζ9 zs.length n=n from ζv h]
    have ar: ∀j v,us[j]? =some v->w.cell? (ad.add j)=some v:=λj v F=>by
     rw[aO,ξO] at F;split at F
     ·exact aw j v F
     ·cases F
    have aa:=run_loadCells_list (P:=P) w ad _ ar;have aL:us.length=m:=by rw[H,hm,q]
    rw[aL] at aa;simp only[ζj,ξ,List.getElem?_toArray,ξy,List.getElem?_cons_succ,run_underlying N,π,ζJ,ξh,<-hm,dV M,ζk];rw[h1,Nat.mul_one,aa];simp only[π,L,ξ,ξh];rw[q,<-hm]
 have an:bE (w.setRow bG (putAt vs off us).toArray) bG C (putAt vs off us):=by
  unfold bE;rw[setRow_heap w bG _ _ _ _ B]
 have U:Fr [bG] w (w.setRow bG (putAt vs off us).toArray):=jT B;have aD:bB A O (w.setRow bG (putAt vs off us).toArray) T (putAt vs off us):=by
  have au:((c3 gs zs).length=n):=by
   simp only[c3,χ,ξ3,ξn];omega
  have r:=(iR av ah ⟨(c3 gs zs).map (ξ2 t),[],(ξz _).symm,⟨au,rfl⟩,rfl⟩).1;have e:(c3 gs zs).map (ξ2 t)=us++((vs.drop off).take n).drop us.length:=by
   rw[hold];show _=us++ξT us.length (gs.map (ξ2 t));rw[H,c3,List.map_append,ax,l,<-List.map_drop]
   congr 2
   rcases ζL zs.length n with h|h
   ·rw[show ζ9 zs.length n=zs.length from ξM h]
   ·rw[show ζ9 zs.length n=n from ζv h,ζ5 (by omega),ζ5 (by omega)]
  rw[e,abM aK aW] at r;exact jO (U.tr (gJ (hm bG rfl))) (Pl.le.refl A) r
 refine⟨_,_,A,O,?_,⟨rfl,rfl⟩,by simpa[news] using mT (X:=.box C T) hO (hm bG rfl) W ai rfl U ⟨bG,putAt vs off us,rfl,an,aD⟩⟩;refine qP ab aq λaZ=>?_;rw[fH ak,fH aI];simp only[builtin,ξ];have e:(([x,y]:List Operand).toArray.map a.eval)= #[.slice (some ⟨bG,off,none⟩) n n,a.eval y]:=by simp[R]
 rw[e,show([ty,D]:Γ).toArray= #[ty,D] from rfl,J];rfl
theorem Zh (T:bW K P) {ty t:Nat} {c:ζ8} {x y:Operand} (H:o.op= .call c) (W:c.callee= .builtin .copy) (U:c.args.toList=[x,y]) (af:c.argTypes.toList=[ty,t]) {i L:TI} (hi:K.Θ.get ty=some i) (X:K.Θ.get i.e=some L) {r D:Nat} (ag:b5 K env x=some (.own r)) (ah:b5 K env y=some (.own D))
  {xs ys:List (S.El i.e)} (J:g r=some (.row i.e xs)) (d:ea K g i.e (.own D)=some ys) (F:ζ i.tag 5=true/\ζ (S.ty i.e).n L.size=true) (h:k (.s (.one (.v (goInt (ζ9 ys.length xs.length))))) [(r,some (.row i.e (c3 xs ys)))] []=some z):Good K P rr o env g nx k z:=by
 have V: ∀c,o.op≠ .defer c:=λc=>by rw[H];simp
 refine gi V h λA O w a he G hO E au=>?_;obtain⟨v,h1,C,ar⟩:=b6 he E ag;have C:a.eval x=v:=by simpa using C
 obtain⟨p,hp,R,hm⟩:=G.al r _ J;rw[h1] at hp;cases hp;have ae:Dc.Src (S.ty i.e) O w (a.eval y) ys:=by
  obtain⟨u,an,u2,u3⟩:=b6 he E ah;have u2:a.eval y=u:=by simpa using u2
  rw[u2];simp only[ea] at d;split at d
  rotate_left
  ·cases d
  rename_i aq ao ab;split at d
  rotate_left
  ·cases d
  rename_i q _;subst q;cases d;obtain⟨av,I,f,_⟩:=G.al D _ ab;rw[an] at I;cases I;have f:Dc.Own (S.ty i.e) i.e 0 O w u ao:=f;rcases hd f with⟨B,N⟩|⟨b,M,B⟩
  ·subst B;subst N;exact .inl ⟨0,rfl,rfl⟩
  ·subst B;obtain⟨cs,cur,ai,aj,ak,_,_,_,_,_⟩:=qx f;refine .inr ⟨⟨b,0,none⟩,M,cs,rfl,ak,λj v m=>?_⟩;have Y:cur.toList[j]? =some v:=by
    rw[<-aj,ξO] at m;split at m
    ·exact m
    ·cases m
   have Q:(⟨b,0,none⟩:Addr).add j=⟨b,j,none⟩:=by unfold Addr.add;split<;>simp_all
   rw[Q];have hblk:bE w b i.e cur.toList:=by unfold bE;simpa using ai
   rw[hblk.cell];exact Y
 obtain⟨w',ad,l⟩:=Oq (P:=P) (t':=t) (ty:=o.type) T.Θ hi (δ F.1) X (δ F.2) hO R ae;refine⟨_,w',A,O,?_,⟨rfl,rfl⟩,Jq hO J h1 l.tr l.ob (λq aa Z=>l.fr q aa λe=>Z (fB e)) l.own hm⟩;refine qP H W λcs=>?_;rw[fH U,fH af];simp only[builtin,ξ];have e:(([x,y]:List Operand).toArray.map a.eval)= #[v,a.eval y]:=by simp[C]
 rw[e,show([ty,t]:Γ).toArray= #[ty,t] from rfl,ad];rfl
theorem Zf (m:bW K P) {ty B:Nat} {c:ζ8} {x y:Operand} (u:o.op= .call c) (E:c.callee= .builtin .copy) (D:c.args.toList=[x,y]) (H:c.argTypes.toList=[ty,B]) (h:Eo K env g k ty x y=some z):Good K P rr o env g nx k z:=by
 have Q: ∀c,o.op≠ .defer c:=λc=>by rw[u];simp
 unfold Eo at h;split at h
 rotate_left
 ·cases h
 rename_i i hi;split at h
 rotate_left
 ·cases h
 rename_i M F;split at h
 ·rename_i b off n aa j l;exact Zg m u E D H hi F j l h
 rotate_left
 ·rename_i r W j l;cases G:ζ r W<;>rw[G] at h
  rotate_left
  ·cases h
  simp only[cond_false] at h;split at h
  rotate_left
  ·cases h
  rename_i e xs ys f I;split at h
  rotate_left
  ·cases h
  rename_i p _;subst p;cases d:(ζ i.tag 5&&ζ (S.ty i.e).n M.size)<;>rw[d] at h
  ·cases h
  simp only[cond_true,η] at h d;exact Zh m u E D H hi F j l f I d h
 ·cases h
 rename_i r t ys j l;split at h
 rotate_left
 ·cases h
 rename_i e xs X f I;split at h
 rotate_left
 ·cases h
 rename_i p _;subst p;cases d:(ζ i.tag 5&&ζ (S.ty i.e).n M.size)<;>rw[d] at h
 ·cases h
 simp only[cond_true,η] at h d;refine gi Q h λA O w a he L hO J Z=>?_;obtain⟨v,h1,C,Y⟩:=b6 he J j;have C:a.eval x=v:=by simpa using C
 obtain⟨p,hp,N,hm⟩:=L.al r _ f;rw[h1] at hp;cases hp;have hu:=js m L I (b6 he J l);have hu:(S.ty i.e).slice.is O w (a.eval y) X:=hu.tr ⟨rfl,rfl,rfl,ξc _,λk hk T=>⟨λR=>T (hG.2 ⟨R,λr f=>by cases f⟩),rfl⟩⟩;obtain⟨w',V,s⟩:=adB (P:=P) (t':=B) (ty:=o.type) m.Θ hi (δ d.1) F (δ d.2) hO N hu;refine⟨_,w',A,O,?_,⟨rfl,rfl⟩,Jq hO f h1 s.tr s.ob (λq U G=>s.fr q U λe=>G (fB e)) s.own hm⟩;refine qP u E λcs=>?_;rw[fH D,fH H];simp only[builtin,ξ];have e:(([x,y]:List Operand).toArray.map a.eval)= #[v,a.eval y]:=by simp[C]
 rw[e,show([ty,B]:Γ).toArray= #[ty,B] from rfl,V];rfl
theorem Ke (M:bW K P) {t:Nat} {x y q:Operand} (d:o.op= .mapUpdate t x y q\/o.op= .insert t x y q) (h:vF K env g k t x y q=some z):Good K P rr o env g nx k z:=by
 have R: ∀c,o.op≠ .defer c:=λc=>by rcases d with d|d<;>rw[d]<;>simp
 unfold vF at h;split at h
 rotate_left
 ·cases h
 rename_i i b B j C u hi X Y V;split at h
 rotate_left
 ·cases h
 rename_i s v aa m U r;cases e:(ζ i.tag 7&&(ζ s.tag 2&&(sameKind (Dc.noKind s.k) v&&(sameKind B v&&sameKind C aa))))<;>rw[e] at h
 ·cases h
 simp only[cond_true] at h;simp only[η] at e;obtain⟨J,F,G,H,I⟩:=e;have D:=eR H;have E:=eR I;subst D;subst E;refine tW R h λA O w a he T hO f=>?_;obtain⟨m',n,l⟩:=b6 he f X;obtain⟨p,hp,⟨m2,rfl,N⟩,hm⟩:=T.al b _ r;rw[n] at hp;cases hp;have l:a.eval x= .map (some m'):=by simpa using l
 have Z:a.eval y= .int B j:=ej (S:=S) (A:=A) (O:=O) (w:=w) (dM he f Y);have e:a.eval q= .int C u:=ej (S:=S) (A:=A) (O:=O) (w:=w) (dM he f V);obtain⟨w',W,Q,L⟩:=adQ (P:=P) M.Θ hi (δ J) U (δ F) (eR G) N j u;refine⟨w',A,O,?_,mT hO (hm m' rfl) r n rfl L ⟨m',rfl,Q⟩⟩;unfold execOp;rcases d with d|d<;>rw[d]<;>simp only[ξ,l,Z,e,W]<;>rfl
theorem FE {t:Nat} {x y:Operand} {i:TI} {a:Act} {w:World} {b off c:Nat} {cs:Γb} (j:o.op= .store t x y) (h:i.fits P t) (l:a.eval x= .pointer (some ⟨b,off,none⟩)) (g:bE w b c cs) (k:(a.eval y).cells.size=i.size) (h1: ∀u∈(a.eval y).cells.toList,u.oneCell'=true) (hl:off+i.size<=cs.length):
  ∃w',(execOp a.eval o).run P w= .ok .skip w'/\bE w' b c (putAt cs off (a.eval y).cells.toList)/\Fr [b] w w':=by
 obtain⟨w',d,e,f⟩:=OD h g k h1 hl;refine⟨w',?_,e,f⟩;unfold execOp;rw[j];simp only[ξ,l,d];rfl
theorem N3 {α:Type} {T:Ty α} {O:Γ} {w:World}: ∀ {xs:List α} {cs:Γb} {j:Nat} {x y:α} {us:Γb} {off:Nat},bN T O w cs xs->xs[j]? =some x->off+us.length<=T.n->
  (∀c,T.rep O w c x->(cs.drop (j*T.n)).take T.n=c->T.rep O w (putAt c off us) y)->bN T O w (putAt cs (j*T.n+off) us) (xs.set j y)
 |[],cs,j,x,y,us,off,h,a,hl,hp=>by simp at a
 |q::xs,cs,0,x,y,us,off,⟨c,r,d,h1,b⟩,a,hl,hp=>by
  subst d;simp at a;subst a;have hlen:=T.len h1;rw[Nat.zero_mul,ξe,qA (by omega)];exact⟨_,r,rfl,hp c h1 (by simp[<-hlen]),b⟩
 |q::xs,cs,j+1,x,y,us,off,⟨c,r,d,h1,b⟩,a,hl,hp=>by
  subst d;have hlen:=T.len h1;have i:=N3 (j:=j) b (by simpa using a) hl (λf g e=>hp f g (by
   rw[<-e,ζa,ζu,List.drop_eq_nil_of_le (by omega),hlen];simp))
  rw[n5 hlen (by rw[ζa];omega)];refine⟨c,_,rfl,h1,?_⟩;have e:(j+1)*T.n+off-T.n=j*T.n+off:=by rw[ζa];omega
  rw[e];exact i
theorem vW {vs us:Γb} {q:Nat} (h:q+us.length<=vs.length):(putAt vs q us).length=vs.length:=by
 unfold putAt;simp;omega
theorem abK {x y c us:Γb} {jj:Nat} (a:jj+us.length<=y.length):putAt (x++(y++c)) x.length (putAt y jj us)=putAt (x++(y++c)) (x.length+jj) us:=by
 have hl:=vW a;rw[n5 rfl (ξc _),n5 rfl (ξI _ _),ζt,ξV,qA a];have:=vV (ys:=y) (zs:=c) (us:=putAt y jj us) (vs:=[]) hl;rw[ξz] at this;rw[this,vX]
theorem Ns {vs us:Γb} {q n jj:Nat} (h:q+n<=vs.length) (b:jj+us.length<=n):putAt vs q (putAt ((vs.drop q).take n) jj us)=putAt vs (q+jj) us:=by
 have e:vs=vs.take q++((vs.drop q).take n++vs.drop (q+n)):=by
  rw[<-ζh,ξ6,ξ6]
 have a:(vs.take q).length=q:=by rw[ξ3];omega
 have d:((vs.drop q).take n).length=n:=by rw[ξ3,ξn];omega
 have:=abK (x:=vs.take q) (y:=(vs.drop q).take n) (c:=vs.drop (q+n)) (us:=us) (jj:=jj) (by omega);rw[<-e,a] at this;exact this
theorem abN {cur us:Γb} {p L:Nat} (h:p+us.length<=L) (a:L<=cur.length):(putAt cur p us).take L=putAt (cur.take L) p us:=by
 have b:(cur.take L).length=L:=by rw[ξ3];omega
 conv=>lhs;rw[<-ξ6 L cur]
 rw[qA (by omega),ξJ (by rw[vW (by omega)];omega),ξq (by rw[vW (by omega)];omega)]
theorem Ki (M:bW K P) {t:Nat} {x y:Operand} (Y:o.op= .store t x y) (h:vG K env g k t x y=some z):Good K P rr o env g nx k z:=by
 have ad: ∀c,o.op≠ .defer c:=λc=>by rw[Y];simp
 unfold vG at h;split at h
 rotate_left
 ·cases h
 rename_i i l b hi Q Z;cases F:ζ (dP b.cells) i.size<;>rw[F] at h
 ·cases h
 simp only[cond_true] at h;have F:=δ F;have val: ∀ {A:Pl} {O:Γ} {w:World} {a:Act},cL A O w env a->cI K O w->bB A O w b.cells (a.eval y).cells.toList/\(a.eval y).cells.size=i.size/\ ∀u∈(a.eval y).cells.toList,u.oneCell'=true:=by
  intro A O w a he d;have h1:=ay.rel.cells (dM he d Z);have f:=gM h1;exact⟨h1,by rw[<-F,<-f];simp,NZ h1⟩
 have box: ∀ {j q:Nat} {cs B ns:List (LV S)} {L:Nat},g j=some (.box L cs)->b3 cs q ns=some B->k (.br []) [(j,some (.box L B))] []=some z->
   (∀(A:Pl) (O:Γ) (w:World) (a:Act),cL A O w env a->cI K O w-> ∃m off,A.pl j=some (.pointer (some ⟨m,0,none⟩))/\a.eval x= .pointer (some ⟨m,off,none⟩)/\ ∀vs,bB A O w cs vs-> ∃us,bB A O w ns us/\putAt vs q us=putAt vs off (a.eval y).cells.toList/\(q+us.length<=vs.length->off+i.size<=vs.length))->Good K P rr o env g nx k z:=by
  intro j q cs B ns L C s hk aI;refine tW ad hk λA O w a he H hO d=>?_;obtain⟨m,off,h1,f,ax⟩:=aI A O w a he d;obtain⟨p,hp,⟨m2,vs,rfl,U,I⟩,hm⟩:=H.al j _ C;rw[h1] at hp;cases hp;obtain⟨us,az,aA,aB⟩:=ax vs I;obtain⟨aR,aS⟩:=iR s I az;obtain⟨v1,v2,v3⟩:=val he d;obtain⟨w',E,V,G⟩:=FE Y (M.Θ.fits hi) f U v2 v3 (aB aS);refine⟨w',A,O,E,mT hO (hm m rfl) C h1 rfl G ⟨m,_,rfl,V,?_⟩⟩;rw[<-aA];exact jO (G.tr (gJ (hm m rfl))) (Pl.le.refl A) aR
 split at h
 ·rename_i j q;split at h
  rotate_left
  ·cases h
  rename_i L cs C;split at h
  rotate_left
  ·cases h
  rename_i B s;refine box C s h λA O w a he d=>?_;obtain⟨m,h1,f⟩:=b6 he d Q;obtain⟨v1,v2,v3⟩:=val he d;refine⟨m,q,h1,by simpa using f,λvs N=>⟨_,v1,rfl,λhl=>?_⟩⟩;rw[<-v2];simpa using hl
 ·rename_i j q n jj;split at h
  rotate_left
  ·cases h
  rename_i L cs C;split at h
  rotate_left
  ·cases h
  rename_i ls ag;split at h
  ·rename_i J gs aO v W _;split at h
   rotate_left
   ·cases h
   rename_i B s;cases D:(sameKind J aO&&ζ gs.length n)<;>rw[D] at h
   ·cases h
   simp only[cond_true,η] at h D;have aw:=eR D.1;subst aw;have hl:=δ D.2;refine box C s h λA O w a he d=>?_;obtain⟨m,h1,f,aJ⟩:=b6 he d Q;have ab:a.eval y= .int J v:=ej (S:=S) (A:=A) (O:=O) (w:=w) (dM he d Z);refine⟨m,q+jj,h1,by simpa using f,λvs N=>⟨(gs.set jj v).map (ξ2 J),⟨_,[],by simp,⟨by simp[hl],rfl⟩,rfl⟩,?_,λhle=>?_⟩⟩
   ·obtain⟨c1,c2⟩:=gX ag N;have E:=pv W c1;rw[ab,<-om _ _ _ _ (by omega),show(gs.map (ξ2 J))=h9.cells (.i J gs) from rfl,<-E];exact Ns c2 (by simp;omega)
   ·have aM:i.size=1:=by rw[<-F];rfl
    simp at hle;omega
  ·rename_i gs v W _;split at h
   rotate_left
   ·cases h
   rename_i B s;cases D:(ζ gs.length n)<;>rw[D] at h
   ·cases h
   simp only[cond_true] at h;have hl:=δ D;refine box C s h λA O w a he d=>?_;obtain⟨m,h1,f,aJ⟩:=b6 he d Q;have ab:a.eval y= .bool v:=ej (S:=S) (A:=A) (O:=O) (w:=w) (dM he d Z);refine⟨m,q+jj,h1,by simpa using f,λvs N=>⟨(gs.set jj v).map (ζR),⟨_,[],by simp,⟨by simp[hl],rfl⟩,rfl⟩,?_,λhle=>?_⟩⟩
   ·obtain⟨c1,c2⟩:=gX ag N;have E:=pv W c1;rw[ab,<-om _ _ _ _ (by omega),show(gs.map (ζR))=h9.cells (.b gs) from rfl,<-E];exact Ns c2 (by simp;omega)
   ·have aM:i.size=1:=by rw[<-F];rfl
    simp at hle;omega
  ·cases h
 ·rename_i e r j q;split at h
  rotate_left
  ·cases h
  rename_i aj xs I;cases ae:ζ e aj<;>rw[ae] at h
  ·cases h
  simp only[cond_true] at h;have aH:=δ ae;subst aH;obtain⟨aT,aa,h⟩:=bind_some h;split at h
  rotate_left
  ·cases h
  rename_i B s;split at h
  rotate_left
  ·cases h
  rename_i ai aD;cases aK:b.pure<;>rw[aK] at h
  ·cases h
  simp only[cond_true] at h;refine tW ad h λA O w a he H hO d=>?_;obtain⟨m,n,c,h1,f⟩:=b6 he d Q;have f:a.eval x= .pointer (some ⟨m,j*(S.ty e).n+q,none⟩):=by simpa using f
  obtain⟨p,hp,U,hm⟩:=H.al r _ I;rw[h1] at hp;cases hp;obtain⟨v1,v2,v3⟩:=val he d;obtain⟨cs,cur,ak,an,R,T,aq,ar,au,aV⟩:=qx U;have aC:bE w m e cur.toList:=by unfold bE;simpa using ak
  have aX:=(ε.1 aa).1;have af:=R.at_ aa;have aF:=(S.ty e).len af;obtain⟨aP,aQ⟩:=iR s (M.a1 A O w e aT _ af) v1;rw[aF] at aQ;have aE:cs.length=n*(S.ty e).n:=by rw[T];exact R.len
  have aZ:(a.eval y).cells.toList.length=i.size:=by simpa using v2
  have hmul:(j+1)*(S.ty e).n<=n*(S.ty e).n:=ξK _ (by omega);have aY:n*(S.ty e).n<=c*(S.ty e).n:=ξK _ aq;rw[ζa] at hmul;have aG:cur.toList.length=c*(S.ty e).n:=by simpa using au
  obtain⟨w',E,V,G⟩:=FE Y (M.Θ.fits hi) f aC v2 v3 (by omega);have X:=hm m rfl;refine⟨w',A,O,E,mT hO X I h1 rfl G ?_⟩;have aN:=G.tr (gJ X);have ah:bN (S.ty e) O w' (putAt cs (j*(S.ty e).n+q) (a.eval y).cells.toList) (xs.set j ai):=by
   refine bN.tr aN (N3 R aa (by omega) λaU aW av=>?_);rw[<-av];exact M.cls A O w e B ai _ aD aP
  have aL:(putAt cur.toList (j*(S.ty e).n+q) (a.eval y).cells.toList).take (n*(S.ty e).n)=putAt cs (j*(S.ty e).n+q) (a.eval y).cells.toList:=by
   have ao:cur.toList.take (n*(S.ty e).n)=cs:=by rw[<-aE];exact an
   rw[abN (by omega) (by omega),ao]
  refine⟨⟨_,⟨by rw[ah.len],.inr ⟨m,c,(putAt cur.toList (j*(S.ty e).n+q) (a.eval y).cells.toList).toArray,by simp[T],ξt _,V,by simp;omega,ar,?_,?_⟩⟩,ah⟩,λg H=>by cases H;exact X⟩
  ·have:=vW (vs:=cur.toList) (us:=(a.eval y).cells.toList) (q:=j*(S.ty e).n+q) (by omega);simp only[List.size_toArray,this];exact aG
  ·simp only[ξf,<-T];exact aL
 ·cases h
end
section
variable {S:bo} {K:Kit S} {P:Program} {rr:Option Nat} {o:Oper} {env:aV S} {g:Nat->Option (Ob S)} {nx:Nat} {R:Type} {z:R} {k:AV S->Up S->AH S->Option R}
theorem PN {l:LV S} {T:lf S} (h:ot g l=some T):l= .eb T.t T.r T.j 0/\g T.r=some (.cB T.t T.e T.bJ):=by
 unfold ot at h;split at h
 ·rename_i t r j;unfold PO at h;split at h
  ·rename_i t' e bJ b;cases a:ζ t t'<;>rw[a] at h
   ·cases h
   ·cases h;have:=δ a;subst this;exact⟨rfl,b⟩
  ·cases h
 ·cases h
theorem Nd {x:Operand} {q:Nat} (h:nX K env x=some q):b5 K env x=some (.own q):=by
 unfold nX at h;split at h
 ·rename_i b a;cases h;exact a
 ·cases h
theorem aeF {α:Type} {bJ:List (Option (List α))} {j:Nat} {xs:List α} (h:jW bJ j=some xs):bJ[j]? =some (some xs):=by
 unfold jW at h;split at h
 ·rename_i z a;subst h;exact a
 ·cases h
theorem U_ {A:Pl} {O:Γ} {w:World} {e d:Nat} {xs:List (S.El e)} {v:Value} (h:Dc.Own (S.ty e) e 0 O w v xs) (a:bS v=some d):v.ownBlock=some d:=by
 rcases hd h with⟨b,_⟩|⟨f,c,b⟩
 ·rw[b] at a;cases a
 ·rw[b] at a ⊢;cases a;rfl
theorem aaO {i:TI} (h:i.tag=5):i.isAgg=false:=by
 show(ζ i.tag 8||ζ i.tag 6)=false;rw[h];rfl
theorem Zn (B:bW K P) {t:Nat} {x y:Operand} (q:o.op= .indexAddr t x y) (h:Et K env g k t x y=some z):Good K P rr o env g nx k z:=by
 have C: ∀c,o.op≠ .defer c:=λc=>by rw[q];simp
 unfold Et at h;split at h
 rotate_left
 ·cases h
 rename_i i j r hi I f;have f:=Nd f;split at h
 rotate_left
 ·cases h
 rename_i t' M bJ s H E;cases d:(ζ i.tag 5&&(ζ (S.ty t').n 1&&ζ s.size 1))<;>rw[d] at h
 ·cases h
 simp only[cond_true,η] at h d;obtain⟨N,J,h⟩:=bind_some h;obtain⟨u,F⟩:=kx J;have G:=(ε.1 F).1;refine cM C h λA O w a he D hO m=>?_;obtain⟨v,l,e,_⟩:=b6 he m f;obtain⟨L,hk⟩:=hY he m I;obtain⟨p,hp,⟨b,c,cur,rfl,_⟩,_⟩:=D.al r _ H;rw[l] at hp;cases hp;have e:a.eval x= .slice (some ⟨b,0,none⟩) bJ.length c:=by simpa using e
 have:=wx (P:=P) (w:=w) (ad:=⟨b,0,none⟩) (n:=bJ.length) (c:=c) (k:=L) B.Θ hi (δ d.1) E u G;refine⟨.pointer (some ((⟨b,0,none⟩:Addr).add (j.toNat*s.size))),?_,b,_,c,l,?_⟩
 ·unfold execOp;rw[q];simp only[e,hk,ξ,this,π];rfl
 ·rw[hs,δ d.2.1,δ d.2.2];simp
theorem Zp (aA:bW K P) {t:Nat} {x:Operand} {l:LV S} {T:lf S} (ae:o.op= .load t x) (ah:b5 K env x=some l) (aB:ot g l=some T) (h:Ev K nx k t T=some z):Good K P rr o env g nx k z:=by
 have aE: ∀c,o.op≠ .defer c:=λc=>by rw[ae];simp
 obtain⟨rfl,B⟩:=PN aB;obtain⟨r,j,t',e,bJ⟩:=T;simp only at B ah;unfold Ev at h;split at h
 rotate_left
 ·cases h
 rename_i i hi;cases L:(ζ i.tag 5&&ζ i.size 1)<;>rw[L] at h
 ·cases h
 simp only[cond_true,η] at h L;obtain⟨xs,E,h⟩:=bind_some h;have E:=aeF E;have aC:=aaO (δ L.1);have ag:=δ L.2;refine gi aE h λA O w a he R hO az aH=>?_;have I:A.pl nx=none:=aH 0 (by simp);obtain⟨b,n,c,h1,ax⟩:=b6 he az ah;obtain⟨p,hp,aa,hm⟩:=R.al r _ B;rw[h1] at hp;cases hp;have aX:=aa;obtain⟨aT,aV,cur,m,J,aN,aO,aP,ao,aq,ar,au⟩:=aa;cases m;have aY:=(ε.1 E).1;obtain⟨u,hu⟩: ∃u,cur[j]? =some u:=⟨cur[j]'(by omega),κ (by omega)⟩;obtain⟨af,aL⟩:=ar j u xs hu E;have aK:u.oneCell'=true:=aq u (by rw[<-ξi] at hu;exact ξL hu);have V:r≠nx:=λe=>by subst e;rw[h1] at I;cases I
 have ay:bE w b t' cur.toList:=by unfold bE;simpa using J
 have aF:dK w ⟨b,j,none⟩ [u]:=λv av s=>by
  match v,s with
  |0,s=>simp at s;subst s;rw[hs,ay.cell];simpa using hu
  |v+1,s=>simp at s
 have aM:a.eval x= .pointer (some ⟨b,j,none⟩):=by
  have:a.eval x= .pointer (some ⟨b,j*(S.ty t').n+0,none⟩):=by simpa using ax
  rw[this,ao];simp
 have N: ∀ {G:Nat} {ys:List (S.El e)},(bJ.set j none)[G]? =some (some ys)->G≠j/\bJ[G]? =some (some ys):=by
  intro G ys F;rw[ξD] at F;split at F
  ·simp at F
  ·rename_i he;exact⟨λe=>he e.symm,F⟩
 have ab: ∀d,gF w (.cB t' e (bJ.set j none):Ob S) (.slice (some ⟨b,0,none⟩) bJ.length c) d->gF w (.cB t' e bJ:Ob S) (.slice (some ⟨b,0,none⟩) bJ.length c) d/\u.ownBlock≠some d:=by
  rintro d ⟨aU,c2,t2,aW,aj,u2,ys,f1,f2,f3,f4,f5⟩;rw[ξf] at f1;cases f1;rw[J] at f2;cases f2;obtain⟨g1,g2⟩:=N f4;exact⟨⟨b,c,t',cur,aj,u2,ys,rfl,J,f3,g2,f5⟩,au aj j u2 u ys xs d g1 f3 hu g2 E f5⟩
 have ad: ∀d,cy w (.row e xs:Ob S) u d->u.ownBlock=some d/\gF w (.cB t' e bJ:Ob S) (.slice (some ⟨b,0,none⟩) bJ.length c) d:=λd f=>by
  have:=U_ (A:=A) af (eN rfl f);exact⟨this,b,c,t',cur,j,u,xs,rfl,J,hu,E,this⟩
 have U:(A.put nx u).pl r=some (.slice (some ⟨b,0,none⟩) bJ.length c):=by rw[Pl.kM λe=>V e.symm];exact h1
 have c9: ∀ {v:Nat} {X:Option (Ob S)},(v,X)∈[(r,some (.cB t' e (bJ.set j none)))]++news nx [some (.row e xs)]->(v=r/\X=some (.cB t' e (bJ.set j none)))\/(v=nx/\X=some (.row e xs)):=by
  intro v X s;simpa[news] using s
 have m1:(r,some (.cB t' e (bJ.set j none)))∈([(r,some (.cB t' e (bJ.set j none)))]++news nx [some (.row e xs)]:Up S):=by simp
 refine⟨u,w,A.put nx u,O,?_,⟨u,Pl.ff A nx u,rfl,aK⟩,⟨Pl.kL I,Tr.refl O w,hO,λ_ aD _=>⟨rfl,aD⟩,?_,?_,?_,?_,?_,?_⟩⟩
 ·rw[FC (cs:=[u]) ae (aA.Θ.fits hi) aM ag.symm aF (λ_=>ag),aC];rfl
 ·intro v X s;rcases c9 s with⟨rfl,m⟩|⟨rfl,m⟩
  ·cases m;refine⟨_,U,⟨b,c,cur,by rw[ξf],J,by rw[ξf];exact aN,aO,aP,ao,aq,λG av ys aJ F=>ar G av ys aJ (N F).2,λi1 ai aQ v1 aR aS d M aw a2 a3 a4=>au i1 ai aQ v1 aR aS d M aw a2 (N a3).2 (N a4).2⟩,λd f=>?_⟩;have f:cy w (.cB t' e bJ:Ob S) (.slice (some ⟨b,0,none⟩) bJ.length c) d:=f.imp id λf=>(ab d f).1;exact⟨R.gC B h1 f,.inr ⟨v,_,_,_,m1,B,h1,f⟩⟩
  ·cases m;refine⟨u,Pl.ff A _ u,af,λd f=>?_⟩;have f:=(ad d f).2;exact⟨R.gC B h1 (.inr f),.inr ⟨r,_,_,_,m1,B,h1,.inr f⟩⟩
 ·have key: ∀d,cy w (.cB t' e (bJ.set j none):Ob S) (.slice (some ⟨b,0,none⟩) bJ.length c) d-> ¬cy w (.row e xs:Ob S) u d:=by
   intro d f aG;have W:=(ad d aG).1;rcases f with f|f
   ·cases f;exact aL W
   ·exact(ab d f).2 W
  intro i1 ai X Y p q d M C y H Q ak an;rcases c9 C with⟨rfl,m⟩|⟨rfl,m⟩<;>cases m<;>rcases c9 y with⟨rfl,D⟩|⟨rfl,D⟩<;>cases D
  ·exact M rfl
  ·rw[U] at H;cases H;rw[Pl.ff] at Q;cases Q;exact key d ak an
  ·rw[U] at Q;cases Q;rw[Pl.ff] at H;cases H;exact key d an ak
  ·exact M rfl
 ·intro i1 X Y C y;rcases c9 C with⟨rfl,rfl⟩|⟨rfl,rfl⟩<;>rcases c9 y with⟨D,rfl⟩|⟨D,rfl⟩
  ·rfl
  ·exact absurd D V
  ·exact absurd D.symm V
  ·rfl
 ·intro i1 X p C y;rcases c9 C with⟨rfl,rfl⟩|⟨rfl,rfl⟩
  ·exact⟨_,B⟩
  ·rw[I] at y;cases y
 ·intro i1;rcases ζl nx i1 with aI|rfl
  ·exact .inl (Pl.kM aI)
  ·exact .inr ⟨I,some (.row e xs),by simp[news]⟩
 ·intro i1 X Z C y H;rcases c9 C with⟨rfl,m⟩|⟨rfl,m⟩
  ·rw[B] at y;cases y;cases H
  ·cases m;rfl
theorem Zk (aN:bW K P) {t q:Nat} {x y:Operand} {l:LV S} {T:lf S} (aA:o.op= .store t x y) (aG:b5 K env x=some l) (aP:ot g l=some T) (ar:nX K env y=some q) (h:Er K g k t q T=some z):Good K P rr o env g nx k z:=by
 have aQ: ∀c,o.op≠ .defer c:=λc=>by rw[aA];simp
 obtain⟨rfl,F⟩:=PN aP;have ar:=Nd ar;obtain⟨r,j,t',e,bJ⟩:=T;simp only at F aG;unfold Er at h;split at h
 rotate_left
 ·cases h
 rename_i i s xs hi Q;split at h
 rotate_left
 ·cases h
 rename_i aI _;simp only at aI;subst aI;simp only[jk] at h;cases ai:(ζ i.tag 5&&(ζ i.size 1&&!(ζ q r)))<;>rw[ai] at h
 ·cases h
 simp only[cond_true,η,ξE] at h ai;obtain⟨bk,aC,I⟩:=ai;have aC:=δ aC;have I:q≠r:=λe=>by subst e;rw[ξu] at I;cases I
 obtain⟨_,aS,h⟩:=bind_some h;refine tW aQ h λA O w a he N hO av=>?_;obtain⟨b,n,c,h1,aL⟩:=b6 he av aG;obtain⟨u,hu,U,aq⟩:=b6 he av ar;have U:a.eval y=u:=by simpa using U
 obtain⟨p,hp,aO,hm⟩:=N.al r _ F;rw[h1] at hp;cases hp;obtain⟨bf,bh,cur,E,au,a7,a8,aJ,aK,a_,a',ba⟩:=aO;cases E;obtain⟨pu,aB,ad,bm⟩:=N.al q _ Q;rw[hu] at aB;cases aB;have ad:Dc.Own (S.ty s) s 0 O w u xs:=ad;have aV:j<bJ.length:=by
  have:=(ε.1 (kx aS).2).1;simpa using this
 have aw:=hm b rfl;have aM:bE w b t' cur.toList:=by unfold bE;simpa using au
 have aj:u.cells.toList=[u]:=MV aq;have aZ:a.eval x= .pointer (some ⟨b,j,none⟩):=by
  have:a.eval x= .pointer (some ⟨b,j*(S.ty t').n+0,none⟩):=by simpa using aL
  rw[this,aK];simp
 obtain⟨w',aX,ah,V⟩:=FE aA (aN.Θ.fits hi) aZ aM (by rw[U];have:=congrArg List.length aj;simp at this;omega) (by rw[U,aj];intro bo aE;simp at aE;subst aE;exact aq) (by simp;omega);rw[U,aj] at ah;have bl:cur.toList.length=c:=by simpa using aJ
 have aW:putAt cur.toList j [u]=cur.toList.set j u:=by
  have aU:j<cur.toList.length:=by omega
  rw[List.set_eq_take_append_cons_drop,if_pos aU];unfold putAt;simp
 rw[aW] at ah;obtain⟨L,W⟩: ∃L:Array Value,L=(cur.toList.set j u).toArray:=⟨_,rfl⟩;have ax:w'.heap[b]? =some (.cells L t' (0,0)):=by rw[W];exact ah
 have aR: ∀m,L[m]? =if m=j then some u else cur[m]? :=λm=>by
  rw[W,<-ξi,ζi,ξD,<-ξi]
  by_cases ao:m=j
  ·subst ao;rw[if_pos rfl,if_pos rfl,if_pos (by omega)]
  ·rw[if_neg λe=>ao e.symm,if_neg ao]
 have R: ∀ {C:Nat} {ys:List (S.El s)} {v:Value},L[C]? =some v->(bJ.set j (some xs))[C]? =some (some ys)->(C=j/\v=u/\ys=xs)\/(C≠j/\cur[C]? =some v/\bJ[C]? =some (some ys)):=by
  intro C ys v f H;rw[aR] at f;rw[ξD] at H
  by_cases ab:C=j
  ·subst ab;rw[if_pos rfl] at f;rw[if_pos rfl,if_pos aV] at H;simp at f H;exact .inl ⟨rfl,f.symm,H.symm⟩
  ·rw[if_neg ab] at f;rw[if_neg λe=>ab e.symm] at H;exact .inr ⟨ab,f,H⟩
 have aD:=V.tr (gJ aw);have aF:u.ownBlock≠some b:=λB=>N.gb q r _ _ _ _ b I Q F hu h1 (.inl (fB B)) (.inl rfl);have az: ∀ {d:Nat} {v:Value} {ys:List (S.El s)},Dc.Own (S.ty s) s 0 O w v ys->v.ownBlock≠some b->Dc.Own (S.ty s) s 0 O w' v ys:=λ{d v ys} f aY=>f.keep aD λag ak=>⟨V.block ag (f.lt ag ak).2 (by simp;rintro rfl;exact aY ak),f.mem ag ak⟩;have ay: ∀ {C:Nat} {v:Value} {ys:List (S.El s)} {d:Nat},cur[C]? =some v->bJ[C]? =some (some ys)->v.ownBlock=some d->u.ownBlock≠some d:=λ{C v ys d} ae a2 a3 a4=>
  N.gb q r _ _ _ _ d I Q F hu h1 (.inl (fB a4)) (.inr ⟨b,c,t',cur,C,v,ys,rfl,au,ae,a2,a3⟩)
 have aT: ∀d,gF w' (.cB t' s (bJ.set j (some xs)):Ob S) (.slice (some ⟨b,0,none⟩) bJ.length c) d->gF w (.cB t' s bJ:Ob S) (.slice (some ⟨b,0,none⟩) bJ.length c) d\/u.ownBlock=some d:=by
  rintro d ⟨bg,c2,t2,bj,a1,u2,ys,f1,f2,f3,f4,f5⟩;rw[ξf] at f1;cases f1;rw[ax] at f2;cases f2;rcases R f3 f4 with⟨_,rfl,_⟩|⟨_,g1,g2⟩
  ·exact .inr f5
  ·exact .inl ⟨b,c,t',cur,a1,u2,ys,rfl,au,g1,g2,f5⟩
 have c9: ∀ {J:Nat} {X:Option (Ob S)},(J,X)∈([(q,none),(r,some (.cB t' s (bJ.set j (some xs))))]:Up S)->(J=q/\X=none)\/(J=r/\X=some (.cB t' s (bJ.set j (some xs)))):=by
  intro J X an;simpa using an
 have m1:(r,some (.cB t' s (bJ.set j (some xs))))∈([(q,none),(r,some (.cB t' s (bJ.set j (some xs))))]:Up S):=by simp
 have m2:(q,none)∈([(q,none),(r,some (.cB t' s (bJ.set j (some xs))))]:Up S):=by simp
 refine⟨w',A,O,aX,⟨Pl.le.refl A,aD,V.ob hO,λd B hn=>⟨V.block d (hO d B) ?_,B⟩,?_,?_,?_,?_,λ_=>.inl rfl,?_⟩⟩
 ·have:=hn r _ _ m1 h1;simp;rintro rfl;exact this rfl
 ·intro J X an;rcases c9 an with⟨_,E⟩|⟨rfl,E⟩
  ·cases E
  cases E;refine⟨_,h1,⟨b,c,L,by rw[ξf],ax,by rw[ξf];exact a7,a8,by rw[W];simpa using aJ,aK,?_,?_,?_⟩,λd B=>?_⟩
  ·intro v f;rw[W,ζi] at f;rcases List.mem_or_eq_of_mem_set f with f|rfl
   ·exact a_ v f
   ·exact aq
  ·intro C v ys f H;rcases R f H with⟨_,rfl,rfl⟩|⟨_,g1,g2⟩
   ·exact⟨az (d:=0) ad aF,aF⟩
   ·obtain⟨G,D⟩:=a' C v ys g1 g2;exact⟨az (d:=0) G D,D⟩
  ·intro i1 aH bb v1 bc bd d aa ae a2 a3 a4 a5 af;rcases R ae a3 with⟨f1,rfl,_⟩|⟨f1,f2,f3⟩
   ·rcases R a2 a4 with⟨f4,_,_⟩|⟨_,f5,f6⟩
    ·exact aa (f1.trans f4.symm)
    ·exact ay f5 f6 af a5
   ·rcases R a2 a4 with⟨_,rfl,_⟩|⟨_,f5,f6⟩
    ·exact ay f2 f3 a5 af
    ·exact ba i1 aH bb v1 bc bd d aa f2 f5 f3 f6 a5 af
  ·rcases B with B|B
   ·cases B;exact⟨aw,.inr ⟨J,_,_,_,m1,F,h1,.inl rfl⟩⟩
   ·rcases aT d B with B|B
    ·exact⟨N.gC F h1 (.inr B),.inr ⟨J,_,_,_,m1,F,h1,.inr B⟩⟩
    ·exact⟨ad.mem d B,.inr ⟨q,none,_,_,m2,Q,hu,.inl (fB B)⟩⟩
 ·intro i1 aH X Y p bn d aa G D;rcases c9 G with⟨_,E⟩|⟨rfl,_⟩
  ·cases E
  rcases c9 D with⟨_,M⟩|⟨rfl,_⟩
  ·cases M
  exact absurd rfl aa
 ·intro i1 X Y G D;rcases c9 G with⟨rfl,rfl⟩|⟨rfl,rfl⟩<;>rcases c9 D with⟨M,rfl⟩|⟨M,rfl⟩
  ·rfl
  ·exact absurd M I
  ·exact absurd M.symm I
  ·rfl
 ·intro i1 X p G D;rcases c9 G with⟨rfl,rfl⟩|⟨rfl,rfl⟩
  ·exact⟨_,Q⟩
  ·exact⟨_,F⟩
 ·intro i1 X Z G D a6;rcases c9 G with⟨_,E⟩|⟨rfl,_⟩
  ·cases E
  ·rw[F] at D;cases D;cases a6
theorem Zv (Q:bW K P) {t:Nat} {x y:Operand} (R:o.op= .makeSlice t x y) (h:Ey K env nx k t x y=some z):Good K P rr o env g nx k z:=by
 have ag: ∀c,o.op≠ .defer c:=λc=>by rw[R];simp
 unfold Ey at h;split at h
 rotate_left
 ·cases h
 rename_i i hi;split at h
 rotate_left
 ·cases h
 rename_i m an;split at h
 rotate_left
 ·cases h
 rename_i n c ay az hzero;cases F:(ζ i.tag 5&&(ζ (S.ty i.e).n 1&&ζ m.size 1))<;>rw[F] at h
 ·cases h
 simp only[cond_true,η] at h F;obtain⟨ae,L,J⟩:=F;have L:=δ L;have J:=δ J;obtain⟨zs,hm,ad⟩:=bind_some h;refine gi ag ad λA O w a he ak hO N aj=>?_;have C:A.pl nx=none:=aj 0 (by simp);have ax:=Q.Θ.fits an;obtain⟨x',M,aw,af,aA⟩:=ax.info;unfold h4 at hm;split at hm
 rotate_left
 ·cases hm
 rename_i ai;obtain⟨W,aa,ab,aG⟩:=ai;simp only[ι] at hm;subst hm;obtain⟨aE,ar⟩:=hY he N ay;obtain⟨aD,aq⟩:=hY he N az;have hu:=(Q.Θ.fits hi).slice (δ ae);have I:=run_make (P:=P) w t i.e x' m.zero hu M aA aE aD n c W aa (by rw[af];exact ab) (by omega);rw[aw,hzero,J] at I;obtain⟨cur,G⟩: ∃cur,cur=madeCells (Value.slice none 0 0).cells (c.toNat*1):=⟨_,rfl⟩;rw[<-G] at I;have D:=jG hO i.e cur.toList;have hlen:cur.size=c.toNat:=by rw[G];simp[madeCells]
 have s: ∀(j:Nat) (u:Value),cur[j]? =some u->u= .slice none 0 0:=by
  intro j u l;have b:j<c.toNat*1:=by have:=(ξa.1 l).1;omega
  rw[<-ξi,G,Mz 1 c.toNat j b rfl,Nat.mod_one] at l;simpa[ζP] using l.symm
 have hblk:(w.alloc (.cells cur.toList.toArray i.e)).heap[w.heap.size]? =some (.cells cur i.e (0,0)):=by
  have:=D.bG;unfold bE at this;simpa using this
 have ah:c.toNat<=maxLen:=by unfold maxLen;omega
 have av: ∀ {j:Nat} {xs:List (S.El m.e)},(ξF n.toNat (some ([]:List (S.El m.e))))[j]? =some (some xs)->xs=[]:=by
  intro j xs b;rw[List.getElem?_replicate] at b;split at b
  ·simpa using b.symm
  ·cases b
 have c9: ∀ {E:Nat} {X:Option (Ob S)},(E,X)∈([]++news nx [some (.cB i.e m.e (ξF n.toNat (some [])))]:Up S)->E=nx/\X=some (.cB i.e m.e (ξF n.toNat (some []))):=by
  intro E X H;simpa[news] using H
 refine⟨.slice (some ⟨w.heap.size,0,none⟩) n.toNat c.toNat,_,A.put nx (.slice (some ⟨w.heap.size,0,none⟩) n.toNat c.toNat),w.heap.size::O,?_,⟨_,Pl.ff A nx _,rfl,rfl⟩,⟨Pl.kL C,D.tr,D.ob,λd B _=>⟨D.fr.block d (hO d B) (by simp),μ _ B⟩,?_,?_,?_,?_,?_,?_⟩⟩
 ·simp only[execOp,R,ξ,ar,aq,I];simp
 ·intro E X H;obtain⟨rfl,e⟩:=c9 H;cases e;refine⟨_,Pl.ff A _ _,⟨w.heap.size,c.toNat,cur,by simp,hblk,by simp;omega,ah,hlen,L,?_,?_,?_⟩,?_⟩
  ·intro u l;obtain⟨j,b⟩:=List.getElem?_of_mem l;rw[s j u (by rw[<-ξi];exact b)];rfl
  ·intro j u xs l M;rw[s j u l,av M];exact⟨Own.iN,by simp[Value.ownBlock]⟩
  ·intro i1 aB u v xs ys d _ T _ _ _ a5;rw[s i1 u T] at a5;cases a5
  ·rintro d (B|⟨U,c2,t2,aF,aC,u2,ys,f1,f2,f3,f4,f5⟩)
   ·cases B;exact⟨ν,.inl (ξc _)⟩
   ·have V:U=w.heap.size:=by simp at f1;exact f1.1.symm
    subst V;rw[hblk] at f2;cases f2;rw[s aC u2 f3] at f5;cases f5
 ·intro i1 aB X Y p q d ao r f;obtain⟨rfl,_⟩:=c9 r;obtain⟨rfl,_⟩:=c9 f;exact absurd rfl ao
 ·intro i1 X Y r f;exact(c9 r).2.trans (c9 f).2.symm
 ·intro i1 X p r f;obtain⟨rfl,_⟩:=c9 r;rw[C] at f;cases f
 ·intro i1;rcases ζl nx i1 with au|rfl
  ·exact .inl (Pl.kM au)
  ·exact .inr ⟨C,some (.cB i.e m.e (ξF n.toNat (some []))),by simp[news]⟩
 ·intro i1 X Z r f aH;obtain⟨rfl,_⟩:=c9 r;obtain⟨p,hp,_⟩:=ak.al _ Z f;rw[C] at hp;cases hp
end
section
variable {S:bo} {K:Kit S} {P:Program} {rr:Option Nat} {o:Oper} {env:aV S} {g:Nat->Option (Ob S)} {nx:Nat} {R:Type} {z:R} {k:AV S->Up S->AH S->Option R}
theorem JI {A:Pl} {O:Γ} {w:World} {a:Act} {E:Env} {fs:List (Nat×Nat)} (he:cL A O w env a) (k:cI K O w): ∀ {ps:List (Nat×Operand)} {cs d:List (LV S)} {xs:Array Value},(∀p∈ps,ev E p.2=some (a.eval p.2))->tP K env fs ps cs=some d->bB A O w cs xs.toList-> ∃q,ko fs K.Θ E ps xs=some q/\bB A O w d q.toList
 |[],cs,d,xs,f,h,g=>by cases h;exact⟨xs,rfl,g⟩
 |(i,x)::r,cs,d,xs,f,h,g=>by
  simp only[tP] at h;split at h
  rotate_left
  ·cases h
  rename_i t off u;split at h
  rotate_left
  ·cases h
  rename_i b s;split at h
  rotate_left
  ·cases h
  rename_i o y;cases m:ζ (dP b.cells) o.size<;>rw[m] at h
  ·cases h
  simp only[cond_true] at h;split at h
  rotate_left
  ·cases h
  rename_i C v;have n:=ay.rel.cells (dM he k s);obtain⟨z,B⟩:=iR v g n;have hlen:(a.eval x).cells.size=o.size:=by rw[<-δ m,<-gM n];simp
  have hle:off+(a.eval x).cells.size<=xs.size:=by simpa using B
  have l:=CO (a.eval x).cells.toList 0 off xs (by simpa using hle);have e:((a.eval x).cells.zipIdx.foldl (λcs (c,j)=>cs.setIfInBounds (off+j) c) xs).toList=putAt xs.toList off (a.eval x).cells.toList:=by
   rw[ξP] at l;rw[<-l]
   congr 1
   rw[<-ξQ];simp
  simp only[ko,u,f (i,x) ν,y,hlen,ξu,ξW];rw[hlen] at hle;rw[ζE.mpr hle];simp only[cond_true];refine JI he k (λp hp=>f p (μ _ hp)) h ?_;rw[e];exact z
theorem JH {A:Pl} {O:Γ} {w:World} {a:Act} {size:Nat} (he:cL A O w env a) (g:cI K O w): ∀ {ps:List (Nat×Operand)} {cs d:List (LV S)} {xs:Array Value},tO K env size ps cs=some d->bB A O w cs xs.toList-> ∃n,ζF (λi=>some (i*size,size)) xs (ps.map λp=>(p.1,a.eval p.2))=some n/\bB A O w d n.toList
 |[],cs,d,xs,h,f=>by cases h;exact⟨xs,rfl,f⟩
 |(i,x)::r,cs,d,xs,h,f=>by
  simp only[tO] at h;split at h
  rotate_left
  ·cases h
  rename_i b o;cases l:ζ (dP b.cells) size<;>rw[l] at h
  ·cases h
  simp only[cond_true] at h;split at h
  rotate_left
  ·cases h
  rename_i v s;have m:=ay.rel.cells (dM he g o);obtain⟨t,u⟩:=iR s f m;have hlen:(a.eval x).cells.size=size:=by rw[<-δ l,<-gM m];simp
  have hle:i*size+(a.eval x).cells.size<=xs.size:=by simpa using u
  have k:=CO (a.eval x).cells.toList 0 (i*size) xs (by simpa using hle);have e:((a.eval x).cells.zipIdx.foldl (λcs (c,j)=>cs.setIfInBounds (i*size+j) c) xs).toList=putAt xs.toList (i*size) (a.eval x).cells.toList:=by
   rw[ξP] at k;rw[<-k]
   congr 1
   rw[<-ξQ];simp
  simp only[ζH,ζF];have q: ¬((a.eval x).cells.size≠size\/i*size+(a.eval x).cells.size>xs.size):=by omega
  rw[if_neg (by simpa using q)];refine JH he g h ?_;rw[e];exact t
theorem Zd (e:bW K P) {t:Nat} {ps:Array (Nat×Operand)} (f:o.op= .build t ps) (h:Em K env k t ps.toList=some z):Good K P rr o env g nx k z:=by
 have r: ∀c,o.op≠ .defer c:=λc=>by rw[f];simp
 unfold Em at h;split at h
 rotate_left
 ·cases h
 rename_i i hi;cases q:ζ i.tag 8<;>rw[q] at h
 ·cases n:ζ i.tag 6<;>rw[n] at h
  ·cases h
  simp only[cond_true,cond_false] at h;split at h
  rotate_left
  ·cases h
  rename_i s y;split at h
  rotate_left
  ·cases h
  rename_i cs m;cases b:(i.zero.cells.toList.all ξR)<;>rw[b] at h
  ·cases h
  simp only[cond_true] at h;refine cM r h λA O w a he v hO l=>?_;obtain⟨d,h1,j⟩:=JH (xs:=i.zero.cells) he l m (qD b);refine⟨.agg d,?_,d.toList,by simp,j⟩;unfold execOp;rw[f];simp only[Instr.build,ξ,mo (e.Θ.fits hi),π,run_underlying ((e.Θ.fits hi).array (δ n)),dV (e.Θ.fits y)];rw[ζw];have u:ζF (λi=>some (i*s.size,s.size)) i.zero.cells (ps.toList.map λx=>(x.1,a.eval x.2))=some d:=h1;rw[u];rfl
 simp only[cond_true] at h;split at h
 rotate_left
 ·cases h
 rename_i cs m;cases b:(hX K.Θ (.build t ps.toList.toArray)&&i.zero.cells.toList.all ξR)<;>rw[b] at h
 ·cases h
 simp only[cond_true,η] at h b;refine cM r h λA O w a he v hO l=>?_;obtain⟨d,h1,j⟩:=JI (E:=jn a (slotsOf (ps.toList.map (·.2)))) (xs:=i.zero.cells) he l (λp hp=>Jg (FU (ζs.2 ⟨p,hp,rfl⟩))) m (qD b.2);refine⟨.agg d,wv e.Θ (Ji a (slotsOf (ps.toList.map (·.2)))) (by rw[f];simpa using b.1) ?_,d.toList,by simp,j⟩;rw[f];simp only[iy,hi,q,cond_true,h1]
theorem Kb (b:bW K P) {t t2:Nat} {x:Operand} {l:LV S} (m:o.op= .convert t t2 x) (M:b5 K env x=some l) (h:vD K g k t t2 l=some z):Good K P rr o env g nx k z:=by
 have D: ∀c,o.op≠ .defer c:=λc=>by rw[m];simp
 unfold vD at h;split at h
 rotate_left
 ·cases h
 rename_i i i2 hi H;split at h
 rotate_left
 ·cases h
 rename_i q I;cases f:(ζ i.tag 5&&(ζ i2.tag 3&&(ζ q.tag 2&&sameKind (Dc.noKind q.k) .u8)))<;>rw[f] at h
 ·cases h
 simp only[cond_true] at h;simp only[η] at f;obtain⟨u,s,r,hk⟩:=f;split at h
 rotate_left
 ·cases h
 rename_i ys N;split at h
 rotate_left
 ·cases h
 rename_i zs j;refine cM D h λA O w a he G hO v=>?_;have d:=js b G N (b6 he v M);refine⟨.string (strOf zs),?_,rfl,rfl⟩;obtain⟨B,c,p,_,_⟩:=eS d;have n:=(b.Θ.fits I).int (δ r);rw[eR hk] at n;unfold execOp;rw[m];simp only[ξ,p];rw[run_convert_bytes_string w t t2 i.e B ys.length c ((b.Θ.fits hi).slice (δ u)) n ((b.Θ.fits H).string (δ s))];rw[p] at d;rcases B with _|ad
 ·have J:=wF d;subst J;cases j;simp[Conv.bytesToString,strOf,ξh]
 ·obtain⟨_,cs,L,E⟩:=qR d;have F:=DM b j L;have hlen:zs.length=ys.length:=by
   have: ∀ {ys:List (S.El i.e)} {zs:Γa},iJ K i.e .u8 ys=some zs->zs.length=ys.length:=by
    intro ys
    induction ys with
    |nil=>intro zs h;cases h;rfl
    |cons y ys R=>
     intro zs h;simp only[iJ] at h;split at h
     ·rename_i T x' U;cases C:sameKind .u8 T<;>rw[C] at h
      ·cases h
      simp only[cond_true] at h;split at h
      ·rename_i V Q;cases h;simp[R Q]
      ·cases h
     ·cases h
   exact this j
  subst F;have hl:=run_loadCells_list (P:=P) w ad (zs.map (ξ2 .u8)) E;rw[ξw] at hl;rw[<-hlen,run_bytesToString w ad zs.length c zs hl];rfl
theorem aaT (v:bW K P) (h:qn K env g nx k o.type o.op=some z):Good K P rr o env g nx k z:=by
 unfold qn at h;split at h
 ·rename_i x a;split at h
  ·rename_i L E;exact Kf v (.inl a) E h
  ·cases h
 ·rename_i x a;split at h
  ·split at h
   rotate_left
   ·cases h
   rename_i i hi;cases W:ζ i.tag 5<;>rw[W] at h
   ·cases h
   ·exact Zx a rfl h
  ·split at h
   ·rename_i L E;exact Kf v (.inr a) E h
   ·cases h
 ·rename_i x i a;split at h
  ·rename_i afC B;split at h
   ·rename_i b C;exact Zi a B C h
   ·cases h
  ·cases h
 ·rename_i x a;split at h
  ·rename_i B;exact tV a B rfl h
  ·rename_i B;exact tV a B rfl h
  ·rename_i B;exact tV a B rfl h
  ·rename_i B;exact tV a B rfl h
  ·cases h
 ·rename_i c x y a;split at h
  ·rename_i t B;cases t with
   |true=>
    simp only[cond_true] at h;split at h
    ·rename_i L E;exact Kh a B E h
    ·cases h
   |false=>
    simp only[cond_false] at h;split at h
    ·rename_i L E;exact Kh a B E h
    ·cases h
  ·cases h
 ·rename_i t x f a;split at h
  ·rename_i ls B;split at h
   ·rename_i off n V I;split at h
    ·rename_i ab hl;split at h
     ·rename_i b C;exact Zj v a B I hl C h
     ·cases h
    ·cases h
   ·cases h
  ·cases h
 ·rename_i t x f a;split at h
  ·rename_i off n V I;cases hn:ζ n 0<;>rw[hn] at h
   ·simp only[cond_false] at h;split at h
    ·rename_i b q B;refine CX v a B I hn (λA O w x F=>?_) h;obtain⟨m,h1,D⟩:=F;exact⟨⟨m,q,none⟩,by simpa using D,m,h1,by rw[hs]⟩
    ·rename_i e r j q B;refine CX v a B I hn (λA O w x F=>?_) h;obtain⟨m,Y,c,h1,D⟩:=F;exact⟨⟨m,j*(S.ty e).n+q,none⟩,by simpa using D,m,Y,c,h1,by rw[hs,Nat.add_assoc]⟩
    ·rename_i t' x' q B;refine CX v a B I hn (λA O w x F=>?_) h;obtain⟨ad,h1,D⟩:=F;exact⟨ad.add q,by simpa using h1,ad,by rw[add_add],D⟩
    ·cases h
   ·cases h
  ·cases h
 ·rename_i t x a;split at h
  ·rename_i i hi;split at h
   ·rename_i l B;split at h
    ·rename_i T M;exact Zp v a B M h
    ·exact Zq v a hi B h
   ·cases h
  ·cases h
 ·rename_i t a;split at h
  ·rename_i i hi;cases R:i.zero.cells.toList.all ξR<;>rw[R] at h
   ·cases h
   ·exact Y' v a hi R h
  ·cases h
 ·rename_i t x a;split at h
  ·rename_i b C;exact Zc a C h
  ·cases h
 ·rename_i t ps a;exact Zd v a h
 ·rename_i f fs cs a;split at h
  ·rename_i aa Z h1 D;exact Zs a h1 D h
  ·cases h
 ·rename_i t a;split at h
  ·rename_i i hi;split at h
   ·rename_i p q hp Q;cases C:(ζ i.tag 7&&(ζ p.tag 2&&ζ q.tag 2))<;>rw[C] at h
    ·cases h
    ·exact Zt a h
   ·cases h
  ·cases h
 ·rename_i t n c a;cases C:PS K t<;>rw[C] at h
  ·exact Zu v a h
  ·exact Zv v a h
 ·rename_i t n ps a;exact Ze v a h
 ·rename_i t x y a;split at h
  ·rename_i r F;cases C:KP g r<;>rw[C] at h
   ·exact Kc v a h
   ·exact Zn v a h
  ·exact Kc v a h
 ·rename_i t x y a;exact Zm v a h
 ·rename_i t x lo hi mx a;exact ZA v a h
 ·rename_i t x y ok a;exact Zr v a h
 ·rename_i b t x y t' a;exact Zb v a h
 ·rename_i t x a;split at h
  ·rename_i i u hi B;cases D:ζ i.tag 2<;>rw[D] at h
   ·cases h
   ·exact Zl v a hi (δ D) B h
  ·cases h
 ·rename_i t x a;split at h
  ·rename_i i s hi B;cases N:ζ i.tag 3<;>rw[N] at h
   ·cases h
   ·exact Zy v a hi (δ N) B h
  ·cases h
 ·rename_i x a;split at h
  ·rename_i i B;split at h
   ·rename_i s pos hi;exact Zw a B hi h
   ·cases h
  ·cases h
 ·rename_i t x y a;split at h
  ·rename_i l B;split at h
   ·rename_i T q M Q;exact Zk v a B M Q h
   ·exact Ki v a h
  ·exact Ki v a h
 ·rename_i t x y q a;exact Ke v (.inl a) h
 ·rename_i t x y q a;exact Ke v (.inr a) h
 ·rename_i c a;split at h
  ·rename_i H;split at h
   ·rename_i x ty G J;exact Zo v a H G J h
   ·cases h
  ·rename_i H;split at h
   ·rename_i x y ty U G J;cases C:ζ ty U<;>rw[C] at h
    ·cases h
    ·have e:=δ C;subst e;exact Za v a H G J h
   ·cases h
  ·rename_i H;split at h
   ·rename_i x y ty U G J;exact Zf v a H G J h
   ·cases h
  ·exact p1 v (λc=>by rw[a];simp) (by rw[a];exact h)
 ·rename_i t t2 x a;split at h
  ·rename_i r B;exact Kb v a B h
  ·rename_i t' d B;exact Kb v a B h
  ·exact p1 v (λc=>by rw[a];simp) (by rw[a];exact h)
 ·refine p1 v (λc X=>?_) h;rw[X] at h;simp[plain,hX,iy] at h
end
inductive AX|normal|exit (id:Nat)|ret|bA (u:Value)
structure k6 where
 fn:Func
 L:Nat->Γ
structure hh (S:bo) where
 J:k6
 ps:Γ
 gz:Code
 body:Code
 env:aV S
 fe:Option AX
structure AS (S:bo) where
 env:aV S
 h:AH S
 nb:Nat
 lp:Option (hh S)
 inr:Bool
 df:List (LV S)
 dt:Γ
structure bh (S:bo) where
 id:Nat
 out: {R:Type}->AS S->(AX->AS S->Option R)->Option R
structure dr (S:bo) extends k6 where
 lc:List (bh S)
structure eJ (S:bo) where
 f:Nat
 out: {R:Type}->List (ay S)->(Rs S->Option R)->Option R
structure dD (S:bo) where
 f:Nat
 out: {R:Type}->List (ay S)->AH S->(Rs S->AH S->Γ->Option R)->Option R
structure mr (S:bo) where
 g:Nat
 out: {R:Type}->List (ay S)->Option Value->(Nat->Option (Ob S))->(Option Value->Up S->Option R)->Option R
structure bw (S:bo) where
 K:Kit S
 C:List (eJ S)
 H:List (dD S)
 D:List (mr S)
 T:Nat->Option (dr S)
 F:Γ:=[]
def tQ {S:bo}:List (eJ S)->Nat->Option (eJ S)
 |[],_=>none
 |c::r,f=>bif ζ c.f f then some c else tQ r f
def pV {S:bo}:List (dD S)->Nat->Option (dD S)
 |[],_=>none
 |c::r,f=>bif ζ c.f f then some c else pV r f
def pU {S:bo}:List (mr S)->Nat->Option (mr S)
 |[],_=>none
 |c::r,f=>bif ζ c.g f then some c else pU r f
def gg {S:bo}:List (bh S)->Nat->Option (bh S)
 |[],_=>none
 |c::r,f=>bif ζ c.id f then some c else gg r f
section
variable {S:bo}
def ew:AH S->Up S->AH S
 |h,[]=>h
 |h,(i,X)::r=>ew (h.set i X) r
def keys:Up S->Γ
 |[]=>[]
 |(i,_)::r=>i::keys r
def e0 (nb:Nat):Γ->Γ->Γ
 |dt,[]=>dt
 |dt,i::r=>e0 nb (bif υ i nb&&!(dA i dt) then dt++[i] else dt) r
def AS.ca (st:AS S) (up:Up S) (nw:AH S):AS S:= {st with h:=ew st.h up++nw,dt:=e0 st.nb st.dt (keys up)}
def eX (g:Nat->Option (Ob S)) (up:Up S):Bool:=(keys up).all λi=>(g i).isSome
def kept (g:Nat->Option (Ob S)) (nb:Nat) (roots:Γ):Γ:=ξs nb++reach g nb 1000 roots []
def gc (sl:Γ) (st:AS S):AS S:=
 let env:=eO st.env sl
 let a:=kept (aC st.h) st.nb (n_ (st.h.take st.nb)++(Fk env++n' st.df))
 match kR (λi=>posOf i a 0) st.df with
 |some df=> {st with env:=oa (λi=>posOf i a 0) env,h:=eQ (λi=>posOf i a 0) (fT (aC st.h) a),df:=df}
 |none=>st
def jX (rs:Γ) (ρ:Nat->Option Nat) (h:AH S):Γ->Up S
 |[]=>[]
 |j::r=>(match rs[j]? with|some i=>(i,l3 ρ (aC h j))::jX rs ρ h r|none=>jX rs ρ h r)
section
variable (G:bw S) {R:Type}
def s' (c:Nat->List (ay S)->AH S->(Rs S->AH S->Γ->Option R)->Option R) (f:Nat) (afC:List (ay S)) (g:Nat->Option (Ob S)) (nx:Nat) (d:Value->Up S->AH S->Option R) (k:AV S->Up S->AH S->Option R):Option R:=
 let rs:=reach g 0 1000 (jN afC) []
 match l1 (λi=>posOf i rs 0) afC with
 |none=>none
 |some b=>c f b (eQ (λi=>posOf i rs 0) (fT (nQ g) rs)) λr h' dt=>
  let ρ:=λj=>bif υ j rs.length then rs[j]? else some (nx+(j-rs.length))
  match r with
  | .ret a=>(match a.cj ρ with|some a'=>k a' (jX rs ρ h' dt) (eQ ρ (h'.drop rs.length))|none=>none)
  | .bA u=>bif u.oneCell' then d u (jX rs ρ h' dt) (eQ ρ (h'.drop rs.length)) else none
def lI (g:Nat->Option (Ob S)) (rs:Γ):LV S->LV S
 | .own r=>bif dA r rs then(match iG G.K g (.own r) with|some (l,_)=>l|none=>.own r) else .own r
 |l=>l
def Ks (rs:Γ) (cs:List (LV S)):Bool:=cs.any λl=>match l with| .own r=>dA r rs|_=>false
def iE (g:Nat->Option (Ob S)) (rs:Γ):Γ->Up S
 |[]=>[]
 |j::t=>match g j with
  |some (.box a cs)=>bif Ks rs cs then(j,some (.box a (cs.map (lI G g rs))))::iE g rs t else iE g rs t
  |_=>iE g rs t
def BO (c:Nat->List (ay S)->AH S->(Rs S->AH S->Γ->Option R)->Option R) (f:Nat) (afC:List (ay S)) (g:Nat->Option (Ob S)) (nx:Nat) (b:Value->Up S->AH S->Option R) (k:AV S->Up S->AH S->Option R):Option R:=
 match tQ G.C f with
 |some e=>(match iF G.K g afC with
  |some (d,rs)=>e.out d λr=>(match r with
   | .ret a=>bif a.pure then(bif a.flat then k a [] [] else k a (bif dA f G.F then iE G g rs (ξs nx)++fp rs else fp rs) []) else none
   | .bA u=>bif u.oneCell' then b u [] [] else none)
  |none=>s' c f afC g nx b k)
 |none=>s' c f afC g nx b k
def I0 (env:aV S) (g:Nat->Option (Ob S)) (c:ζ8):Option (Nat×List (ay S)):=
 match c.callee with
 | .value x=>
  (match b5 G.K env x with
  |some (.aD i)=>(match g i with
   |some (.aD f fs cs)=>(match gV G.K env c.args.toList with|some afC=>some (f,fs++afC++cs)|none=>none)
   |_=>none)
  |some (.v u)=>(match u with
   | .func (.func f) fs cs=>bif ζ fs.size 0&&ζ cs.size 0 then(match gV G.K env c.args.toList with|some afC=>some (f,afC)|none=>none) else none
   |_=>none)
  |_=>none)
 |_=>none
def nT (a:Nat->List (ay S)->AH S->(Rs S->AH S->Γ->Option R)->Option R) (env:aV S) (g:Nat->Option (Ob S)) (nx:Nat) (o:Oper) (b:Value->Up S->AH S->Option R) (k:AV S->Up S->AH S->Option R):Option R:=
 match o.op with
 | .call c=>
  (match c.callee with
  | .value _=>(match I0 G env g c with|some (f,afC)=>BO G a f afC g nx b k|none=>none)
  |_=>qn G.K env g nx k o.type o.op)
 | .panic _=>none
 |_=>qn G.K env g nx k o.type o.op
def h5 (N:Nat) (o:Oper) (st:AS S) (a:AV S) (k:AS S->Option R):Option R:=
 match o.dst with
 |some d=>bif υ d N then k {st with env:=(d,a)::st.env} else none
 |none=>k st
def mM (N:Nat) (ops:Array Oper) (g:Option (Nat×Bool)) (st:AS S) (yes no:AS S->Option R):Option R:=
 match g with
 |none=>yes st
 |some (j,b)=>
  match ops[j]? with
  |some o=>
   match o.dst with
   |some d=>
    bif υ d N then
     match aV.get st.env d with
     |some (.s (.one (.v (.bool c))))=>
      bif c then(match b with|true=>yes|false=>no) {st with env:=(d,.s (.one (.v (.bool true))))::st.env}
      else(match b with|true=>no|false=>yes) {st with env:=(d,.s (.one (.v (.bool false))))::st.env}
     |some (.br [])=>no st
     |_=>none
    else none
   |none=>none
  |none=>none
def Gt (env:aV S) (c:ζ8):Bool:=
 match c.callee with
 | .value x=>(match b5 G.K env x with|some .cT=>true|_=>false)
 |_=>false
def BB (e:Nat->List (ay S)->AH S->(Rs S->AH S->Γ->Option R)->Option R) (g:List (ay S)->AS S->(Bool->AS S->Option R)->Option R) (N:Nat) (o:Oper) (st:AS S) (d:Value->AS S->Option R) (k:AS S->Option R):Option R:=
 match o.op with
 | .defer c=>(match c.callee with
  | .value x=>(match c.args.toList,b5 G.K st.env x,st.inr,st.lp,o.dst with
   |[],some (.aD i),false,none,none=>k {st with df:=.aD i::st.df}
   |_,_,_,_,_=>none)
  |_=>none)
 | .panic x=>(match b5 G.K st.env x with|some (.v (.iface t u))=>d (.iface t u) st|_=>none)
 | .call c=>
  bif Gt G st.env c then(match gV G.K st.env c.args.toList with
   |some afC=>g afC st λb f=>h5 N o f (.s (.one (.v (.bool b)))) k
   |none=>none)
  else nT G e st.env (aC st.h) st.h.length o (λu up nw=>bif eX (aC st.h) up then d u (st.ca up nw) else none) λa up nw=>bif eX (aC st.h) up then h5 N o (st.ca up nw) a k else none
 |_=>nT G e st.env (aC st.h) st.h.length o (λu up nw=>bif eX (aC st.h) up then d u (st.ca up nw) else none) λa up nw=>bif eX (aC st.h) up then h5 N o (st.ca up nw) a k else none
def pj (a:Nat->List (ay S)->AH S->(Rs S->AH S->Γ->Option R)->Option R) (c:List (ay S)->AS S->(Bool->AS S->Option R)->Option R) (N:Nat) (ops:Array Oper) (b:Value->AS S->Option R):Γ->AS S->(AS S->Option R)->Option R
 |[],st,k=>k st
 |i::l,st,k=>
  match ops[i]? with
  |some o=>mM N ops o.guard st (λst=>BB G a c N o st b λst=>pj a c N ops b l st k) (λst=>h5 N o st (.br []) λst=>pj a c N ops b l st k)
  |none=>none
structure ct (S:bo) where
 rd:Γ
 up:Up S
 nx:Nat
 nw:AH S
def dh (ops:Array Oper) (j:Nat):Option Nat:=match ops[j]? with|some o=>o.dst|none=>none
def Kk (ops:Array Oper) (g:Option (Nat×Bool)):Γ:=match g with|some (j,_)=>(match dh ops j with|some d=>[d]|none=>[])|none=>[]
def fg (ops:Array Oper) (o:Oper):Γ:=slotsOf o.op.operands.toList++Kk ops o.guard
def eA (ops:Array Oper) (i:Nat):Γ:=match ops[i]? with|some o=>lz ops 12 (cQ o)|none=>[]
def Fc (env:aV S) (g:Nat->Option (Ob S)) (o:Oper):Γ:=
 match o.op with
 | .load _ x=>(match b5 G.K env x with|some l=>l.refs|none=>[])
 | .store _ x _=>(match b5 G.K env x with|some l=>l.refs|none=>[])
 | .indexAddr _ x _=>(match b5 G.K env x with|some (.own r)=>[r]|_=>[])
 | .lookup _ x _ _=>(match b5 G.K env x with|some l=>l.refs|none=>[])
 | .mapUpdate _ x _ _=>(match b5 G.K env x with|some l=>l.refs|none=>[])
 | .insert _ x _ _=>(match b5 G.K env x with|some l=>l.refs|none=>[])
 | .next x _=>(match b5 G.K env x with|some l=>l.refs|none=>[])
 | .convert _ _ x=>(match b5 G.K env x with|some l=>l.refs|none=>[])
 | .buildSlice _ _ ps=>(match gV G.K env (ps.toList.map (·.2)) with|some afC=>jN afC|none=>[])
 | .call c=>
  (match gV G.K env c.args.toList with
  |some afC=>(match c.callee with
   | .value x=>(match b5 G.K env x with|some l=>l.refs++reach g 0 1000 (l.refs++jN afC) []|none=>[])
   |_=>jN afC)
  |none=>[])
 |_=>[]
def iZ (rd:Γ) (g:Nat->Option (Ob S)):Nat->Option (Ob S):=λi=>bif dA i rd then g i else none
def vA (l m:Γ):Bool:=l.all λi=>!(dA i m)
def Ef (l:Γ) (nx n:Nat):Bool:=l.all λi=>!(ξH nx i&&υ i (nx+n))
def ke (cl rd:Γ) (up:Up S):List (ct S)->Nat->Bool
 |[],_=>true
 |r::rs,k=>(dA k cl||(vA rd (keys r.up)&&(Ef rd r.nx r.nw.length&&vA (keys up) r.rd)))&&ke cl rd up rs (k+1)
def idle (cl:Γ):List (ct S)->Nat->Bool
 |[],_=>true
 |r::rs,k=>(dA k cl||(match r.up,r.nw with|[],[]=>true|_,_=>false))&&idle cl rs (k+1)
def FT (ops:Array Oper) (i:Nat) (o:Oper) (s:Nat):Bool:=
 ((cQ o).any λj=>match dh ops j with|some d=>ζ d s|none=>false)||
 (ξs ops.size).all λk=>match dh ops k with|some d=>!(ζ d s)||(ζ k i||dA i (eA ops k))|none=>true
def MY (N:Nat) (ops:Array Oper) (i:Nat):Bool:=
 match ops[i]? with
 |some o=>hx i (cQ o)&&(hx i (eA ops i)&&((match o.dst with
  |some d=>υ d N&&(ξs ops.size).all λk=>ζ k i||(match dh ops k with|some e=>!(ζ d e)|none=>true)
  |none=>true)&&(fg ops o).all (FT ops i o)))
 |none=>false
def we (N:Nat) (ops:Array Oper):Bool:=(ξs ops.size).all (MY N ops)
def F5 (ops:Array Oper) (env:aV S):aV S:=env.filter λp=>(ξs ops.size).all λk=>match dh ops k with|some d=>!(ζ d p.1)|none=>true
def F6 (up:Up S) (nw:AH S):Bool:=match up,nw with|[],[]=>true|_,_=>false
def tg (pn:Option (Γ×Value×AS S)) (cl:Γ):Bool:=match pn with|some (dead,_,_)=>dead.any λj=>dA j cl|none=>false
def abH (pn:Option (Γ×Value×AS S)) (i:Nat):Option (Γ×Value×AS S):=match pn with|some (dead,u,st)=>some (i::dead,u,st)|none=>none
def kb (b:Nat->List (ay S)->AH S->(Rs S->AH S->Γ->Option R)->Option R) (N:Nat) (ops:Array Oper) (d:Value->AS S->Option R) (k:AS S->Option R):Nat->List (ct S)->Option (Γ×Value×AS S)->AS S->Option R
 |0,_,pn,st=>(match pn with|none=>k st|some (_,u,f)=>d u f)
 |c+1,acc,pn,st=>
  match ops[acc.length]? with
  |none=>none
  |some o=>
   bif tg pn (eA ops acc.length) then kb b N ops d k c (acc++[⟨[],[],st.h.length,[]⟩]) (abH pn acc.length) st
   else mM N ops o.guard st
    (λst=>
     let rd:=Fc G (eO st.env (fg ops o)) (aC st.h) o
     bif rd.all λi=>υ i st.h.length then
      nT G b (eO st.env (fg ops o)) (iZ rd (aC st.h)) st.h.length o
       (λu up nw=>match pn with
        |some _=>none
        |none=>bif eX (aC st.h) up&&((keys up).all (λi=>dA i rd)&&(ke (eA ops acc.length) rd up acc 0&&idle (eA ops acc.length) acc 0)) then
          kb b N ops d k c (acc++[⟨rd,up,st.h.length,nw⟩]) (some ([acc.length],u,{st.ca up nw with env:=F5 ops st.env})) (st.ca up nw) else none)
       (λa up nw=>
        bif eX (aC st.h) up&&((keys up).all (λi=>dA i rd)&&(ke (eA ops acc.length) rd up acc 0&&(pn.isNone||F6 up nw))) then
         h5 N o (st.ca up nw) a λe=>kb b N ops d k c (acc++[⟨rd,up,st.h.length,nw⟩]) pn e
        else none)
     else none)
    (λst=>h5 N o st (.br []) λe=>kb b N ops d k c (acc++[⟨[],[],st.h.length,[]⟩]) pn e)
def BD (a:Nat->List (ay S)->AH S->(Rs S->AH S->Γ->Option R)->Option R) (c:List (ay S)->AS S->(Bool->AS S->Option R)->Option R) (N:Nat) (ops:Array Oper) (draw:Bool) (st:AS S) (b:Value->AS S->Option R) (k:AS S->Option R):Option R:=
 match draw with
 |false=>pj G a c N ops b (ξs ops.size) st k
 |true=>bif we N ops then kb G a N ops b k ops.size [] none st else none
def dI:Code->Nat
 | .region id _ _=>id+1
 | .seq x y=>(match dI x with|0=>dI y|n=>n)
 | .block _ x=>dI x
 | .loop x=>dI x
 | .scope x=>dI x
 |_=>0
def abI (I:dr S) (body:Code) (st:AS S):AS S:=gc (I.L (2000001+dI body)) st
def No (I:dr S):Code->AS S->AS S
 | .loop x,st=>gc (I.L (dI x)) st
 |_,st=>st
def ij:Nat->List (ay S)->aV S
 |_,[]=>[]
 |i,a::l=>(i,.s a)::ij (i+1) l
def qX:List (ay S)->AV S
 |[a]=>.s a
 |afC=>.br afC
def jP (K:Kit S) (env:aV S) (h:AH S):List ResultVar->Option (List (ay S))
 |[]=>some []
 | .tmp t::r=>(match aV.get env t with|some (.s a)=>(match jP K env h r with|some afC=>some (a::afC)|none=>none)|_=>none)
 | .cell x t::r=>
  (match aV.get env x with
  |some (.s (.one (.an b 0)))=>(match K.Θ.get t,aC h b with
   |some i,some (.box _ cs)=>bif ζ (dP cs) i.size then
     (match jl (TI.gj i) cs with
     |some a=>(match jP K env h r with|some afC=>some (a::afC)|none=>none)
     |none=>none)
    else none
   |_,_=>none)
  |_=>none)
def jY:Γ->List (ay S)->Option (aV S)
 |[],[]=>some []
 |p::ps,a::afC=>(match jY ps afC with|some e=>some ((p,.s a)::e)|none=>none)
 |_,_=>none
def LV.fS:LV S->Bool
 | .cT=>false
 |_=>true
def kF:List (LV S)->Bool
 |[]=>true
 |l::r=>l.fS&&kF r
def lS:List (ay S)->Bool
 |[]=>true
 |a::r=>kF a.cells&&lS r
def AV.fS:AV S->Bool
 | .s a=>kF a.cells
 | .br afC=>lS afC
def Ob.fS:Ob S->Bool
 | .box _ cs=>kF cs
 | .aD _ fs cs=>lS fs&&lS cs
 | .cB .. =>false
 |_=>true
def nO:aV S->Bool
 |[]=>true
 |(_,a)::r=>a.fS&&nO r
def hI:AH S->Bool
 |[]=>true
 |some X::r=>X.fS&&hI r
 |none::r=>hI r
def qI (fn:Func) (e:AX) (st:AS S) (k:Rs S->AS S->Option R):Option R:=
 match st.df with
 |[]=>(match e with
  | .exit _=>none
  | .bA u=>k (.bA u) st
  |_=>(match jP G.K st.env st.h fn.results.toList with|some afC=>k (.ret (qX afC)) st|none=>none))
 |[.aD i]=>(match aC st.h i with
  |some (.aD g [] cs)=>(match pU G.D g with
   |some a=>
    let fin:Option Value->Up S->Option R:=λp up=>bif !(eX (aC st.h) up) then none else(match p with
     |some u=>k (.bA u) {st.ca up [] with df:=[]}
     |none=>(match jP G.K st.env (ew st.h up) fn.results.toList with|some afC=>k (.ret (qX afC)) {st.ca up [] with df:=[]}|none=>none))
    (match e with
    | .exit _=>none
    | .bA u=>a.out cs (some u) (aC st.h) fin
    |_=>a.out cs none (aC st.h) fin)
   |none=>none)
  |_=>none)
 |_=>none
def qw (r:Rs S) (st:AS S) (k:Rs S->AH S->Γ->Option R):Option R:=
 let b:=kept (aC st.h) st.nb (n_ (st.h.take st.nb)++(match r with| .ret a=>a.refs| .bA _=>[]))
 let h:=eQ (λi=>posOf i b 0) (fT (aC st.h) b)
 let dt:=st.dt.filter λi=>υ i st.nb
 match r with
 | .ret a=>(match a.cj (λi=>posOf i b 0) with|some a'=>k (.ret a') h dt|none=>none)
 | .bA u=>k (.bA u) h dt
def n4 (N:Nat):Γ->Bool
 |[]=>true
 |p::r=>υ p N&&(!(dA p r)&&n4 N r)
def jH:AH S->Bool
 |[]=>true
 |some X::r=>X.nt&&jH r
 |none::r=>jH r
def Gs (run:dr S->Code->AS S->(AX->AS S->Option R)->Option R) (afC:List (ay S)) (st:AS S) (k:Bool->AS S->Option R):Option R:=
 match st.lp with
 |some a=>(match a.fe,jY a.ps afC with
  |none,some b=>bif n4 a.J.fn.ntmps a.ps&&jH st.h then
   run ⟨a.J,[]⟩ a.gz ⟨b++a.env,st.h,st.h.length,none,true,[],[]⟩ λe st1=>(match e,st1.inr with
   | .normal,true=>bif jH st1.h then run ⟨a.J,[]⟩ a.body ⟨st1.env,st1.h,st1.h.length,none,true,[],[]⟩ λe st2=>(match e with
    | .normal=>k true {st with h:=st2.h,dt:=e0 st.nb st.dt (st1.dt++st2.dt)}
    | .bA _=>none
    | .ret=>k false {st with h:=st2.h,dt:=e0 st.nb st.dt (st1.dt++st2.dt),lp:=some {a with fe:=some .ret}}
    | .exit id=>k false {st with h:=st2.h,dt:=e0 st.nb st.dt (st1.dt++st2.dt),lp:=some {a with fe:=some (.exit id)}}) else none
   |_,_=>none) else none
  |_,_=>none)
 |none=>none
def vY (st a:AS S) (k:AX->AS S->Option R):Option R:=
 match a.df,a.lp with
 |[],some b=>bif hI a.h then(match b.fe with
  |none=>k .normal {st with h:=a.h,dt:=e0 st.nb st.dt a.dt}
  |some .ret=>k .ret {st with h:=a.h,dt:=e0 st.nb st.dt a.dt}
  |some (.exit id)=>k (.exit id) {st with h:=a.h,dt:=e0 st.nb st.dt a.dt}
  |_=>none) else none
 |_,_=>none
def E4 (run:dr S->Code->AS S->(AX->AS S->Option R)->Option R) (I:dr S) (fo:Operand) (ps:Array Nat) (gz body:Code) (st:AS S) (k:AX->AS S->Option R):Option R:=
 match st.lp,st.inr with
 |none,false=>(match de G.K st.env fo with
  |some (.s (.one (.aD i)))=>(match aC st.h i with
   |some (.aD g [] cs)=>(match G.T g with
    |some J=>(match J.fn.body,J.fn.results.toList with
     |some b,[]=>bif ξH (1+cs.length) J.fn.ntmps&&(nO st.env&&hI st.h) then
       run J b ⟨ij 0 (.one .cT::cs),st.h,st.h.length,some ⟨I.tok6,ps.toList,gz,body,st.env,none⟩,false,[],[]⟩ λe a=>
        (match e with
        | .normal=>vY st a k
        | .ret=>vY st a k
        |_=>none)
      else none
     |_,_=>none)
    |none=>none)
   |_=>none)
  |_=>none)
 |_,_=>none
def BN (run:dr S->Code->AS S->(AX->AS S->Option R)->Option R) (f:Nat) (afC:List (ay S)) (h:AH S) (k:Rs S->AH S->Γ->Option R):Option R:=
 match pV G.H f with
 |some a=>a.out afC h k
 |none=>(match G.T f with
  |some J=>(match J.fn.body with
   |some c=>bif ξH afC.length J.fn.ntmps then run J c ⟨ij 0 afC,h,h.length,none,false,[],[]⟩ λe b=>qI G J.fn e b λr d=>qw r d k else none
   |none=>none)
  |none=>none)
def cm:Nat->dr S->Code->AS S->(AX->AS S->Option R)->Option R
 |0,_,_,_,_=>none
 |n+1,I,c,st,k=>
  let f:Nat->List (ay S)->AH S->(Rs S->AH S->Γ->Option R)->Option R:=BN G (cm n)
  let g:List (ay S)->AS S->(Bool->AS S->Option R)->Option R:=Gs (cm n)
  match c with
  | .skip=>k .normal st
  | .label _=>k .normal st
  | .scope x=>bif st.inr then none else cm n I x st k
  | .region _ ops draw=>BD G f g I.fn.ntmps ops draw st (λu st=>k (.bA u) st) λst=>k .normal st
  | .seq x y=>cm n I x st λe st=>(match e with| .normal=>cm n I y st k|e=>k e st)
  | .cond o x y=>
   (match de G.K st.env o with
   |some (.s (.one (.v (.bool b))))=>bif b then cm n I x st k else cm n I y st k
   |_=>none)
  | .block id x=>cm n I x (No I x st) λe st=>(match e with| .exit a=>bif ζ a id then k .normal (gc (I.L (1000001+id)) st) else k (.exit a) st|e=>k e st)
  | .loop x=>(match gg I.lc (dI x) with
   |some lc=>lc.out st k
   |none=>cm n I x st λe d=>(match e with| .normal=>cm n I (.loop x) (gc (I.L (dI x)) d) k|e=>k e d))
  | .rangeFunc fo ps gz body=>E4 G (cm n) I fo ps gz body (abI I body st) k
  | .exit id=>k (.exit id) st
  | .ret=>k .ret (gc (I.L 1000000) st)
  |_=>none
def dY (n f:Nat) (afC:List (ay S)) (h:AH S) (k:Rs S->AH S->Γ->Option R):Option R:=
 match G.T f with
 |some J=>(match J.fn.body with
  |some c=>bif ξH afC.length J.fn.ntmps then cm G n J c ⟨ij 0 afC,h,h.length,none,false,[],[]⟩ λe a=>qI G J.fn e a λr b=>qw r b k else none
  |none=>none)
 |none=>none
end
end
section
variable {S:bo} {A A':Pl} {O:Γ} {w:World} {ρ:Nat->Option Nat}
structure f_ (ρ:Nat->Option Nat) (A A':Pl):Prop where
 pl: ∀i j p,ρ i=some j->A.pl i=some p->A'.pl j=some p
 ls:A'.ls=A.ls
theorem LV.hN (h:f_ ρ A A') {l l':LV S} {xs:Γb} (a:l.cj ρ=some l') (hl:l.rel A O w xs):l'.rel A' O w xs:=by
 cases l with
 |v u=>cases a;exact hl
 |ao t d=>cases a;exact hl
 |ptr t d q=>cases a;exact hl
 |an i q=>simp only[LV.cj] at a;split at a<;>cases a;rename_i j o;obtain⟨m,h1,g⟩:=hl;exact⟨m,h.pl _ _ _ o h1,g⟩
 |e_ i q n y=>simp only[LV.cj] at a;split at a<;>cases a;rename_i j o;obtain⟨m,h1,g⟩:=hl;exact⟨m,h.pl _ _ _ o h1,g⟩
 |own i=>simp only[LV.cj] at a;split at a<;>cases a;rename_i j o;obtain⟨m,h1,g⟩:=hl;exact⟨m,h.pl _ _ _ o h1,g⟩
 |eb e i y q=>simp only[LV.cj] at a;split at a<;>cases a;rename_i j o;obtain⟨b,n,c,h1,g⟩:=hl;exact⟨b,n,c,h.pl _ _ _ o h1,g⟩
 |fC i q n=>simp only[LV.cj] at a;split at a<;>cases a;rename_i j o;obtain⟨m,h1,g⟩:=hl;exact⟨m,h.pl _ _ _ o h1,g⟩
 |mp i=>simp only[LV.cj] at a;split at a<;>cases a;rename_i j o;obtain⟨m,h1,g⟩:=hl;exact⟨m,h.pl _ _ _ o h1,g⟩
 |aD i=>simp only[LV.cj] at a;split at a<;>cases a;rename_i j o;obtain⟨f,u,c,h1,g⟩:=hl;exact⟨f,u,c,h.pl _ _ _ o h1,g⟩
 |cT=>cases a;obtain⟨m,h1,g⟩:=hl;exact⟨m,h.ls.trans h1,g⟩
 |cX i=>simp only[LV.cj] at a;split at a<;>cases a;rename_i j o;obtain⟨m,h1,g⟩:=hl;exact⟨m,h.pl _ _ _ o h1,g⟩
 |bu k n gs=>cases a;exact hl
 |b2 n bs=>cases a;exact hl
theorem Fq (h:f_ ρ A A'): ∀ {ls b:List (LV S)} {xs:Γb},kR ρ ls=some b->bB A O w ls xs->bB A' O w b xs
 |[],_,_,a,hl=>by cases a;exact hl
 |l::r,_,_,a,⟨y,ys,e,h1,c⟩=>by
  simp only[kR] at a;split at a
  ·rename_i x d;split at a
   ·rename_i z f;cases a;exact⟨y,ys,e,LV.hN h d h1,Fq h f c⟩
   ·cases a
  ·cases a
theorem ay.hN (h:f_ ρ A A') {a a':ay S} {x:Value} (b:a.cj ρ=some a') (hl:a.rel A O w x):a'.rel A' O w x:=by
 cases a with
 |one l=>
  simp only[ay.cj] at b;split at b<;>cases b;rename_i y c;exact LV.hN h c hl
 |agg ls=>
  simp only[ay.cj] at b;split at b<;>cases b;rename_i y c;obtain⟨xs,h1,d⟩:=hl;exact⟨xs,h1,Fq h c d⟩
theorem qE (h:f_ ρ A A'): ∀ {ls b:List (ay S)} {xs:Γb},l1 ρ ls=some b->cF A O w ls xs->cF A' O w b xs
 |[],_,_,a,hl=>by cases a;exact hl
 |l::r,_,_,a,⟨y,ys,e,h1,c⟩=>by
  simp only[l1] at a;split at a
  ·rename_i x d;split at a
   ·rename_i z f;cases a;exact⟨y,ys,e,ay.hN h d h1,qE h f c⟩
   ·cases a
  ·cases a
theorem AV.hN (h:f_ ρ A A') {a a':AV S} {x:Value} (b:a.cj ρ=some a') (hl:a.rel A O w x):a'.rel A' O w x:=by
 cases a with
 |s l=>
  simp only[AV.cj] at b;split at b<;>cases b;rename_i y c;exact ay.hN h c hl
 |br ls=>
  simp only[AV.cj] at b;split at b<;>cases b;rename_i y c;obtain⟨xs,h1,d⟩:=hl;exact⟨xs,h1,qE h c d⟩
theorem Ob.hN (h:f_ ρ A A') {X i:Ob S} {p:Value} (a:X.cj ρ=some i) (hl:c6 A O w X p):c6 A' O w i p:=by
 cases X with
 |box t cs=>
  simp only[Ob.cj] at a;split at a<;>cases a;rename_i y g;obtain⟨b,vs,h1,c,d⟩:=hl;exact⟨b,vs,h1,c,Fq h g d⟩
 |row e xs=>cases a;exact hl
 |map k l m=>cases a;exact hl
 |aD f fs cs=>
  simp only[Ob.cj] at a;split at a<;>cases a;rename_i y n g j;obtain⟨us,vs,h1,c,d⟩:=hl;exact⟨us,vs,h1,qE h g c,qE h j d⟩
 |cX s pos=>cases a;exact hl
 |cB t e bJ=>cases a;exact hl
theorem Ob.l4 {X c:Ob S} {w:World} {p:Value} {b:Nat} (a:X.cj ρ=some c) (h:cy w c p b):cy w X p b:=by
 refine h.imp id λhi=>?_;cases X with
 |cB t e bJ=>cases a;exact hi
 |box t cs=>simp only[Ob.cj] at a;split at a<;>cases a;cases hi
 |aD f fs cs=>simp only[Ob.cj] at a;split at a<;>cases a;cases hi
 |row e xs=>cases a;cases hi
 |map d g m=>cases a;cases hi
 |cX s pos=>cases a;cases hi
theorem Ob.wh {X b:Ob S} (a:X.cj ρ=some b):b.nt=X.nt:=by
 cases X with
 |box t cs=>simp only[Ob.cj] at a;split at a<;>cases a;rfl
 |aD f fs cs=>simp only[Ob.cj] at a;split at a<;>cases a;rfl
 |_=>cases a;rfl
theorem MP {g:Nat->Option (Ob S)} {i:Nat} {X:Ob S} (h:nQ g i=some X):g i=some X/\X.nt=true:=by
 unfold nQ at h;split at h
 ·rename_i Y a;cases hn:Y.nt<;>rw[hn] at h
  ·cases h
  ·cases h;exact⟨a,hn⟩
 ·cases h
theorem get_mem {l:aV S} {s:Nat} {a:AV S}:aV.get l s=some a->(s,a)∈l:=by
 induction l with
 |nil=>intro h;cases h
 |cons p l d=>
  intro h;obtain⟨t,b⟩:=p;simp only[aV.get] at h;cases c:ζ t s with
  |true=>
   rw[c] at h;simp only[cond_true,ι] at h;have:=δ c;subst this;subst h;exact ν
  |false=>rw[c] at h;exact μ _ (d h)
theorem u1 {env:aV S} {s:Nat} {a:AV S}: ∀ {l:Γ},(s,a)∈eO env l->s∈l/\aV.get env s=some a
 |[],h=>by cases h
 |t::r,h=>by
  simp only[eO] at h;split at h
  ·rename_i b d;rcases τ.1 h with e|h
   ·cases e;exact⟨ν,d⟩
   ·obtain⟨h1,c⟩:=u1 h;exact⟨μ _ h1,c⟩
  ·obtain⟨h1,c⟩:=u1 h;exact⟨μ _ h1,c⟩
theorem Fo {s:Nat} {a':AV S}: ∀ {l:aV S},(s,a')∈oa ρ l-> ∃a,(s,a)∈l/\a.cj ρ=some a'
 |[],h=>by cases h
 |(t,b)::r,h=>by
  simp only[oa] at h;split at h
  ·rename_i x d;rcases τ.1 h with e|h
   ·cases e;exact⟨b,ν,d⟩
   ·obtain⟨a,h1,c⟩:=Fo h;exact⟨a,μ _ h1,c⟩
  ·obtain⟨a,h1,c⟩:=Fo h;exact⟨a,μ _ h1,c⟩
theorem adk (h:f_ ρ A A') {a:Act} {env:aV S} {sl:Γ} (he:cL A O w env a):cL A' O w (oa ρ (eO env sl)) a:=λs e d=>by
 obtain⟨b,h1,c⟩:=Fo (get_mem d);exact AV.hN h c (he s b (u1 h1).2)
theorem bK.cj {g f:Nat->Option (Ob S)} {idx:Nat->Option Nat} (h:bK A O w g) (l: ∀j,A'.pl j=(idx j).bind A.pl) (B:A'.ls=A.ls) (inj: ∀i j d,idx j=some i->idx d=some i->j=d) (E: ∀i j,ρ i=some j->idx j=some i)
  (n: ∀j a,f j=some a-> ∃i X,idx j=some i/\g i=some X/\X.cj ρ=some a):bK A' O w f:=by
 have z:f_ ρ A A':=⟨λi j p hi hp=>by rw[l,E i j hi];exact hp,B⟩;have back: ∀j a p,f j=some a->A'.pl j=some p-> ∃i X,idx j=some i/\g i=some X/\A.pl i=some p/\X.cj ρ=some a:=by
  intro j a p m hp;obtain⟨i,X,h1,c,k⟩:=n j a m;rw[l,h1] at hp;exact⟨i,X,h1,c,hp,k⟩
 constructor
 ·intro j a m;obtain⟨i,X,h1,c,k⟩:=n j a m;obtain⟨p,G,H,I⟩:=h.al i X c;exact⟨p,by rw[l,h1];exact G,Ob.hN z k H,I⟩
 ·intro j d X Y p q b C h1 c hp D;obtain⟨i,a,r,a2,a3,a4⟩:=back j X p h1 hp;obtain⟨F,o,s,t,x,y⟩:=back d Y q c D;exact λu v=>h.gb i F a o p q b (λe=>C (by subst e;exact inj i j d r s)) a2 t a3 x (Ob.l4 a4 u) (Ob.l4 y v)
theorem gI {i:Nat}: ∀ {l:Γ},dA i l=true↔i∈l
 |[]=>by simp[dA]
 |j::r=>by
  simp only[dA,τ];cases a:ζ i j with
  |true=>have:=δ a;simp[this]
  |false=>
   have b:i≠j:=λe=>by subst e;simp at a
   simp[b,gI]
theorem Nl {i j:Nat}: ∀ {l:Γ} {n:Nat},posOf i l n=some j->n<=j/\l[j-n]? =some i
 |[],n,h=>by cases h
 |t::r,n,h=>by
  simp only[posOf] at h;cases a:ζ i t with
  |true=>
   rw[a] at h;have:=δ a;simp only[cond_true,ι] at h;subst h;subst this;simp
  |false=>
   rw[a] at h;obtain⟨h1,b⟩:=Nl (n:=n+1) h;refine⟨by omega,?_⟩;rw[show j-n=(j-(n+1))+1 by omega];simpa using b
theorem n3 {i j:Nat} {l:Γ} (h:posOf i l 0=some j):l[j]? =some i:=by simpa using(Nl h).2
structure Reach (g:Nat->Option (Ob S)) (nb:Nat) (l:Γ):Prop where
 nd:l.Nodup
 ge: ∀i∈l,nb<=i
 al: ∀i∈l,∃X,g i=some X
theorem lX {g:Nat->Option (Ob S)} {nb:Nat}: ∀ {n:Nat} {t seen:Γ},Reach g nb seen->Reach g nb (reach g nb n t seen)
 |0,t,seen,h=>h
 |n+1,[],seen,h=>h
 |n+1,i::t,seen,h=>by
  simp only[reach];cases d:υ i nb with
  |true=>exact lX h
  |false=>
   simp only[cond_false];cases hm:dA i seen with
   |true=>exact lX h
   |false=>
    simp only[cond_false];split
    ·rename_i X k;have p:i∉seen:=λo=>by rw[gI.2 o] at hm;cases hm
     have m:nb<=i:=by
      rcases ω i nb with h1|h1
      ·rw[ο.mpr h1] at d;cases d
      ·exact h1
     refine lX ⟨?_,?_,?_⟩
     ·rw[ζq];exact⟨h.nd,by simp,λa l b f=>by simp at f;subst f;exact λe=>p (e▸l)⟩
     ·intro j c;rcases ψ.1 c with c|c
      ·exact h.ge j c
      ·simp at c;subst c;exact m
     ·intro j c;rcases ψ.1 c with c|c
      ·exact h.al j c
      ·simp at c;subst c;exact⟨X,k⟩
    ·exact lX h
theorem Fj {g:Nat->Option (Ob S)} {nb:Nat}:Reach g nb []:=⟨List.nodup_nil,(λi h=>nomatch h),(λi h=>nomatch h)⟩
theorem vy {l:Γ} (h:l.Nodup) {i j a:Nat} (h1:l[j]? =some i) (e:l[a]? =some i):j=a:=by
 obtain⟨b,a2⟩:=ε.1 h1;obtain⟨c,d⟩:=ε.1 e;have hp:=List.pairwise_iff_getElem.1 h;rcases ξd j a with g|he|f
 ·exact absurd (a2.trans d.symm) (hp j a b c g)
 ·exact he
 ·exact absurd (d.trans a2.symm) (hp a j c b f)
theorem KW {g:Nat->Option (Ob S)} {nb:Nat} {roots:Γ}:(kept g nb roots).Nodup:=by
 have:=lX (g:=g) (nb:=nb) (n:=1000) (t:=roots) Fj;unfold kept;rw[ζq];exact⟨List.nodup_range,this.nd,λa c b d e=>by have:=this.ge b d;simp at c;omega⟩
theorem KV {g:Nat->Option (Ob S)} {nb i:Nat} {roots:Γ} (h:i<nb):(kept g nb roots)[i]? =some i:=by
 unfold kept;rw[φ (by simpa using h)];simp[h]
theorem KT {g:Nat->Option (Ob S)} {nb i j:Nat} {roots:Γ} (h:nb<=j) (a:(kept g nb roots)[j]? =some i):nb<=i:=by
 unfold kept at a;rw[ξb (by simpa using h)] at a;exact(lX (g:=g) (nb:=nb) (n:=1000) (t:=roots) Fj).ge i (ξL a)
theorem KU {g:Nat->Option (Ob S)} {nb:Nat} {roots:Γ}:nb<=(kept g nb roots).length:=by unfold kept;simp
theorem Nk {g:Nat->Option (Ob S)}: ∀ {l:Γ} {j:Nat},(fT g l)[j]? =(l[j]?).map g
 |[],j=>by simp[fT]
 |i::r,0=>by simp[fT]
 |i::r,j+1=>by simp[fT,Nk]
theorem Fp: ∀ {h:AH S} {j:Nat},(eQ ρ h)[j]? =(h[j]?).map (l3 ρ)
 |[],j=>by simp[eQ]
 |i::r,0=>by simp[eQ]
 |i::r,j+1=>by simp[eQ,Fp]
theorem l2: ∀ {h:AH S},(eQ ρ h).length=h.length
 |[]=>rfl
 |i::r=>by simp[eQ,l2]
theorem nY {g:Nat->Option (Ob S)}: ∀ {l:Γ},(fT g l).length=l.length
 |[]=>rfl
 |i::r=>by simp[fT,nY]
theorem hJ {h:AH S} {i:Nat} {X:Ob S}:aC h i=some X↔h[i]? =some (some X):=by
 unfold aC;split
 ·rename_i Y a;rw[a];simp
 ·rename_i hn;constructor
  ·intro h;cases h
  ·intro h;exact absurd h (hn X)
theorem qF {X:Option (Ob S)} {a:Ob S} (h:l3 ρ X=some a): ∃Y,X=some Y/\Y.cj ρ=some a:=by
 cases X with
 |none=>cases h
 |some Y=>exact⟨Y,rfl,h⟩
theorem jL {g:Nat->Option (Ob S)} {l:Γ} {j:Nat} {a:Ob S} (h:aC (eQ ρ (fT g l)) j=some a): ∃i X,l[j]? =some i/\g i=some X/\X.cj ρ=some a:=by
 rw[hJ,Fp,Nk] at h;cases hl:l[j]? with
 |none=>rw[hl] at h;cases h
 |some i=>
  rw[hl] at h;simp only[ξx,ι] at h;obtain⟨Y,h1,b⟩:=qF h;exact⟨i,Y,rfl,h1,b⟩
theorem fa {h:AH S} {i:Nat} {X:Ob S} (hi:aC h i=some X):i<h.length:=(ε.1 (hJ.1 hi)).1
end
section
variable {S:bo} {K:Kit S} {P:Program} {R:Type} {z:R}
def ey (P:Program) (f:Nat):Prop:= ∀(vs:Array Value) (u:World),(callFunc f vs).run P u= .ok (.enter f vs) u
def ic (A:Pl) (O:Γ) (w:World):Rs S->Ending->Prop
 | .ret a,e=> ∃v,e= .returned v/\a.rel A O w v
 | .bA u,e=>e= .panicked [{v:=u,recovered:=false}]
structure rQ (A:Pl) (O:Γ) (w:World) (n:Nat) (h':AH S) (dt:Γ) (A':Pl) (O':Γ) (w':World):Prop where
 rel:bK A' O' w' (aC h')
 ob:OB O' w'
 tr:Tr O w O' w'
 pl: ∀i,i<n->A'.pl i=A.pl i
 lt: ∀j∈dt,j<n
 ls:A'.ls=A.ls
 len:n<=h'.length
 free: ∀i,h'.length<=i->A'.pl i=none
 cl: ∀b,b∈O->(∀i∈dt,∀p,A.pl i=some p->bS p≠some b)->w'.heap[b]? =w.heap[b]? /\b∈O'/\ ∀i X p,n<=i->aC h' i=some X->A'.pl i=some p-> ¬cy w' X p b
 nt: ∀i X,i<n->aC h' i=some X->X.nt=true
def cU (K:Kit S) (P:Program) (f:Nat) (afC:List (ay S)) (h:AH S) (r:Rs S) (h':AH S) (dt:Γ):Prop:=ey P f/\ ∀(A:Pl) (O:Γ) (w:World) (xs:Γb),cF A O w afC xs->bK A O w (aC h)->OB O w->cI K O w->(∀i,h.length<=i->A.pl i=none)->(∀i X,aC h i=some X->X.nt=true)->Calls P f xs.toArray w (λe w'=> ∃A' O',ic A' O' w' r e/\rQ A O w h.length h' dt A' O' w')
def jZ (K:Kit S) (P:Program) (a:Nat->List (ay S)->AH S->(Rs S->AH S->Γ->Option R)->Option R):Prop:= ∀(f:Nat) (afC:List (ay S)) (h:AH S) (k:Rs S->AH S->Γ->Option R) (z:R),a f afC h k=some z-> ∃r h' dt,k r h' dt=some z/\cU K P f afC h r h' dt
def Gx (K:Kit S) (P:Program) (f:Nat) (afC:List (ay S)) (g:Nat->Option (Ob S)) (nx:Nat) (r:Rs S) (up:Up S) (nw:AH S):Prop:=ey P f/\ ∀(A:Pl) (O:Γ) (w:World) (xs:Γb),cF A O w afC xs->bK A O w g->OB O w->cI K O w->(∀j,j<nw.length->A.pl (nx+j)=none)->Calls P f xs.toArray w (λe w'=> ∃A' O',ic A' O' w' r e/\b' A O w g (up++news nx nw) A' O' w')
def jQ (b:Value->Up S->AH S->Option R) (k:AV S->Up S->AH S->Option R):Rs S->Up S->AH S->Option R
 | .ret a,up,nw=>k a up nw
 | .bA u,up,nw=>bif u.oneCell' then b u up nw else none
theorem iM {i n:Nat} {X:Option (Ob S)}: ∀ {nw:AH S},(i,X)∈news n nw↔ ∃j,nw[j]? =some X/\i=n+j:=by
 intro nw
 induction nw generalizing n with
 |nil=>simp[news]
 |cons Y r a=>
  simp only[news,τ,ξl,a];constructor
  ·rintro (⟨rfl,rfl⟩|⟨j,h1,rfl⟩)
   ·exact⟨0,rfl,rfl⟩
   ·exact⟨j+1,by simpa using h1,by omega⟩
  ·rintro ⟨j,h1,rfl⟩;cases j with
   |zero=>simp at h1;exact .inl ⟨rfl,h1.symm⟩
   |succ j=>exact .inr ⟨j,by simpa using h1,by omega⟩
theorem F7 {rs:Γ} {ρ:Nat->Option Nat} {h:AH S} {i:Nat} {X:Option (Ob S)}: ∀ {dt:Γ},(i,X)∈jX rs ρ h dt↔ ∃j∈dt,rs[j]? =some i/\X=l3 ρ (aC h j):=by
 intro dt
 induction dt with
 |nil=>simp[jX]
 |cons j r c=>
  simp only[jX];split
  ·rename_i e d;simp only[τ,ξl,c,exists_eq_or_imp,d,ι];constructor
   ·rintro (⟨rfl,rfl⟩|h)
    ·exact .inl ⟨rfl,rfl⟩
    ·exact .inr h
   ·rintro (⟨rfl,rfl⟩|h)
    ·exact .inl ⟨rfl,rfl⟩
    ·exact .inr h
  ·rename_i hn;rw[c];constructor
   ·rintro ⟨b,h1,a⟩;exact⟨b,μ _ h1,a⟩
   ·rintro ⟨b,h1,a⟩;rcases τ.1 h1 with rfl|h1
    ·rw[hn] at a;cases a.1
    ·exact⟨b,h1,a⟩
theorem adl {ρ:Nat->Option Nat} {h:AH S} {m j:Nat} {X:Option (Ob S)} (a:(eQ ρ (h.drop m))[j]? =some X):m+j<h.length/\X=l3 ρ (aC h (m+j)):=by
 rw[Fp,ζm] at a;cases b:h[m+j]? with
 |none=>rw[b] at a;cases a
 |some Y=>
  rw[b] at a;simp only[ξx,ι] at a;refine⟨(ε.1 b).1,?_⟩;subst a;unfold aC;rw[b];cases Y<;>rfl
theorem IZ {aj:Nat->List (ay S)->AH S->(Rs S->AH S->Γ->Option R)->Option R} (aL:jZ K P aj) {f nx:Nat} {afC:List (ay S)} {g:Nat->Option (Ob S)} {af:Value->Up S->AH S->Option R} {k:AV S->Up S->AH S->Option R}
  (h:s' aj f afC g nx af k=some z): ∃r up nw,jQ af k r up nw=some z/\Gx K P f afC g nx r up nw:=by
 unfold s' at h;obtain⟨rs,av⟩: ∃rs,rs=reach g 0 1000 (jN afC) []:=⟨_,rfl⟩;have J:Reach g 0 rs:=by rw[av];exact lX Fj
 simp only[<-av] at h;split at h
 ·cases h
 rename_i a8 has;obtain⟨r,h',dt,hk,aM,aF⟩:=aL _ _ _ _ _ h;obtain⟨y,aa⟩: ∃y:Nat->Option Nat,y=λj=>bif υ j rs.length then rs[j]? else some (nx+(j-rs.length)):=⟨_,rfl⟩;simp only[<-aa] at hk;obtain⟨ab,aQ,aZ⟩: ∃ab,jQ af k ab (jX rs y h' dt) (eQ y (h'.drop rs.length))=some z/\(∀(A1 A':Pl) (O':Γ) (w':World) (e:Ending),f_ y A1 A'->ic A1 O' w' r e->ic A' O' w' ab e):=by
  cases r with
  |ret a=>
   simp only at hk;split at hk
   ·rename_i a' aI;exact⟨.ret a',hk,λA1 A' O' w' e J ⟨v,h1,d⟩=>⟨v,h1,AV.hN J aI d⟩⟩
   ·cases hk
  |bA u=>exact⟨.bA u,hk,λA1 A' O' w' e J h=>h⟩
 refine⟨ab,_,_,aQ,aM,λA O w xs aH ad hO aD M=>?_⟩;obtain⟨H,D⟩: ∃H:Pl,H=⟨λj=>(rs[j]?).bind A.pl,A.ls⟩:=⟨_,rfl⟩;have aE:f_ (λi=>posOf i rs 0) A H:=⟨λi j p hi hp=>by
  have:=n3 hi;rw[D];simp only[this,ξo];exact hp,by rw[D]⟩
 have hlen:(eQ (λi=>posOf i rs 0) (fT (nQ g) rs)).length=rs.length:=by rw[l2,nY]
 have aT: ∀j U,aC (eQ (λi=>posOf i rs 0) (fT (nQ g) rs)) j=some U->U.nt=true:=λj U E=>by
  obtain⟨i,X,_,d,n⟩:=jL E;rw[Ob.wh n];exact(MP d).2
 have aO:bK H O w (aC (eQ (λi=>posOf i rs 0) (fT (nQ g) rs))):=
  ad.cj (idx:=λj=>rs[j]?) (ρ:=λi=>posOf i rs 0) (λj=>by rw[D]) (by rw[D]) (λi j bb h1 d=>vy J.nd h1 d) (λi j hi=>n3 hi) (λj U E=>by
   obtain⟨i,X,h1,d,n⟩:=jL E;exact⟨i,X,h1,(MP d).1,n⟩)
 refine(aF H O w xs (qE aE has aH) aO hO aD (λi hi=>by rw[hlen] at hi;rw[D];simp[ξg hi]) aT).mono ?_;rintro e w' ⟨A1,O1,aY,hp⟩;rw[hlen] at hp;obtain⟨nw,ae⟩: ∃nw,nw=eQ y (h'.drop rs.length):=⟨_,rfl⟩;rw[<-ae] at M ⊢;have ba:nw.length=h'.length-rs.length:=by rw[ae,l2,ξn]
 obtain⟨A',N⟩: ∃A':Pl,A'=⟨λi=>match A.pl i with|some p=>some p|none=>bif ξH nx i&&υ i (nx+nw.length) then A1.pl (rs.length+(i-nx)) else none,A.ls⟩:=⟨_,rfl⟩;have hold: ∀i p,A.pl i=some p->A'.pl i=some p:=λi p hp=>by rw[N];simp[hp]
 have aB: ∀j,j<rs.length->A1.pl j=(rs[j]?).bind A.pl:=λj E=>by rw[hp.pl j E,D]
 have aS: ∀c p,rs.length<=c->A1.pl c=some p->A'.pl (nx+(c-rs.length))=some p:=by
  intro c p t B;have G:c<h'.length:=by
   rcases ω c h'.length with h1|h1
   ·exact h1
   ·rw[hp.free c h1] at B;cases B
  have aN:=M (c-rs.length) (by omega);rw[N];simp only[aN];rw[ζE.mpr (ξI _ _),ο.mpr (show nx+(c-rs.length)<nx+nw.length by omega)];simp only[Bool.and_self,cond_true];rw[show rs.length+(nx+(c-rs.length)-nx)=c by omega];exact B
 have Q:f_ y A1 A':=⟨λc i p t B=>by
  rw[aa] at t;simp only at t;cases l:υ c rs.length with
  |true=>
   rw[l] at t;simp only[cond_true] at t;rw[aB c (ο.mp l),t] at B;exact hold i p B
  |false=>
   rw[l] at t;simp only[cond_false,ι] at t;subst t;refine aS c p ?_ B;rcases ω c rs.length with h1|h1
   ·rw[ο.mpr h1] at l;cases l
   ·exact h1,by rw[N];rw[hp.ls,D]⟩
 have c9: ∀i X,(i,X)∈jX rs y h' dt++news nx nw-> ∃c,y c=some i/\X=l3 y (aC h' c)/\((c<rs.length/\c∈dt/\rs[c]? =some i)\/(rs.length<=c/\i=nx+(c-rs.length)/\c-rs.length<nw.length)):=by
  intro i X hi;rcases ψ.1 hi with hi|hi
  ·obtain⟨c,h1,d,n⟩:=F7.1 hi;have G:=(ε.1 d).1;exact⟨c,by rw[aa];simp only[ο.mpr G,cond_true];exact d,n,.inl ⟨G,h1,d⟩⟩
  ·obtain⟨j,h1,rfl⟩:=iM.1 hi;have a_:=(ε.1 h1).1;rw[ae] at h1;obtain⟨d,n⟩:=adl h1;refine⟨rs.length+j,?_,n,.inr ⟨by omega,by omega,by omega⟩⟩;rw[aa];have:υ (rs.length+j) rs.length=false:=by
    cases l:υ (rs.length+j) rs.length with
    |false=>rfl
    |true=>have:=ο.mp l;omega
   simp only[this,cond_false]
   congr 1;omega
 have live: ∀c i:Nat,rs[c]? =some i-> ∃Z p,g i=some Z/\A.pl i=some p:=by
  intro c i t;obtain⟨Z,L⟩:=J.al i (ξL t);obtain⟨p,hp,_⟩:=ad.al i Z L;exact⟨Z,p,L,hp⟩
 have inj: ∀c m i:Nat,y c=some i->y m=some i->((c<rs.length/\rs[c]? =some i)\/(rs.length<=c/\i=nx+(c-rs.length)/\c-rs.length<nw.length))->((m<rs.length/\rs[m]? =some i)\/(rs.length<=m/\i=nx+(m-rs.length)/\m-rs.length<nw.length))->c=m:=by
  rintro c m i _ _ (⟨h1,d⟩|⟨h1,d,n⟩) (⟨o,s⟩|⟨o,s,x⟩)
  ·exact vy J.nd d s
  ·obtain⟨Z,p,_,hp⟩:=live c i d;rw[s,M _ x] at hp;cases hp
  ·obtain⟨Z,p,_,hp⟩:=live m i s;rw[d,M _ n] at hp;cases hp
  ·omega
 have src: ∀ {c i:Nat},((c<rs.length/\c∈dt/\rs[c]? =some i)\/(rs.length<=c/\i=nx+(c-rs.length)/\c-rs.length<nw.length))->((c<rs.length/\rs[c]? =some i)\/(rs.length<=c/\i=nx+(c-rs.length)/\c-rs.length<nw.length)):=
  λh=>h.imp (λ⟨a,_,b⟩=>⟨a,b⟩) id
 refine⟨A',O1,aZ A1 A' O1 w' e Q aY,⟨⟨hold,by rw[N]⟩,hp.tr,hp.ob,?_,?_,?_,?_,?_,?_,?_⟩⟩
 ·intro b l hk;obtain⟨F,ag,_⟩:=hp.cl b l λc t p B=>by
   have G:=hp.lt c t;rw[D] at B;obtain⟨i,hi,W⟩:=ξX.1 B;exact hk i _ p (ξ9 _ (F7.2 ⟨c,t,hi,rfl⟩)) W
  exact⟨F,ag⟩
 ·intro i X hi;obtain⟨c,h1,d,n⟩:=c9 i _ hi;obtain⟨Y,C,I⟩:=qF d.symm;obtain⟨p,F,ag,bc⟩:=hp.rel.al c Y C;refine⟨p,Q.pl c i p h1 F,Ob.hN Q I ag,λb l=>?_⟩;have l:=Ob.l4 I l;have ao:=hp.rel.gC C F l;refine⟨ao,?_⟩;rcases ω b w.heap.size with G|aP
  rotate_left
  ·exact .inl aP
  right;have aJ:b∈O:=by
   rcases Decidable.em (b∈O) with h|h
   ·exact h
   ·exact absurd ao (hp.tr.keep b G h).1
  rcases Classical.em (∀i∈dt,∀p,H.pl i=some p->bS p≠some b) with T|T
  ·obtain⟨_,_,aA⟩:=hp.cl b aJ T;rcases n with⟨o,s,x⟩|⟨o,s,x⟩
   ·exact absurd (eN (hp.nt c Y o C) l) (T c s p (by rw[<-hp.pl c o];exact F))
   ·exact absurd l (aA c Y p o C F)
  ·simp only[Classical.not_forall,Decidable.not_not] at T;obtain⟨m,aK,q,au,aX⟩:=T;rw[D] at au;obtain⟨aw,aq,aV⟩:=ξX.1 au;obtain⟨V,_,aG,_⟩:=live m aw aq;exact⟨aw,_,q,V,ξ9 _ (F7.2 ⟨m,aK,aq,rfl⟩),aG,aV,.inl aX⟩
 ·intro i j X Y p q b aR hi E aU aW;obtain⟨c,h1,d,n⟩:=c9 i _ hi;obtain⟨m,o,s,x⟩:=c9 j _ E;obtain⟨ah,C,I⟩:=qF d.symm;obtain⟨ai,ax,a1⟩:=qF s.symm;obtain⟨a6,F,_⟩:=hp.rel.al c ah C;obtain⟨a7,az,_⟩:=hp.rel.al m ai ax;have ak:=Q.pl c i a6 h1 F;have an:=Q.pl m j a7 o az;rw[aU] at ak;rw[aW] at an;cases ak;cases an;exact λu v=>hp.rel.gb c m ah ai p q b (λe=>aR (by subst e;rw[h1] at o;exact ξA o)) C ax F az (Ob.l4 I u) (Ob.l4 a1 v)
 ·intro i X Y hi E;obtain⟨c,h1,d,n⟩:=c9 i _ hi;obtain⟨m,o,s,x⟩:=c9 i _ E;have:=inj c m i h1 o (src n) (src x);subst this;rw[d,s]
 ·intro i X p hi W;obtain⟨c,h1,d,n⟩:=c9 i _ hi;rcases n with⟨o,s,x⟩|⟨o,s,x⟩
  ·obtain⟨Z,_,L,_⟩:=live c i x;exact⟨Z,L⟩
  ·rw[s,M _ x] at W;cases W
 ·intro i;rw[N];cases hi:A.pl i with
  |some p=>left;simp[hi]
  |none=>
   simp only[hi];cases l:(ξH nx i&&υ i (nx+nw.length)) with
   |false=>left;rfl
   |true=>
    simp only[η] at l;have h1:=ξ5 l.1;have d:=ο.mp l.2;have G:i-nx<nw.length:=by omega
    exact .inr ⟨trivial,nw[i-nx],ξ7 _ (iM.2 ⟨i-nx,σ G,by omega⟩)⟩
 ·intro i X Z hi L hn;obtain⟨c,h1,d,n⟩:=c9 i _ hi;obtain⟨Y,C,I⟩:=qF d.symm;rw[Ob.wh I];rcases n with⟨o,s,x⟩|⟨o,s,x⟩
  ·exact hp.nt c Y o C
  ·obtain⟨p,ar,_⟩:=ad.al i Z L;rw[s,M _ x] at ar;cases ar
def eC (K:Kit S) (P:Program) (f:Nat) (afC:List (ay S)) (r:Rs S):Prop:=ey P f/\ ∀(A:Pl) (O:Γ) (w:World) (xs:Γb),cF A O w afC xs->OB O w->cI K O w->Calls P f xs.toArray w (λe w'=>ic A O w' r e/\Fr [] w w')
theorem LV.lH {A A':Pl} {O O':Γ} {w w':World} {l:LV S} {xs:Γb} (a:l.flat=true) (h:l.rel A O w xs):l.rel A' O' w' xs:=by
 cases l<;>first|exact h|cases a
theorem JP {A A':Pl} {O O':Γ} {w w':World}: ∀ {ls:List (LV S)} {xs:Γb},ls.all LV.flat=true->bB A O w ls xs->bB A' O' w' ls xs
 |[],_,_,h=>h
 |l::ls,_,hp,⟨y,ys,h,h1,a⟩=>by
  simp only[ξB,η] at hp;exact⟨y,ys,h,LV.lH hp.1 h1,JP hp.2 a⟩
theorem ay.lH {A A':Pl} {O O':Γ} {w w':World} {a:ay S} {x:Value} (b:a.flat=true) (h:a.rel A O w x):a.rel A' O' w' x:=by
 cases a with
 |one l=>exact LV.lH b h
 |agg ls=>obtain⟨xs,h1,c⟩:=h;exact⟨xs,h1,JP b c⟩
theorem JO {A A':Pl} {O O':Γ} {w w':World}: ∀ {ls:List (ay S)} {xs:Γb},ls.all ay.flat=true->cF A O w ls xs->cF A' O' w' ls xs
 |[],_,_,h=>h
 |l::ls,_,hp,⟨y,ys,h,h1,a⟩=>by
  simp only[ξB,η] at hp;exact⟨y,ys,h,ay.lH hp.1 h1,JO hp.2 a⟩
theorem AV.lH {A A':Pl} {O O':Γ} {w w':World} {a:AV S} {x:Value} (b:a.flat=true) (h:a.rel A O w x):a.rel A' O' w' x:=by
 cases a with
 |s l=>exact ay.lH b h
 |br ls=>obtain⟨xs,h1,c⟩:=h;exact⟨xs,h1,JO b c⟩
theorem Yj {A:Pl} {O:Γ} {w w':World} {g:Nat->Option (Ob S)} {rs:Γ} (hO:OB O w) (hl: ∀r∈rs,∃Z,g r=some Z) (a:Fr [] w w'):b' A O w g (fp rs) A (dm A rs O) w' where
 le:=Pl.le.refl A
 tr:=(Tr.less eE).trans a.dX
 ob:=a.ob λb f=>hO b (eE b f)
 keep c d h:=⟨a.block c (hO c d) (by simp),hG.2 ⟨d,λr k p hp=>h r none p (ed.2 ⟨k,rfl⟩) hp⟩⟩
 al i Y h:=by have:=(ed.1 h).2;cases this
 dj i j Y Z q r c _ h:=by have:=(ed.1 h).2;cases this
 nd i Y Z h1 e:=(ed.1 h1).2.trans (ed.1 e).2.symm
 lv i Y q h _:=hl i (ed.1 h).1
 pl _:=.inl rfl
 nt i X Z h _ _:=by have:=(ed.1 h).2;cases this
theorem Cb {A:Pl} {O:Γ} {w w':World} {g:Nat->Option (Ob S)} (hO:OB O w) (a:Fr [] w w'):b' A O w g [] A O w':=
 ⟨Pl.le.refl A,a.dX,a.ob hO,λb c _=>⟨a.block b (hO b c) (by simp),c⟩,(λ_ _ h=>nomatch h),(λ_ _ _ _ _ _ _ _ h=>nomatch h),(λ_ _ _ h=>nomatch h),(λ_ _ _ h=>nomatch h),(λ_=>.inl rfl),(λ_ _ _ h=>nomatch h)⟩
theorem J8 {g:Nat->Option (Ob S)} {l l':LV S} {rs:Γ} (h:iG K g l=some (l',rs)): ∀r∈rs,∃e xs,g r=some (.row e xs):=by
 intro r a;cases l with
 |own c=>
  simp only[iG] at h;split at h
  rotate_left
  ·cases h
  rename_i e ys b;split at h
  ·cases h;simp at a;subst a;exact⟨e,ys,b⟩
  ·cases h
 |v u=>cases h;cases a
 |ao t x=>cases h;cases a
 |ptr t x q=>cases h;cases a
 |bu k n gs=>cases h;cases a
 |b2 n gs=>cases h;cases a
 |_=>cases h
theorem J' {g:Nat->Option (Ob S)}: ∀ {ls i:List (LV S)} {rs:Γ},kt K g ls=some (i,rs)-> ∀r∈rs,∃e xs,g r=some (.row e xs)
 |[],_,_,h,r,c=>by cases h;cases c
 |l::ls,_,_,h,r,c=>by
  simp only[kt] at h;split at h
  ·rename_i l' a d;split at h
   ·rename_i j b f;cases h;rcases ψ.1 c with c|c
    ·exact J8 d r c
    ·exact J' f r c
   ·cases h
  ·cases h
theorem J6 {g:Nat->Option (Ob S)}: ∀ {ls j:List (ay S)} {rs:Γ},iF K g ls=some (j,rs)-> ∀r∈rs,∃e xs,g r=some (.row e xs)
 |[],_,_,h,r,d=>by cases h;cases d
 |l::ls,_,_,h,r,d=>by
  simp only[iF] at h;split at h
  ·rename_i l' a c;split at h
   ·rename_i m b i;cases h;rcases ψ.1 d with d|d
    ·cases l with
     |one l0=>
      simp only[jD] at c;split at c
      ·rename_i x y f;cases c;exact J8 f r d
      ·cases c
     |agg k=>
      simp only[jD] at c;split at c
      ·rename_i x y f;cases c;exact J' f r d
      ·cases c
    ·exact J6 i r d
   ·cases h
  ·cases h
section
variable {G:bw S} {A:Pl} {O:Γ} {w w':World} {g:Nat->Option (Ob S)} {rs:Γ}
theorem Y5 (c:bW G.K P) (d:bK A O w g) {l:LV S} {xs:Γb} (h:l.rel A O w xs):(lI G g rs l).rel A (dm A rs O) w xs:=by
 have same:l.rel A (dm A rs O) w xs:=h.tr (Tr.less eE) (Pl.le.refl A);unfold lI;split
 ·rename_i r;cases hm:dA r rs
  ·exact same
  ·simp only[cond_true];split
   ·rename_i l' a hl;refine(CV c d (all:=rs) hl h λf b=>?_).1;have e:a=[r]:=by
     simp only[iG] at hl;split at hl
     rotate_left
     ·cases hl
     split at hl<;>cases hl;rfl
    subst e;simp at b;subst b;exact gI.1 hm
   ·exact same
 ·exact same
theorem JX (a:bW G.K P) (b:bK A O w g): ∀ {ls:List (LV S)} {xs:Γb},bB A O w ls xs->bB A (dm A rs O) w (ls.map (lI G g rs)) xs
 |[],_,h=>h
 |_::_,_,⟨y,ys,h,h1,c⟩=>⟨y,ys,h,Y5 a b h1,JX a b c⟩
theorem nr {i:Nat} {X:Option (Ob S)}: ∀ {l:Γ},(i,X)∈iE G g rs l-> ∃a cs,g i=some (.box a cs)/\X=some (.box a (cs.map (lI G g rs)))
 |[],h=>by cases h
 |j::t,h=>by
  simp only[iE] at h;split at h
  ·rename_i a cs c;cases b:Ks rs cs<;>rw[b] at h
   ·exact nr h
   ·rcases τ.1 h with e|h
    ·cases e;exact⟨a,cs,c,rfl⟩
    ·exact nr h
  ·exact nr h
theorem Yi (F:bW G.K P) (u:bK A O w g) (hO:OB O w) (B: ∀r∈rs,∃e xs,g r=some (.row e xs)) (t:Fr [] w w') {l:Γ}:b' A O w g (iE G g rs l++fp rs) A (dm A rs O) w':=by
 have C:Tr (dm A rs O) w (dm A rs O) w':=t.dX;have bx: ∀ {i:Nat} {X:Ob S},(i,some X)∈iE G g rs l++fp rs-> ∃a cs b vs,g i=some (.box a cs)/\X= .box a (cs.map (lI G g rs))/\A.pl i=some (.pointer (some ⟨b,0,none⟩))/\bE w b a vs/\bB A O w cs vs/\b∈O:=by
  intro i X hi;rcases ψ.1 hi with hi|hi
  ·obtain⟨a,cs,h1,n⟩:=nr hi;cases n;obtain⟨p,hp,⟨b,vs,rfl,k,o⟩,x⟩:=u.al i _ h1;exact⟨a,cs,b,vs,h1,rfl,hp,k,o,x b rfl⟩
  ·have:=(ed.1 hi).2;cases this
 refine⟨Pl.le.refl A,(Tr.less eE).trans C,λb x=>Nat.lt_of_lt_of_le (hO b (eE b x)) t.size,λc m h=>⟨t.block c (hO c m) (by simp),hG.2 ⟨m,λr y p hp=>h r none p (ξ7 _ (ed.2 ⟨y,rfl⟩)) hp⟩⟩,?_,?_,?_,?_,λ_=>.inl rfl,?_⟩
 ·intro i X hi;obtain⟨a,cs,b,vs,h1,rfl,k,o,v,s⟩:=bx hi;have H:b∈dm A rs O:=hG.2 ⟨s,λr y p hp J=>by
   obtain⟨e,xs,z⟩:=B r y;exact u.dj i r _ _ _ _ b (λE=>by subst E;rw[h1] at z;cases z) h1 z k hp rfl J⟩
  refine⟨_,k,⟨b,vs,rfl,(t.block b (hO b s) (by simp)).trans o,jO C (Pl.le.refl A) (JX F u v)⟩,λc m=>?_⟩;have m:=eN rfl m;cases m;exact⟨H,.inr ⟨i,_,_,_,hi,h1,k,.inl rfl⟩⟩
 ·intro i j X Y p q b I h1 n k o v s;obtain⟨_,_,_,_,d,rfl,a3,_⟩:=bx h1;obtain⟨_,_,_,_,f,rfl,L,_⟩:=bx n;exact u.dj i j _ _ p q b I d f k o (eN rfl v) (eN rfl s)
 ·intro i X Y h1 n;have D: ∀ {X:Option (Ob S)},(i,X)∈iE G g rs l++fp rs->(∃a cs,g i=some (.box a cs)/\X=some (.box a (cs.map (lI G g rs))))\/((∃e xs,g i=some (.row e xs))/\X=none):=λ{X} h=>by
   rcases ψ.1 h with h|h
   ·exact .inl (nr h)
   ·exact .inr ⟨B i (ed.1 h).1,(ed.1 h).2⟩
  rcases D h1 with⟨a,cs,d,rfl⟩|⟨⟨e,xs,d⟩,rfl⟩<;>rcases D n with⟨Q,M,f,rfl⟩|⟨⟨N,R,f⟩,rfl⟩
  ·rw[d] at f;cases f;rfl
  ·rw[d] at f;cases f
  ·rw[d] at f;cases f
  ·rfl
 ·intro i X p h1 _;rcases ψ.1 h1 with h1|h1
  ·obtain⟨a,cs,d,_⟩:=nr h1;exact⟨_,d⟩
  ·obtain⟨e,xs,d⟩:=B i (ed.1 h1).1;exact⟨_,d⟩
 ·intro i X Z h1 _ _;obtain⟨_,_,_,_,_,rfl,_⟩:=bx h1;rfl
end
structure j0 (G:bw S) (P:Program):Prop where
 C: ∀f a,tQ G.C f=some a-> ∀ {R:Type} (afC:List (ay S)) (k:Rs S->Option R) (z:R),afC.all ay.pure=true->a.out afC k=some z-> ∃r,k r=some z/\eC G.K P f afC r
theorem Vj {G:bw S} (q:bW G.K P) (M:j0 G P) {E:Nat->List (ay S)->AH S->(Rs S->AH S->Γ->Option R)->Option R} (H:jZ G.K P E) {f nx:Nat} {afC:List (ay S)} {g:Nat->Option (Ob S)} {J:Value->Up S->AH S->Option R} {k:AV S->Up S->AH S->Option R}
  (h:BO G E f afC g nx J k=some z): ∃r up nw,jQ J k r up nw=some z/\Gx G.K P f afC g nx r up nw:=by
 unfold BO at h;split at h
 ·rename_i L N;split at h
  ·rename_i D rs o;have T:D.all ay.pure=true:=by
    exact J5 o
   obtain⟨r,hk,t,s⟩:=M.C f L N D _ z T h;cases r with
   |ret a=>
    simp only at hk;cases hp:a.pure<;>rw[hp] at hk
    ·cases hk
    simp only[cond_true] at hk;cases I:a.flat<;>rw[I] at hk
    ·simp only[cond_false] at hk;cases Q:dA f G.F<;>rw[Q] at hk
     ·refine⟨.ret a,fp rs,[],hk,t,λA O w xs j c hO i y=>?_⟩;obtain⟨n,B,x⟩:=lJ q c (all:=rs) o j (λr m=>m);refine(s A (dm A rs O) w xs n (λb l=>hO b (eE b l)) (i.tr (Tr.less eE))).mono ?_;rintro e w' ⟨⟨v,h1,p⟩,d⟩;exact⟨A,dm A rs O,⟨v,h1,p⟩,by simpa[news] using Yj hO x d⟩
     ·refine⟨.ret a,iE G g rs (ξs nx)++fp rs,[],hk,t,λA O w xs j c hO i y=>?_⟩;obtain⟨n,B,x⟩:=lJ q c (all:=rs) o j (λr m=>m);refine(s A (dm A rs O) w xs n (λb l=>hO b (eE b l)) (i.tr (Tr.less eE))).mono ?_;rintro e w' ⟨⟨v,h1,p⟩,d⟩;exact⟨A,dm A rs O,⟨v,h1,p⟩,by simpa[news] using Yi q c hO (J6 o) d⟩
    ·refine⟨.ret a,[],[],hk,t,λA O w xs j c hO i y=>?_⟩;obtain⟨n,B,x⟩:=lJ q c (all:=rs) o j (λr m=>m);refine(s A (dm A rs O) w xs n (λb l=>hO b (eE b l)) (i.tr (Tr.less eE))).mono ?_;rintro e w' ⟨⟨v,h1,p⟩,d⟩;exact⟨A,O,⟨v,h1,AV.lH I p⟩,Cb hO d⟩
   |bA u=>
    refine⟨.bA u,[],[],hk,t,λA O w xs j c hO i y=>?_⟩;obtain⟨n,B,x⟩:=lJ q c (all:=rs) o j (λr m=>m);refine(s A (dm A rs O) w xs n (λb l=>hO b (eE b l)) (i.tr (Tr.less eE))).mono ?_;rintro e w' ⟨h1,d⟩;exact⟨A,O,h1,Cb hO d⟩
  ·exact IZ H h
 ·exact IZ H h
theorem Vm {rr:Option Nat} {n f:Nat} {args:Array Value} {w:World} {Q b:Ending->World->Prop} (h:Calls P f args w Q) (d: ∀e w',Q e w'->b e w'):CallsIn (fw rr) n P f args w b:=by
 refine⟨trivial,λcs _=>?_⟩;obtain⟨e,b8,fr,i,a,c,hl⟩:=h cs;refine⟨e,b8,fr,d e b8 i,?_,c,hl⟩;cases e with
 |outgrown=>exact a
 |returned v=>
  refine ζM (λm _=>?_) (ζx a);intro g _;exact⟨λh=>by simp[fw] at h,Or.inl trivial,λ_ _=>trivial,λ_ h=>by simp[fw] at h⟩
 |panicked j=>
  refine ζM (λm _=>?_) (ζx a);intro g _;exact⟨λh=>by simp[fw] at h,Or.inl trivial,λ_ _=>trivial,λ_ h=>by simp[fw] at h⟩
theorem abt {rr:Option Nat} {o:Oper} {a:Act} {w:World} {f:Nat} {args:Array Value} {post bA:Value->World->Prop} {Q:Ending->World->Prop} (b: ∀c,o.op≠ .defer c) (i:(execOp a.eval o).run P w= .ok (.enter f args) w) (d:Calls P f args w Q)
  (h: ∀e w',Q e w'->(∃v,e= .returned v/\post v w')\/(∃u,e= .panicked [{v:=u,recovered:=false}]/\bA u w')):ib P rr o a w post bA:=by
 refine⟨λ_ _=>trivial,?_⟩;rw[ζn _ _ _ b,i,Oper.uponIn_enter];refine⟨λh=>by simp[fw] at h,Vm d λe w' g=>?_⟩;rcases h e w' g with⟨v,rfl,h1⟩|⟨u,rfl,h1⟩
 ·exact⟨v,rfl,h1⟩
 ·exact⟨u,rfl,rfl,h1⟩
theorem adA {o:Oper} {c:ζ8} {x:Operand} {a:Act} {w:World} {f:Nat} {fs cs:Γb} (e:o.op= .call c) (d:c.callee= .value x) (g:a.eval x= .func (.func f) fs.toArray cs.toArray) (he:ey P f):
  (execOp a.eval o).run P w= .ok (.enter f (fs++c.args.toList.map a.eval++cs).toArray) w:=by
 unfold execOp;rw[e];have b:fs.toArray++c.args.map a.eval++cs.toArray=(fs++c.args.toList.map a.eval++cs).toArray:=by
  rw[<-ζw];simp
 simp only[ξ,resolve,d,g,ζ0,ξh,π,invoke];rw[b];exact he _ w
theorem kX {F:Fence} {n:Nat} {o:Oper} {a:Act} {w:World} {X g:Act->World->Prop} {Q f:Exit->Act->World->Prop} (h: ∀a w,X a w->g a w) (c: ∀e a w,Q e a w->f e a w) (j:o.wpIn F n P a w X Q):o.wpIn F n P a w g f:=by
 obtain⟨h1,b⟩:=j;refine⟨h1,?_⟩;unfold Oper.uponIn at b ⊢;split at b
 ·exact h _ _ b
 ·exact h _ _ b
 ·exact h _ _ b
 ·refine⟨b.1,b.2.1,λcs k=>?_⟩;obtain⟨e,w',fr,d,l⟩:=b.2.2 cs k;refine⟨e,w',fr,?_,l⟩;cases e with
  |returned v=>exact h _ _ d
  |panicked i=>exact c _ _ _ d
  |outgrown=>obtain⟨a',w',q⟩:=d;exact⟨a',w',c _ _ _ q⟩
 ·exact⟨b.1,b.2.mono λv w' q=>h _ _ q⟩
 ·refine⟨b.1,b.2.mono λe w' q=>?_⟩;cases e with
  |returned v=>exact h _ _ q
  |panicked i=>exact c _ _ _ q
  |outgrown=>obtain⟨a',w',q⟩:=q;exact⟨a',w',c _ _ _ q⟩
 ·exact c _ _ _ b
 ·exact b
theorem ib.mono {rr:Option Nat} {o:Oper} {a:Act} {w:World} {post d bA c:Value->World->Prop} (h:ib P rr o a w post bA) (h1: ∀v w',post v w'->d v w') (j: ∀v w',bA v w'->c v w'):ib P rr o a w d c:=
 kX (λa' w' ⟨v,e,k⟩=>⟨v,e,h1 v w' k⟩) (λe a' w' b=>by
  cases e with
  |panic l=>obtain⟨u,f,g,i⟩:=b;exact⟨u,f,g,j u w' i⟩
  |_=>exact b.elim) h
def sR (K:Kit S) (P:Program) (o:Oper) (env:aV S) (g:Nat->Option (Ob S)) (nx:Nat) (r:Rs S) (up:Up S) (nw:AH S):Prop:= ∀(rr:Option Nat) (A:Pl) (O:Γ) (w:World) (a:Act),cL A O w env a->bK A O w g->OB O w->cI K O w->(∀j,j<nw.length->A.pl (nx+j)=none)->ib P rr o a w (λv w'=> ∃b,r= .ret b/\ ∃A' O',b.rel A' O' w' v/\b' A O w g (up++news nx nw) A' O' w') (λu w'=>r= .bA u/\ ∃A' O',b' A O w g (up++news nx nw) A' O' w')
theorem Sound.r {rr:Option Nat} {o:Oper} {env:aV S} {g:Nat->Option (Ob S)} {nx:Nat} {b:AV S} {up:Up S} {nw:AH S} (h:Sound K P rr o env g nx b up nw):sR K P o env g nx (.ret b) up nw:=λrr A O w a h1 c d e f=>by
 exact(h rr A O w a h1 c d e f).mono (λv w' i=>⟨b,rfl,i⟩) (λu w' hu=>hu.elim)
theorem MX {G:bw S} (t:bW G.K P) (L:j0 G P) {s:Nat->List (ay S)->AH S->(Rs S->AH S->Γ->Option R)->Option R} (N:jZ G.K P s) {o:Oper} {env:aV S} {g:Nat->Option (Ob S)} {nx:Nat} {q:Value->Up S->AH S->Option R} {k:AV S->Up S->AH S->Option R}
  (h:nT G s env g nx o q k=some z): ∃r up nw,jQ q k r up nw=some z/\sR G.K P o env g nx r up nw:=by
 have F:qn G.K env g nx k o.type o.op=some z-> ∃r up nw,jQ q k r up nw=some z/\sR G.K P o env g nx r up nw:=λh=>by
  obtain⟨d,up,nw,h1,n⟩:=aaT (rr:=none) t h;exact⟨.ret d,up,nw,h1,n.r⟩
 unfold nT at h;split at h
 ·rename_i c C;split at h
  ·rename_i x E;split at h
   rotate_left
   ·cases h
   rename_i f afC b;obtain⟨r,up,nw,h1,Q,n⟩:=Vj t L N h;refine⟨r,up,nw,h1,λrr A O w a he B hO j V=>?_⟩;have M: ∀c,o.op≠ .defer c:=λc=>by rw[C];simp
   have key: ∀(fs cs:Γb),a.eval x= .func (.func f) fs.toArray cs.toArray->cF A O w afC (fs++c.args.toList.map a.eval++cs)->ib P rr o a w (λv w'=> ∃d,r= .ret d/\ ∃A' O',d.rel A' O' w' v/\b' A O w g (up++news nx nw) A' O' w') (λu w'=>r= .bA u/\ ∃A' O',b' A O w g (up++news nx nw) A' O' w'):=by
    intro fs cs T X;refine abt M (adA C E T Q) (n A O w _ X B hO j V) ?_;rintro e w' ⟨A',O',D,y⟩;cases r with
    |ret d=>
     obtain⟨v,rfl,l⟩:=D;exact .inl ⟨v,rfl,d,rfl,A',O',l,y⟩
    |bA u=>exact .inr ⟨u,D,rfl,A',O',y⟩
   unfold I0 at b;rw[E] at b;simp only at b;split at b
   ·rename_i i hi;split at b
    rotate_left
    ·cases b
    rename_i I fs cs W;split at b
    rotate_left
    ·cases b
    rename_i H has;cases b;obtain⟨f1,ab,c1,J,l⟩:=b6 he j hi;obtain⟨p,hp,⟨us,vs,rfl,Y,Z⟩,_⟩:=B.al i _ W;rw[J] at hp;cases hp;exact key us vs (by simpa using l) (Fl (Fl Y (lr he j has)) Z)
   ·rename_i u U;split at b
    rotate_left
    ·cases b
    rename_i I fs cs;cases m:(ζ fs.size 0&&ζ cs.size 0)<;>rw[m] at b
    ·cases b
    simp only[cond_true] at b;split at b
    rotate_left
    ·cases b
    rename_i H has;cases b;simp only[η] at m;have aa:=ξG (δ m.1);have z2:=ξG (δ m.2);subst aa;subst z2;have l:=ej (b6 he j U);refine key [] [] l ?_;simpa using lr he j has
   ·cases b
  ·exact F h
 ·cases h
 ·exact F h
end
structure cO where
 A0:Pl
 O0:Γ
 w0:World
 nb:Nat
 live:Nat->Prop
 ex:Option Nat
 rr:Option Nat
def AX.code:AX->Option Code
 | .exit id=>some (.exit id)
 | .ret=>some .ret
 |_=>none
def DQ:Obj->Bool
 | .loop _=>true
 | .deferred _=>true
 |_=>false
section
variable {S:bo} {K:Kit S} {P:Program} {N:Nat} {A A':Pl} {O O':Γ} {w w':World}
def en (O:Γ) (w:World) (l:Nat) (o:Obj):Prop:=Rec w l o/\DQ o=true/\l∈O
theorem c6.vB {X:Ob S} {p:Value} {l:Nat} {o:Obj} (h:c6 A O w X p) (hl:w.heap[l]? =some o) (a:DQ o=true):bS p≠some l:=by
 intro hp;cases X with
 |box t cs=>
  obtain⟨b,vs,rfl,h1,_⟩:=h;cases hp;unfold bE at h1;rw[hl] at h1;cases h1;cases a
 |row e xs=>
  rcases hd h with⟨rfl,_⟩|⟨b,c,rfl⟩
  ·cases hp
  ·cases hp;obtain⟨cs,cur,h1,_⟩:=qx h;rw[hl] at h1;cases h1;cases a
 |map d g m=>
  obtain⟨b,rfl,es,c,h1,_⟩:=h;cases hp;rw[hl] at h1;cases h1;cases a
 |aD f fs cs=>obtain⟨us,vs,rfl,_⟩:=h;cases hp
 |cX s pos=>
  obtain⟨b,rfl,h1⟩:=h;cases hp;rw[hl] at h1;cases h1;cases a
 |cB t e bJ=>
  obtain⟨b,c,cur,rfl,h1,_⟩:=h;cases hp;rw[hl] at h1;cases h1;cases a
theorem c6.aaP {X:Ob S} {p:Value} {l:Nat} {o:Obj} (h:c6 A O w X p) (hl:w.heap[l]? =some o) (g:DQ o=true): ¬cy w X p l:=by
 rintro (hp|hp)
 ·exact h.vB hl g hp
 ·cases X with
  |cB t e bJ=>
   obtain⟨b,c,cur,rfl,h1,_,_,_,_,_,q,_⟩:=h;obtain⟨r,s,t',x,j,u,xs,k,a,m,n,f⟩:=hp;cases k;rw[h1] at a;cases a;have hu:=(q j u xs m n).1;rcases hd hu with⟨rfl,_⟩|⟨d,v,rfl⟩
   ·cases f
   ·cases f;obtain⟨cs,y,i,_⟩:=qx hu;rw[hl] at i;cases i;cases g
  |_=>cases hp
theorem en.ca {g:Nat->Option (Ob S)} {ef:Up S} {l:Nat} {o:Obj} (h:en O w l o) (j:bK A O w g) (e:b' A O w g ef A' O' w'):en O' w' l o:=by
 obtain⟨h1,a,c⟩:=h;obtain⟨k,m⟩:=e.keep l c λi X p hi hp=>by
  obtain⟨Z,f⟩:=e.lv i X p hi hp;obtain⟨n,b,d,_⟩:=j.al i Z f;rw[hp] at b;cases b;exact d.vB h1.1 a
 exact⟨⟨k.trans h1.1,h1.2⟩,a,m⟩
def c7 (n0:Nat) (A:Pl) (O:Γ) (w:World):List (LV S)->List Deferred->Prop
 |df,[]=>df=[]
 |df,d::ds=>(∃D,d=Dc.mark D/\(n0<=D/\Dc.mark D∉ds)/\en O w D (.deferred (some []))/\c7 n0 A O w df ds)\/
  (∃i r f u c,df= .aD i::r/\A.pl i=some (.func f u c)/\d= {target:=.fn f c,args:=u}/\c7 n0 A O w r ds)
def eu (a:hh S) (fn:Nat) (tm:Array Value) (D:Nat):Loop:=
 {state:=(match a.fe with|none=>.ready|some _=>.done),pending:=a.fe.bind AX.code,fn:=fn,tmps:=tm,params:=a.ps.toArray,assign:=a.gz,body:=a.body,defers:=D}
def jb (P:Program) (B:cO) (O:Γ) (w:World):Option (hh S)->Prop
 |none=>True
 |some a=> ∃l fn tm D,B.A0.ls=some l/\B.ex=some l/\en O w l (.loop (eu a fn tm D))/\en O w D (.deferred (some []))/\cL B.A0 O w a.env {tmps:=tm,defers:=[]}/\tm.size=a.J.fn.ntmps
structure bn (K:Kit S) (P:Program) (N:Nat) (B:cO) (A:Pl) (O:Γ) (w:World) (st:AS S) (a:Act):Prop where
 size:a.tmps.size=N
 env:cL A O w st.env a
 rel:bK A O w (aC st.h)
 ob:OB O w
 c_:cI K O w
 free: ∀i,st.h.length<=i->A.pl i=none
 nb:st.nb=B.nb
 le:B.nb<=st.h.length
 tr:Tr B.O0 B.w0 O w
 pl: ∀i,i<B.nb->A.pl i=B.A0.pl i
 ls:A.ls=B.A0.ls
 lv: ∀i X,i<B.nb->aC st.h i=some X->B.live i
 cl: ∀b,b∈B.O0->B.ex≠some b->(∀i∈st.dt,B.live i-> ∀p,B.A0.pl i=some p->bS p≠some b)->w.heap[b]? =B.w0.heap[b]? /\b∈O/\ ∀i X p,B.nb<=i->aC st.h i=some X->A.pl i=some p-> ¬cy w X p b
 df:c7 B.w0.heap.size A O w st.df a.defers
 lp:jb P B O w st.lp
 dl:(st.lp.isSome||st.inr)=true->a.defers=[]
 hi: ∀i,B.nb<=i->B.A0.pl i=none
 o0:OB B.O0 B.w0
 rr:st.inr=false->B.rr=none
 nt: ∀i X,i<B.nb->aC st.h i=some X->X.nt=true
theorem c7.ca {n0:Nat} {g:Nat->Option (Ob S)} {ef:Up S} (j:bK A O w g) (e:b' A O w g ef A' O' w'): ∀ {ds:List Deferred} {df:List (LV S)},c7 n0 A O w df ds->c7 n0 A' O' w' df ds
 |[],df,h=>h
 |d::ds,df,h=>by
  rcases h with⟨D,h1,k,a,b⟩|⟨i,r,f,u,c,h1,a,b,l⟩
  ·exact .inl ⟨D,h1,k,a.ca j e,c7.ca j e b⟩
  ·exact .inr ⟨i,r,f,u,c,h1,e.le.at_ _ _ a,b,c7.ca j e l⟩
theorem jb.ca {B:cO} {g:Nat->Option (Ob S)} {ef:Up S} (a:bK A O w g) (e:b' A O w g ef A' O' w'): ∀ {lp:Option (hh S)},jb P B O w lp->jb P B O' w' lp
 |none,h=>h
 |some j,⟨l,fn,tm,D,h1,b,c,d,f,i⟩=>⟨l,fn,tm,D,h1,b,c.ca a e,d.ca a e,f.tr e.tr (Pl.le.refl _),i⟩
theorem jo {nb x:Nat}: ∀ {l dt:Γ},x∈dt->x∈e0 nb dt l
 |[],dt,h=>h
 |i::r,dt,h=>by
  simp only[e0];refine jo ?_;cases (υ i nb&&!(dA i dt)) with
  |true=>exact ξ9 _ h
  |false=>exact h
theorem kh {nb x:Nat} (a:x<nb): ∀ {l dt:Γ},x∈l->x∈e0 nb dt l
 |i::r,dt,h=>by
  simp only[e0];rcases τ.1 h with e|h
  ·subst e;refine jo ?_;rw[ο.mpr a,ξW];cases hm:dA x dt with
   |true=>exact gI.1 hm
   |false=>exact ξ7 _ ν
  ·exact kh a h
theorem iU: ∀ {up:Up S} {h:AH S},(ew h up).length=h.length
 |[],h=>rfl
 |(i,X)::r,h=>by simp[ew,iU]
theorem Pw: ∀ {up:Up S} {h:AH S} {i:Nat},(∀j∈keys up,j<h.length)->i<h.length->aC (ew h up) i=b1 (aC h) up i
 |[],h,i,_,_=>rfl
 |(j,X)::r,h,i,hk,hi=>by
  have c:=hk j (by simp[keys]);rw[ew,Pw (λq a=>by rw[ξf];exact hk q (by simp[keys,a])) (by rw[ξf];exact hi)];simp only[b1]
  congr 1
  funext q
  unfold aC;rw[ξD]
  by_cases a:j=q
  ·subst a;simp[c];cases X<;>rfl
  ·have d:ζ j q=false:=by
    cases b:ζ j q with
    |false=>rfl
    |true=>exact absurd (δ b) a
   simp[a,d]
theorem nD {i:Nat}: ∀ {up:Up S},i∈keys up↔ ∃X,(i,X)∈up
 |[]=>by simp[keys]
 |(j,X)::r=>by
  simp only[keys,τ,nD,ξl];constructor
  ·rintro (rfl|⟨Y,h⟩)
   ·exact⟨X,.inl ⟨rfl,rfl⟩⟩
   ·exact⟨Y,.inr h⟩
  ·rintro ⟨Y,⟨rfl,rfl⟩|h⟩
   ·exact .inl rfl
   ·exact .inr ⟨Y,h⟩
theorem P0 {g:Nat->Option (Ob S)}: ∀ {u v:Up S},b1 g (u++v)=b1 (b1 g u) v
 |[],v=>rfl
 |(j,X)::r,v=>by
  funext i
  simp only[ζ1,b1];rw[P0]
theorem aaJ {n:Nat} {nw:AH S} {i:Nat} {X Y:Option (Ob S)} (h1:(i,X)∈news n nw) (c:(i,Y)∈news n nw):X=Y:=by
 obtain⟨j,b,a2⟩:=iM.1 h1;obtain⟨d,a,e⟩:=iM.1 c;have:j=d:=by omega
 subst this;rw[b] at a;exact ξA a
theorem tj {h:AH S} {up:Up S} {nw:AH S} (hk: ∀j∈keys up,j<h.length):aC (ew h up++nw)=b1 (aC h) (up++news h.length nw):=by
 funext i
 rw[P0]
 by_cases hi: ∃X,(i,X)∈news h.length nw
 ·obtain⟨X,a⟩:=hi;rw[mg a λY d=>aaJ d a];obtain⟨j,h1,rfl⟩:=iM.1 a;unfold aC;rw[ξb (by rw[iU];omega),iU,ξV,h1];cases X<;>rfl
 ·rw[ei (λX a=>hi ⟨X,a⟩)];rcases ω i h.length with b|e
  ·rw[<-Pw hk b];unfold aC;rw[φ (by rw[iU];exact b)]
  ·have hn:(ew h up++nw)[i]? =none:=by
    rw[ξb (by rw[iU];omega),iU,ξS];rcases ω (i-h.length) nw.length with h1|h1
    ·exact absurd ⟨nw[i-h.length],iM.2 ⟨i-h.length,σ h1,by omega⟩⟩ hi
    ·exact h1
   have c:aC h i=none:=by unfold aC;rw[ξg e]
   rw[ei (λX a=>by have:=hk i (nD.2 ⟨X,a⟩);omega),c];unfold aC;rw[hn]
theorem lh {h:AH S} {up:Up S} (a:eX (aC h) up=true): ∀j∈keys up,∃X,aC h j=some X:=by
 intro j b;unfold eX at a;rw[ξ4] at a;have:=a j b;cases c:aC h j with
 |none=>rw[c] at this;cases this
 |some X=>exact⟨X,rfl⟩
variable {B:cO} {st:AS S} {a:Act}
theorem bn.ca {up:Up S} {nw:AH S} (h:bn K P N B A O w st a) (m:eX (aC st.h) up=true) (e:b' A O w (aC st.h) (up++news st.h.length nw) A' O' w'):bn K P N B A' O' w' (st.ca up nw) a:=by
 have hk: ∀j∈keys up,j<st.h.length:=λj n=>by
  obtain⟨X,d⟩:=lh m j n;exact fa d
 have t:=tj (nw:=nw) hk;have hlen:(ew st.h up++nw).length=st.h.length+nw.length:=by rw[χ,iU]
 have v: ∀i X,(i,X)∈up++news st.h.length nw->i∈keys up\/st.h.length<=i:=by
  intro i X hi;rcases ψ.1 hi with hi|hi
  ·exact .inl (nD.2 ⟨X,hi⟩)
  ·obtain⟨j,_,rfl⟩:=iM.1 hi;exact .inr (ξI _ _)
 have low: ∀i,i<st.h.length->A'.pl i=A.pl i:=by
  intro i hi;rcases e.pl i with h1|⟨h1,X,d⟩
  ·exact h1
  ·rcases v i X d with r|r
   ·obtain⟨Y,f⟩:=lh m i r;obtain⟨p,hp,_⟩:=h.rel.al i Y f;rw[h1] at hp;cases hp
   ·omega
 have E:=h.rel.ca h.ob e;rw[<-t] at E;refine⟨h.size,h.env.tr e.tr e.le,E,e.ob,h.c_.tr e.tr,?_,h.nb,?_,h.tr.trans e.tr,?_,e.le.ls.trans h.ls,?_,?_,c7.ca h.rel e h.df,jb.ca h.rel e h.lp,h.dl,h.hi,h.o0,h.rr,?_⟩
 ·intro i hi;have hi:st.h.length+nw.length<=i:=by rw[<-hlen];exact hi
  rcases e.pl i with h1|⟨h1,X,d⟩
  ·rw[h1];exact h.free i (by omega)
  ·rcases ψ.1 d with d|d
   ·have:=hk i (nD.2 ⟨X,d⟩);omega
   ·obtain⟨j,r,rfl⟩:=iM.1 d;have:=(ε.1 r).1;omega
 ·show B.nb<=(ew st.h up++nw).length;rw[hlen];have:=h.le;omega
 ·intro i hi;have:=h.le;rw[low i (by omega)];exact h.pl i hi
 ·intro i X hi d;rw[show aC (st.ca up nw).h=b1 (aC st.h) (up++news st.h.length nw) from t] at d;have:=h.le
  by_cases k: ∃Y,(i,Y)∈up++news st.h.length nw
  ·obtain⟨Y,f⟩:=k;rcases v i Y f with h1|h1
   ·obtain⟨Z,g⟩:=lh m i h1;exact h.lv i Z hi g
   ·omega
  ·rw[ei λY f=>k ⟨Y,f⟩] at d;exact h.lv i X hi d
 ·intro b I M z;have L: ∀i∈st.dt,B.live i-> ∀p,B.A0.pl i=some p->bS p≠some b:=λi hi=>z i (jo hi);obtain⟨c1,c2,x⟩:=h.cl b I M L;have F: ∀i X p,(i,X)∈up++news st.h.length nw->A.pl i=some p->bS p≠some b:=by
   intro i X p hi hp;rcases v i X hi with h1|h1
   ·rcases ω i B.nb with o|s
    ·obtain⟨Y,f⟩:=lh m i h1;exact z i (kh (by rw[h.nb];exact o) h1) (h.lv i Y o f) p (by rw[<-h.pl i o];exact hp)
    ·obtain⟨Y,f⟩:=lh m i h1;exact λl=>x i Y p s f hp (.inl l)
   ·rw[h.free i h1] at hp;cases hp
  obtain⟨R,T⟩:=e.keep b c2 F;have U: ∀i X p Z,(i,X)∈up++news st.h.length nw->aC st.h i=some Z->A.pl i=some p-> ¬cy w Z p b:=by
   intro i X p Z hi g hp l;rcases ω i B.nb with o|s
   ·exact F i X p hi hp (eN (h.nt i Z o g) l)
   ·exact x i Z p s g hp l
  refine⟨R.trans c1,T,?_⟩;intro i X p hi d hp l;rw[show aC (st.ca up nw).h=b1 (aC st.h) (up++news st.h.length nw) from t] at d
  by_cases k: ∃Y,(i,Y)∈up++news st.h.length nw
  ·obtain⟨Y,f⟩:=k;rw[mg f λZ g=>e.nd i Z Y g f] at d;subst d;obtain⟨W,D,_,J⟩:=e.al i X f;rw[hp] at D;cases D;rcases(J b l).2 with s|⟨j,Z,q,V,n,H,u,Q⟩
   ·have:=h.ob b c2;omega
   ·exact U j Z q V n H u Q
  ·have C: ∀Y,(i,Y)∉up++news st.h.length nw:=λY f=>k ⟨Y,f⟩;rw[ei C] at d;rw[low i (fa d)] at hp;refine x i X p hi d hp (kp (λc y=>?_) l);refine(e.keep c (h.rel.gC d hp (.inl y)) λj Y q n u=>?_).1;obtain⟨Z,g⟩:=e.lv j Y q n u;exact h.rel.dj i j X Z p q c (λG=>by subst G;exact C Y n) d g hp u y
 ·intro i X hi d;rw[show aC (st.ca up nw).h=b1 (aC st.h) (up++news st.h.length nw) from t] at d;have:=h.le
  by_cases k: ∃Y,(i,Y)∈up++news st.h.length nw
  ·obtain⟨Y,f⟩:=k;rcases v i Y f with h1|h1
   ·obtain⟨Z,g⟩:=lh m i h1;rw[mg f λZ g=>e.nd i Z Y g f] at d;subst d;exact e.nt i X Z f g (h.nt i Z hi g)
   ·omega
  ·rw[ei λY f=>k ⟨Y,f⟩] at d;exact h.nt i X hi d
theorem bn.put {d:Nat} {g:AV S} {v:Value} (h:bn K P N B A O w st a) (j:υ d N=true) (m:g.rel A O w v):bn K P N B A O w {st with env:=(d,g)::st.env} (a.put (some d) v):=by
 have k:d<a.tmps.size:=by rw[h.size];exact ο.mp j
 refine⟨by simp[ζA,h.size],?_,h.rel,h.ob,h.c_,h.free,h.nb,h.le,h.tr,h.pl,h.ls,h.lv,h.cl,h.df,h.lp,h.dl,h.hi,h.o0,h.rr,h.nt⟩;intro s b c;simp only[aV.get] at c;cases f:ζ d s with
 |true=>
  rw[f] at c;have i:=δ f;subst i;simp only[cond_true,ι] at c;subst c;simpa[ζA,θ,k] using m
 |false=>
  rw[f] at c;have l:d≠s:=λe=>by subst e;simp at f
  have:=h.env s b c;simp only[ζA,θ,ξ0 l] at this ⊢;exact this
end
section
variable {S:bo} {P:Program} {R:Type} {z:R} {N:Nat}
def AX.of:AX->Exit
 | .normal=>.normal
 | .exit id=>.exit id
 | .ret=>.ret
 | .bA u=>.panic [{v:=u,recovered:=false}]
def hj (K:Kit S) (P:Program) (N:Nat) (B:cO) (e:AX) (st:AS S) (x:Exit) (a:Act) (w:World):Prop:=x=e.of/\ ∃A O,bn K P N B A O w st a
inductive NP|go|bA (u:Value)
def NP.x:NP->AX
 | .go=>.normal
 | .bA u=>.bA u
def ql (a:Value->AS S->Option R) (k:AS S->Option R):NP->AS S->Option R
 | .go,st=>k st
 | .bA u,st=>a u st
def s3 (K:Kit S) (P:Program) (e:List (ay S)->AS S->(Bool->AS S->Option R)->Option R):Prop:= ∀(afC:List (ay S)) (st:AS S) (k:Bool->AS S->Option R) (z:R),e afC st k=some z-> ∃b d,k b d=some z/\ ∀(N:Nat) (B:cO) (o:Oper) (c:ζ8) (x:Operand) (A:Pl) (O:Γ) (w:World) (a:Act) (l:Nat),o.op= .call c->c.callee= .value x->a.eval x= .func (.yield l) #[] #[]->A.ls=some l->cF A O w afC (c.args.toList.map a.eval)->bn K P N B A O w st a->ib P B.rr o a w (λv w'=>v= .bool b/\ ∃A' O',bn K P N B A' O' w' d a) (λ_ _=>False)
theorem Qi {ops:Array Oper} {o:Oper} {a:Act} {j d:Nat} {b c:Bool} {g:Oper} (k:o.guard=some (j,b)) (l:ops[j]? =some g) (i:g.dst=some d) (h:υ d a.tmps.size=true) (e:a.tmps.getD d undef= .bool c):ξ1 o (yielded ops a.tmps)=(c==b):=by
 have f:d<a.tmps.size:=ο.mp h;rw[θ,κ f] at e;simp only[ξp] at e;unfold ξ1;rw[k];simp[yielded,l,i,f,e]
theorem PZ {ops:Array Oper} {o:Oper} {a:Act} {j d:Nat} {b:Bool} {f:Oper} {xs:Array Value} (i:o.guard=some (j,b)) (k:ops[j]? =some f) (h:f.dst=some d) (g:υ d a.tmps.size=true) (c:a.tmps.getD d undef= .tuple xs):ξ1 o (yielded ops a.tmps)=false:=by
 have e:d<a.tmps.size:=ο.mp g;rw[θ,κ e] at c;simp only[ξp] at c;unfold ξ1;rw[i];simp[yielded,k,h,e,c]
theorem bn.aaf {K:Kit S} {B:cO} {A:Pl} {O:Γ} {w:World} {st:AS S} {a:Act} {d:Nat} {c:Bool} (h:bn K P N B A O w st a) (i:aV.get st.env d=some (.s (.one (.v (.bool c))))):bn K P N B A O w {st with env:=(d,.s (.one (.v (.bool c))))::st.env} a:=by
 refine⟨h.size,?_,h.rel,h.ob,h.c_,h.free,h.nb,h.le,h.tr,h.pl,h.ls,h.lv,h.cl,h.df,h.lp,h.dl,h.hi,h.o0,h.rr,h.nt⟩;intro s b e;simp only[aV.get] at e;cases f:ζ d s with
 |true=>
  rw[f] at e;have g:=δ f;subst g;simp only[cond_true,ι] at e;subst e;exact h.env _ _ i
 |false=>rw[f] at e;exact h.env s b e
theorem UQ {K:Kit S} {ops:Array Oper} {o:Oper} {st:AS S} {yes no:AS S->Option R} (h:mM N ops o.guard st yes no=some z):
  ∃i,i.h=st.h/\(∀B A O w a,bn K P N B A O w st a->bn K P N B A O w i a)/\
   ((yes i=some z/\ ∀B A O w a,bn K P N B A O w st a->ξ1 o (yielded ops a.tmps)=true)\/(no i=some z/\ ∀B A O w a,bn K P N B A O w st a->ξ1 o (yielded ops a.tmps)=false)):=by
 unfold mM at h;split at h
 ·rename_i g;exact⟨st,rfl,λ_ _ _ _ _ h=>h,.inl ⟨h,λB A O w a _=>by unfold ξ1;rw[g]⟩⟩
 ·rename_i j b g;split at h
  rotate_left
  ·cases h
  rename_i r n;split at h
  rotate_left
  ·cases h
  rename_i d m;cases k:υ d N<;>rw[k] at h
  ·cases h
  simp only[cond_true] at h;have l: ∀ {B A O w a},bn K P N B A O w st a->υ d a.tmps.size=true:=λh=>by rw[h.size];exact k
  split at h
  ·rename_i c f;have p: ∀ {B A O w a},bn K P N B A O w st a->a.tmps.getD d undef= .bool c:=λ{B A O w a} h=>ej (S:=S) (A:=A) (O:=O) (w:=w) (h.env d _ f);refine⟨{st with env:=(d,.s (.one (.v (.bool c))))::st.env},rfl,λB A O w a h=>h.aaf f,?_⟩;have w1: ∀ {B A O w a},bn K P N B A O w st a->ξ1 o (yielded ops a.tmps)=(c==b):=λh=>Qi g n m (l h) (p h);cases c<;>cases b<;>simp only[cond_true,cond_false] at h
   ·exact .inl ⟨h,λB A O w a e=>by rw[w1 e];rfl⟩
   ·exact .inr ⟨h,λB A O w a e=>by rw[w1 e];rfl⟩
   ·exact .inr ⟨h,λB A O w a e=>by rw[w1 e];rfl⟩
   ·exact .inl ⟨h,λB A O w a e=>by rw[w1 e];rfl⟩
  ·rename_i f;refine⟨st,rfl,λB A O w a h=>h,.inr ⟨h,λB A O w a e=>?_⟩⟩;obtain⟨xs,q,_⟩:=e.env d _ f;exact PZ g n m (l e) q
  ·cases h
theorem EW {K:Kit S} {o:Oper} {st:AS S} {f:AV S} {k:AS S->Option R} (h:h5 N o st f k=some z): ∃b,k b=some z/\b.h=st.h/\b.dt=st.dt/\ ∀B A O w a v,bn K P N B A O w st a->f.rel A O w v->bn K P N B A O w b (a.put o.dst v):=by
 unfold h5 at h;split at h
 ·rename_i d c;cases g:υ d N<;>rw[g] at h
  ·cases h
  ·exact⟨_,h,rfl,rfl,λB A O w a v e i=>by rw[c];exact e.put g i⟩
 ·rename_i c;exact⟨st,h,rfl,rfl,λB A O w a v e i=>by rw[c];exact e⟩
theorem UN {G:bw S} (X:bW G.K P) (W:j0 G P) {C:Nat->List (ay S)->AH S->(Rs S->AH S->Γ->Option R)->Option R} (Z:jZ G.K P C) {Q:List (ay S)->AS S->(Bool->AS S->Option R)->Option R} (ag:s3 G.K P Q) {o:Oper} {st:AS S} {y:Value->AS S->Option R} {k:AS S->Option R}
  (h:BB G C Q N o st y k=some z): ∃e g,ql y k e g=some z/\ ∀B A O w a,bn G.K P N B A O w st a->
   o.wpIn (fw B.rr) 0 P a w (λa' w'=>e= .go/\ ∃A' O',bn G.K P N B A' O' w' g a') (λx a' w'=> ∃u,e= .bA u/\x=(AX.bA u).of/\ ∃A' O',bn G.K P N B A' O' w' g a'):=by
 have plain:nT G C st.env (aC st.h) st.h.length o (λu up nw=>bif eX (aC st.h) up then y u (st.ca up nw) else none) (λa up nw=>bif eX (aC st.h) up then h5 N o (st.ca up nw) a k else none)=some z-> ∃e g,ql y k e g=some z/\ ∀B A O w a,bn G.K P N B A O w st a->
   o.wpIn (fw B.rr) 0 P a w (λa' w'=>e= .go/\ ∃A' O',bn G.K P N B A' O' w' g a') (λx a' w'=> ∃u,e= .bA u/\x=(AX.bA u).of/\ ∃A' O',bn G.K P N B A' O' w' g a'):=by
  intro h;obtain⟨r,up,nw,h1,E⟩:=MX X W Z h;have go: ∀B A O w a,bn G.K P N B A O w st a->_:=λB A O w a d=>E B.rr A O w a d.env d.rel d.ob d.c_ (λj _=>d.free _ (ξI _ _));cases r with
  |ret ah=>
   simp only[jQ] at h1;cases s:eX (aC st.h) up<;>rw[s] at h1
   ·cases h1
   simp only[cond_true] at h1;obtain⟨g,hk,_,_,H⟩:=EW (K:=G.K) (P:=P) h1;refine⟨.go,g,hk,λB A O w a d=>kX ?_ ?_ (go B A O w a d)⟩
   ·rintro a' w' ⟨v,rfl,T,e,A',O',m,F⟩;cases e;exact⟨rfl,A',O',H B A' O' w' a v (d.ca s F) m⟩
   ·intro x a' w' n;cases x with
    |panic L=>obtain⟨u,_,_,e,_⟩:=n;cases e
    |_=>exact n.elim
  |bA u=>
   simp only[jQ] at h1;cases U:u.oneCell'<;>rw[U] at h1
   ·cases h1
   simp only[cond_true] at h1;cases s:eX (aC st.h) up<;>rw[s] at h1
   ·cases h1
   simp only[cond_true] at h1;refine⟨.bA u,_,h1,λB A O w a d=>kX ?_ ?_ (go B A O w a d)⟩
   ·rintro a' w' ⟨v,rfl,T,e,_⟩;cases e
   ·intro x a' w' n;cases x with
    |panic L=>
     obtain⟨ai,rfl,rfl,e,A',O',F⟩:=n;cases e;exact⟨u,rfl,rfl,A',O',d.ca s F⟩
    |_=>exact n.elim
 unfold BB at h;split at h
 ·
  rename_i c p;split at h
  rotate_left
  ·cases h
  rename_i x J;split at h
  rotate_left
  ·cases h
  rename_i i Y hl M ab aa;refine⟨.go,_,h,λB A O w a d=>⟨λ_ _=>trivial,?_⟩⟩;have af:=d.rr M;rw[af];obtain⟨f,u,D,V,m⟩:=b6 d.env d.c_ hl;have m:a.eval x= .func f u D:=by simpa using m
  have I:(o.semAt (fw none).round a.eval).run P w= .ok (.defer {target:=.fn f D,args:=u}) w:=by
   show(o.semAt none a.eval).run P w=_;unfold Oper.semAt execOp;rw[p];have:c.args= #[]:=fH Y;simp[resolve,J,m,ζ0,this]
  rw[I,Oper.uponIn_defer];refine⟨rfl,A,O,?_⟩;rw[aa];exact⟨d.size,d.env,d.rel,d.ob,d.c_,d.free,d.nb,d.le,d.tr,d.pl,d.ls,d.lv,d.cl,.inr ⟨i,st.df,f,u,D,rfl,V,rfl,d.df⟩,d.lp,(λh=>by rw[show((st.lp.isSome||st.inr)=true)=(((none:Option (hh S)).isSome||false)=true) by rw[ab,M]] at h;cases h),d.hi,d.o0,d.rr,d.nt⟩
 ·
  rename_i x p;split at h
  rotate_left
  ·cases h
  rename_i t u hl;refine⟨.bA (.iface t u),_,h,λB A O w a d=>⟨λ_ _=>trivial,?_⟩⟩;have m:=ej (b6 d.env d.c_ hl);rw[ζn _ _ _ (by rw[p];simp)];have I:(execOp a.eval o).run P w= .halt (.panic (.iface t u)) w:=by
   unfold execOp;rw[p];simp only[ξ,m,Instr.panic];rfl
  rw[I,Oper.uponIn_panic];exact⟨_,rfl,rfl,A,O,d⟩
 ·rename_i c p;cases q:Gt G st.env c<;>rw[q] at h
  ·exact plain h
  ·simp only[cond_true] at h;unfold Gt at q;split at q
   rotate_left
   ·cases q
   rename_i x J;split at q
   rotate_left
   ·cases q
   rename_i hl;split at h
   rotate_left
   ·cases h
   rename_i afC has;obtain⟨b,st1,h1,E⟩:=ag _ _ _ _ h;obtain⟨g,hk,_,_,H⟩:=EW (K:=G.K) (P:=P) h1;refine⟨.go,g,hk,λB A O w a d=>?_⟩;obtain⟨l,ad,m⟩:=b6 d.env d.c_ hl;refine kX ?_ ?_ (E N B o c x A O w a l p J (by simpa using m) ad (lr d.env d.c_ has) d)
   ·rintro a' w' ⟨v,rfl,rfl,A',O',ae⟩;exact⟨rfl,A',O',H B A' O' w' a _ ae ⟨rfl,rfl⟩⟩
   ·intro x a' w' n;cases x with
    |panic L=>obtain⟨u,_,_,e⟩:=n;exact e.elim
    |_=>exact n.elim
 ·exact plain h
theorem BC {G:bw S} (f:bW G.K P) (d:j0 G P) {t:Nat->List (ay S)->AH S->(Rs S->AH S->Γ->Option R)->Option R} (g:jZ G.K P t) {D:List (ay S)->AS S->(Bool->AS S->Option R)->Option R} (r:s3 G.K P D) {ops:Array Oper} {y:Value->AS S->Option R}:
  ∀ {l:Γ} {st:AS S} {k:AS S->Option R},pj G t D N ops y l st k=some z-> ∃e C,ql y k e C=some z/\ ∀B A O w a,bn G.K P N B A O w st a->wpOpsIn (fw B.rr) 0 P ops (hj G.K P N B e.x C) l a w
 |[],st,k,h=>⟨.go,st,h,λB A O w a b=>⟨rfl,A,O,b⟩⟩
 |i::l,st,k,h=>by
  simp only[pj] at h;split at h
  rotate_left
  ·cases h
  rename_i o m;obtain⟨st1,M,q,E⟩:=UQ (K:=G.K) (P:=P) h;rcases E with⟨J,hw⟩|⟨hn,hw⟩
  ·obtain⟨e,st2,hk,v⟩:=UN f d g r J;cases e with
   |bA u=>
    refine⟨.bA u,st2,hk,λB A O w a b=>?_⟩;simp only[wpOpsIn,m];rw[if_pos (hw B A O w a b)];refine kX ?_ ?_ (v B A O w a (q B A O w a b))
    ·rintro a' w' ⟨e,_⟩;cases e
    ·rintro x a' w' ⟨L,e,I,A',O',n⟩;cases e;exact⟨I,A',O',n⟩
   |go=>
    obtain⟨c,s,j,p⟩:=BC f d g r hk;refine⟨c,s,j,λB A O w a b=>?_⟩;simp only[wpOpsIn,m];rw[if_pos (hw B A O w a b)];refine kX ?_ ?_ (v B A O w a (q B A O w a b))
    ·rintro a' w' ⟨_,A',O',n⟩;exact p B A' O' w' a' n
    ·rintro x a' w' ⟨L,e,_⟩;cases e
  ·obtain⟨st2,F,_,_,H⟩:=EW (K:=G.K) (P:=P) hn;obtain⟨c,s,j,p⟩:=BC f d g r F;refine⟨c,s,j,λB A O w a b=>?_⟩;simp only[wpOpsIn,m];rw[if_neg (by rw[hw B A O w a b];simp)];exact⟨λ_ _=>trivial,p B A O w _ (H B A O w a undef (q B A O w a b) ⟨[],rfl,rfl⟩)⟩
end
section
variable {S:bo} {K:Kit S} {P:Program} {N:Nat} {A A':Pl} {O O':Γ} {w w':World} {B:cO}
structure fZ (K:Kit S) (P:Program) (N:Nat) (B:cO) (A:Pl) (O:Γ) (w:World) (g:Nat->Option (Ob S)) (free dt:Nat->Prop) (c:Option (hh S)) (inr:Bool) (df:List (LV S)) (a:Act):Prop where
 size:a.tmps.size=N
 rel:bK A O w g
 ob:OB O w
 c_:cI K O w
 iD: ∀i,free i->A.pl i=none
 low: ∀i,i<B.nb-> ¬free i
 tr:Tr B.O0 B.w0 O w
 pl: ∀i,i<B.nb->A.pl i=B.A0.pl i
 ls:A.ls=B.A0.ls
 lv: ∀i X,i<B.nb->g i=some X->B.live i
 cl: ∀b,b∈B.O0->B.ex≠some b->(∀i,dt i->B.live i-> ∀p,B.A0.pl i=some p->bS p≠some b)->w.heap[b]? =B.w0.heap[b]? /\b∈O/\ ∀i X p,B.nb<=i->g i=some X->A.pl i=some p-> ¬cy w X p b
 df:c7 B.w0.heap.size A O w df a.defers
 lp:jb P B O w c
 dl:(c.isSome||inr)=true->a.defers=[]
 hi: ∀i,B.nb<=i->B.A0.pl i=none
 o0:OB B.O0 B.w0
 rr:inr=false->B.rr=none
 nt: ∀i X,i<B.nb->g i=some X->X.nt=true
variable {st:AS S} {a:Act}
theorem bn.toC (h:bn K P N B A O w st a):fZ K P N B A O w (aC st.h) (λi=>st.h.length<=i) (λi=>i∈st.dt) st.lp st.inr st.df a:=
 ⟨h.size,h.rel,h.ob,h.c_,h.free,λi hi h1=>absurd h1 (by have:=h.le;omega),h.tr,h.pl,h.ls,h.lv,h.cl,h.df,h.lp,h.dl,h.hi,h.o0,h.rr,h.nt⟩
theorem fZ.PU {g:Nat->Option (Ob S)} {free dt:Nat->Prop} (h:fZ K P N B A O w g free dt st.lp st.inr st.df a) (k: ∀i,aC st.h i=g i) (j: ∀i,st.h.length<=i->free i) (f: ∀i,i<B.nb->dt i->i∈st.dt) (hn:st.nb=B.nb) (hle:B.nb<=st.h.length) (he:cL A O w st.env a):bn K P N B A O w st a:=by
 have e:aC st.h=g:=funext k;exact⟨h.size,he,by rw[e];exact h.rel,h.ob,h.c_,λi hi=>h.iD i (j i hi),hn,hle,h.tr,h.pl,h.ls,by rw[e];exact h.lv,λb c l d=>by
  rw[e];exact h.cl b c l λi hi m p hp=>(by
   rcases ω i B.nb with h1|h1
   ·exact d i (f i h1 hi) m p hp
   ·rw[h.hi i h1] at hp;cases hp),h.df,h.lp,h.dl,h.hi,h.o0,h.rr,by rw[e];exact h.nt⟩
theorem fZ.ca {g:Nat->Option (Ob S)} {free dt:Nat->Prop} {lp:Option (hh S)} {inr:Bool} {df:List (LV S)} {ef:Up S} (h:fZ K P N B A O w g free dt lp inr df a) (o: ∀i X,(i,X)∈ef->(∃Z,g i=some Z)\/free i) (e:b' A O w g ef A' O' w'):
  fZ K P N B A' O' w' (b1 g ef) (λi=>free i/\ ∀X,(i,X)∉ef) (λi=>dt i\/((∃Z,g i=some Z)/\ ∃X,(i,X)∈ef)) lp inr df a:=by
 have T: ∀i Z,g i=some Z-> ¬free i:=λi Z d l=>by
  obtain⟨p,hp,_⟩:=h.rel.al i Z d;rw[h.iD i l] at hp;cases hp
 have low: ∀i,¬free i->A'.pl i=A.pl i:=by
  intro i hi;rcases e.pl i with h1|⟨h1,X,f⟩
  ·exact h1
  ·rcases o i X f with⟨Z,d⟩|l
   ·obtain⟨p,hp,_⟩:=h.rel.al i Z d;rw[h1] at hp;cases hp
   ·exact absurd l hi
 refine⟨h.size,h.rel.ca h.ob e,e.ob,h.c_.tr e.tr,?_,λi hi l=>h.low i hi l.1,h.tr.trans e.tr,λi hi=>(low i (h.low i hi)).trans (h.pl i hi),e.le.ls.trans h.ls,?_,?_,c7.ca h.rel e h.df,jb.ca h.rel e h.lp,h.dl,h.hi,h.o0,h.rr,?_⟩
 ·rintro i ⟨h1,F⟩;rcases e.pl i with G|⟨_,X,f⟩
  ·rw[G];exact h.iD i h1
  ·exact absurd f (F X)
 ·intro i X hi f
  by_cases m: ∃Y,(i,Y)∈ef
  ·obtain⟨Y,k⟩:=m;rcases o i Y k with⟨Z,d⟩|l
   ·exact h.lv i Z hi d
   ·exact absurd l (h.low i hi)
  ·rw[ei λY k=>m ⟨Y,k⟩] at f;exact h.lv i X hi f
 ·intro b I L y;obtain⟨c1,c2,v⟩:=h.cl b I L λi hi=>y i (.inl hi);have D: ∀i X p,(i,X)∈ef->A.pl i=some p->bS p≠some b:=by
   intro i X p hi hp;rcases o i X hi with⟨Z,d⟩|l
   ·rcases ω i B.nb with t|r
    ·exact y i (.inr ⟨⟨Z,d⟩,X,hi⟩) (h.lv i Z t d) p (by rw[<-h.pl i t];exact hp)
    ·exact λn=>v i Z p r d hp (.inl n)
   ·rw[h.iD i l] at hp;cases hp
  obtain⟨Q,R⟩:=e.keep b c2 D;have U: ∀i X p Z,(i,X)∈ef->g i=some Z->A.pl i=some p-> ¬cy w Z p b:=by
   intro i X p Z hi d hp n;rcases ω i B.nb with t|r
   ·exact D i X p hi hp (eN (h.nt i Z t d) n)
   ·exact v i Z p r d hp n
  refine⟨Q.trans c1,R,?_⟩;intro i X p hi f hp n
  by_cases m: ∃Y,(i,Y)∈ef
  ·obtain⟨Y,k⟩:=m;rw[mg k λZ d=>e.nd i Z Y d k] at f;subst f;obtain⟨W,C,_,J⟩:=e.al i X k;rw[hp] at C;cases C;rcases(J b n).2 with r|⟨j,Z,q,V,s,H,u,M⟩
   ·have:=h.ob b c2;omega
   ·exact U j Z q V s H u M
  ·have z: ∀Y,(i,Y)∉ef:=λY k=>m ⟨Y,k⟩;rw[ei z] at f;rw[low i (T i X f)] at hp;refine v i X p hi f hp (kp (λc x=>?_) n);refine(e.keep c (h.rel.gC f hp (.inl x)) λj Y q s u=>?_).1;obtain⟨Z,d⟩:=e.lv j Y q s u;exact h.rel.dj i j X Z p q c (λE=>by subst E;exact z Y s) f d hp u x
 ·intro i X hi f
  by_cases m: ∃Y,(i,Y)∈ef
  ·obtain⟨Y,k⟩:=m;rw[mg k λZ d=>e.nd i Z Y d k] at f;subst f;rcases o i _ k with⟨Z,d⟩|l
   ·exact e.nt i X Z k d (h.nt i Z hi d)
   ·exact absurd l (h.low i hi)
  ·rw[ei λY k=>m ⟨Y,k⟩] at f;exact h.nt i X hi f
theorem fZ.weaken {g:Nat->Option (Ob S)} {free c dt dt':Nat->Prop} {lp:Option (hh S)} {inr:Bool} {df:List (LV S)} (h:fZ K P N B A O w g free dt lp inr df a) (d: ∀i,c i->free i) (j: ∀i,dt i->dt' i):fZ K P N B A O w g c dt' lp inr df a:=
 ⟨h.size,h.rel,h.ob,h.c_,λi hi=>h.iD i (d i hi),λi hi h1=>h.low i hi (d i h1),h.tr,h.pl,h.ls,h.lv,λb e k f=>h.cl b e k λi hi=>f i (j i hi),h.df,h.lp,h.dl,h.hi,h.o0,h.rr,h.nt⟩
theorem fZ.act {g:Nat->Option (Ob S)} {free dt:Nat->Prop} {lp:Option (hh S)} {inr:Bool} {df:List (LV S)} {a':Act} (h:fZ K P N B A O w g free dt lp inr df a) (h1:a'.tmps.size=a.tmps.size) (b:a'.defers=a.defers):fZ K P N B A O w g free dt lp inr df a':=
 ⟨h1.trans h.size,h.rel,h.ob,h.c_,h.iD,h.low,h.tr,h.pl,h.ls,h.lv,h.cl,by rw[b];exact h.df,h.lp,by rw[b];exact h.dl,h.hi,h.o0,h.rr,h.nt⟩
def ct.ef (r:ct S):Up S:=r.up++news r.nx r.nw
def cD (L:Nat->Bool):Nat->List (ct S)->(Nat->Option (Ob S))->Nat->Option (Ob S)
 |_,[],g=>g
 |k,r::rs,g=>cD L (k+1) rs (bif L k then b1 g r.ef else g)
theorem qZ {o:Nat}: ∀ {ef:Up S} {g b:Nat->Option (Ob S)},(∃X,(o,X)∈ef)->b1 g ef o=b1 b ef o
 |[],g,b,⟨X,h⟩=>by cases h
 |(j,Y)::r,g,b,⟨X,h⟩=>by
  simp only[b1]
  by_cases a: ∃Z,(o,Z)∈r
  ·exact qZ a
  ·rw[ei (λZ c=>a ⟨Z,c⟩),ei (λZ c=>a ⟨Z,c⟩)];rcases τ.1 h with e|e
   ·cases e;simp
   ·exact absurd ⟨X,e⟩ a
theorem P1 {o:Nat} {ef:Up S} {g c:Nat->Option (Ob S)} (h:g o=c o):b1 g ef o=b1 c ef o:=by
 by_cases b: ∃X,(o,X)∈ef
 ·exact qZ b
 ·rw[ei (λZ a=>b ⟨Z,a⟩),ei (λZ a=>b ⟨Z,a⟩),h]
theorem lK {L d:Nat->Bool} {o:Nat}: ∀ {rs:List (ct S)} {k:Nat} {g b:Nat->Option (Ob S)},(∀j r,rs[j]? =some r->(∃X,(o,X)∈r.ef)->L (k+j)=d (k+j))->g o=b o->cD L k rs g o=cD d k rs b o
 |[],k,g,b,_,h=>h
 |r::rs,k,g,b,hl,h=>by
  simp only[cD];refine lK (λj l i a=>by have:=hl (j+1) l (by simpa using i) a;rwa [show k+(j+1)=k+1+j by omega] at this) ?_
  by_cases a: ∃X,(o,X)∈r.ef
  ·have:=hl 0 r rfl a;rw[ξP] at this;rw[this];cases d k with
   |true=>exact qZ a
   |false=>exact h
  ·have out: ∀(c:Bool) (f:Nat->Option (Ob S)),(bif c then b1 f r.ef else f) o=f o:=λc f=>by
    cases c with
    |true=>exact ei (λZ e=>a ⟨Z,e⟩)
    |false=>rfl
   rw[out,out,h]
theorem uQ {L:Nat->Bool}: ∀ {rs a:List (ct S)} {k:Nat} {g:Nat->Option (Ob S)},cD L k (rs++a) g=cD L (k+rs.length) a (cD L k rs g)
 |[],a,k,g=>rfl
 |r::rs,a,k,g=>by
  simp only[ζ1,cD,ζ2];rw[uQ,show k+1+rs.length=k+(rs.length+1) by omega]
theorem Dv {o:Nat} {L:Nat->Bool} {rs:List (ct S)} {k:Nat} {g:Nat->Option (Ob S)} (h: ∀j r,rs[j]? =some r->(∃X,(o,X)∈r.ef)->L (k+j)=false):cD L k rs g o=g o:=by
 have h1:cD L k rs g o=cD (λ_=>false) k rs g o:=lK (λj r a b=>h j r a b) rfl;rw[h1];clear h h1
 induction rs generalizing k with
 |nil=>rfl
 |cons r rs c=>simp only[cD,cond_false];exact c
theorem KB {L:Nat->Bool} {i o:Nat} {acc:List (ct S)} {r:ct S} {g:Nat->Option (Ob S)} (l:acc[i]? =some r) (q:L i=false) (n:(∃X,(o,X)∈r.ef)-> ∀k a,i<k->acc[k]? =some a->(∃X,(o,X)∈a.ef)->L k=false):
  cD (λk=>ζ k i||L k) 0 acc g o=b1 (cD L 0 acc g) r.ef o:=by
 by_cases c: ∃X,(o,X)∈r.ef
 ·obtain⟨hi,he⟩:=ε.1 l;have p:acc=acc.take i++r::acc.drop (i+1):=by
   rw[<-he,<-List.drop_eq_getElem_cons hi,ξ6]
  have hlen:(acc.take i).length=i:=by rw[ξ3];omega
  have lhs:cD (λk=>ζ k i||L k) 0 acc g o=b1 (cD (λk=>ζ k i||L k) 0 (acc.take i) g) r.ef o:=by
   conv=>lhs;rw[p]
   rw[uQ,hlen,ξe];simp only[cD,ξu,ζb,cond_true];refine Dv λj a b f=>?_;have hk:acc[i+1+j]? =some a:=by rw[<-ζm];exact b
   have h1:=n c (i+1+j) a (by omega) hk f;have d:ζ (i+1+j) i=false:=by
    cases e:ζ (i+1+j) i with
    |false=>rfl
    |true=>have:=δ e;omega
   simp only[h1,d,Bool.or_self]
  rw[lhs];exact qZ c
 ·rw[ei (λZ m=>c ⟨Z,m⟩)];refine lK (λj a b f=>?_) rfl;rw[ξe]
  by_cases h:j=i
  ·subst h;rw[l] at b;cases b;exact absurd f c
  ·have d:ζ j i=false:=by
    cases e:ζ j i with
    |false=>rfl
    |true=>exact absurd (δ e) h
   simp[d]
theorem MJ {l m:Γ}:vA l m=true↔ ∀i∈l,i∉m:=by
 unfold vA;rw[ξ4];exact forall_congr' λi=>forall_congr' λ_=>by rw[ξE,<-ζy,gI]
theorem aaN {l:Γ} {nx n:Nat}:Ef l nx n=true↔ ∀i∈l,¬(nx<=i/\i<nx+n):=by
 unfold Ef;rw[ξ4];refine forall_congr' λi=>forall_congr' λ_=>?_;rw[ξE,<-ζy,η];constructor
 ·rintro h ⟨h1,a⟩;exact h ⟨ζE.mpr h1,ο.mpr a⟩
 ·rintro h ⟨h1,a⟩;exact h ⟨ξ5 h1,ο.mp a⟩
theorem I6 {cl rd:Γ} {up:Up S}: ∀ {rs:List (ct S)} {k j:Nat} {r:ct S},ke cl rd up rs k=true->rs[j]? =some r->k+j∈cl\/((∀i∈rd,i∉keys r.up)/\(∀i∈rd,¬(r.nx<=i/\i<r.nx+r.nw.length))/\ ∀i∈keys up,i∉r.rd)
 |[],k,j,r,_,a=>by simp at a
 |q::rs,k,j,r,h,a=>by
  simp only[ke,η,ξN] at h;cases j with
  |zero=>
   simp at a;subst a;rw[ξP];rcases h.1 with h1|h1
   ·exact .inl (gI.1 h1)
   ·exact .inr ⟨MJ.1 h1.1,aaN.1 h1.2.1,MJ.1 h1.2.2⟩
  |succ j=>
   have:=I6 (j:=j) h.2 (by simpa using a)
   rwa [show k+1+j=k+(j+1) by omega] at this
theorem KE {cl:Γ}: ∀ {rs:List (ct S)} {k j:Nat} {r:ct S},idle cl rs k=true->rs[j]? =some r->k+j∈cl\/(r.up=[]/\r.nw=[])
 |[],k,j,r,_,a=>by simp at a
 |q::rs,k,j,r,h,a=>by
  simp only[idle,η,ξN] at h;cases j with
  |zero=>
   simp at a;subst a;rw[ξP];rcases h.1 with h1|h1
   ·exact .inl (gI.1 h1)
   ·right;split at h1
    ·rename_i b c;exact⟨b,c⟩
    ·cases h1
  |succ j=>
   have:=KE (j:=j) h.2 (by simpa using a)
   rwa [show k+1+j=k+(j+1) by omega] at this
theorem jr {r:ct S} {o:Nat}:(∃X,(o,X)∈r.ef)↔o∈keys r.up\/(r.nx<=o/\o<r.nx+r.nw.length):=by
 unfold ct.ef;constructor
 ·rintro ⟨X,h⟩;rcases ψ.1 h with h|h
  ·exact .inl (nD.2 ⟨X,h⟩)
  ·obtain⟨j,h1,rfl⟩:=iM.1 h;have:=(ε.1 h1).1;exact .inr ⟨by omega,by omega⟩
 ·rintro (h|⟨h1,b⟩)
  ·obtain⟨X,h⟩:=nD.1 h;exact⟨X,ξ9 _ h⟩
  ·have a:o-r.nx<r.nw.length:=by omega
   exact⟨r.nw[o-r.nx],ξ7 _ (iM.2 ⟨o-r.nx,σ a,by omega⟩)⟩
end
section
variable {S:bo} {P:Program} {N:Nat} {ops:Array Oper}
theorem adh {id:Nat} {rr:Option Nat} {Q:Exit->Act->World->Prop} {I:Array Bool->Act->World->Prop} (hm:P.follows .mixedOrders=true) (v: ∀i o,ops[i]? =some o-> ∀x∈cQ o,x<i)
  (N: ∀(listed:Array Bool) (a:Act) (w:World) (i:Nat) (o:Oper),listed.size=ops.size->(∀(k:Nat) (o:Oper),ops[k]? =some o->listed.getD k true=true-> ∀x∈cQ o,listed.getD x true=true)->I listed a w->ops[i]? =some o->listed.getD i true=false->(∀x∈cQ o,listed.getD x true=true)->
   wpOpIn (fw rr) 0 P ops Q i (λa' w'=>I (listed.setIfInBounds i true) a' w') a w)
  (G: ∀(listed:Array Bool) (a:Act) (w:World),listed.size=ops.size->(∀i,i<ops.size->listed.getD i true=true)->I listed a w->Q .normal a w) {a:Act} {w:World} (B:I (ξ8 ops.size false) a w.drew):(ζB id ops true).wpIn (fw rr) 0 P Q a w:=by
 refine wpIn_region_draw λt=>?_;simp only[Region.schedule,hm,ζb,if_true];refine wpAnyIn_sound ops.size t _ a _ ?_;have key: ∀(fuel:Nat) (listed:Array Bool) (a:Act) (w':World),listed.size=ops.size->er listed ops.size=fuel->(∀(k:Nat) (o:Oper),ops[k]? =some o->listed.getD k true=true-> ∀x∈cQ o,listed.getD x true=true)->I listed a w'->
   wpAnyIn (fw rr) 0 P .any ops Q fuel listed a w':=by
  intro fuel
  induction fuel with
  |zero=>
   intro listed a w' f hl l g;have u:=nG _ hl;refine⟨?_,G listed a w' f u g⟩;unfold ζc;rw[List.filter_eq_nil_iff];intro i hi;have:=u i (by simpa using hi);simp[this]
  |succ fuel r=>
   intro listed a w' f hl l g;refine⟨λL=>?_,λi hi=>?_⟩
   ·exfalso;obtain⟨i,h1,C,D⟩:=qf ops.size (by rw[hl];omega:er listed ops.size≠0);have b:=κ h1;have F:=v i _ b;have:i∈ζc .any ops listed:=by
     unfold ζc;rw[ξk];refine⟨by simpa using h1,?_⟩;rw[C,b];simp only[Bool.not_false,ξW,ξx,ξp,ξC];intro e he;cases j:Region.binds .any e with
     |false=>simp
     |true=>
      have d:=F e.on (iL.2 ⟨e,he,j,rfl⟩);have:=D e.on d;have q:e.on<listed.size:=by omega
      simp only[θ,κ q,ξp] at this ⊢;simp[this]
    rw[L] at this;cases this
   ·unfold ζc at hi;rw[ξk] at hi;obtain⟨H,m⟩:=hi;have y:i<ops.size:=by simpa using H
    have b:=κ y;rw[b] at m;simp only[η,ξE,ξx,ξp,ξC] at m;obtain⟨z,K⟩:=m;have s: ∀x∈cQ ops[i],listed.getD x true=true:=by
     intro x c;obtain⟨e,he,j,rfl⟩:=iL.1 c;have h1:=K e he;rw[j] at h1;simp only[ξY,ξZ] at h1;have d:=v i _ b e.on c;have q:e.on<listed.size:=by omega
     simp only[θ,κ q,ξp] at h1 ⊢;exact h1
    have A:i<listed.size:=by omega
    have M: ∀k,(listed.setIfInBounds i true).getD k true=true↔k=i\/listed.getD k true=true:=by
     intro k
     by_cases hk:i=k
     ·subst hk;simp[θ,A]
     ·simp only[θ,ξ0 hk];constructor
      ·exact λh=>.inr h
      ·rintro (h|h)
       ·exact absurd h.symm hk
       ·exact h
    have J:=D_ A z ops.size;simp only[y,if_true] at J;refine wpOpIn_mono (λa' b8 E=>?_) (N listed a w' i _ f l g b z s);refine r _ a' b8 (by simpa using f) (by omega) ?_ E;intro k o' p hk x c;rw[M] at hk ⊢;right;rcases hk with rfl|hk
    ·rw[b] at p;cases p;exact s x c
    ·exact l k o' p hk x c
 refine key ops.size _ a _ (by simp) ?_ ?_ B
 ·have: ∀n,n<=ops.size->er (ξ8 ops.size false) n=n:=by
   intro n
   induction n with
   |zero=>intro _;rfl
   |succ n r=>
    intro hn;simp only[er,r (by omega)];have:(ξ8 ops.size false).getD n true=false:=by simp[θ,show n<ops.size by omega]
    simp[this]
  exact this _ (ξc _)
 ·intro k o b hk;have d:=(ξa.1 b).1;simp[θ,d] at hk
inductive Gh (S:bo)|done (a:AV S)|bA (u:Value)|never
def j2 (ops:Array Oper) (bg:AS S) (b:List (Gh S)) (s:Nat) (a:AV S):Prop:=(∃k,dh ops k=some s/\b[k]? =some (.done a))\/(aV.get bg.env s=some a/\ ∀k c,dh ops k=some s->b[k]? ≠some (.done c))
structure Want (K:Kit S) (P:Program) (N:Nat) (ops:Array Oper) (bg:AS S) (pre:List (ct S)) (d:List (Gh S)) (i:Nat) (o:Oper) (r:ct S) (res:Rs S) (env:aV S) (gc:Nat->Option (Ob S)):Prop where
 snd:sR K P o env (iZ r.rd gc) r.nx res r.up r.nw
 ev: ∀s c,aV.get env s=some c->s∈fg ops o/\j2 ops bg d s c
 Qo: ∀A O w a,a.tmps.size=N->cL A O w env a->ξ1 o (yielded ops a.tmps)=true
 gh: ∀x,gc x=cD (λ_=>true) 0 pre (aC bg.h) x
 al: ∀k∈keys r.up,∃Z,gc k=some Z
 sub: ∀k∈keys r.up,k∈r.rd
 lt: ∀x∈r.rd,x<r.nx
 tb: ∀k b,pre[k]? =some b->k∈eA ops i\/((∀i∈r.rd,i∉keys b.up)/\(∀i∈r.rd,¬(b.nx<=i/\i<b.nx+b.nw.length))/\ ∀i∈keys r.up,i∉b.rd)
def Tl (N:Nat) (ops:Array Oper) (bg:AS S) (c:List (Gh S)) (o:Oper) (r:ct S) (b:AV S) (env:aV S):Prop:=(∀s b,aV.get env s=some b->s∈fg ops o/\j2 ops bg c s b)/\(∀A O w a,a.tmps.size=N->cL A O w env a->ξ1 o (yielded ops a.tmps)=false)/\b= .br []/\r.up=[]/\r.nw=[]
def pe (K:Kit S) (P:Program) (N:Nat) (ops:Array Oper) (bg:AS S) (pre:List (ct S)) (b:List (Gh S)) (i:Nat) (o:Oper) (r:ct S):Gh S->Prop
 | .done a=>(∃env gc,Want K P N ops bg pre b i o r (.ret a) env gc)\/ ∃env,Tl N ops bg b o r a env
 | .bA u=> ∃env gc,Want K P N ops bg pre b i o r (.bA u) env gc
 | .never=>(r.up=[]/\r.nw=[])/\ ∃k∈eA ops i,∀a,b[k]? ≠some (.done a)
structure se (ops:Array Oper) (bg:AS S) (acc:List (ct S)) (gs:List (Gh S)) (i:Nat) (r:ct S) (b:AS S):Prop where
 hp: ∀x,aC b.h x=b1 (cD (λ_=>true) 0 (acc.take i) (aC bg.h)) r.ef x
 hl:b.h.length=r.nx+r.nw.length
 env: ∀s c,aV.get b.env s=some c->(∀k,dh ops k≠some s)/\aV.get bg.env s=some c
 kI:b.nb=bg.nb/\b.lp=bg.lp/\b.inr=bg.inr/\b.df=bg.df
 mR: ∀x∈bg.dt,x∈b.dt
 dt: ∀k a x,k<=i->acc[k]? =some a->x∈keys a.up->x<bg.nb->x∈b.dt
 pre: ∀k a,k<i->acc[k]? =some a->k∈eA ops i\/(a.up=[]/\a.nw=[])
 post: ∀k a,i<k->acc[k]? =some a->a.up=[]/\a.nw=[]
structure AnyF (K:Kit S) (P:Program) (N:Nat) (ops:Array Oper) (bg:AS S) (acc:List (ct S)) (gs:List (Gh S)) (pn:Option (Γ×Value×AS S)) (st:AS S):Prop where
 lg:gs.length=acc.length
 hp: ∀x,aC st.h x=cD (λ_=>true) 0 acc (aC bg.h) x
 hl:bg.h.length<=st.h.length
 pos: ∀(i k:Nat) r b,i<k->acc[i]? =some r->acc[k]? =some b->r.nx+r.nw.length<=b.nx
 top: ∀(i:Nat) r,acc[i]? =some r->bg.h.length<=r.nx/\r.nx+r.nw.length<=st.h.length
 env: ∀s a,aV.get st.env s=some a->j2 ops bg gs s a
 kI:st.nb=bg.nb/\st.lp=bg.lp/\st.inr=bg.inr/\st.df=bg.df
 mR: ∀x∈bg.dt,x∈st.dt
 dt: ∀(i:Nat) r x,acc[i]? =some r->x∈keys r.up->x<bg.nb->x∈st.dt
 step: ∀i o r gh,ops[i]? =some o->acc[i]? =some r->gs[i]? =some gh->pe K P N ops bg (acc.take i) (gs.take i) i o r gh
 lW:pn=none-> ∀(k:Nat) (gh:Gh S),gs[k]? =some gh-> ∃a,gh=Gh.done a
 kK: ∀dead u c,pn=some (dead,u,c)-> ∃i r,gs[i]? =some (.bA u)/\acc[i]? =some r/\se ops bg acc gs i r c/\(∀k d,gs[k]? =some (.bA d)->k=i)/\(∀(k:Nat) (gh:Gh S),gs[k]? =some gh->((∃a,gh=Gh.done a)\/k∈dead)/\(k∈dead-> ∀a,gh≠Gh.done a))/\ ∀k∈dead,k<acc.length
structure my (K:Kit S) (P:Program) (N:Nat) (ops:Array Oper) (bg:AS S) (acc:List (ct S)) (gs:List (Gh S)) (B:cO) (L:Nat->Bool) (A:Pl) (O:Γ) (w:World) (a:Act):Prop where
 c:fZ K P N B A O w (cD L 0 acc (aC bg.h)) (λx=>bg.h.length<=x/\ ∀(k:Nat) r,acc[k]? =some r->L k=true-> ¬(r.nx<=x/\x<r.nx+r.nw.length)) (λx=>x∈bg.dt\/ ∃(k:Nat) (r:ct S),acc[k]? =some r/\L k=true/\x∈keys r.up) bg.lp bg.inr bg.df a
 base: ∀s b,aV.get bg.env s=some b->(∀k,dh ops k=some s->L k=false)->b.rel A O w (a.tmps.getD s undef)
 done: ∀k s b,L k=true->dh ops k=some s->gs[k]? =some (.done b)->b.rel A O w (a.tmps.getD s undef)
 all: ∀k,L k=true-> ∃b,gs[k]? =some (.done b)
structure mD (N:Nat) (ops:Array Oper):Prop where
 below: ∀(i:Nat) o,ops[i]? =some o-> ∀x∈cQ o,x<i
 cl: ∀i,i<ops.size-> ∀k∈eA ops i,k<i
 dN: ∀i s,dh ops i=some s->s<N
 un: ∀i k s,dh ops i=some s->dh ops k=some s->i=k
 slot: ∀(i:Nat) o s,ops[i]? =some o->s∈fg ops o->(∃j∈cQ o,dh ops j=some s)\/ ∀k,dh ops k=some s->k=i\/i∈eA ops k
theorem mQ {k s:Nat} (h:dh ops k=some s):k<ops.size:=by
 unfold dh at h;split at h
 ·rename_i o a;exact(ξa.1 a).1
 ·cases h
theorem Ix {k:Nat}: ∀ {l:Γ},hx k l=true-> ∀x∈l,x<k:=Dc.BH
theorem NT (h:we N ops=true):mD N ops:=by
 unfold we at h;rw[ξ4] at h;have at_: ∀i o,ops[i]? =some o->hx i (cQ o)=true/\hx i (eA ops i)=true/\(match o.dst with
   |some d=>υ d N&&(ξs ops.size).all λk=>ζ k i||(match dh ops k with|some e=>!(ζ d e)|none=>true)
   |none=>true)=true/\(fg ops o).all (FT ops i o)=true:=by
  intro i o a;have hi:=(ξa.1 a).1;have:=h i (by simpa using hi);unfold MY at this;rw[a] at this;simp only[η] at this;exact this
 have m: ∀ {i s},dh ops i=some s-> ∃o,ops[i]? =some o/\o.dst=some s:=by
  intro i s f;unfold dh at f;split at f
  ·rename_i o a;exact⟨o,a,f⟩
  ·cases f
 constructor
 ·exact λi o a=>Ix (at_ i o a).1
 ·intro i hi;exact Ix (at_ i _ (κ hi)).2.1
 ·intro i s f;obtain⟨o,a,g⟩:=m f;have:=(at_ i o a).2.2.1;rw[g] at this;simp only[η] at this;exact ο.mp this.1
 ·intro i k s hi hk;obtain⟨o,a,g⟩:=m hi;have:=(at_ i o a).2.2.1;rw[g] at this;simp only[η,ξ4] at this;have b:=this.2 k (by simpa using mQ hk);rw[hk] at b;simp at b;exact b.symm
 ·intro i o s a f;have:=(at_ i o a).2.2.2;rw[ξ4] at this;have b:=this s f;unfold FT at b;simp only[ξN,ζz,ξ4] at b;rcases b with⟨j,c,l⟩|b
  ·left;refine⟨j,c,?_⟩;split at l
   ·rename_i d g;rw[g,δ l]
   ·cases l
  ·right;intro k hk;have c:=b k (by simpa using mQ hk);rw[hk] at c;simp only[ξN,ξu,ξY,ζo,false_or] at c;rcases c with c|c
   ·exact .inl (δ c)
   ·exact .inr (gI.1 c)
end
section
variable {S:bo} {K:Kit S} {P:Program} {N:Nat} {ops:Array Oper} {bg:AS S}
theorem pH {r:ct S} (h:r.up=[]/\r.nw=[]) {x:Nat}: ¬ ∃X,(x,X)∈r.ef:=by
 rintro ⟨X,a⟩;unfold ct.ef at a;rw[h.1,h.2] at a;cases a
theorem KC {acc:List (ct S)} {i x:Nat} {g:Nat->Option (Ob S)} (hi:i<=acc.length):cD (λ_=>true) 0 (acc.take i) g x=cD (λk=>υ k i) 0 acc g x:=by
 have hlen:(acc.take i).length=i:=by rw[ξ3];omega
 have h1:cD (λk=>υ k i) 0 acc g x=cD (λk=>υ k i) 0 (acc.take i) g x:=by
  conv=>lhs;rw[<-ξ6 i acc]
  rw[uQ,hlen,ξe];refine Dv λj r a _=>?_;cases b:υ (i+j) i with
  |false=>rfl
  |true=>have:=ο.mp b;omega
 rw[h1];refine lK (λj r a _=>?_) rfl;have:j<i:=by
  have:=(ε.1 a).1;omega
 rw[ξe];exact(ο.mpr this).symm
theorem pe.cl {pre:List (ct S)} {b:List (Gh S)} {i:Nat} {o:Oper} {r:ct S} {gh:Gh S} (h:pe K P N ops bg pre b i o r gh):
  (r.up=[]/\r.nw=[])\/((∀k∈keys r.up,k∈r.rd)/\(∀x∈r.rd,x<r.nx)/\ ∀(k:Nat) (a:ct S),pre[k]? =some a->k∈eA ops i\/((∀i∈r.rd,i∉keys a.up)/\(∀i∈r.rd,¬(a.nx<=i/\i<a.nx+a.nw.length))/\ ∀i∈keys r.up,i∉a.rd)):=by
 cases gh with
 |done c=>
  rcases h with⟨env,gc,hw⟩|⟨env,hw⟩
  ·exact .inr ⟨hw.sub,hw.lt,hw.tb⟩
  ·exact .inl hw.2.2.2
 |bA u=>obtain⟨env,gc,hw⟩:=h;exact .inr ⟨hw.sub,hw.lt,hw.tb⟩
 |never=>exact .inl h.1
structure la (ops:Array Oper) (L:Nat->Bool) (i:Nat) (o:Oper):Prop where
 oi:ops[i]? =some o
 up: ∀k,L k=true->k<ops.size/\ ∀j∈eA ops k,L j=true
 cl: ∀j∈eA ops i,L j=true
 no:L i=false
 af: ∀j∈cQ o,L j=true
variable {acc:List (ct S)} {gs:List (Gh S)} {pn:Option (Γ×Value×AS S)} {st:AS S} {L:Nat->Bool} {i:Nat} {o:Oper} {r:ct S}
theorem AnyF.PF (c:AnyF K P N ops bg acc gs pn st) (e:acc.length=ops.size) {k:Nat} {d:ct S} (hk:acc[k]? =some d): ∃o' gh,ops[k]? =some o'/\gs[k]? =some gh/\pe K P N ops bg (acc.take k) (gs.take k) k o' d gh:=by
 have h1:=(ε.1 hk).1;have a:k<ops.size:=by omega
 have b:k<gs.length:=by rw[c.lg];exact h1
 exact⟨_,_,κ a,σ b,c.step k _ _ _ (κ a) hk (σ b)⟩
theorem p0 {α:Type} {l:List α} {i k:Nat} {x:α} (h:l[k]? =some x) (hk:k<i):(l.take i)[k]? =some x:=by
 rw[ξU hk];exact h
theorem agree (n:AnyF K P N ops bg acc gs pn st) (v:acc.length=ops.size) (c:la ops L i o) (g:acc[i]? =some r) (t: ∀x∈r.rd,x<r.nx)
  (s: ∀(k:Nat) (a:ct S),(acc.take i)[k]? =some a->k∈eA ops i\/((∀i∈r.rd,i∉keys a.up)/\(∀i∈r.rd,¬(a.nx<=i/\i<a.nx+a.nw.length))/\ ∀i∈keys r.up,i∉a.rd)):
  ∀x∈r.rd,cD L 0 acc (aC bg.h) x=cD (λ_=>true) 0 (acc.take i) (aC bg.h) x:=by
 intro x d;rw[KC (ζd (ε.1 g).1)];refine lK (λk a hk j=>?_) rfl;rw[ξe];rcases ξd k i with h|h|h
 ·rw[show υ k i=true from ο.mpr h];rcases s k a (p0 hk h) with h1|⟨h1,l,_⟩
  ·exact c.cl k h1
  ·rcases jr.1 j with b|b
   ·exact absurd b (h1 x d)
   ·exact absurd b (l x d)
 ·subst h;rw[c.no];cases f:υ k k with
  |false=>rfl
  |true=>have:=ο.mp f;omega
 ·rw[show υ k i=false by
   cases f:υ k i with
   |false=>rfl
   |true=>have:=ο.mp f;omega]
  have hp:=n.pos i k r a h g hk;have y:=t x d;obtain⟨o',gh,w,_,u⟩:=n.PF v hk;rcases u.cl with p|⟨h1,l,b⟩
  ·exact absurd j (pH p)
  ·rcases jr.1 j with m|m
   ·rcases b i r (p0 g h) with e|⟨_,_,e⟩
    ·cases q:L k with
     |false=>rfl
     |true=>have:=(c.up k q).2 i e;rw[c.no] at this;cases this
    ·exact absurd d (e x m)
   ·omega
theorem late (f:AnyF K P N ops bg acc gs pn st) (u:acc.length=ops.size) (j:la ops L i o) (g:acc[i]? =some r) (q: ∀x∈r.rd,x<r.nx) (t: ∀k∈keys r.up,k∈r.rd) {x:Nat} (v: ∃X,(x,X)∈r.ef):
  ∀k c,i<k->acc[k]? =some c->(∃X,(x,X)∈c.ef)->L k=false:=by
 intro k c h hk e;have hp:=f.pos i k r c h g hk;obtain⟨o',gh,z,_,s⟩:=f.PF u hk;rcases s.cl with l|⟨h1,w,m⟩
 ·exact absurd e (pH l)
 ·rcases m i r (p0 g h) with d|⟨d,n,y⟩
  ·cases p:L k with
   |false=>rfl
   |true=>have:=(j.up k p).2 i d;rw[j.no] at this;cases this
  ·exfalso;rcases jr.1 v with b|b
   ·have A:=q x (t x b);rcases jr.1 e with a|a
    ·exact d x (h1 x a) b
    ·omega
   ·rcases jr.1 e with a|a
    ·exact n x (h1 x a) b
    ·omega
variable {B:cO} {A:Pl} {O:Γ} {w:World} {a:Act}
theorem Ci (d:mD N ops) (c:la ops L i o) (l:my K P N ops bg acc gs B L A O w a) {env:aV S} (t: ∀s b,aV.get env s=some b->s∈fg ops o/\j2 ops bg (gs.take i) s b):cL A O w env a:=by
 intro s b h;obtain⟨p,he⟩:=t s b h;rcases he with⟨k,hk,e⟩|⟨r,x⟩
 ·have v:k<i:=by
   have:=(ε.1 e).1;rw[ξ3] at this;omega
  have u:gs[k]? =some (.done b):=by rw[ξU v] at e;exact e
  refine l.done k s b ?_ hk u;rcases d.slot i o s c.oi p with⟨j,m,n⟩|h1
  ·rw[<-d.un j k s n hk];exact c.af j m
  ·rcases h1 k hk with rfl|g
   ·omega
   ·have:=d.cl k (mQ hk) i g;omega
 ·refine l.base s b r λk hk=>?_;cases f:L k with
  |false=>rfl
  |true=>
   exfalso;rcases d.slot i o s c.oi p with⟨j,m,n⟩|h1
   ·have:=d.un j k s n hk;subst this;obtain⟨q,e⟩:=l.all j f;exact x j q hk (p0 e (d.below i o c.oi j m))
   ·rcases h1 k hk with rfl|g
    ·rw[c.no] at f;cases f
    ·have:=(c.up k f).2 i g;rw[c.no] at this;cases this
theorem bK.view {rd:Γ} {g gc:Nat->Option (Ob S)} (h:bK A O w g) (b: ∀x∈rd,g x=gc x):bK A O w (iZ rd gc):=by
 refine h.less λx X a=>?_;unfold iZ at a;cases hm:dA x rd<;>rw[hm] at a
 ·cases a
 ·rw[b x (gI.1 hm)];exact a
theorem b'.view {A':Pl} {O':Γ} {w':World} {rd:Γ} {ef:Up S} {g gc:Nat->Option (Ob S)} (h:b' A O w (iZ rd gc) ef A' O' w') (e: ∀x∈rd,g x=gc x) (l: ∀x X,(x,X)∈ef->x∈rd\/g x=Option.none):b' A O w g ef A' O' w':=by
 have at_: ∀x Z,iZ rd gc x=some Z->g x=some Z:=λx Z a=>by
  unfold iZ at a;cases hm:dA x rd<;>rw[hm] at a
  ·cases a
  ·rw[e x (gI.1 hm)];exact a
 refine⟨h.le,h.tr,h.ob,h.keep,λi X hi=>?_,h.dj,h.nd,λx X p m hp=>?_,h.pl,λi X Z hi a hn=>?_⟩
 ·obtain⟨p,h1,k,c⟩:=h.al i X hi;exact⟨p,h1,k,λb d=>⟨(c b d).1,(c b d).2.imp id λ⟨j,Y,q,V,f,a2,a3⟩=>⟨j,Y,q,V,f,at_ _ _ a2,a3⟩⟩⟩
 ·obtain⟨Z,a⟩:=h.lv x X p m hp;exact⟨Z,at_ _ _ a⟩
 ·rcases l i _ hi with h1|h1
  ·refine h.nt i X Z hi ?_ hn;unfold iZ;rw[gI.2 h1,cond_true,<-e i h1];exact a
  ·rw[a] at h1;cases h1
theorem PG (n:AnyF K P N ops bg acc gs pn st) (E:acc.length=ops.size) (C:la ops L i o) (j:acc[i]? =some r) (z: ∀x∈r.rd,x<r.nx) (m: ∀k∈keys r.up,k∈r.rd)
  {gc:Nat->Option (Ob S)} (s: ∀x∈r.rd,cD L 0 acc (aC bg.h) x=gc x) (t: ∀k∈keys r.up,∃Z,gc k=some Z) (f:my K P N ops bg acc gs B L A O w a) {A':Pl} {O':Γ} {w':World} (he:b' A O w (iZ r.rd gc) r.ef A' O' w'):
  fZ K P N B A' O' w' (b1 (cD L 0 acc (aC bg.h)) r.ef) (λx=>bg.h.length<=x/\ ∀(k:Nat) r,acc[k]? =some r->(ζ k i||L k)=true-> ¬(r.nx<=x/\x<r.nx+r.nw.length)) (λx=>x∈bg.dt\/ ∃(k:Nat) (r:ct S),acc[k]? =some r/\(ζ k i||L k)=true/\x∈keys r.up) bg.lp bg.inr bg.df a:=by
 have q: ∀x,r.nx<=x->x<r.nx+r.nw.length->bg.h.length<=x/\ ∀(k:Nat) r,acc[k]? =some r->L k=true-> ¬(r.nx<=x/\x<r.nx+r.nw.length):=by
  intro x h1 l;refine⟨by have:=(n.top i r j).1;omega,λk e hk d D=>?_⟩;rcases ξd k i with h|h|h
  ·have:=n.pos k i e r h hk j;omega
  ·subst h;rw[C.no] at d;cases d
  ·have:=n.pos i k r e h j hk;omega
 have u: ∀x X,(x,X)∈r.ef->x∈r.rd\/cD L 0 acc (aC bg.h) x=none:=λx X b=>by
  rcases jr.1 ⟨X,b⟩ with h|h
  ·exact .inl (m x h)
  ·right;cases g:cD L 0 acc (aC bg.h) x with
   |none=>rfl
   |some Z=>
    obtain⟨p,hp,_⟩:=f.c.rel.al x Z g;rw[f.c.iD x (q x h.1 h.2)] at hp;cases hp
 refine(f.c.ca (λx X b=>?_) (he.view s u)).weaken ?_ ?_
 ·rcases jr.1 ⟨X,b⟩ with h|h
  ·obtain⟨Z,g⟩:=t x h;exact .inl ⟨Z,by rw[s x (m x h)];exact g⟩
  ·exact .inr (q x h.1 h.2)
 ·rintro x ⟨h1,l⟩;refine⟨⟨h1,λk e hk d=>l k e hk (by rw[d,ξv])⟩,λX b=>?_⟩;rcases jr.1 ⟨X,b⟩ with h|h
  ·have:=z x (m x h);obtain⟨Z,g⟩:=t x h;have y:cD L 0 acc (aC bg.h) x=some Z:=by rw[s x (m x h)];exact g
   obtain⟨p,hp,_⟩:=f.c.rel.al x Z y;rw[f.c.iD x ⟨h1,λk e hk d=>l k e hk (by rw[d,ξv])⟩] at hp;cases hp
  ·exact l i r j (by rw[ξu,ζb]) h
 ·rintro x (⟨h|⟨k,e,hk,d,b⟩⟩|⟨⟨Z,g⟩,X,b⟩)
  ·exact .inl h
  ·exact .inr ⟨k,e,hk,by rw[d,ξv],b⟩
  ·rcases jr.1 ⟨X,b⟩ with h|h
   ·exact .inr ⟨i,r,j,by rw[ξu,ζb],h⟩
   ·have v:=q x h.1 h.2;obtain⟨p,hp,_⟩:=f.c.rel.al x Z g;rw[f.c.iD x v] at hp;cases hp
theorem abQ {a:Act} {d s:Nat} {v:Value} (c:d<a.tmps.size):(a.put (some d) v).tmps.getD s undef=bif ζ d s then v else a.tmps.getD s undef:=by
 cases b:ζ d s with
 |true=>
  have:=δ b;subst this;simp[ζA,θ,c]
 |false=>
  have f:d≠s:=λe=>by subst e;simp at b
  simp[ζA,θ,ξ0 f]
theorem PH (t:mD N ops) (q:la ops L i o) (l:my K P N ops bg acc gs B L A O w a) {A':Pl} {O':Γ} {w':World} (D:Tr O w O' w') (hle:A.le A') {m:AV S} {v:Value} (y:gs[i]? =some (.done m)) (I:m.rel A' O' w' v)
  (F:fZ K P N B A' O' w' (cD (λk=>ζ k i||L k) 0 acc (aC bg.h)) (λx=>bg.h.length<=x/\ ∀(k:Nat) r,acc[k]? =some r->(ζ k i||L k)=true-> ¬(r.nx<=x/\x<r.nx+r.nw.length)) (λx=>x∈bg.dt\/ ∃(k:Nat) (r:ct S),acc[k]? =some r/\(ζ k i||L k)=true/\x∈keys r.up) bg.lp bg.inr bg.df a):
  my K P N ops bg acc gs B (λk=>ζ k i||L k) A' O' w' (a.put o.dst v):=by
 have C: ∀s,(a.put o.dst v).tmps.getD s undef=(match o.dst with|some d=>bif ζ d s then v else a.tmps.getD s undef|none=>a.tmps.getD s undef):=by
  intro s;cases e:o.dst with
  |none=>rfl
  |some d=>
   have G:dh ops i=some d:=by unfold dh;rw[q.oi];exact e
   exact abQ (by rw[l.c.size];exact t.dN i d G)
 have u: ∀d,o.dst=some d->dh ops i=some d:=λd e=>by unfold dh;rw[q.oi];exact e
 refine⟨F.act ?_ ?_,?_,?_,?_⟩
 ·cases o.dst<;>simp[ζA]
 ·cases o.dst<;>rfl
 ·intro s b E z;rw[C s];have g:=(l.base s b E λk hk=>by have:=z k hk;simp only[Bool.or_eq_false_iff] at this;exact this.2).tr D hle;split
  ·rename_i d e;cases p:ζ d s with
   |true=>
    have:=δ p;subst this;have:=z i (u d e);simp at this
   |false=>exact g
  ·exact g
 ·intro k s b hk j n;rw[C s];cases f:ζ k i with
  |true=>
   have:=δ f;subst this;rw[y] at n;cases n;have H:o.dst=some s:=by unfold dh at j;rw[q.oi] at j;exact j
   rw[H];simpa using I
  |false=>
   simp only[f,ξZ] at hk;have g:=(l.done k s b hk j n).tr D hle;split
   ·rename_i d e;cases p:ζ d s with
    |true=>
     have:=δ p;subst this;have:=t.un k i d j (u d e);subst this;simp at f
    |false=>exact g
   ·exact g
 ·intro k hk;cases f:ζ k i with
  |true=>
   have:=δ f;subst this;exact⟨m,y⟩
  |false=>
   simp only[f,ξZ] at hk;exact l.all k hk
end
section
variable {S:bo} {K:Kit S} {P:Program} {N:Nat} {ops:Array Oper} {bg:AS S}
variable {acc:List (ct S)} {gs:List (Gh S)} {pn:Option (Γ×Value×AS S)} {st:AS S} {L:Nat->Bool} {i:Nat} {o:Oper} {r:ct S}
variable {B:cO} {A:Pl} {O:Γ} {w:World} {a:Act}
def e2 (n:Nat) (listed:Array Bool):Nat->Bool:=λk=>υ k n&&listed.getD k true
theorem aan {n:Nat} {listed:Array Bool} (c:listed.size=n) {i:Nat} (hi:i<n):e2 n (listed.setIfInBounds i true)=λk=>ζ k i||e2 n listed k:=by
 funext k
 unfold e2;cases a:ζ k i with
 |true=>
  have:=δ a;subst this;have h1:υ k n=true:=ο.mpr hi;rw[h1];simp[θ,c,hi]
 |false=>
  have b:i≠k:=λe=>by subst e;simp at a
  simp[θ,ξ0 b]
theorem abC (e:AnyF K P N ops bg acc gs pn st) (F:acc.length=ops.size) (R:mD N ops) (t:la ops L i o) (c:acc[i]? =some r) (C: ∀x∈r.rd,x<r.nx) (D: ∀k∈keys r.up,k∈r.rd)
  {gc:Nat->Option (Ob S)} (G: ∀x∈r.rd,cD L 0 acc (aC bg.h) x=gc x) (z: ∀k∈keys r.up,∃Z,gc k=some Z) (p:my K P N ops bg acc gs B L A O w a) {A':Pl} {O':Γ} {w':World} (he:b' A O w (iZ r.rd gc) r.ef A' O' w')
  {u:AS S} (hp:se ops bg acc gs i r u) (hle:B.nb<=bg.h.length) (q:bg.nb=B.nb):bn K P N B A' O' w' u a:=by
 have n:=PG e F t c C D G z p he;obtain⟨I,J,M,Q⟩:=hp.kI;rw[<-J,<-M,<-Q] at n;refine n.PU (λx=>?_) (λx d=>?_) (λx H d=>?_) (I.trans q) (by rw[hp.hl];have:=(e.top i r c).1;omega) (λs l E=>?_)
 ·rw[hp.hp x]
  by_cases f: ∃X,(x,X)∈r.ef
  ·exact qZ f
  ·rw[ei (λX g=>f ⟨X,g⟩),ei (λX g=>f ⟨X,g⟩),KC (ζd (ε.1 c).1)]
   symm
   refine lK (λk b hk j=>?_) rfl;rw[ξe];rcases ξd k i with h|h|h
   ·rw[show υ k i=true from ο.mpr h];rcases hp.pre k b h hk with h1|h1
    ·exact t.cl k h1
    ·exact absurd j (pH h1)
   ·subst h;rw[c] at hk;cases hk;exact absurd j f
   ·exact absurd j (pH (hp.post k b h hk))
 ·rw[hp.hl] at d;refine⟨by have:=(e.top i r c).1;omega,λk b hk y m=>?_⟩;rcases ξd k i with h|h|h
  ·have:=e.pos k i b r h hk c;omega
  ·subst h;rw[c] at hk;cases hk;omega
  ·rw[(hp.post k b h hk).2] at m;simp at m;omega
 ·rcases d with h|⟨k,b,hk,y,d⟩
  ·exact hp.mR x h
  ·rcases ω i k with h|h
   ·rw[(hp.post k b h hk).1] at d;cases d
   ·exact hp.dt k b x h hk d (by rw[q];exact H)
 ·obtain⟨h1,v⟩:=hp.env s l E;exact(p.base s l v λk hk=>absurd hk (h1 k)).tr he.tr he.le
theorem U4 (hm:P.follows .mixedOrders=true) (q:mD N ops) (f:AnyF K P N ops bg acc gs pn st) (J:acc.length=ops.size) {e:NP} {ae:AS S} (he:(pn=none/\e= .go/\ae=st)\/ ∃dead u V,pn=some (dead,u,V)/\e= .bA u/\ae=V) {id:Nat} (h:bn K P N B A O w bg a):
  (ζB id ops true).wpIn (fw B.rr) 0 P (hj K P N B e.x ae) a w:=by
 refine adh (I:=λlisted a w=> ∃A O,my K P N ops bg acc gs B (e2 ops.size listed) A O w a) hm q.below ?_ ?_ ?_
 ·rintro listed a w i o aj Z ⟨A,O,b⟩ G ax af;have aa:i<ops.size:=(ξa.1 G).1;have ab: ∀k,k<ops.size->listed.getD k true=true->e2 ops.size listed k=true:=λk h1 C=>by
   unfold e2;rw[C,ζp];exact ο.mpr h1
  have g:la ops (e2 ops.size listed) i o:=by
   refine⟨G,?_,?_,?_,?_⟩
   ·intro k hk;unfold e2 at hk;rw[η] at hk;have Q:=ο.mp hk.1;refine⟨Q,λj m=>?_⟩;have av:=q.cl k Q j m;refine ab j (by omega) ?_;unfold eA at m;rw[κ Q] at m;exact lA Z 12 _ (λx d=>Z k _ (κ Q) hk.2 x d) j m
   ·intro j m;have av:=q.cl i aa j m;refine ab j (by omega) ?_;unfold eA at m;rw[G] at m;exact lA Z 12 _ af j m
   ·unfold e2;rw[ax,Bool.and_false]
   ·intro j m;exact ab j (by have:=q.below i o G j m;omega) (af j m)
  have ai:i<acc.length:=by omega
  have n:acc[i]? =some acc[i]:=σ ai;have ah:i<gs.length:=by rw[f.lg];exact ai
  have R:=f.step i o acc[i] gs[i] G n (σ ah);have F:gs[i]? =some gs[i]:=σ ah;have ag: ∀j,j<acc[i].nw.length->A.pl (acc[i].nx+j)=none:=by
   intro j m;refine b.c.iD _ ⟨by have:=(f.top i _ n).1;omega,λk l hk E Y=>?_⟩;rcases ξd k i with h|h|h
   ·have:=f.pos k i l _ h hk n;omega
   ·subst h;rw[g.no] at E;cases E
   ·have:=f.pos i k _ l h n hk;omega
  simp only[wpOpIn,G];rw[aan aj aa];generalize aP:gs[i]=an at R F;cases an with
  |done p=>
   rcases R with⟨env,gc,hw⟩|⟨env,aD,aE,aF,ad⟩
   ·have D:=Ci q g b hw.ev;rw[if_pos (hw.Qo A O w a b.c.size D)];have L: ∀x∈acc[i].rd,cD (e2 ops.size listed) 0 acc (aC bg.h) x=gc x:=λx d=>(agree f J g n hw.lt hw.tb x d).trans (hw.gh x).symm;refine kX ?_ ?_ (hw.snd B.rr A O w a D (b.c.rel.view L) b.c.ob b.c.c_ ag)
    ·rintro a' w' ⟨v,rfl,W,z,A',O',aB,r⟩;cases z;refine⟨A',O',PH q g b r.tr r.le F aB ?_⟩;have M:=PG f J g n hw.lt hw.sub L hw.al b r;rw[show cD (λk=>ζ k i||e2 ops.size listed k) 0 acc (aC bg.h)=b1 (cD (e2 ops.size listed) 0 acc (aC bg.h)) acc[i].ef from funext λx=>KB n g.no λd=>late f J g n hw.lt hw.sub d];exact M
    ·intro x a' w' H;cases x with
     |panic ak=>obtain⟨u,_,_,z,_⟩:=H;cases z
     |_=>exact H.elim
   ·have D:=Ci q g b aD;rw[if_neg (by rw[aE A O w a b.c.size D];simp)];refine⟨λ_ _=>trivial,A,O,?_⟩;subst aF;refine PH q g b (Tr.refl O w) (Pl.le.refl A) F ⟨[],rfl,rfl⟩ ?_;have ar:acc[i].ef=[]:=by unfold ct.ef;rw[ad.1,ad.2];rfl
    rw[show cD (λk=>ζ k i||e2 ops.size listed k) 0 acc (aC bg.h)=cD (e2 ops.size listed) 0 acc (aC bg.h) from funext λx=>by
     rw[KB n g.no λd=>absurd d (pH ad),ar];rfl]
    refine b.c.weaken ?_ ?_
    ·rintro x ⟨h1,C⟩;exact⟨h1,λk l hk E=>C k l hk (by rw[E,ξv])⟩
    ·rintro x (h1|⟨k,l,hk,E,d⟩)
     ·exact .inl h1
     ·exact .inr ⟨k,l,hk,by rw[E,ξv],d⟩
  |bA u=>
   obtain⟨env,gc,hw⟩:=R;have D:=Ci q g b hw.ev;rw[if_pos (hw.Qo A O w a b.c.size D)];have L: ∀x∈acc[i].rd,cD (e2 ops.size listed) 0 acc (aC bg.h) x=gc x:=λx d=>(agree f J g n hw.lt hw.tb x d).trans (hw.gh x).symm;refine kX ?_ ?_ (hw.snd B.rr A O w a D (b.c.rel.view L) b.c.ob b.c.c_ ag)
   ·rintro a' w' ⟨v,rfl,W,z,_⟩;cases z
   ·intro x a' w' H;cases x with
    |panic ak=>
     obtain⟨aQ,rfl,rfl,z,A',O',r⟩:=H;cases z;rcases he with⟨h1,_⟩|⟨dead,aO,V,h1,rfl,rfl⟩
     ·obtain⟨p,C⟩:=f.lW h1 i _ F;cases C
     ·obtain⟨i0,aN,T,U,aL,aM,_⟩:=f.kK dead aO _ h1;have:=aM i u F;subst this;rw[F] at T;cases T;rw[n] at U;cases U;exact⟨rfl,A',O',abC f J q g n hw.lt hw.sub L hw.al b r aL h.le h.nb⟩
    |_=>exact H.elim
  |never=>
   obtain⟨_,k,hk,ay⟩:=R;exfalso;obtain⟨p,y⟩:=b.all k (g.cl k hk);exact ay p (p0 y (q.cl i aa k hk))
 ·rintro listed a w aj ao ⟨A,O,b⟩;have t: ∀k,k<ops.size->e2 ops.size listed k=true:=λk hk=>by unfold e2;rw[ao k hk,ζp];exact ο.mpr hk
  rcases he with⟨h1,rfl,rfl⟩|⟨dead,u,V,h1,rfl,rfl⟩
  ·refine⟨rfl,A,O,?_⟩;obtain⟨aH,aI,aJ,aK⟩:=f.kI;have M:=b.c;rw[<-aI,<-aJ,<-aK] at M;have aw: ∀ {k:Nat} {l:ct S},acc[k]? =some l->k<ops.size:=λhk=>by have:=(ε.1 hk).1;omega
   refine M.PU (λx=>?_) (λx d=>?_) (λx aG d=>?_) (aH.trans h.nb) (ζe h.le f.hl) (λs p aA=>?_)
   ·rw[f.hp x];refine lK (λk l hk _=>?_) rfl;rw[ξe];exact(t k (aw hk)).symm
   ·exact⟨ζe f.hl d,λk l hk _ Y=>by have:=(f.top k l hk).2;omega⟩
   ·rcases d with d|⟨k,l,hk,_,d⟩
    ·exact f.mR x d
    ·exact f.dt k l x hk d (by rw[h.nb];exact aG)
   ·rcases f.env s p aA with⟨k,hk,y⟩|⟨C,Y⟩
    ·exact b.done k s p (t k (mQ hk)) hk y
    ·refine b.base s p C λk hk=>?_;exfalso;obtain⟨W,y⟩:=b.all k (t k (mQ hk));exact Y k W hk y
  ·exfalso;obtain⟨i0,aN,T,U,_⟩:=f.kK dead u _ h1;have au:i0<ops.size:=by have:=(ε.1 U).1;omega
   obtain⟨p,y⟩:=b.all i0 (t i0 au);rw[T] at y;cases y
 ·have r:b' A O w (aC bg.h) [] A O w.drew:=Cb h.ob (Fr.drew [] w);have t: ∀k,e2 ops.size (ξ8 ops.size false) k=false:=λk=>by
   unfold e2;cases aq:υ k ops.size with
   |false=>rfl
   |true=>
    have:=ο.mp aq;simp[θ,this]
  refine⟨A,O,?_,?_,?_,?_⟩
  ·rw[show cD (e2 ops.size (ξ8 ops.size false)) 0 acc (aC bg.h)=aC bg.h from funext λx=>Dv λj l _ _=>by rw[ξe];exact t j];refine(h.toC.ca (ef:=[]) (λx X d=>by cases d) r).weaken ?_ ?_
   ·rintro x ⟨h1,_⟩;exact⟨h1,λX d=>by cases d⟩
   ·rintro x (h1|⟨_,X,d⟩)
    ·exact .inl h1
    ·cases d
  ·intro s p az _;exact(h.env s p az).tr r.tr r.le
  ·intro k s p hk;rw[t k] at hk;cases hk
  ·intro k hk;rw[t k] at hk;cases hk
end
section
variable {S:bo} {P:Program} {N:Nat} {ops:Array Oper} {bg:AS S} {R:Type} {z:R}
theorem DV {env:aV S} {s:Nat} {a:AV S} {l:Γ} (h:aV.get (eO env l) s=some a):s∈l/\aV.get env s=some a:=u1 (get_mem h)
theorem qd {env:aV S} {s:Nat}: ∀ {l:Γ},s∈l->aV.get (eO env l) s=aV.get env s
 |t::r,h=>by
  simp only[eO]
  by_cases c:t=s
  ·subst c;cases d:aV.get env t with
   |some a=>simp[aV.get]
   |none=>
    simp only
    by_cases b:t∈r
    ·rw[qd b,d]
    ·cases hk:aV.get (eO env r) t with
     |none=>rfl
     |some a=>exact absurd (DV hk).1 b
  ·have b:s∈r:=by
    rcases τ.1 h with h|h
    ·exact absurd h.symm c
    ·exact h
   cases d:aV.get env t with
   |some a=>
    have f:ζ t s=false:=by
     cases e:ζ t s with
     |false=>rfl
     |true=>exact absurd (δ e) c
    simp only[aV.get,f,cond_false];exact qd b
   |none=>exact qd b
theorem aeQ {env:aV S} {s:Nat} {c:AV S} (h:aV.get (F5 ops env) s=some c):(∀k,dh ops k≠some s)/\aV.get env s=some c:=by
 constructor
 ·have:=(ξk.1 (get_mem h)).2;rw[ξ4] at this;intro k hk;have h1:=this k (by simpa using mQ hk);rw[hk] at h1;simp at h1
 ·unfold F5 at h
  induction env with
  |nil=>cases h
  |cons p r d=>
   obtain⟨t,b⟩:=p;rw[List.filter_cons] at h;simp only[aV.get];split at h
   ·simp only[aV.get] at h;cases a:ζ t s with
    |true=>rw[a] at h;exact h
    |false=>rw[a] at h;exact d h
   ·rename_i e;cases a:ζ t s with
    |true=>
     exfalso;have f:=δ a;subst f;have h1:=(ξk.1 (get_mem h)).2;exact e h1
    |false=>exact d h
theorem UP {o:Oper} {st:AS S} {yes no:AS S->Option R} (h:mM N ops o.guard st yes no=some z):
  ∃g,(∀s,aV.get g s=aV.get st.env s)/\
   ((yes {st with env:=g}=some z/\ ∀A O w a,a.tmps.size=N->cL A O w (eO g (fg ops o)) a->ξ1 o (yielded ops a.tmps)=true)\/(no {st with env:=g}=some z/\ ∀A O w a,a.tmps.size=N->cL A O w (eO g (fg ops o)) a->ξ1 o (yielded ops a.tmps)=false)):=by
 unfold mM at h;split at h
 ·rename_i i;exact⟨st.env,λ_=>rfl,.inl ⟨h,λA O w a _ _=>by unfold ξ1;rw[i]⟩⟩
 ·rename_i j b i;split at h
  rotate_left
  ·cases h
  rename_i t n;split at h
  rotate_left
  ·cases h
  rename_i d m;cases l:υ d N<;>rw[l] at h
  ·cases h
  simp only[cond_true] at h;have p:d∈fg ops o:=by
   unfold fg Kk dh;rw[i];simp[n,m]
  split at h
  ·rename_i c k;have same: ∀s,aV.get ((d,AV.s (.one (.v (.bool c))))::st.env) s=aV.get st.env s:=λs=>by
    simp only[aV.get];cases q:ζ d s with
    |true=>
     have:=δ q;subst this;exact k.symm
    |false=>rfl
   refine⟨(d,AV.s (.one (.v (.bool c))))::st.env,same,?_⟩;have w1: ∀(A:Pl) (O:Γ) (w:World) (a:Act),a.tmps.size=N->cL A O w (eO ((d,AV.s (.one (.v (.bool c))))::st.env) (fg ops o)) a->ξ1 o (yielded ops a.tmps)=(c==b):=λA O w a f e=>
    Qi i n m (by rw[f];exact l) (ej (S:=S) (A:=A) (O:=O) (w:=w) (e d (.s (.one (.v (.bool c)))) (by rw[qd p,same d];exact k)))
   cases c<;>cases b<;>simp only[cond_true,cond_false] at h
   ·exact .inl ⟨h,λA O w a f e=>by rw[w1 A O w a f e];rfl⟩
   ·exact .inr ⟨h,λA O w a f e=>by rw[w1 A O w a f e];rfl⟩
   ·exact .inr ⟨h,λA O w a f e=>by rw[w1 A O w a f e];rfl⟩
   ·exact .inl ⟨h,λA O w a f e=>by rw[w1 A O w a f e];rfl⟩
  ·rename_i k;refine⟨st.env,λ_=>rfl,.inr ⟨h,λA O w a f e=>?_⟩⟩;obtain⟨xs,r,_⟩:=e d _ (by rw[qd p];exact k);exact PZ i n m (by rw[f];exact l) r
  ·cases h
variable {K:Kit S} {acc:List (ct S)} {gs:List (Gh S)} {pn:Option (Γ×Value×AS S)} {st st1:AS S} {r:ct S} {gh:Gh S}
theorem j2.snoc {s:Nat} {d:AV S} (h:j2 ops bg gs s d) (hn: ∀b,gh= .done b->dh ops gs.length≠some s):j2 ops bg (gs++[gh]) s d:=by
 rcases h with⟨k,h1,c⟩|⟨h1,c⟩
 ·exact .inl ⟨k,h1,by rw[φ (ε.1 c).1];exact c⟩
 ·refine .inr ⟨h1,λk b hk a=>?_⟩;rcases ξd k gs.length with e|heq|f
  ·rw[φ e] at a;exact c k b hk a
  ·subst heq;simp at a;exact hn b a hk
  ·rw[ξg (by simp;omega)] at a;cases a
theorem fk {α:Type} {l:List α} {x y:α} {k:Nat} (h:(l++[x])[k]? =some y):l[k]? =some y\/(k=l.length/\y=x):=by
 rcases ξd k l.length with a|heq|b
 ·rw[φ a] at h;exact .inl h
 ·subst heq;simp at h;exact .inr ⟨rfl,h.symm⟩
 ·rw[ξg (by simp;omega)] at h;cases h
theorem ou {α:Type} {l:List α} {x:α} {k:Nat} (h:k<=l.length):(l++[x]).take k=l.take k:=ξJ h
theorem AnyF.snoc (c:AnyF K P N ops bg acc gs pn st) (n: ∀x,aC st1.h x=b1 (aC st.h) r.ef x) (O:r.nx=st.h.length) (hl:st1.h.length=st.h.length+r.nw.length)
  (I: ∀s d,aV.get st1.env s=some d->(gh= .done d/\dh ops acc.length=some s)\/(aV.get st.env s=some d/\ ∀B,gh= .done B->dh ops acc.length≠some s))
  (Q:st1.nb=st.nb/\st1.lp=st.lp/\st1.inr=st.inr/\st1.df=st.df) (q: ∀x∈st.dt,x∈st1.dt) (H: ∀x∈keys r.up,x<st.nb->x∈st1.dt) (V: ∀o,ops[acc.length]? =some o->pe K P N ops bg acc gs acc.length o r gh)
  {kK:Option (Γ×Value×AS S)} (R:kK=none->pn=none/\ ∃d,gh= .done d)
  (T: ∀dead u z,kK=some (dead,u,z)-> ∃i y,(gs++[gh])[i]? =some (.bA u)/\(acc++[r])[i]? =some y/\se ops bg (acc++[r]) (gs++[gh]) i y z/\(∀k Y,(gs++[gh])[k]? =some (.bA Y)->k=i)/\(∀(k:Nat) (g:Gh S),(gs++[gh])[k]? =some g->((∃d,g=Gh.done d)\/k∈dead)/\(k∈dead-> ∀d,g≠Gh.done d))/\ ∀k∈dead,k<(acc++[r]).length):
  AnyF K P N ops bg (acc++[r]) (gs++[gh]) kK st1:=by
 have l:=c.lg;refine⟨by simp[l],?_,?_,?_,?_,?_,?_,?_,?_,?_,?_,T⟩
 ·intro x;rw[uQ,ξe,n x];simp only[cD,cond_true];exact P1 (c.hp x)
 ·have:=c.hl;omega
 ·intro i k a b L f G;rcases fk G with p|⟨rfl,rfl⟩
  ·rcases fk f with e|⟨rfl,rfl⟩
   ·exact c.pos i k a b L e p
   ·have:=(ε.1 p).1;omega
  ·rcases fk f with e|⟨rfl,rfl⟩
   ·rw[O];exact(c.top i a e).2
   ·omega
 ·intro i a f;rcases fk f with e|⟨rfl,rfl⟩
  ·have:=c.top i a e;omega
  ·have:=c.hl;omega
 ·intro s d U;rcases I s d U with⟨h1,m⟩|⟨h1,m⟩
  ·exact .inl ⟨acc.length,m,by rw[<-l];simp[h1]⟩
  ·exact(c.env s d h1).snoc (by rw[l];exact m)
 ·obtain⟨A,a2,a3,a4⟩:=c.kI;obtain⟨C,D,E,F⟩:=Q;exact⟨C.trans A,D.trans a2,E.trans a3,F.trans a4⟩
 ·exact λx n=>q x (c.mR x n)
 ·intro i a x f v w;rcases fk f with e|⟨rfl,rfl⟩
  ·exact q x (c.dt i a x e v w)
  ·exact H x v (by rw[c.kI.1];exact w)
 ·intro i o a g t f j;rcases fk f with e|⟨rfl,rfl⟩
  ·have M:=(ε.1 e).1;rw[ou (ζd M),ou (by omega)];refine c.step i o a g t e ?_;rw[φ (by omega)] at j;exact j
  ·rw[ou (ξc _),ζ3];rw[<-l,ou (ξc _),ζ3,l];have:g=gh:=by
    rw[<-l] at j;simp at j;exact j.symm
   subst this;exact V o t
 ·intro h k g j;obtain⟨W,X⟩:=R h;rcases fk j with J|⟨rfl,rfl⟩
  ·exact c.lW W k g J
  ·exact X
theorem AnyF.EO (t:AnyF K P N ops bg acc gs pn st) (D:r.up=[]/\r.nw=[]) {o:Γ} {y:Value} {w:AS S} (C:pn=some (o,y,w)) {dead:Γ} (l:dead=o/\(∃b,gh= .done b)\/dead=acc.length::o/\gh= .never):
  ∃i m,(gs++[gh])[i]? =some (.bA y)/\(acc++[r])[i]? =some m/\se ops bg (acc++[r]) (gs++[gh]) i m w/\(∀k n,(gs++[gh])[k]? =some (.bA n)->k=i)/\(∀(k:Nat) (g:Gh S),(gs++[gh])[k]? =some g->((∃b,g=Gh.done b)\/k∈dead)/\(k∈dead-> ∀b,g≠Gh.done b))/\ ∀k∈dead,k<(acc++[r]).length:=by
 obtain⟨i,m,h1,q,c,A,s,p⟩:=t.kK _ _ _ C;have v:=(ε.1 q).1;have B:=t.lg;have G: ∀u,gh≠ .bA u:=by
  intro u e;rcases l with⟨_,b,h⟩|⟨_,h⟩<;>rw[h] at e<;>cases e
 refine⟨i,m,?_,?_,?_,?_,?_,?_⟩
 ·rw[φ (by omega)];exact h1
 ·rw[φ v];exact q
 ·refine⟨?_,c.hl,c.env,c.kI,c.mR,?_,?_,?_⟩
  ·rw[ou (ζd v)];exact c.hp
  ·intro k a x hk d E F;rcases fk d with f|⟨rfl,rfl⟩
   ·exact c.dt k a x hk f E F
   ·omega
  ·intro k a hk d;rcases fk d with f|⟨rfl,rfl⟩
   ·exact c.pre k a hk f
   ·omega
  ·intro k a hk d;rcases fk d with f|⟨rfl,rfl⟩
   ·exact c.post k a hk f
   ·exact D
 ·intro k n hk;rcases fk hk with j|⟨rfl,e⟩
  ·exact A k n j
  ·exact absurd e.symm (G n)
 ·intro k g hk;rcases fk hk with j|⟨rfl,rfl⟩
  ·have H:=(ε.1 j).1;rcases l with⟨rfl,_⟩|⟨rfl,_⟩
   ·exact s k g j
   ·obtain⟨z,a2⟩:=s k g j;refine⟨z.imp id (μ _),λh=>?_⟩;rcases τ.1 h with e|h
    ·omega
    ·exact a2 h
  ·rcases l with⟨rfl,b,rfl⟩|⟨rfl,rfl⟩
   ·exact⟨.inl ⟨b,rfl⟩,λh=>by have:=p _ h;omega⟩
   ·exact⟨.inr (by rw[B];exact ν),λ_ b e=>by cases e⟩
 ·intro k hk;rw[χ];rcases l with⟨rfl,_⟩|⟨rfl,_⟩
  ·have:=p k hk;omega
  ·rcases τ.1 hk with e|h
   ·subst e;simp
   ·have:=p k h;omega
end
section
variable {S:bo} {P:Program} {N:Nat} {ops:Array Oper} {bg:AS S} {R:Type} {z:R}
theorem VW {pn:Option (Γ×Value×AS S)} {cl:Γ} (h:tg pn cl=true): ∃dead u a,pn=some (dead,u,a)/\ ∃j∈dead,j∈cl:=by
 unfold tg at h;split at h
 ·rename_i dead u a;rw[ζz] at h;obtain⟨j,h1,b⟩:=h;exact⟨dead,u,a,rfl,j,h1,gI.1 b⟩
 ·cases h
theorem KZ {l rd:Γ} (h:l.all (λi=>dA i rd)=true): ∀k∈l,k∈rd:=λk hk=>gI.1 (ξ4.1 h k hk)
theorem Nt {st:AS S} {o:Oper} {g:AV S} {k:AS S->Option R} (h:h5 N o st g k=some z):
  ∃i,k {st with env:=i}=some z/\ ∀s b,aV.get i s=some b->(o.dst=some s/\b=g)\/(aV.get st.env s=some b/\o.dst≠some s):=by
 unfold h5 at h;split at h
 ·rename_i d c;cases j:υ d N<;>rw[j] at h
  ·cases h
  ·refine⟨(d,g)::st.env,h,λs b a=>?_⟩;simp only[aV.get] at a;cases f:ζ d s with
   |true=>
    rw[f] at a;have:=δ f;subst this;simp only[cond_true,ι] at a;exact .inl ⟨c,a.symm⟩
   |false=>
    rw[f] at a;refine .inr ⟨a,λe=>?_⟩;rw[c] at e;cases e;simp at f
 ·rename_i c;exact⟨st.env,h,λs b a=>.inr ⟨a,by rw[c];simp⟩⟩
theorem ph {G:bw S} (D:bW G.K P) (C:j0 G P) (I:mD N ops) {ae:Nat->List (ay S)->AH S->(Rs S->AH S->Γ->Option R)->Option R} (H:jZ G.K P ae) {ai:Value->AS S->Option R} {k:AS S->Option R}:
  ∀ {c:Nat} {acc:List (ct S)} {gs:List (Gh S)} {pn:Option (Γ×Value×AS S)} {st:AS S},AnyF G.K P N ops bg acc gs pn st->acc.length+c=ops.size->kb G ae N ops ai k c acc pn st=some z->
   ∃ad an Z ak e aa,AnyF G.K P N ops bg ad an Z ak/\ad.length=ops.size/\ql ai k e aa=some z/\((Z=none/\e= .go/\aa=ak)\/ ∃dead u t,Z=some (dead,u,t)/\e= .bA u/\aa=t)
 |0,acc,gs,pn,st,d,hl,h=>by
  simp only[kb] at h;split at h
  ·exact⟨acc,gs,none,st,.go,st,d,by omega,h,.inl ⟨rfl,rfl,rfl⟩⟩
  ·rename_i dead u t;exact⟨acc,gs,_,st,.bA u,t,d,by omega,h,.inr ⟨dead,u,t,rfl,rfl,rfl⟩⟩
 |c+1,acc,gs,pn,st,d,hl,h=>by
  have W:=d.lg;simp only[kb] at h;split at h
  ·cases h
  rename_i o O;have aI:acc.length<ops.size:=by omega
  have J: ∀s,dh ops acc.length=some s↔o.dst=some s:=λs=>by unfold dh;rw[O]
  cases ag:tg pn (eA ops acc.length)<;>rw[ag] at h
  rotate_left
  ·
   simp only[cond_true] at h;obtain⟨dead,u,t,rfl,j,aw,ax⟩:=VW ag;refine ph D C I H (c:=c) (gs:=gs++[.never]) (d.snoc (λx=>rfl) rfl (by simp) (λs f n=>.inr ⟨n,λaG e=>by cases e⟩) ⟨rfl,rfl,rfl,rfl⟩ (λ_ h=>h) (λx l=>by cases l) ?_ (λe=>by cases e) ?_) (by rw[χ,ξr];omega) h
   ·intro o' q;refine⟨⟨rfl,rfl⟩,j,ax,λf au=>?_⟩;obtain⟨i,r,_,_,_,_,aq,_⟩:=d.kK _ _ _ rfl;exact(aq j _ au).2 aw f rfl
   ·rintro aH al aM e;cases e;exact d.EO ⟨rfl,rfl⟩ rfl (.inr ⟨rfl,rfl⟩)
  simp only[cond_false] at h;obtain⟨w,y,ar⟩:=UP h;have lW: ∀ {gh:Gh S},(∃f,gh= .done f)->pn=none->pn=none/\ ∃f,gh=Gh.done f:=λh e=>⟨e,h⟩;rcases ar with⟨B,hw⟩|⟨az,hw⟩
  ·simp only at B;cases X:(Fc G (eO w (fg ops o)) (aC st.h) o).all (λi=>υ i st.h.length)<;>rw[X] at B
   ·cases B
   simp only[cond_true] at B;generalize aK:Fc G (eO w (fg ops o)) (aC st.h) o=rd at B X;have ah: ∀x∈rd,x<st.h.length:=λx l=>ο.mp (ξ4.1 X x l);obtain⟨res,up,nw,m,aA⟩:=MX D C H B;have ev: ∀s f,aV.get (eO w (fg ops o)) s=some f->s∈fg ops o/\j2 ops bg gs s f:=λs f n=>by
    obtain⟨h1,p⟩:=DV n;rw[y s] at p;exact⟨h1,d.env s f p⟩
   have af: ∀ {b:Bool},(eX (aC st.h) up&&((keys up).all (λi=>dA i rd)&&(ke (eA ops acc.length) rd up acc 0&&b)))=true->
     b=true/\Want G.K P N ops bg acc gs acc.length o ⟨rd,up,st.h.length,nw⟩ res (eO w (fg ops o)) (aC st.h)/\(∀k∈keys up,k<st.h.length):=by
    intro b v;simp only[η] at v;obtain⟨aD,aj,aE,aF⟩:=v;refine⟨aF,⟨aA,ev,hw,d.hp,lh aD,KZ aj,ah,λk aL hk=>?_⟩,λk hk=>?_⟩
    ·have:=I6 aE hk
     rwa [ξe] at this
    ·exact ah k (KZ aj k hk)
   cases res with
   |ret f=>
    simp only[jQ] at m;cases v:(eX (aC st.h) up&&((keys up).all (λi=>dA i rd)&&(ke (eA ops acc.length) rd up acc 0&&(pn.isNone||F6 up nw))))<;>rw[v] at m
    ·cases m
    simp only[cond_true] at m;obtain⟨Q,Y,M⟩:=af v;obtain⟨T,V,U⟩:=Nt m;refine ph D C I H (c:=c) (acc:=acc++[⟨rd,up,st.h.length,nw⟩]) (gs:=gs++[.done f]) (d.snoc (st1:= {st.ca up nw with env:=T}) (λx=>?_) rfl ?_ (λs b n=>?_) ⟨rfl,rfl,rfl,rfl⟩ (λx l=>jo l) (λx l A=>kh A l) (λo' q=>?_) (lW ⟨f,rfl⟩) ?_) (by rw[χ,ξr];omega) V
    ·exact congrFun (tj M) x
    ·show(ew st.h up++nw).length=_;rw[χ,iU]
    ·rcases U s b n with⟨h1,rfl⟩|⟨h1,p⟩
     ·exact .inl ⟨rfl,(J s).2 h1⟩
     ·exact .inr ⟨by rw[<-y s];exact h1,λ_ _ e=>p ((J s).1 e)⟩
    ·rw[O] at q;cases q;exact .inl ⟨_,_,Y⟩
    ·intro dead u t e;subst e;have aB:up=[]/\nw=[]:=by
      simp only[Option.isNone_some,ξZ] at Q;unfold F6 at Q;split at Q
      ·exact⟨rfl,rfl⟩
      ·cases Q
     exact d.EO aB rfl (.inl ⟨rfl,f,rfl⟩)
   |bA u=>
    simp only[jQ] at m;cases ao:u.oneCell'<;>rw[ao] at m
    ·cases m
    simp only[cond_true] at m;split at m
    ·cases m
    cases v:(eX (aC st.h) up&&((keys up).all (λi=>dA i rd)&&(ke (eA ops acc.length) rd up acc 0&&idle (eA ops acc.length) acc 0)))<;>rw[v] at m
    ·cases m
    simp only[cond_true] at m;obtain⟨av,Y,M⟩:=af v;refine ph D C I H (c:=c) (acc:=acc++[⟨rd,up,st.h.length,nw⟩]) (gs:=gs++[.bA u]) (d.snoc (st1:=({st with env:=w}:AS S).ca up nw) (λx=>?_) rfl ?_ (λs b n=>?_) ⟨rfl,rfl,rfl,rfl⟩ (λx l=>jo l) (λx l A=>kh A l) (λo' q=>?_) (λe=>by cases e) ?_) (by rw[χ,ξr];omega) m
    ·exact congrFun (tj M) x
    ·show(ew st.h up++nw).length=_;rw[χ,iU]
    ·exact .inr ⟨by rw[<-y s];exact n,λ_ e=>by cases e⟩
    ·rw[O] at q;cases q;exact⟨_,_,Y⟩
    ·intro dead al t e;cases e;refine⟨acc.length,⟨rd,up,st.h.length,nw⟩,by rw[<-W,ξb (ξc _),ζt];rfl,by rw[ξb (ξc _),ζt];rfl,⟨?_,?_,?_,?_,?_,?_,?_,?_⟩,?_,?_,?_⟩
     ·intro x;rw[ou (ξc _),ζ3];rw[show aC (({st with env:=w}:AS S).ca up nw).h x=b1 (aC st.h) (up++news st.h.length nw) x from congrFun (tj M) x];exact P1 (d.hp x)
     ·show(ew st.h up++nw).length=_;rw[χ,iU]
     ·intro s b n;obtain⟨ab,a2⟩:=aeQ n;refine⟨ab,?_⟩;rw[y s] at a2;rcases d.env s b a2 with⟨k,hk,_⟩|⟨h1,_⟩
      ·exact absurd hk (ab k)
      ·exact h1
     ·exact d.kI
     ·exact λx l=>jo (d.mR x l)
     ·intro k a x hk E l A;rcases fk E with F|⟨rfl,rfl⟩
      ·exact jo (d.dt k a x F l A)
      ·exact kh (by show x<st.nb;rw[d.kI.1];exact A) l
     ·intro k a hk E;rcases fk E with F|⟨rfl,rfl⟩
      ·have:=KE av F
       rwa [ξe] at this
      ·omega
     ·intro k a hk E;rcases fk E with F|⟨rfl,rfl⟩
      ·have:=(ε.1 F).1;omega
      ·omega
     ·intro k al hk;rcases fk hk with L|⟨rfl,_⟩
      ·obtain⟨f,e⟩:=d.lW rfl k _ L;cases e
      ·exact W
     ·intro k g hk;rcases fk hk with L|⟨rfl,rfl⟩
      ·have aJ:=(ε.1 L).1;exact⟨.inl (d.lW rfl k g L),λhm=>by simp at hm;omega⟩
      ·exact⟨.inr (by rw[W];exact ν),λ_ f e=>by cases e⟩
     ·intro k hk;simp at hk;subst hk;simp
  ·obtain⟨T,V,U⟩:=Nt az;refine ph D C I H (c:=c) (acc:=acc++[⟨[],[],st.h.length,[]⟩]) (gs:=gs++[.done (.br [])]) (d.snoc (st1:= {st with env:=T}) (λx=>rfl) rfl (by simp) (λs b n=>?_) ⟨rfl,rfl,rfl,rfl⟩ (λ_ h=>h) (λx l=>by cases l) (λo' q=>?_) (lW ⟨_,rfl⟩) ?_) (by rw[χ,ξr];omega) V
   ·rcases U s b n with⟨h1,rfl⟩|⟨h1,p⟩
    ·exact .inl ⟨rfl,(J s).2 h1⟩
    ·exact .inr ⟨by rw[<-y s];exact h1,λ_ _ e=>p ((J s).1 e)⟩
   ·rw[O] at q;cases q;refine .inr ⟨eO w (fg ops o),λs f n=>?_,hw,rfl,rfl,rfl⟩;obtain⟨h1,p⟩:=DV n;rw[y s] at p;exact⟨h1,d.env s f p⟩
   ·intro dead u t e;exact d.EO ⟨rfl,rfl⟩ e (.inl ⟨rfl,_,rfl⟩)
theorem AnyF.start {K:Kit S}:AnyF K P N ops bg [] [] none bg:=by
 refine⟨rfl,λx=>rfl,ξc _,?_,?_,?_,⟨rfl,rfl,rfl,rfl⟩,λx h=>h,?_,?_,?_,?_⟩
 ·intro i k r d _ h;simp at h
 ·intro i r h;simp at h
 ·exact λs b h=>.inr ⟨h,λk c _ a=>by simp at a⟩
 ·intro i r x h;simp at h
 ·intro i o r gh _ h;simp at h
 ·intro _ k gh h;simp at h
 ·intro dead u e h;cases h
theorem UO {G:bw S} (hm:P.follows .mixedOrders=true) (j:bW G.K P) (i:j0 G P) {g:Nat->List (ay S)->AH S->(Rs S->AH S->Γ->Option R)->Option R} (l:jZ G.K P g) {n:List (ay S)->AS S->(Bool->AS S->Option R)->Option R} (q:s3 G.K P n) {draw:Bool} {st:AS S} {m:Value->AS S->Option R} {k:AS S->Option R} {id:Nat}
  (h:BD G g n N ops draw st m k=some z): ∃e b,ql m k e b=some z/\ ∀B A O w a,bn G.K P N B A O w st a->(ζB id ops draw).wpIn (fw B.rr) 0 P (hj G.K P N B e.x b) a w:=by
 unfold BD at h;split at h
 ·obtain⟨e,b,h1,c⟩:=BC j i l q h;refine⟨e,b,h1,λB A O w a f=>?_⟩;exact wpIn_region (c B A O w a f)
 ·cases d:we N ops<;>rw[d] at h
  ·cases h
  simp only[cond_true] at h;obtain⟨r,s,t,u,e,b,h1,c,o,p⟩:=ph j i (NT d) l AnyF.start (by simp) h;exact⟨e,b,o,λB A O w a f=>U4 hm (NT d) h1 c p f⟩
end
section
variable {S:bo} {K:Kit S} {P:Program} {N:Nat} {B:cO} {A A':Pl} {O O':Γ} {w w':World} {st:AS S} {a:Act}
theorem c7.cj {n0:Nat} {ρ:Nat->Option Nat} (k:f_ ρ A A'): ∀ {ds:List Deferred} {df b:List (LV S)},kR ρ df=some b->c7 n0 A O w df ds->c7 n0 A' O w b ds
 |[],df,b,a,h=>by
  rw[show df=[] from h] at a;cases a;rfl
 |d::ds,df,b,a,h=>by
  rcases h with⟨D,h1,m,e,g⟩|⟨i,r,f,u,c,rfl,e,g,n⟩
  ·exact .inl ⟨D,h1,m,e,c7.cj k a g⟩
  ·simp only[kR,LV.cj] at a;split at a
   ·rename_i x l;split at a
    ·rename_i y p;cases a;split at l
     ·rename_i j o;cases l;exact .inr ⟨j,y,f,u,c,rfl,k.pl _ _ _ o e,g,c7.cj k p n⟩
     ·cases l
    ·cases a
   ·cases a
theorem bn.gc {sl:Γ} (h:bn K P N B A O w st a): ∃A',bn K P N B A' O w (gc sl st) a:=by
 unfold Vx.gc;simp only;obtain⟨c,k⟩: ∃c,c=kept (aC st.h) st.nb (n_ (st.h.take st.nb)++(Fk (eO st.env sl)++n' st.df)):=⟨_,rfl⟩;rw[<-k];split
 ·rename_i df t;obtain⟨A',d⟩: ∃A':Pl,A'=⟨λj=>(c[j]?).bind A.pl,A.ls⟩:=⟨_,rfl⟩;have o:f_ (λi=>posOf i c 0) A A':=⟨λi j p hi hp=>by
   rw[d];simp only[n3 hi,ξo];exact hp,by rw[d]⟩
  have n: ∀i,i<B.nb->c[i]? =some i:=λi hi=>by rw[k];exact KV (by rw[h.nb];exact hi)
  have v: ∀i j,B.nb<=j->c[j]? =some i->B.nb<=i:=λi j m hi=>by rw[k,h.nb] at hi;exact KT m hi
  have x: ∀i,i<B.nb->A'.pl i=A.pl i:=λi hi=>by rw[d];simp[n i hi]
  refine⟨A',h.size,adk o h.env,?_,h.ob,h.c_,?_,h.nb,?_,h.tr,λi hi=>(x i hi).trans (h.pl i hi),by rw[d];exact h.ls,?_,?_,c7.cj o t h.df,h.lp,h.dl,h.hi,h.o0,h.rr,?_⟩
  ·exact h.rel.cj (idx:=λj=>c[j]?) (λj=>by rw[d]) (by rw[d]) (λi j C h1 e=>vy (by rw[k];exact KW) h1 e) (λi j hi=>n3 hi) (λj z m=>jL m)
  ·intro i hi;have:c.length<=i:=by simpa[l2,nY] using hi
   rw[d];simp[ξg this]
  ·show B.nb<=(eQ _ (fT _ c)).length;rw[l2,nY,k,<-h.nb];exact KU
  ·intro i X hi g;obtain⟨i0,f,h1,e,_⟩:=jL g;rw[n i hi] at h1;cases h1;exact h.lv i f hi e
  ·intro b r y s;obtain⟨c1,c2,q⟩:=h.cl b r y s;refine⟨c1,c2,λi X p hi g hp=>?_⟩;obtain⟨i0,f,h1,e,l⟩:=jL g;rw[d] at hp;simp only[h1,ξo] at hp;exact λu=>q i0 f p (v i0 i hi h1) e hp (Ob.l4 l u)
  ·intro i X hi g;obtain⟨i0,f,h1,e,l⟩:=jL g;rw[n i hi] at h1;cases h1;rw[Ob.wh l];exact h.nt i f hi e
 ·exact⟨A,h⟩
theorem en.put {l m:Nat} {o o' u:Obj} (h:en O w m u) (a:m≠l):en O (w.putObj l o') m u:=⟨⟨(ξm a).trans h.1.1,h.1.2⟩,h.2.1,h.2.2⟩
theorem pz {l:Nat} {o o':Obj} (hl:en O w l o):Tr O w O (w.putObj l o'):=(IS (n0:=0) o' hl.1.1 hl.1.2 hl.2.2 (ξt _)).tr
theorem bK.book {g:Nat->Option (Ob S)} {l:Nat} {o o':Obj} (h:bK A O w g) (hl:en O w l o):bK A O (w.putObj l o') g:=by
 have same: ∀ {i:Nat} {X:Ob S} {p:Value} {b:Nat},g i=some X->A.pl i=some p->cy w X p b->(w.putObj l o').heap[b]? =w.heap[b]? :=λ{i X p b} hi hp d=>by
  obtain⟨t,m,a,_⟩:=h.al i X hi;rw[hp] at m;cases m;exact ξm λe=>a.aaP hl.1.1 hl.2.1 (by rw[<-e];exact d)
 refine⟨λi X hi=>?_,λi j X Y p q b s hi k hp r u v=>h.gb i j X Y p q b s hi k hp r (kp (λc f=>same hi hp (.inl f)) u) (kp (λc f=>same k r (.inl f)) v)⟩;obtain⟨p,hp,a,d⟩:=h.al i X hi;exact⟨p,hp,a.keep (pz hl) (Pl.le.refl A) λb n=>⟨same hi hp n,h.gC hi hp n⟩,d⟩
theorem bn.book {l:Nat} {o o':Obj} {lp':Option (hh S)} {a':Act} (h:bn K P N B A O w st a) (hl:en O w l o) (hex:l∉B.O0\/B.ex=some l) (z:jb P B O (w.putObj l o') lp') (x:(lp'.isSome||st.inr)=true->a'.defers=[]) (v:c7 B.w0.heap.size A O (w.putObj l o') st.df a'.defers) (g:a'.tmps=a.tmps):
  bn K P N B A O (w.putObj l o') {st with lp:=lp'} a':=by
 have d:Tr O w O (w.putObj l o'):=pz hl;refine⟨by rw[g];exact h.size,?_,h.rel.book hl,?_,h.c_.tr d,h.free,h.nb,h.le,h.tr.trans d,h.pl,h.ls,h.lv,?_,v,z,x,h.hi,h.o0,h.rr,h.nt⟩
 ·intro s n D;rw[g];exact(h.env s n D).tr d (Pl.le.refl A)
 ·exact(IS (n0:=0) o' hl.1.1 hl.1.2 hl.2.2 (ξt _)).ob h.ob
 ·intro b j m u;obtain⟨c1,c2,q⟩:=h.cl b j m u;refine⟨?_,c2,λi X p hi f hp y=>q i X p hi f hp (kp (λc t=>?_) y)⟩
  rotate_left
  ·obtain⟨E,k,r,_⟩:=h.rel.al i X f;rw[hp] at k;cases k;exact ξm λe=>r.vB hl.1.1 hl.2.1 (by rw[<-e];exact t)
  have C:b≠l:=by
   rintro rfl;rcases hex with hex|hex
   ·exact hex j
   ·exact m hex
  exact(ξm C).trans c1
theorem c7.qW {n0:Nat} {A2:Pl} {j:Γ} {w2:World} (e: ∀i p,A.pl i=some p->A2.pl i=some p) (g: ∀D,en O w D (.deferred (some []))->en j w2 D (.deferred (some []))): ∀ {ds:List Deferred} {df:List (LV S)},c7 n0 A O w df ds->c7 n0 A2 j w2 df ds
 |[],df,h=>h
 |d::ds,df,h=>by
  rcases h with⟨D,h1,k,a,b⟩|⟨i,r,f,u,c,h1,a,b,l⟩
  ·exact .inl ⟨D,h1,k,g D a,c7.qW e g b⟩
  ·exact .inr ⟨i,r,f,u,c,h1,e _ _ a,b,c7.qW e g l⟩
def cO.of (A:Pl) (O:Γ) (w:World) (h:AH S) (ex rr:Option Nat):cO:=⟨A,O,w,h.length,λi=> ∃X,aC h i=some X,ex,rr⟩
theorem bn.init {h:AH S} {ex rr:Option Nat} {env:aV S} {lp:Option (hh S)} {inr:Bool} {dt:Γ} (j:bK A O w (aC h)) (hO:OB O w) (f:cI K O w) (e: ∀i,h.length<=i->A.pl i=none) (n:a.tmps.size=N) (he:cL A O w env a) (k:jb P (cO.of A O w h ex rr) O w lp) (m:inr=false->rr=none) (d:a.defers=[]) (l: ∀i X,aC h i=some X->X.nt=true):
  bn K P N (cO.of A O w h ex rr) A O w ⟨env,h,h.length,lp,inr,[],dt⟩ a:=
 ⟨n,he,j,hO,f,e,rfl,ξc _,Tr.refl _ _,λ_ _=>rfl,rfl,λi X _ c=>⟨X,c⟩,λb g _ _=>⟨rfl,g,λi X p hi c=>absurd (fa c) (Nat.not_lt.mpr hi)⟩,by rw[d];rfl,k,λ_=>d,e,hO,m,λi X _ c=>l i X c⟩
theorem bn.inner {L:Nat} {O1 f:Γ} {s e:World} {A1 A2:Pl} {ex rr:Option Nat} {st2:AS S} {a2:Act} (h:bn K P N B A O w st a) (T:Tr O w O1 s) (R: ∀b∈O,b∈O1/\s.heap[b]? =w.heap[b]?) (H:A1.pl=A.pl) (Z: ∀b∈O,ex≠some b) (d:bn K P L (cO.of A1 O1 s st.h ex rr) A2 f e st2 a2) {dt':Γ} (U: ∀x∈st.dt,x∈dt') (V: ∀x∈st2.dt,x<st.nb->x∈dt') (W:bK ⟨A2.pl,A.ls⟩ f e (aC st2.h)):
  bn K P N B ⟨A2.pl,A.ls⟩ f e {st with h:=st2.h,dt:=dt'} a/\(∀l o,en O w l o->en f e l o)/\Pl.le A ⟨A2.pl,A.ls⟩:=by
 have C: ∀i,i<st.h.length->A2.pl i=A.pl i:=λi hi=>by rw[d.pl i hi];exact congrFun H i
 have M: ∀i p,A.pl i=some p->A2.pl i=some p:=λi p hp=>by
  rcases ω i st.h.length with h1|h1
  ·rw[C i h1];exact hp
  ·rw[h.free i h1] at hp;cases hp
 have t:Pl.le A ⟨A2.pl,A.ls⟩:=⟨M,rfl⟩;have u:Tr O w f e:=T.trans d.tr;have I: ∀b∈O,(∀i∈st2.dt,(∃X,aC st.h i=some X)-> ∀p,A.pl i=some p->bS p≠some b)->e.heap[b]? =w.heap[b]? /\b∈f/\ ∀i X p,st.h.length<=i->aC st2.h i=some X->A2.pl i=some p-> ¬cy e X p b:=by
  intro b m q;obtain⟨s1,s2⟩:=R b m;obtain⟨g,j,E⟩:=d.cl b s1 (Z b m) λi hi hl p hp=>q i hi hl p (by rw[<-congrFun H i];exact hp);exact⟨g.trans s2,j,E⟩
 have n: ∀l o,en O w l o->en f e l o:=by
  rintro l o ⟨k,r,F⟩;obtain⟨g,j,_⟩:=I l F λi _ ⟨X,c⟩ p hp=>by
   obtain⟨ag,J,Q,_⟩:=h.rel.al i X c;rw[hp] at J;cases J;exact Q.vB k.1 r
  exact⟨⟨g.trans k.1,k.2⟩,r,j⟩
 refine⟨⟨h.size,h.env.tr u t,W,d.ob,d.c_,d.free,h.nb,ζe h.le d.le,h.tr.trans u,λi hi=>(C i (by have:=h.le;omega)).trans (h.pl i hi),h.ls,?_,?_,h.df.qW t.at_ (λD=>n D _),?_,h.dl,h.hi,h.o0,h.rr,λi X hi c=>d.nt i X (by have:=h.le;show i<st.h.length;omega) c⟩,n,t⟩
 ·intro i X hi c;obtain⟨Y,v⟩:=d.lv i X (by have:=h.le;show i<st.h.length;omega) c;exact h.lv i Y hi v
 ·intro b m aa q;obtain⟨c1,c2,G⟩:=h.cl b m aa λi hi=>q i (U i hi);obtain⟨g,j,E⟩:=I b c2 λi hi ⟨X,c⟩ p hp=>by
   rcases ω i B.nb with h1|h1
   ·exact q i (V i hi (by rw[h.nb];exact h1)) (h.lv i X h1 c) p (by rw[<-h.pl i h1];exact hp)
   ·exact λy=>G i X p h1 c hp (.inl y)
  refine⟨g.trans c1,j,λi X p hi c hp=>?_⟩;rcases ω i st.h.length with h1|h1
  ·obtain⟨Y,v⟩:=d.lv i X h1 c;have hp:A2.pl i=some p:=hp;rw[C i h1] at hp;exact λy=>G i Y p hi v hp (.inl (eN (d.nt i X h1 c) y))
  ·exact E i X p h1 c hp
 ·have z:=h.lp
  revert z
  generalize st.lp=lp;intro z;cases lp with
  |none=>trivial
  |some af=>
   obtain⟨l,fn,tm,D,k,ab,r,F,ad,ae⟩:=z;exact⟨l,fn,tm,D,k,ab,n _ _ r,n _ _ F,ad.tr u (Pl.le.refl _),ae⟩
variable {A1 A2:Pl}
theorem LV.rel.fS {l:LV S} {xs:Γb} (hn:l.fS=true) (g:A2.pl=A1.pl) (h:l.rel A1 O w xs):l.rel A2 O w xs:=by
 cases l with
 |v u=>exact h
 |ao t d=>exact h
 |ptr t d q=>exact h
 |an i q=>obtain⟨m,h1,a⟩:=h;exact⟨m,by rw[g];exact h1,a⟩
 |e_ i q n y=>obtain⟨m,h1,a⟩:=h;exact⟨m,by rw[g];exact h1,a⟩
 |own i=>obtain⟨m,h1,a⟩:=h;exact⟨m,by rw[g];exact h1,a⟩
 |eb e i y q=>obtain⟨b,n,c,h1,a⟩:=h;exact⟨b,n,c,by rw[g];exact h1,a⟩
 |fC i q n=>obtain⟨m,h1,a⟩:=h;exact⟨m,by rw[g];exact h1,a⟩
 |mp i=>obtain⟨m,h1,a⟩:=h;exact⟨m,by rw[g];exact h1,a⟩
 |aD i=>obtain⟨f,u,c,h1,a⟩:=h;exact⟨f,u,c,by rw[g];exact h1,a⟩
 |cT=>cases hn
 |cX i=>obtain⟨m,h1,a⟩:=h;exact⟨m,by rw[g];exact h1,a⟩
 |bu k n gs=>exact h
 |b2 n bs=>exact h
theorem Eg (a:A2.pl=A1.pl): ∀ {ls:List (LV S)} {xs:Γb},kF ls=true->bB A1 O w ls xs->bB A2 O w ls xs
 |[],_,_,h=>h
 |l::r,_,hn,⟨y,ys,e,h1,b⟩=>by
  simp only[kF,η] at hn;exact⟨y,ys,e,h1.fS hn.1 a,Eg a hn.2 b⟩
theorem MN (b:A2.pl=A1.pl) {a:ay S} {x:Value} (hn:kF a.cells=true) (h:a.rel A1 O w x):a.rel A2 O w x:=by
 cases a with
 |one l=>
  simp only[ay.cells,kF,ζp] at hn;exact LV.rel.fS hn b h
 |agg ls=>obtain⟨xs,h1,c⟩:=h;exact⟨xs,h1,Eg b hn c⟩
theorem qk (a:A2.pl=A1.pl): ∀ {ls:List (ay S)} {xs:Γb},lS ls=true->cF A1 O w ls xs->cF A2 O w ls xs
 |[],_,_,h=>h
 |l::r,_,hn,⟨y,ys,e,h1,b⟩=>by
  simp only[lS,η] at hn;exact⟨y,ys,e,MN a hn.1 h1,qk a hn.2 b⟩
theorem AV.Eh (b:A2.pl=A1.pl) {a:AV S} {x:Value} (hn:a.fS=true) (h:a.rel A1 O w x):a.rel A2 O w x:=by
 cases a with
 |s l=>exact MN b hn h
 |br ls=>obtain⟨xs,h1,c⟩:=h;exact⟨xs,h1,qk b hn c⟩
theorem Ob.Eh (d:A2.pl=A1.pl) {X:Ob S} {p:Value} (hn:X.fS=true) (h:c6 A1 O w X p):c6 A2 O w X p:=by
 cases X with
 |box t cs=>obtain⟨b,vs,h1,a,c⟩:=h;exact⟨b,vs,h1,a,Eg d hn c⟩
 |row e xs=>exact h
 |map g i m=>exact h
 |aD f fs cs=>
  simp only[Ob.fS,η] at hn;obtain⟨us,vs,h1,a,c⟩:=h;exact⟨us,vs,h1,qk d hn.1 a,qk d hn.2 c⟩
 |cX s pos=>exact h
 |cB t e bJ=>cases hn
theorem Ob.MO {X:Ob S} (hn:X.fS=true):X.nt=true:=by cases X<;>first|rfl|cases hn
theorem nP: ∀ {h:AH S} {i:Nat} {X:Ob S},hI h=true->aC h i=some X->X.fS=true
 |[],i,X,_,hi=>by simp[aC] at hi
 |none::r,0,X,_,hi=>by simp[aC] at hi
 |some Y::r,0,X,hn,hi=>by
  simp only[hI,η] at hn;simp only[aC,ξy,ι] at hi;subst hi;exact hn.1
 |none::r,i+1,X,hn,hi=>nP (h:=r) (i:=i) hn (by simpa[aC] using hi)
 |some Y::r,i+1,X,hn,hi=>by
  simp only[hI,η] at hn;exact nP (h:=r) (i:=i) hn.2 (by simpa[aC] using hi)
theorem MM (a:A2.pl=A1.pl) {h:AH S} (hn:hI h=true) (c:bK A1 O w (aC h)):bK A2 O w (aC h):=by
 refine⟨λi X hi=>?_,λi j X Y p q b f hi g hp k=>c.gb i j X Y p q b f hi g (by rw[<-a];exact hp) (by rw[<-a];exact k)⟩;obtain⟨p,hp,d,e⟩:=c.al i X hi;exact⟨p,by rw[a];exact hp,Ob.Eh a (nP hn hi) d,e⟩
theorem vC: ∀ {h:AH S} {i:Nat} {X:Ob S},jH h=true->aC h i=some X->X.nt=true
 |[],i,X,_,hi=>by simp[aC] at hi
 |none::r,0,X,_,hi=>by simp[aC] at hi
 |some Y::r,0,X,hn,hi=>by
  simp only[jH,η] at hn;simp only[aC,ξy,ι] at hi;subst hi;exact hn.1
 |none::r,i+1,X,hn,hi=>vC (h:=r) (i:=i) hn (by simpa[aC] using hi)
 |some Y::r,i+1,X,hn,hi=>by
  simp only[jH,η] at hn;exact vC (h:=r) (i:=i) hn.2 (by simpa[aC] using hi)
theorem ML: ∀ {env:aV S} {s:Nat} {a:AV S},nO env=true->aV.get env s=some a->a.fS=true
 |[],s,a,_,h=>by cases h
 |(t,b)::r,s,a,hn,h=>by
  simp only[nO,η] at hn;simp only[aV.get] at h;cases c:ζ t s with
  |true=>rw[c] at h;simp only[cond_true,ι] at h;subst h;exact hn.1
  |false=>rw[c] at h;exact ML hn.2 h
theorem aaQ (d:A2.pl=A1.pl) {env:aV S} {a:Act} (hn:nO env=true) (he:cL A1 O w env a):cL A2 O w env a:=λs c b=>AV.Eh d (ML hn b) (he s c b)
end
section
variable {S:bo} {K:Kit S} {P:Program} {N:Nat} {B:cO} {A A':Pl} {O O':Γ} {w w':World} {st:AS S} {a:Act} {R:Type} {z:R}
theorem PV {afC:List (ay S)} {vs:Γb} (h:cF A O w afC vs):(qX afC).rel A O w (hQ vs):=by
 match afC,vs,h with
 |[],vs,h=>rw[show vs=[] from h];exact⟨[],rfl,rfl⟩
 |[x],vs,⟨y,ys,e,h1,a⟩=>subst e;rw[show ys=[] from a];exact h1
 |x::x'::r,vs,h=>
  obtain⟨y,ys,rfl,h1,b,zs,rfl,a,c⟩:=h;exact⟨y::b::zs,by simp[hQ],y,_,rfl,h1,b,_,rfl,a,c⟩
theorem FD (z:bW K P) {fn:Func} {env:aV S} {h:AH S} {afC:List (ay S)} (H:jP K env h fn.results.toList=some afC) (he:cL A O w env a) (E:bK A O w (aC h)): ∃vs,cF A O w afC vs/\(results fn a.tmps).run P w= .ok (hQ vs) w:=by
 have key: ∀(l:List ResultVar) (afC:List (ay S)),jP K env h l=some afC-> ∃vs,cF A O w afC vs/\ ∀(F:ResultVar->Sem Value) (_: ∀t,F (.tmp t)=pure (a.tmps.getD t undef)) (_: ∀b t,F (.cell b t)=do loadVar t (<-asAddr (a.tmps.getD b undef))),(l.mapM F).run P w= .ok vs w:=by
  intro l
  induction l with
  |nil=>intro afC d;cases d;exact⟨[],rfl,λF _ _=>by simp⟩
  |cons x l r=>
   intro afC d;cases x with
   |tmp t=>
    simp only[jP] at d;split at d
    ·rename_i b m;split at d
     ·rename_i bs n;cases d;obtain⟨vs,h1,f⟩:=r bs n;refine⟨a.tmps.getD t undef::vs,⟨_,_,rfl,he t _ m,h1⟩,λF g k=>?_⟩;simp only[ζD,g,ξ,ξh,π,f F g k]
     ·cases d
    ·cases d
   |cell c t=>
    simp only[jP] at d;split at d
    rotate_left
    ·cases d
    rename_i b m;split at d
    rotate_left
    ·cases d
    rename_i i V cs hi C;cases q:ζ (dP cs) i.size<;>rw[q] at d
    ·cases d
    simp only[cond_true] at d;split at d
    rotate_left
    ·cases d
    rename_i T B;split at d
    rotate_left
    ·cases d
    rename_i bs n;cases d;obtain⟨us,h1,f⟩:=r bs n;obtain⟨bG,M,N⟩:=he c _ m;obtain⟨p,s,⟨U,vs,J,L,y⟩,_⟩:=E.al b _ C;rw[M] at s;cases s;cases J;have hlen:vs.length=i.size:=(gM y).trans (δ q);obtain⟨Q,R⟩:=BP B y;have D:dK w ⟨bG,0,none⟩ vs:=λj u G=>by
     have:(⟨bG,0,none⟩:Addr).add j=⟨bG,j,none⟩:=by unfold Addr.add;split<;>simp_all
     rw[this,L.cell];exact G
    have o:=l9 (P:=P) (z.Θ.fits hi) hlen D (λe=>by have:=R e;omega);simp only[Instr.loadAt,Instr.sureAddr,ξ,ξh,π] at o;have I:a.tmps.getD c undef= .pointer (some ⟨bG,0,none⟩):=by simpa using N
    refine⟨_::us,⟨_,_,rfl,Q,h1⟩,λF g k=>?_⟩;simp only[ζD,k,ξ,I,asAddr,ξh,π,o,f F g k]
 obtain⟨vs,h1,f⟩:=key _ _ H;refine⟨vs,h1,?_⟩;unfold results;rw[Array.mapM_eq_mapM_toList];simp only[ξ,Sem.run_map];rw[f _ (λt=>rfl) (λb t=>rfl)];simp only[π,ξh]
 congr 1
 match vs with
 |[]=>rfl
 |[v]=>rfl
 |v::u::vs=>simp[hQ]
end
section
variable {S:bo} {K:Kit S} {P:Program} {N:Nat} {B:cO} {A A':Pl} {O O':Γ} {w w':World} {st:AS S} {a:Act} {R:Type} {z:R}
theorem aav {D a:Nat} (h:Dc.mark D=Dc.mark a):D=a:=by
 unfold Dc.mark at h;simp only[Deferred.mk.injEq,ζK,and_true] at h;exact h
theorem c7.put {n0 D:Nat} {o':Obj}: ∀ {ds:List Deferred} {df:List (LV S)},Dc.mark D∉ds->c7 n0 A O w df ds->c7 n0 A O (w.putObj D o') df ds
 |[],df,_,h=>h
 |d::ds,df,hn,h=>by
  have g:Dc.mark D∉ds:=λhm=>hn (μ _ hm);rcases h with⟨j,h1,k,a,b⟩|⟨i,r,f,u,c,h1,a,b,l⟩
  ·exact .inl ⟨j,h1,k,a.put (o:=.deferred (some [])) (λe=>hn (by rw[h1,e];exact ν)),c7.put g b⟩
  ·exact .inr ⟨i,r,f,u,c,h1,a,b,c7.put g l⟩
theorem bn.take {tm:Array Value} {D:Nat} {ds:List Deferred} (h:bn K P N B A O w st {tmps:=tm,defers:=Dc.mark D::ds}) (c:B.w0.heap.size<=D/\Dc.mark D∉ds) (e:en O w D (.deferred (some []))) (f:c7 B.w0.heap.size A O w st.df ds):
  bn K P N B A O (w.putObj D (.deferred none)) st {tmps:=tm,defers:=ds}:=by
 have a:=h.dl;have b:st.lp=none:=by
  cases hl:st.lp with
  |none=>rfl
  |some i=>rw[hl] at a;have:=a rfl;cases this
 have g:st.inr=false:=by
  cases hl:st.inr with
  |false=>rfl
  |true=>rw[hl,ξv] at a;have:=a rfl;cases this
 refine h.book (lp':=st.lp) e (.inl λd=>?_) ?_ (λh=>?_) (f.put c.2) rfl
 ·have:=h.o0 D d;omega
 ·rw[b];trivial
 ·rw[b,g] at h;cases h
theorem vk {fn:Func} {a:Ending->World->Prop} {u:FrameMode} (hu:u≠ .run) (e:st.df=[]) {tm:Array Value}: ∀ {ds:List Deferred} {w:World},bn K P N B A O w st {tmps:=tm,defers:=ds}->(∀w',bn K P N B A O w' st {tmps:=tm,defers:=[]}->LeavesIn (fw none) 0 P fn tm a [] u w')->LeavesInM (fw none) 0 P fn tm a ds u w
 |[],w,h,hk=>hk w h
 |d::ds,w,h,hk=>by
  rcases h.df with⟨D,h1,g,b,j⟩|⟨i,r,f,k,c,h1,_⟩
  ·subst h1;exact⟨hu,.inl ⟨D,_,rfl,run_takeDeferred b.1.1,vk hu e (h.take g b j) hk⟩⟩
  ·rw[e] at h1;cases h1
def k9:Option Value->FrameMode->Prop
 |none,u=>u= .returning
 |some v,u=>u= .panicking [{v:=v,recovered:=false}]
theorem k9.out {p:Option Value} {u:FrameMode} (h:k9 p u):u≠ .run:=by
 cases p<;>rw[show u=_ from h]<;>simp
def mu (K:Kit S) (P:Program) (g:Nat) (cs:List (ay S)) (p:Option Value) (a:Nat->Option (Ob S)) (q:Option Value) (up:Up S):Prop:=ey P g/\ ∀(A:Pl) (O:Γ) (w:World) (xs:Γb) (u:FrameMode),cF A O w cs xs->bK A O w a->OB O w->cI K O w->k9 p u->CallsDIn (fw none) 0 P g xs.toArray u w (λe b w'=>(∃v,e= .returned v)/\k9 q (settle b)/\ ∃A' O',b' A O w a up A' O' w')
theorem D9 {fn:Func} {m:Ending->World->Prop} {i g:Nat} {cs:List (ay S)} {p q:Option Value} {up:Up S} (l:st.df=[.aD i]) (x:aC st.h i=some (.aD g [] cs)) (n:mu K P g cs p (aC st.h) q up) (o:eX (aC st.h) up=true) {tm:Array Value}:
  ∀ {ds:List Deferred} {w:World} {u:FrameMode},k9 p u->bn K P N B A O w st {tmps:=tm,defers:=ds}->(∀A' O' w' j,k9 q j->bn K P N B A' O' w' {st.ca up [] with df:=[]} {tmps:=tm,defers:=[]}->LeavesIn (fw none) 0 P fn tm m [] j w')->LeavesInM (fw none) 0 P fn tm m ds u w
 |[],w,u,hm,h,hk=>by have:=h.df;rw[l] at this;cases this
 |d::ds,w,u,hm,h,hk=>by
  rcases h.df with⟨D,h1,F,b,k⟩|⟨X,r,f,Y,c,h1,b,k,G⟩
  ·subst h1;exact⟨hm.out,.inl ⟨D,_,rfl,run_takeDeferred b.1.1,D9 l x n o hm (h.take F b k) hk⟩⟩
  ·rw[l] at h1;cases h1;obtain⟨M,H⟩:=n;obtain⟨pp,z,⟨us,vs,C,U,V⟩,_⟩:=h.rel.al i _ x;rw[b] at z;cases z;rw[show us=[] from U] at C;cases C;subst k;have s:=H A O w vs u V h.rel h.ob h.c_ hm;refine⟨hm.out,.inr ⟨λh=>by simp[fw] at h,.func g,vs.toArray,g,vs.toArray,rfl,?_,λ_ _=>trivial,s.1,λc E I R=>?_⟩⟩
   ·show(invoke (.fn (.func g) vs.toArray) #[]).run P w=_;have:=M vs.toArray w;simpa[invoke] using this
   ·obtain⟨e,j,w',fr,⟨⟨v,rfl⟩,y,A',O',t⟩,W⟩:=s.2 c E I R;refine⟨.returned v,j,w',fr,?_,W⟩;have a:bn K P N B A' O' w' (st.ca up []) {tmps:=tm,defers:= {target:=.fn (.func g) vs.toArray,args:= #[]}::ds}:=h.ca o (by simpa[news] using t);have T:bn K P N B A' O' w' {st.ca up [] with df:=[]} {tmps:=tm,defers:=ds}:=by
     have J:c7 B.w0.heap.size A' O' w' ([]:List (LV S)) ds:=c7.ca h.rel t G;have L:=h.dl;refine⟨a.size,a.env,a.rel,a.ob,a.c_,a.free,a.nb,a.le,a.tr,a.pl,a.ls,a.lv,a.cl,J,a.lp,λQ=>?_,a.hi,a.o0,a.rr,a.nt⟩;have:=L Q;cases this
    exact vk y.out rfl T λw2 b=>hk A' O' w2 _ y b
structure Gv (G:bw S) (P:Program):Prop where
 K:bW G.K P
 C:j0 G P
 H: ∀f c,pV G.H f=some c-> ∀ {R:Type} (afC:List (ay S)) (h:AH S) (k:Rs S->AH S->Γ->Option R) (z:R),c.out afC h k=some z-> ∃r h' dt,k r h' dt=some z/\cU G.K P f afC h r h' dt
 D: ∀g a,pU G.D g=some a-> ∀ {R:Type} (cs:List (ay S)) (p:Option Value) (b:Nat->Option (Ob S)) (k:Option Value->Up S->Option R) (z:R),a.out cs p b k=some z-> ∃q up,k q up=some z/\mu G.K P g cs p b q up
 T: ∀f J,G.T f=some J->P.funcs[f]? =some J.fn
 E: ∀f J,G.T f=some J->ey P f
 M:P.follows .mixedOrders=true
theorem adp {G:bw S} (n:Gv G P) {fn:Func} {e:AX} {k:Rs S->AS S->Option R} (h:qI G fn e st k=some z):
  ∃r d,k r d=some z/\d.nb=st.nb/\ ∀(N:Nat) (B:cO) (A:Pl) (O:Γ) (w:World) (a:Act) (b:Ending->World->Prop),bn G.K P N B A O w st a->
   (∀A' O' w' a' f,bn G.K P N B A' O' w' d a'->ic A' O' w' r f->b f w')->bodyPostM (fw none) 0 P fn b e.of a w:=by
 unfold qI at h;split at h
 ·rename_i j;split at h
  ·cases h
  ·rename_i u;refine⟨.bA u,st,h,rfl,λN B A O w a b c hk=>?_⟩;show LeavesInM (fw none) 0 P fn a.tmps b a.defers (.panicking _) w;exact vk (by simp) j (tm:=a.tmps) c λw' h'=>hk A O w' _ _ h' rfl
  ·rename_i s t;split at h
   rotate_left
   ·cases h
   rename_i afC has;refine⟨.ret (qX afC),st,h,rfl,λN B A O w a b c hk=>?_⟩;have fin:LeavesInM (fw none) 0 P fn a.tmps b a.defers .returning w:=vk (by simp) j (tm:=a.tmps) c λw' h'=>by
    obtain⟨vs,x,y⟩:=FD n.K (a:= {tmps:=a.tmps,defers:=[]}) has h'.env h'.rel;exact⟨_,y,hk A O w' _ _ h' ⟨_,rfl,PV x⟩⟩
   cases e with
   |normal=>exact fin
   |ret=>exact fin
   |exit id=>exact absurd rfl (s id)
   |bA u=>exact absurd rfl (t u)
 ·rename_i i j;split at h
  rotate_left
  ·cases h
  rename_i g cs H;split at h
  rotate_left
  ·cases h
  rename_i E I;have main: ∀ {p:Option Value},E.out cs p (aC st.h) (λp up=>bif !(eX (aC st.h) up) then none else(match p with
     |some u=>k (.bA u) {st.ca up [] with df:=[]}
     |none=>(match jP G.K st.env (ew st.h up) fn.results.toList with|some afC=>k (.ret (qX afC)) {st.ca up [] with df:=[]}|none=>none)))=some z->
    ∃r d,k r d=some z/\d.nb=st.nb/\ ∀(N:Nat) (B:cO) (A:Pl) (O:Γ) (w:World) (a:Act) (b:Ending->World->Prop) (u:FrameMode),k9 p u->bn G.K P N B A O w st a->
   (∀A' O' w' a' f,bn G.K P N B A' O' w' d a'->ic A' O' w' r f->b f w')->LeavesInM (fw none) 0 P fn a.tmps b a.defers u w:=by
   intro p hp;obtain⟨q,up,h1,F⟩:=n.D g E I _ _ _ _ _ hp;cases o:eX (aC st.h) up<;>rw[o] at h1
   ·cases h1
   simp only[ξY,cond_false] at h1;cases q with
   |some u=>
    refine⟨_,_,h1,rfl,λN B A O w a b L hm c hk=>?_⟩;refine D9 j H F o (tm:=a.tmps) hm c λA' O' w' C v h'=>?_;rw[show C=_ from v];exact hk A' O' w' _ _ h' rfl
   |none=>
    simp only at h1;split at h1
    rotate_left
    ·cases h1
    rename_i afC has;refine⟨_,_,h1,rfl,λN B A O w a b L hm c hk=>?_⟩;refine D9 j H F o (tm:=a.tmps) hm c λA' O' w' C v h'=>?_;rw[show C=_ from v];have J:bK A' O' w' (aC (ew st.h up)):=by
     have:=h'.rel;simpa[AS.ca] using this
    obtain⟨vs,x,y⟩:=FD n.K (a:= {tmps:=a.tmps,defers:=[]}) has h'.env J;exact⟨_,y,hk A' O' w' _ _ h' ⟨_,rfl,PV x⟩⟩
  simp only at h;split at h
  ·cases h
  ·rename_i u;obtain⟨r,d,h1,l,m⟩:=main h;exact⟨r,d,h1,l,λN B A O w a b c hk=>m N B A O w a b _ rfl c hk⟩
  ·rename_i s t;obtain⟨r,d,h1,l,m⟩:=main h;refine⟨r,d,h1,l,λN B A O w a b c hk=>?_⟩;have fin:=m N B A O w a b .returning rfl c hk;cases e with
   |normal=>exact fin
   |ret=>exact fin
   |exit id=>exact absurd rfl (s id)
   |bA u=>exact absurd rfl (t u)
 ·cases h
theorem abA {r:Rs S} {k:Rs S->AH S->Γ->Option R} (h:qw r st k=some z):
  ∃y h' dt,k y h' dt=some z/\ ∀(N:Nat) (B:cO) (A:Pl) (O:Γ) (w:World) (a:Act) (e:Ending),B.ex=none->bn K P N B A O w st a->ic A O w r e-> ∃A',ic A' O w y e/\rQ B.A0 B.O0 B.w0 B.nb h' dt A' O w:=by
 unfold qw at h;simp only at h;obtain⟨c,f⟩: ∃c,c=kept (aC st.h) st.nb (n_ (st.h.take st.nb)++(match r with| .ret a=>a.refs| .bA _=>[])):=⟨_,rfl⟩;have key: ∀(N:Nat) (B:cO) (A:Pl) (O:Γ) (w:World) (a:Act),B.ex=none->bn K P N B A O w st a-> ∃A',f_ (λi=>posOf i c 0) A A'/\rQ B.A0 B.O0 B.w0 B.nb (eQ (λi=>posOf i c 0) (fT (aC st.h) c)) (st.dt.filter λi=>υ i st.nb) A' O w:=by
  intro N B A O w a hex h;obtain⟨A',d⟩: ∃A':Pl,A'=⟨λj=>(c[j]?).bind A.pl,A.ls⟩:=⟨_,rfl⟩;have D:f_ (λi=>posOf i c 0) A A':=⟨λi j p hi hp=>by
   rw[d];simp only[n3 hi,ξo];exact hp,by rw[d]⟩
  have t: ∀i,i<B.nb->c[i]? =some i:=λi hi=>by rw[f];exact KV (by rw[h.nb];exact hi)
  have I: ∀i j,B.nb<=j->c[j]? =some i->B.nb<=i:=λi j l hi=>by rw[f,h.nb] at hi;exact KT l hi
  refine⟨A',D,?_,h.ob,h.tr,λi hi=>?_,λj l=>?_,by rw[d];exact h.ls,?_,?_,?_,?_⟩
  ·exact h.rel.cj (idx:=λj=>c[j]?) (λj=>by rw[d]) (by rw[d]) (λi j M h1 g=>vy (by rw[f];exact KW) h1 g) (λi j hi=>n3 hi) (λj J l=>jL l)
  ·rw[d];simp only[t i hi,ξo];exact h.pl i hi
  ·have:=(ξk.1 l).2;rw[<-h.nb];exact ο.mp this
  ·rw[l2,nY,f,<-h.nb];exact KU
  ·intro i hi;rw[l2,nY] at hi;rw[d];simp[ξg hi]
  ·intro b F G;obtain⟨c1,c2,C⟩:=h.cl b F (by rw[hex];simp) λi hi _ p hp=>by
    rcases ω i B.nb with h1|h1
    ·exact G i (ξk.2 ⟨hi,ο.mpr (by rw[h.nb];exact h1)⟩) p hp
    ·rw[h.hi i h1] at hp;cases hp
   refine⟨c1,c2,λi X p hi o hp=>?_⟩;obtain⟨i0,m,h1,g,n⟩:=jL o;rw[d] at hp;simp only[h1,ξo] at hp;exact λH=>C i0 m p (I i0 i hi h1) g hp (Ob.l4 n H)
  ·intro i X hi o;obtain⟨i0,m,h1,g,n⟩:=jL o;rw[t i hi] at h1;cases h1;rw[Ob.wh n];exact h.nt i m hi g
 cases r with
 |ret L=>
  simp only at h f;rw[<-f] at h;split at h
  ·rename_i a' E;refine⟨_,_,_,h,λN B A O w a e hex q ⟨v,h1,g⟩=>?_⟩;obtain⟨A',x,s⟩:=key N B A O w a hex q;exact⟨A',⟨v,h1,AV.hN x E g⟩,s⟩
  ·cases h
 |bA u=>
  simp only at h f;rw[<-f] at h;refine⟨_,_,_,h,λN B A O w a e hex q he=>?_⟩;obtain⟨A',x,s⟩:=key N B A O w a hex q;exact⟨A',he,s⟩
end
section
variable {S:bo} {K:Kit S} {P:Program} {N:Nat} {B:cO} {A A':Pl} {O O':Γ} {w w':World} {st:AS S} {a:Act} {R:Type} {z:R}
inductive Sub:Code->Code->Prop
 |refl (c):Sub c c
 |seq1 {x y d}:Sub x d->Sub (.seq x y) d
 |Ps {x y d}:Sub y d->Sub (.seq x y) d
 |Jj {o x y d}:Sub x d->Sub (.cond o x y) d
 |Jk {o x y d}:Sub y d->Sub (.cond o x y) d
 |block {id x d}:Sub x d->Sub (.block id x) d
 |loop {x d}:Sub x d->Sub (.loop x) d
 |scope {x d}:Sub x d->Sub (.scope x) d
def aJ (K:Kit S) (P:Program) (I:dr S) (c:Code):Prop:= ∀(x:Code) (lc:bh S),Sub c (.loop x)->gg I.lc (dI x)=some lc-> ∀ {R:Type} (st:AS S) (k:AX->AS S->Option R) (z:R),lc.out st k=some z-> ∃e b,k e b=some z/\ ∀B A O w a,bn K P I.fn.ntmps B A O w st a->(Code.loop x).wpIn (fw B.rr) 0 P (hj K P I.fn.ntmps B e b) a w
theorem aJ.nil {I:k6} {c:Code}:aJ K P (⟨I,[]⟩:dr S) c:=λx lc _ h=>by cases h
theorem aJ.sub {I:dr S} {c d:Code} (h:aJ K P I c) (b: ∀x,Sub d x->Sub c x):aJ K P I d:=λx lc h1 a=>h x lc (b _ h1) a
def jc (K:Kit S) (P:Program) (run: {R:Type}->dr S->Code->AS S->(AX->AS S->Option R)->Option R):Prop:= ∀ {R:Type} (I:dr S) (c:Code) (st:AS S) (k:AX->AS S->Option R) (z:R),aJ K P I c->run I c st k=some z-> ∃e b,k e b=some z/\ ∀B A O w a,bn K P I.fn.ntmps B A O w st a->c.wpIn (fw B.rr) 0 P (hj K P I.fn.ntmps B e b) a w
theorem Qz: ∀ {ps:Γ} {afC:List (ay S)} {b:aV S},jY ps afC=some b->ps.length=afC.length
 |[],[],_,_=>rfl
 |p::ps,a::afC,b,h=>by
  simp only[jY] at h;split at h
  ·rename_i e he;simp[Qz he]
  ·cases h
 |[],_::_,_,h=>by cases h
 |_::_,[],_,h=>by cases h
theorem JR: ∀ {l:List (Nat×Value)} {tm:Array Value},(l.foldl (λt p=>t.setIfInBounds p.1 p.2) tm).size=tm.size
 |[],tm=>rfl
 |(p,v)::l,tm=>by simp[JR]
theorem CN {s:Nat}: ∀ {l:List (Nat×Value)} {tm:Array Value},(∀p∈l,p.1≠s)->(l.foldl (λt p=>t.setIfInBounds p.1 p.2) tm).getD s undef=tm.getD s undef
 |[],tm,_=>rfl
 |(p,v)::l,tm,h=>by
  rw[List.foldl_cons,CN λq b=>h q (μ _ b)];have a:p≠s:=h (p,v) ν;simp only[θ,ξ0 a]
theorem QA {s:Nat} {b:AV S}: ∀ {ps:Γ} {afC:List (ay S)} {g:aV S} {xs:Γb} {tm:Array Value},jY ps afC=some g->n4 tm.size ps=true->cF A O w afC xs->aV.get g s=some b->b.rel A O w (((ps.zip xs).foldl (λt p=>t.setIfInBounds p.1 p.2) tm).getD s undef)
 |[],[],g,xs,tm,d,_,u,f=>by cases d;cases f
 |p::ps,c::afC,g,xs,tm,d,hp,⟨y,ys,e,h1,j⟩,f=>by
  subst e;simp only[jY] at d;split at d
  rotate_left
  ·cases d
  rename_i v r;cases d;simp only[n4,η] at hp;obtain⟨n,i,o⟩:=hp;have k:p<tm.size:=ο.mp n;have l:p∉ps:=λhm=>by rw[gI.2 hm] at i;cases i
  have m: ∀q∈ps.zip ys,q.1≠p:=λq h e=>l (by rw[<-e];exact(ζC (a:=q.1) (b:=q.2) h).1);simp only[aV.get] at f;show b.rel A O w (((ps.zip ys).foldl (λt p=>t.setIfInBounds p.1 p.2) (tm.setIfInBounds p y)).getD s undef);cases h:ζ p s with
  |true=>
   rw[h] at f;have:=δ h;subst this;simp only[cond_true,ι] at f;subst f;rw[CN m];have e:(tm.setIfInBounds p y).getD p undef=y:=by simp[θ,k]
   rw[e];exact h1
  |false=>
   rw[h] at f;exact QA r (by simpa using o) j f
 |[],_::_,g,xs,tm,d,_,_,_=>by cases d
 |_::_,[],g,xs,tm,d,_,_,_=>by cases d
theorem QB {s:Nat}: ∀ {ps:Γ} {afC:List (ay S)} {b:aV S},jY ps afC=some b->aV.get b s=none->s∉ps
 |[],[],b,a,_=>by simp
 |p::ps,c::afC,b,a,d=>by
  simp only[jY] at a;split at a
  rotate_left
  ·cases a
  rename_i h g;cases a;simp only[aV.get] at d;cases f:ζ p s with
  |true=>rw[f] at d;cases d
  |false=>
   rw[f] at d;intro hm;rcases τ.1 hm with e|hm
   ·subst e;simp at f
   ·exact QB g d hm
 |[],_::_,b,a,_=>by cases a
 |_::_,[],b,a,_=>by cases a
theorem J2 {env:aV S} {s:Nat}: ∀ {a:aV S},aV.get (a++env) s=(match aV.get a s with|some b=>some b|none=>aV.get env s)
 |[]=>rfl
 |(t,b)::r=>by
  simp only[ζ1,aV.get];cases ζ t s with
  |true=>rfl
  |false=>exact J2
theorem afy {env:aV S} {ps:Γ} {afC:List (ay S)} {g:aV S} {xs:Γb} {tm:Array Value} (f:jY ps afC=some g) (hp:n4 tm.size ps=true) (j:cF A O w afC xs) (he:cL A O w env {tmps:=tm,defers:=[]}):cL A O w (g++env) {tmps:=(ps.zip xs).foldl (λt p=>t.setIfInBounds p.1 p.2) tm,defers:=[]}:=by
 intro s d c;rw[J2] at c;split at c
 ·rename_i b h;cases c;exact QA f hp j h
 ·rename_i hn;have hn:=QB f hn;show d.rel A O w (((ps.zip xs).foldl (λt p=>t.setIfInBounds p.1 p.2) tm).getD s undef);rw[CN λq i e=>hn (by rw[<-e];exact(ζC (a:=q.1) (b:=q.2) i).1)];exact he s d c
theorem afx {run: {R:Type}->dr S->Code->AS S->(AX->AS S->Option R)->Option R} (an:jc K P run) {R:Type}:s3 (R:=R) K P (Gs run):=by
 intro afC st k z h;unfold Gs at h;split at h
 rotate_left
 ·cases h
 rename_i d Q;split at h
 rotate_left
 ·cases h
 rename_i au al ar;cases T:(n4 d.J.fn.ntmps d.ps&&jH st.h)<;>rw[T] at h
 ·cases h
 simp only[cond_true] at h;rw[η] at T;obtain⟨aV,aU⟩:=T;obtain⟨f,st1,h1,aY⟩:=an _ _ _ _ _ aJ.nil h;split at h1
 rotate_left
 ·cases h1
 rename_i aP;cases aj:jH st1.h<;>rw[aj] at h1
 ·cases h1
 simp only[cond_true] at h1;obtain⟨m,st2,u,aZ⟩:=an _ _ _ _ _ aJ.nil h1;obtain⟨dt',F⟩: ∃dt',dt'=e0 st.nb st.dt (st1.dt++st2.dt):=⟨_,rfl⟩;rw[<-F] at u;obtain⟨b,j,hk,aM⟩: ∃b j,k b {st with h:=st2.h,dt:=dt',lp:=some {d with fe:=j}}=some z/\(m= .normal/\b=true/\j=none\/m= .ret/\b=false/\j=some .ret\/ ∃id,m= .exit id/\b=false/\j=some (.exit id)):=by
  split at u
  ·refine⟨true,none,?_,.inl ⟨rfl,rfl,rfl⟩⟩;have:({d with fe:=none}:hh S)=d:=by rw[<-al]
   rw[this,<-Q];exact u
  ·cases u
  ·exact⟨false,_,u,.inr (.inl ⟨rfl,rfl,rfl⟩)⟩
  ·exact⟨false,_,u,.inr (.inr ⟨_,rfl,rfl,rfl⟩)⟩
 refine⟨b,_,hk,?_⟩;intro N B o c x A O w a l ak aH n aT ab g;have ah:=g.lp;rw[Q] at ah;obtain⟨l',fn,tm,D,aw,U,ax,ay,az,V⟩:=ah;have aS:l'=l:=by
  have:=g.ls;rw[aT,aw] at this;exact ξA this.symm
 subst aS;have L:a.defers=[]:=g.dl (by rw[Q];rfl);have aC: ∀i p,B.A0.pl i=some p->A.pl i=some p:=λi p hp=>by
  rcases ω i B.nb with h1|h1
  ·rw[g.pl i h1];exact hp
  ·rw[g.hi i h1] at hp;cases hp
 have aB:Pl.le B.A0 A:=⟨aC,g.ls⟩;have ag:w.heap[l']? =some (.loop (eu d fn tm D)):=ax.1.1;have a1:(c.args.map a.eval).size=(eu d fn tm D).params.size:=by
  have f:=wg ab;simp only[ξw,Array.length_toList] at f;simp[eu,f,Qz ar]
 have a6:=run_yield (P:=P) ag a1;obtain⟨r,ao⟩: ∃r,r=((eu d fn tm D).params.zip (c.args.map a.eval)).foldl (λtmps (t,a)=>tmps.setIfInBounds t a) tm:=⟨_,rfl⟩;have aq:r=(d.ps.zip (c.args.toList.map a.eval)).foldl (λt p=>t.setIfInBounds p.1 p.2) tm:=by
  rw[ao,<-ξQ];simp[eu]
 have a7:(Instr.yield l' (c.args.map a.eval)).run P w= .ok (.round l' fn r d.gz d.body) w:=by rw[a6,ao];rfl
 have aX:(execOp a.eval o).run P w= .ok (.round l' fn r d.gz d.body) w:=by
  simp only[execOp,ak,ξ,resolve,aH,n,ζ0,ξh,π,invoke];simpa using a7
 refine⟨λ_ _=>trivial,?_⟩;rw[ζn _ _ _ (by rw[ak];simp),aX,Oper.uponIn_round];refine⟨λh=>by simp[fw] at h,roundIn_of_wpIn trivial ?_⟩;have aN:cL A O w (au++d.env) {tmps:=r,defers:=[]}:=by
  rw[aq];exact afy ar (by rw[V];exact aV) ab (az.tr (Tr.refl _ _) aB)
 have i1:bn K P d.J.fn.ntmps (cO.of A O w st.h none (some l')) A O w ⟨au++d.env,st.h,st.h.length,none,true,[],[]⟩ {tmps:=r,defers:=[]}:=
  bn.init g.rel g.ob g.c_ g.free (by show r.size=_;rw[aq,JR,V]) aN trivial (λh=>by cases h) rfl (λi X H=>vC aU H)
 refine wpIn_mono (aY _ A O w _ i1) ?_;rintro e Y w1 ⟨rfl,⟨av,a8⟩,O1,q⟩;have aQ:a8=A.ls:=q.ls;subst aQ;show ∃bh,_;have aI: ∀x∈st.dt,x∈dt':=λx n=>by rw[F];exact jo n
 have aK: ∀x∈st1.dt,x<st.nb->x∈dt':=λx n hn=>by rw[F];exact kh hn (ξ9 _ n)
 have aL: ∀x∈st2.dt,x<st.nb->x∈dt':=λx n hn=>by rw[F];exact kh hn (ξ7 _ n)
 obtain⟨bc,Z,bf⟩:=g.inner (Tr.refl O w) (λb I=>⟨I,rfl⟩) rfl (λ_ _ h=>by cases h) q aI aK q.rel;have s:=Z _ _ ax;refine⟨_,run_beginRound s.1.1 (by simp[eu,al]),?_⟩;obtain⟨busy,ad⟩: ∃busy,busy=({eu d fn tm D with state:=.busy}:Loop):=⟨_,rfl⟩;rw[<-ad];have ae: ∀ {w':World} {A':Pl} {O':Γ},c7 B.w0.heap.size A' O' w' st.df a.defers:=λ{w' A' O'}=>by
  have:=g.df;rw[L] at this ⊢;exact this
 have W:=bc.book (o':=.loop busy) (lp':=none) (a':=a) s (.inr U) trivial (λ_=>L) ae rfl;have aF:Y.defers=[]:=q.dl (by rw[aP,ξv]);have i2:bn K P d.J.fn.ntmps (cO.of ⟨av,A.ls⟩ O1 (w1.putObj l' (.loop busy)) st1.h none (some l')) ⟨av,A.ls⟩ O1 (w1.putObj l' (.loop busy)) ⟨st1.env,st1.h,st1.h.length,none,true,[],[]⟩ Y:=
  bn.init (q.rel.book s) W.ob W.c_ q.free q.size (q.env.tr (pz s) (Pl.le.refl _)) trivial (λh=>by cases h) aF (λi X H=>vC aj H)
 refine wpIn_mono (aZ _ _ _ _ _ i2) ?_;rintro e a2 w2 ⟨rfl,⟨ba,a_⟩,aA,G⟩;have aR:a_=A.ls:=G.ls;subst aR;obtain⟨bd,aa,bg⟩:=W.inner (st2:=st2) (Tr.refl O1 _) (λb I=>⟨I,rfl⟩) rfl (λ_ _ h=>by cases h) G (dt':=dt') (λx n=>n) aL G.rel;have aD:=Z _ _ ay;have ai:D≠l':=by
  rintro rfl;have f:=ay.1.1;rw[ag] at f;cases f
 have bb:en O1 (w1.putObj l' (.loop busy)) l' (.loop busy):=⟨⟨ζ6 s.1.lt,rfl⟩,rfl,s.2.2⟩;have E:=aa _ _ bb;have aE:=aa _ _ (aD.put (o:=.loop (eu d fn tm D)) (o':=.loop busy) ai);have M: ∀jump:Option Code,jump=j.bind AX.code->(j=none↔jump=none)-> ∃v w',(Instr.endRound l' jump).run P w2= .ok v w'/\v= .bool jump.isNone/\ ∃A' O',bn K P N B A' O' w' {st with h:=st2.h,dt:=dt',lp:=some {d with fe:=j}} a:=by
  intro jump af aO;refine⟨_,_,run_endRound jump E.1.1,rfl,⟨ba,A.ls⟩,aA,?_⟩;have aW:({busy with state:=if jump.isNone then .ready else .done,pending:=jump}:Loop)=eu {d with fe:=j} fn tm D:=by
   rw[ad,af];unfold eu;cases j with
   |none=>rfl
   |some x=>
    have: ¬(jump=none):=λe=>by cases aO.2 e
    rw[af] at this;cases aG:(some x).bind AX.code with
    |none=>exact absurd aG this
    |some y=>rfl
  rw[aW];refine bd.book (o':=.loop (eu {d with fe:=j} fn tm D)) (lp':=some {d with fe:=j}) E (.inr U) ?_ (λ_=>L) ae rfl;exact⟨l',fn,tm,D,aw,U,⟨⟨ζ6 E.1.lt,rfl⟩,rfl,E.2.2⟩,aE.put (o:=.loop busy) ai,(((az.tr q.tr (Pl.le.refl _)).tr (pz s) (Pl.le.refl _)).tr G.tr (Pl.le.refl _)).tr (pz E) (Pl.le.refl _),V⟩
 rcases aM with⟨rfl,rfl,rfl⟩|⟨rfl,rfl,rfl⟩|⟨id,rfl,rfl,rfl⟩
 ·obtain⟨v,w',f,m,C⟩:=M none rfl (by simp);exact⟨v,w',f,v,rfl,by rw[m];rfl,C⟩
 ·obtain⟨v,w',f,m,C⟩:=M (some .ret) rfl (by simp);exact⟨v,w',f,v,rfl,by rw[m];rfl,C⟩
 ·obtain⟨v,w',f,m,C⟩:=M (some (.exit id)) rfl (by simp);exact⟨v,w',f,v,rfl,by rw[m];rfl,C⟩
end
section
variable {S:bo} {P:Program} {N:Nat} {B:cO} {A A':Pl} {O O':Γ} {w w':World} {st:AS S} {a:Act} {R:Type} {z:R}
theorem IE {s:Nat} {c:AV S}: ∀ {afC:List (ay S)} {i:Nat} {xs:Γb},cF A O w afC xs->aV.get (ij i afC) s=some c-> ∃x,i<=s/\xs[s-i]? =some x/\c.rel A O w x
 |[],i,xs,_,h=>by cases h
 |b::r,i,xs,⟨y,ys,e,h1,d⟩,h=>by
  subst e;simp only[ij,aV.get] at h;cases a:ζ i s with
  |true=>
   rw[a] at h;have:=δ a;subst this;simp only[cond_true,ι] at h;subst h;exact⟨y,ξc _,by simp,h1⟩
  |false=>
   rw[a] at h;obtain⟨x,j,f,g⟩:=IE (i:=i+1) d h;refine⟨x,by omega,?_,g⟩;rw[show s-i=(s-(i+1))+1 by omega];simpa using f
theorem IF {afC:List (ay S)} {xs:Γb} {n:Nat} (h:cF A O w afC xs):cL A O w (ij 0 afC) {tmps:=xs.toArray++ξ8 n undef,defers:=[]}:=by
 intro s a d;obtain⟨x,_,h1,b⟩:=IE h d;simp only[ζN] at h1;have c:=(ε.1 h1).1;have e:(xs.toArray++ξ8 n undef).getD s undef=x:=by
  rw[θ,Array.getElem?_append_left (by simpa using c)];simp[h1]
 show a.rel A O w ((xs.toArray++ξ8 n undef).getD s undef);rw[e];exact b
structure a_ (G:bw S) (P:Program):Prop extends Gv G P where
 L: ∀f J c,G.T f=some J->J.fn.body=some c->aJ G.K P J c
theorem IU {G:bw S} (a:a_ G P) {run: {R:Type}->dr S->Code->AS S->(AX->AS S->Option R)->Option R} (v:jc G.K P run) {f:Nat} {J:dr S} {c:Code} {afC:List (ay S)} {h:AH S} {k:Rs S->AH S->Γ->Option R} (b:G.T f=some J) (g:J.fn.body=some c) (hl:ξH afC.length J.fn.ntmps=true)
  (t:run J c ⟨ij 0 afC,h,h.length,none,false,[],[]⟩ (λe M=>qI G J.fn e M λr N=>qw r N k)=some z): ∃r h' dt,k r h' dt=some z/\cU G.K P f afC h r h' dt:=by
 obtain⟨e,st1,h1,x⟩:=v _ _ _ _ _ (a.L f J c b g) t;obtain⟨r,st2,l,W,y⟩:=adp a.toGv h1;obtain⟨F,h',dt,m,B⟩:=abA (K:=G.K) (P:=P) l;refine⟨F,h',dt,m,a.E f J b,λA O w xs d q hO o p s=>?_⟩;refine(callsIn_wide (n:=0)).1 (callsIn_of_wp_marks (a.T f J b) g trivial ?_);have hlen:=wg d;have hle:=ξ5 hl;have i1:bn G.K P J.fn.ntmps (cO.of A O w h none none) A O w ⟨ij 0 afC,h,h.length,none,false,[],[]⟩ {tmps:=xs.toArray++ξ8 (J.fn.ntmps-xs.toArray.size) undef,defers:=[]}:=
  bn.init q hO o p (by simp;omega) (IF d) trivial (λ_=>rfl) rfl s
 refine wpIn_mono (x _ A O w _ i1) ?_;rintro U Q w1 ⟨rfl,A1,O1,H⟩;refine y _ _ _ _ _ _ _ H λA2 j w2 a2 V I u=>?_;obtain⟨i,C,D⟩:=B _ _ _ _ _ _ _ rfl I u;exact⟨i,j,C,D⟩
theorem ac6 {G:bw S} (ab:a_ G P) {run: {R:Type}->dr S->Code->AS S->(AX->AS S->Option R)->Option R} (bd:jc G.K P run) {I:dr S} {fo:Operand} {ps:Array Nat} {gz body:Code} {k:AX->AS S->Option R} (h:E4 G run I fo ps gz body st k=some z):
  ∃e aH,k e aH=some z/\ ∀B A O w a,bn G.K P I.fn.ntmps B A O w st a->(Code.rangeFunc fo ps gz body).wpIn (fw B.rr) 0 P (hj G.K P I.fn.ntmps B e aH) a w:=by
 unfold E4 at h;split at h
 rotate_left
 ·cases h
 rename_i ax aw;split at h
 rotate_left
 ·cases h
 rename_i i aX;split at h
 rotate_left
 ·cases h
 rename_i g cs az;split at h
 rotate_left
 ·cases h
 rename_i J af;split at h
 rotate_left
 ·cases h
 rename_i aK au bb;cases ag:(ξH (1+cs.length) J.fn.ntmps&&(nO st.env&&hI st.h))<;>rw[ag] at h
 ·cases h
 simp only[cond_true] at h;simp only[η] at ag;obtain⟨hle,a6,ad⟩:=ag;obtain⟨ae,st1,h1,bf⟩:=bd _ _ _ _ _ (ab.L g J aK af au) h;obtain⟨e,f,hk,N,bx,a1,aV,aW⟩: ∃e f,k e {st with h:=st1.h,dt:=e0 st.nb st.dt st1.dt}=some z/\st1.lp=some f/\st1.df=[]/\hI st1.h=true/\(ae= .normal\/ae= .ret)/\(f.fe=none/\e= .normal\/f.fe=some .ret/\e= .ret\/ ∃id,f.fe=some (.exit id)/\e= .exit id):=by
  have tail:vY st st1 k=some z-> ∃e f,k e {st with h:=st1.h,dt:=e0 st.nb st.dt st1.dt}=some z/\st1.lp=some f/\st1.df=[]/\hI st1.h=true/\(f.fe=none/\e= .normal\/f.fe=some .ret/\e= .ret\/ ∃id,f.fe=some (.exit id)/\e= .exit id):=by
   intro h1;unfold vY at h1;split at h1
   ·rename_i f ah N;cases hn:hI st1.h<;>rw[hn] at h1
    ·cases h1
    simp only[cond_true] at h1;split at h1
    ·rename_i hp;exact⟨.normal,f,h1,N,ah,rfl,.inl ⟨hp,rfl⟩⟩
    ·rename_i hp;exact⟨.ret,f,h1,N,ah,rfl,.inr (.inl ⟨hp,rfl⟩)⟩
    ·rename_i id hp;exact⟨.exit id,f,h1,N,ah,rfl,.inr (.inr ⟨id,hp,rfl⟩)⟩
    ·cases h1
   ·cases h1
  cases ae with
  |normal=>obtain⟨e,f,t1,t2,t3,t4,t5⟩:=tail h1;exact⟨e,f,t1,t2,t3,t4,.inl rfl,t5⟩
  |ret=>obtain⟨e,f,t1,t2,t3,t4,t5⟩:=tail h1;exact⟨e,f,t1,t2,t3,t4,.inr rfl,t5⟩
  |exit id=>cases h1
  |bA u=>cases h1
 refine⟨e,_,hk,λB A O w a l=>?_⟩;have bc:=l.rr aw;rw[bc];refine wpIn_rangeFunc λfn _=>?_;obtain⟨f0,br,aJ,bl,aj⟩:=dM l.env l.c_ aX;have aj:a.eval fo= .func f0 br aJ:=by simpa using aj
 obtain⟨p,aF,⟨us,vs,aG,bm,bo⟩,_⟩:=l.rel.al i _ az;rw[bl] at aF;cases aF;rw[show us=[] from bm] at aG;cases aG;obtain⟨rec,aA⟩: ∃rec:Loop,rec=eu ⟨I.tok6,ps.toList,gz,body,st.env,none⟩ fn a.tmps w.heap.size:=⟨_,rfl⟩;obtain⟨m,W⟩: ∃m,(w.alloc (.deferred (some []))).alloc (.loop rec)=m:=⟨_,rfl⟩;have aN:m.heap[w.heap.size+1]? =some (.loop rec):=by
  rw[<-W];have:=ζg (w.alloc (.deferred (some []))) (.loop rec);rwa [World.size_alloc] at this
 have an:m.heap[w.heap.size]? =some (.deferred (some [])):=by
  rw[<-W];exact(ζ4 _ _ _ (by simp)).trans (ζg w _)
 have M:Fr [] w m:=by
  rw[<-W];exact⟨rfl,rfl,rfl,by simp;omega,λk hk _=>(ζ4 _ _ _ (by simp;omega)).trans (ζ4 _ _ _ hk)⟩
 have bD:m.heap.size=w.heap.size+2:=by rw[<-W];simp
 obtain⟨O1,U⟩: ∃O1,O1=w.heap.size::(w.heap.size+1)::O:=⟨_,rfl⟩;have ai: ∀b∈O,b∈O1:=λb q=>by rw[U];exact μ _ (μ _ q)
 have V:Tr O w O1 m:=⟨M.os,M.tape,M.output,M.size,λk hk a8=>⟨by rw[U];simp;exact⟨by omega,by omega,a8⟩,M.block k hk (by simp)⟩⟩;have aO:OB O1 m:=λk hk=>by
  rw[U] at hk;simp at hk;rcases hk with rfl|rfl|hk
  ·omega
  ·omega
  ·have:=l.ob k hk;omega
 have aq: ∀b∈O,b∈O1/\m.heap[b]? =w.heap[b]? :=λb q=>⟨ai b q,M.block b (l.ob b q) (by simp)⟩;obtain⟨A1,aa⟩: ∃A1:Pl,A1=⟨A.pl,some (w.heap.size+1)⟩:=⟨_,rfl⟩;have H:A1.pl=A.pl:=by rw[aa]
 refine⟨w.heap.size+1,[{target:=.collected w.heap.size,args:= #[]}],m,{target:=.fn (.func g) vs.toArray,args:= #[.func (.yield (w.heap.size+1)) #[] #[]]},m,g,
  #[.func (.yield (w.heap.size+1)) #[] #[]]++vs.toArray,m,?_,?_,?_,?_,λh=>by simp[fw] at h,?_⟩
 ·rw[<-W,aA];exact run_enterLoop_outer _ _ _ _ _
 ·simp only[resolve,aj];simp[go_sem]
 ·intro aM bz;trivial
 ·have aL: ∀(vs:Array Value) (u:World),(callFunc g vs).run P u= .ok (.enter g vs) u:=ab.E g J af;simp[invoke,go_sem,aL]
 ·
  have aB:cF A1 O1 m (.one .cT::cs) (.func (.yield (w.heap.size+1)) #[] #[]::vs):=by
   refine⟨_,_,rfl,⟨w.heap.size+1,by rw[aa],rfl⟩,?_⟩;have aT:lS cs=true:=by
    have:=nP ad az;simp only[Ob.fS,η] at this;exact this.2
   exact qk H aT (lZ V (Pl.le.refl A) bo)
  have hlen:=wg aB;simp only[ζ2] at hlen;have bB:=ξ5 hle;have aY:bK A O1 m (aC st.h):=by
   refine bK.qj (λj X r=>Ob.MO (nP ad r)) (λj X r=>?_) l.rel.dj;obtain⟨p,hp,ao,q⟩:=l.rel.al j X r;exact⟨p,hp,ao.keep V (Pl.le.refl A) λb Q=>⟨(aq b (l.rel.gC r hp Q)).2,ai b (l.rel.gC r hp Q)⟩,λb Q=>ai b (q b Q)⟩
  have aR:en O1 m (w.heap.size+1) (.loop rec):=⟨⟨aN,rfl⟩,rfl,by rw[U];simp⟩;have ar:en O1 m w.heap.size (.deferred (some [])):=⟨⟨an,rfl⟩,rfl,by rw[U];simp⟩;have i1:bn G.K P J.fn.ntmps (cO.of A1 O1 m st.h (some (w.heap.size+1)) none) A1 O1 m ⟨ij 0 (.one .cT::cs),st.h,st.h.length,some ⟨I.tok6,ps.toList,gz,body,st.env,none⟩,false,[],[]⟩ {tmps:=(#[ζr (.yield (w.heap.size+1)) #[] #[]]++vs.toArray)++ξ8 (J.fn.ntmps-(#[ζr (.yield (w.heap.size+1)) #[] #[]]++vs.toArray).size) undef,defers:=[]}:=by
   refine bn.init (MM H ad aY) aO (l.c_.tr V) (λj r=>by rw[H];exact l.free j r) (by simp at hlen ⊢;omega) ?_ ?_ (λ_=>rfl) rfl (λj X r=>Ob.MO (nP ad r))
   ·have:=IF (n:=J.fn.ntmps-(#[ζr (.yield (w.heap.size+1)) #[] #[]]++vs.toArray).size) aB;have e:(ζr (.yield (w.heap.size+1)) #[] #[]::vs).toArray= #[.func (.yield (w.heap.size+1)) #[] #[]]++vs.toArray:=by simp
    rw[e] at this;exact this
   ·refine⟨w.heap.size+1,fn,a.tmps,w.heap.size,by rw[cO.of,aa],rfl,by rw[<-aA];exact aR,ar,?_,l.size⟩;exact aaQ H a6 (l.env.tr V (Pl.le.refl A))
  refine callsIn_of_wp_marks (ab.T g J af) au trivial (wpIn_mono (bf _ A1 O1 m _ i1) ?_);rintro bu a2 s ⟨rfl,A2,Z,t⟩;have bC:A2.ls=some (w.heap.size+1):=by rw[t.ls,cO.of,aa]
  have av:a2.defers=[]:=t.dl (by rw[N];rfl);have Y: ∀b∈O,some (w.heap.size+1)≠some b:=λb q e=>by
   cases e;have:=l.ob _ q;omega
  have ba:bK ⟨A2.pl,A.ls⟩ Z s (aC st1.h):=MM (A1:=A2) (A2:=⟨A2.pl,A.ls⟩) rfl a1 t.rel;obtain⟨bq,aI,bk⟩:=l.inner V aq H Y t (dt':=e0 st.nb st.dt st1.dt) (λx Y=>jo Y) (λx Y hn=>kh hn Y) ba;have ay:=t.lp;rw[N] at ay;obtain⟨l',C,D,y,s1,s0,s2,bG,bH,bI⟩:=ay;have:l'=w.heap.size+1:=by
   have:some (w.heap.size+1)=some l':=s0;exact(ξA this).symm
  subst this;have aQ:en Z s w.heap.size (.deferred (some [])):=by
   obtain⟨bh,bj,_⟩:=t.cl w.heap.size ar.2.2 (λe=>by have e:some (w.heap.size+1)=some w.heap.size:=e;have:=ξA e;omega) λj _ hl p hp=>by
    obtain⟨X,aP⟩:=hl;obtain⟨bF,a',ao,q⟩:=l.rel.al j X aP;have hp:A1.pl j=some p:=hp;rw[H,a'] at hp;cases hp;intro Q;have:=l.ob _ (q _ Q);omega
   exact⟨⟨bh.trans an,rfl⟩,rfl,bj⟩
  have fin: ∀v,rangePost (fw none) 0 P (w.heap.size+1) (hj G.K P I.fn.ntmps B e {st with h:=st1.h,dt:=e0 st.nb st.dt st1.dt}) {a with defers:=[{target:=.collected w.heap.size,args:= #[]}]++a.defers} (.returned v) s:=by
   intro v;refine⟨_,_,run_endLoop s2.1.1 ?_,?_⟩
   ·unfold eu;cases f.fe<;>simp
   ·have a7:w.heap.size≠w.heap.size+1:=by omega
    have bg:B.w0.heap.size<=w.heap.size:=l.tr.size;have aZ:Dc.mark w.heap.size∉a.defers:=by
     have: ∀(ds:List Deferred) (df:List (LV S)),c7 B.w0.heap.size A O w df ds->Dc.mark w.heap.size∉ds:=by
      intro ds
      induction ds with
      |nil=>intro df _ hm;cases hm
      |cons d ds aE=>
       intro df aU hm;rcases aU with⟨F,d1,d0,d2,d3⟩|⟨bE,bp,aM,bJ,bt,d1,d2,d3,d4⟩
       ·rcases τ.1 hm with e|hm
        ·rw[d1] at e;have:=aav e;have:=d2.1.lt;omega
        ·exact aE df d3 hm
       ·rcases τ.1 hm with e|hm
        ·rw[d3] at e;unfold Dc.mark at e;cases e
        ·exact aE bp d4 hm
     exact this _ _ l.df
    have aS: ∀F,en O w F (.deferred (some []))->F≠w.heap.size+1:=λF h e=>by
     have:=h.1.lt;omega
    have ak:bn G.K P I.fn.ntmps B ⟨A2.pl,A.ls⟩ Z (s.putObj (w.heap.size+1) (.loop {eu f C D y with state:=.exhausted})) {st with h:=st1.h,dt:=e0 st.nb st.dt st1.dt} {a with defers:=[{target:=.collected w.heap.size,args:= #[]}]++a.defers}:=by
     refine bq.book (o':=.loop {eu f C D y with state:=.exhausted}) (lp':=st.lp) s2 (.inl λhm=>?_) (by rw[ax];trivial) (λh=>by rw[ax,show st.inr=false from aw] at h;cases h) ?_ rfl
     ·have:=l.o0 _ hm;have:=l.tr.size;omega
     ·refine .inl ⟨w.heap.size,rfl,⟨bg,aZ⟩,aQ.put (o:=.loop (eu f C D y)) a7,?_⟩;exact l.df.qW bk.at_ λF q=>(aI _ _ q).put (o:=.loop (eu f C D y)) (aS F q)
    have go: ∀j:Option Code,j=(eu f C D y).pending->(match j with
      |none=>hj G.K P I.fn.ntmps B e {st with h:=st1.h,dt:=e0 st.nb st.dt st1.dt} .normal {a with defers:=[{target:=.collected w.heap.size,args:= #[]}]++a.defers} (s.putObj (w.heap.size+1) (.loop {eu f C D y with state:=.exhausted}))
      |some c=>c.wpIn (fw none) 0 P (hj G.K P I.fn.ntmps B e {st with h:=st1.h,dt:=e0 st.nb st.dt st1.dt}) {a with defers:=[{target:=.collected w.heap.size,args:= #[]}]++a.defers} (s.putObj (w.heap.size+1) (.loop {eu f C D y with state:=.exhausted}))):=by
     intro j r;rcases aW with⟨hp,rfl⟩|⟨hp,rfl⟩|⟨id,hp,rfl⟩
     ·have:j=none:=by rw[r];unfold eu;rw[hp];rfl
      subst this;exact⟨rfl,_,_,ak⟩
     ·have:j=some .ret:=by rw[r];unfold eu;rw[hp];rfl
      subst this;exact wpIn_ret ⟨rfl,_,_,ak⟩
     ·have:j=some (.exit id):=by rw[r];unfold eu;rw[hp];rfl
      subst this;exact wpIn_exit ⟨rfl,_,_,ak⟩
    exact go _ rfl
  have aD:(results J.fn a2.tmps).run P s= .ok (hQ []) s:=by
   obtain⟨bs,t1,t2⟩:=FD (A:=A2) (O:=Z) (w:=s) (a:=a2) (env:=st1.env) (h:=st1.h) (afC:=[]) (fn:=J.fn) ab.K (by rw[bb];rfl) t.env t.rel;rw[show bs=[] from t1] at t2;exact t2
  rcases aV with rfl|rfl
  ·show LeavesInM (fw none) 0 P J.fn a2.tmps _ a2.defers .returning s;rw[av];exact⟨_,aD,fin _⟩
  ·show LeavesInM (fw none) 0 P J.fn a2.tmps _ a2.defers .returning s;rw[av];exact⟨_,aD,fin _⟩
theorem abJ {K:Kit S} {I:dr S} {x:Code} (h:bn K P N B A O w st a): ∃A',bn K P N B A' O w (No I x st) a:=by
 cases x<;>first|exact⟨A,h⟩|exact h.gc
def sd (K:Kit S) (P:Program) (n:Nat) (run: {R:Type}->dr S->Code->AS S->(AX->AS S->Option R)->Option R):Prop:= ∀ {R:Type} (I:dr S) (x:Code) (st:AS S) (k:AX->AS S->Option R) (z:R),aJ K P I (.loop x)->gg I.lc (dI x)=none->run I (.loop x) st k=some z-> ∃e b,k e b=some z/\ ∀B A O w a,bn K P I.fn.ntmps B A O w st a->Code.roundsIn (fw B.rr) 0 P x (hj K P I.fn.ntmps B e b) n a w
theorem Vi {G:bw S} (b:a_ G P) {run: {R:Type}->dr S->Code->AS S->(AX->AS S->Option R)->Option R} (i:jc G.K P run):jZ (R:=R) G.K P (BN G run):=by
 intro f afC h k z a;unfold BN at a;split at a
 ·rename_i e g;exact b.H f e g afC h k z a
 ·split at a
  ·rename_i J c;split at a
   ·rename_i j d;cases hl:ξH afC.length J.fn.ntmps<;>rw[hl] at a
    ·cases a
    ·exact IU b i c d hl a
   ·cases a
  ·cases a
theorem Ml {G:bw S} {n:Nat} (o:jc G.K P (λ{_}=>cm G n)) (p:sd G.K P n (λ{_}=>cm G n)):sd G.K P (n+1) (λ{_}=>cm G (n+1)):=by
 intro R I x st k z d f h;simp only[cm,f] at h;obtain⟨e,st1,h1,g⟩:=o _ _ _ _ _ (d.sub λ_ h=>.loop h) h
 by_cases he:e= .normal
 ·subst he;obtain⟨i,st2,j,m⟩:=p _ _ _ _ _ d f h1;refine⟨i,st2,j,λB A O w a b=>wpIn_mono (g B A O w a b) ?_⟩;rintro x' a' w' ⟨rfl,A',O',c⟩;obtain⟨A2,l⟩:=c.gc (sl:=I.L (dI x));exact m B A2 O' w' a' l
 ·refine⟨e,st1,by cases e<;>first|exact h1|exact absurd rfl he,λB A O w a b=>wpIn_mono (g B A O w a b) ?_⟩;rintro x' a' w' ⟨rfl,A',O',c⟩;cases e<;>first|exact⟨rfl,A',O',c⟩|exact absurd rfl he
theorem aem {G:bw S} (p:a_ G P) {n:Nat} (i:jc G.K P (λ{_}=>cm G n)) (H:sd G.K P (n+1) (λ{_}=>cm G (n+1))):jc G.K P (λ{_}=>cm G (n+1)):=by
 intro R I c st k z j h;cases c with
 |loop x=>
  cases r:gg I.lc (dI x) with
  |some lc=>
   simp only[cm,r] at h;exact j x lc (.refl _) r st k z h
  |none=>
   obtain⟨e,st1,h1,g⟩:=H _ _ _ _ _ j r h;exact⟨e,st1,h1,λB A O w a d=>wpIn_loop_rounds (n+1) (g B A O w a d)⟩
 |skip=>simp only[cm] at h;exact⟨.normal,st,h,λB A O w a d=>wpIn_skip ⟨rfl,A,O,d⟩⟩
 |label l=>simp only[cm] at h;exact⟨.normal,st,h,λB A O w a d=>wpIn_label ⟨rfl,A,O,d⟩⟩
 |exit id=>simp only[cm] at h;exact⟨.exit id,st,h,λB A O w a d=>wpIn_exit ⟨rfl,A,O,d⟩⟩
 |ret=>simp only[cm] at h;exact⟨.ret,_,h,λB A O w a d=>wpIn_ret (have⟨A2,s⟩:=d.gc (sl:=I.L 1000000);⟨rfl,A2,O,s⟩)⟩
 |seq x y=>
  simp only[cm] at h;obtain⟨e,st1,h1,g⟩:=i _ _ _ _ _ (j.sub λ_ h=>.seq1 h) h
  by_cases he:e= .normal
  ·subst he;obtain⟨v,st2,D,F⟩:=i _ _ _ _ _ (j.sub λ_ h=>.Ps h) h1;refine⟨v,st2,D,λB A O w a d=>wpIn_seq (wpIn_mono (g B A O w a d) ?_)⟩;rintro x' a' w' ⟨rfl,A',O',f⟩;exact F B A' O' w' a' f
  ·refine⟨e,st1,by cases e<;>first|exact h1|exact absurd rfl he,λB A O w a d=>wpIn_seq (wpIn_mono (g B A O w a d) ?_)⟩;rintro x' a' w' ⟨rfl,A',O',f⟩;cases e<;>first|exact⟨rfl,A',O',f⟩|exact absurd rfl he
 |cond o x y=>
  simp only[cm] at h;split at h
  rotate_left
  ·cases h
  rename_i b m;cases b with
  |true=>
   simp only[cond_true] at h;obtain⟨e,st1,h1,g⟩:=i _ _ _ _ _ (j.sub λ_ h=>.Jj h) h;exact⟨e,st1,h1,λB A O w a d=>wpIn_cond_true (ej (S:=S) (A:=A) (O:=O) (w:=w) (dM d.env d.c_ m)) (g B A O w a d)⟩
  |false=>
   simp only[cond_false] at h;obtain⟨e,st1,h1,g⟩:=i _ _ _ _ _ (j.sub λ_ h=>.Jk h) h;exact⟨e,st1,h1,λB A O w a d=>wpIn_cond_false (ej (S:=S) (A:=A) (O:=O) (w:=w) (dM d.env d.c_ m)) (g B A O w a d)⟩
 |block id x=>
  simp only[cm] at h;obtain⟨e,st1,h1,g⟩:=i _ _ _ _ _ (j.sub λ_ h=>.block h) h;have body: ∀B A O w a,bn G.K P I.fn.ntmps B A O w st a->x.wpIn (fw B.rr) 0 P (hj G.K P I.fn.ntmps B e st1) a w:=λB A O w a d=>by
   obtain⟨A',f⟩:=abJ (I:=I) (x:=x) d;exact g B A' O w a f
  cases e with
  |exit q=>
   cases m:ζ q id with
   |true=>
    simp only[m,cond_true] at h1;refine⟨.normal,_,h1,λB A O w a d=>wpIn_block (wpIn_mono (body B A O w a d) ?_)⟩;rintro x' a' w' ⟨rfl,A',O',f⟩;show if q=id then _ else _;rw[if_pos (δ m)];obtain⟨A2,s⟩:=f.gc (sl:=I.L (1000001+id));exact⟨rfl,A2,O',s⟩
   |false=>
    simp only[m,cond_false] at h1;refine⟨.exit q,st1,h1,λB A O w a d=>wpIn_block (wpIn_mono (body B A O w a d) ?_)⟩;rintro x' a' w' ⟨rfl,A',O',f⟩;show if q=id then _ else _;rw[if_neg (λe=>by subst e;simp at m)];exact⟨rfl,A',O',f⟩
  |normal=>
   refine⟨.normal,st1,h1,λB A O w a d=>wpIn_block (wpIn_mono (body B A O w a d) ?_)⟩;rintro x' a' w' ⟨rfl,A',O',f⟩;exact⟨rfl,A',O',f⟩
  |ret=>
   refine⟨.ret,st1,h1,λB A O w a d=>wpIn_block (wpIn_mono (body B A O w a d) ?_)⟩;rintro x' a' w' ⟨rfl,A',O',f⟩;exact⟨rfl,A',O',f⟩
  |bA u=>
   refine⟨.bA u,st1,h1,λB A O w a d=>wpIn_block (wpIn_mono (body B A O w a d) ?_)⟩;rintro x' a' w' ⟨rfl,A',O',f⟩;exact⟨rfl,A',O',f⟩
 |scope x=>
  simp only[cm] at h;cases t:st.inr<;>rw[t] at h
  rotate_left
  ·cases h
  simp only[cond_false] at h;obtain⟨e,st1,h1,g⟩:=i _ _ _ _ _ (j.sub λ_ h=>.scope h) h;refine⟨e,st1,h1,λB A O w a d=>?_⟩;have E:=d.rr t;have:=g B A O w a d;rw[E] at this ⊢;rw[Y6] at this ⊢;refine wpIn_wide.2 (wp_scope_straight (wpIn_wide.1 (wpIn_mono this ?_)));rintro x' a' w' ⟨rfl,A',O',f⟩;cases e<;>exact⟨rfl,A',O',f⟩
 |rangeFunc fo ps gz body=>
  simp only[cm] at h;obtain⟨e,st1,h1,g⟩:=ac6 p i h;refine⟨e,st1,h1,λB A O w a d=>?_⟩;obtain⟨A',f⟩:=d.gc (sl:=I.L (2000001+dI body));exact g B A' O w a f
 |region id ops draw=>
  simp only[cm] at h;obtain⟨e,st1,h1,g⟩:=UO p.M p.K p.C (Vi p i) (afx i) (id:=id) h;cases e with
  |go=>exact⟨.normal,st1,h1,g⟩
  |bA u=>exact⟨.bA u,st1,h1,g⟩
 |_=>simp only[cm] at h;cases h
theorem mL {G:bw S} (a:a_ G P): ∀n,jc G.K P (λ{_}=>cm G n)/\sd G.K P n (λ{_}=>cm G n)
 |0=>⟨λI c st k z _ h=>(by cases h),λI c st k z _ _ h=>(by cases h)⟩
 |n+1=>
  ⟨aem a (mL a n).1 (Ml (mL a n).1 (mL a n).2),Ml (mL a n).1 (mL a n).2⟩
theorem BA {G:bw S} (a:a_ G P) (n:Nat):jc G.K P (λ{_}=>cm G n):=(mL a n).1
theorem s4 {G:bw S} (b:a_ G P) {n f:Nat} {afC:List (ay S)} {h:AH S} {k:Rs S->AH S->Γ->Option R} (a:dY G n f afC h k=some z): ∃r h' dt,k r h' dt=some z/\cU G.K P f afC h r h' dt:=by
 unfold dY at a;split at a
 ·rename_i J c;split at a
  ·rename_i e d;cases hl:ξH afC.length J.fn.ntmps<;>rw[hl] at a
   ·cases a
   ·exact IU b (BA b n) c d hl a
  ·cases a
 ·cases a
end
section
variable {S:bo} {P:Program}
def h3:Code->List Code
 | .loop x=>x::h3 x
 | .seq x y=>h3 x++h3 y
 | .cond _ x y=>h3 x++h3 y
 | .block _ x=>h3 x
 | .scope x=>h3 x
 |_=>[]
def h2 (c:Code) (id:Nat):Code:=match(h3 c).filter (λx=>ζ (dI x) id) with|[x]=>x|_=>.skip
def vH (c:Code) (id:Nat):Bool:=match(h3 c).filter (λx=>ζ (dI x) id) with|[_]=>true|_=>false
theorem aeo {c d x:Code} (b:d= .loop x) (h:Vx.Sub c d):x∈h3 c:=by
 induction h with
 |refl c=>subst b;exact ν
 |seq1 _ a=>exact ξ9 _ (a b)
 |Ps _ a=>exact ξ7 _ (a b)
 |Jj _ a=>exact ξ9 _ (a b)
 |Jk _ a=>exact ξ7 _ (a b)
 |block _ a=>exact a b
 |loop _ a=>exact μ _ (a b)
 |scope _ a=>exact a b
theorem aap {c x:Code} {id:Nat} (h:vH c id=true) (a:Vx.Sub c (.loop x)) (hi:dI x=id):x=h2 c id:=by
 have hm:x∈(h3 c).filter (λx=>ζ (dI x) id):=ξk.2 ⟨aeo rfl a,by rw[hi];exact ξu id⟩;unfold vH at h;unfold h2;split at h
 ·rename_i y b;rw[b] at hm;simpa using hm
 ·cases h
def aX (K:Kit S) (P:Program) (J:k6) (x:Code) (lc:bh S):Prop:= ∀ {R:Type} (st:AS S) (k:AX->AS S->Option R) (z:R),lc.out st k=some z-> ∃e b,k e b=some z/\ ∀B A O w a,bn K P J.fn.ntmps B A O w st a->(Code.loop x).wpIn (fw B.rr) 0 P (hj K P J.fn.ntmps B e b) a w
theorem aJ.cons {K:Kit S} {J:k6} {lc:bh S} {lcs:List (bh S)} {c:Code} (h:aJ K P ⟨J,lcs⟩ c) (h1:vH c lc.id=true) (e:aX K P J (h2 c lc.id) lc):aJ K P ⟨J,lc::lcs⟩ c:=by
 intro x f d a;simp only[gg] at a;cases b:ζ lc.id (dI x) with
 |true=>
  rw[b] at a;simp only[cond_true,ι] at a;subst a;rw[aap h1 d (δ b).symm];exact e
 |false=>
  rw[b] at a;exact h x f d a
def qU (P:Program) (L:Nat->Nat->Γ) (f:Nat):Option (dr S):=
 match P.funcs[f]? with
 |some fn=>(match fn.body with|some _=>some ⟨⟨fn,L f⟩,[]⟩|none=>none)
 |none=>none
def fX (T:Nat->Option (dr S)) (f:Nat) (J:dr S):Nat->Option (dr S):=λh=>bif ζ h f then some J else T h
def oN (P:Program):Prop:= ∀(f:Nat) (fn:Func),P.funcs[f]? =some fn->fn.body.isSome=true->(fn.name== "runtime.NumGoroutine")=false
theorem cR (h:oN P) {f:Nat} {fn:Func} (d:P.funcs[f]? =some fn) (a:fn.body.isSome=true):ey P f:=by
 intro vs u;have h1:fn.name≠ "runtime.NumGoroutine" :=by simpa using h f fn d a
 cases b:fn.body with
 |none=>rw[b] at a;cases a
 |some c=>simp[callFunc,d,h1,b,mark]
structure ak (G:bw S) (P:Program):Prop where
 K:bW G.K P
 C:j0 G P
 H: ∀f c,pV G.H f=some c-> ∀ {R:Type} (afC:List (ay S)) (h:AH S) (k:Rs S->AH S->Γ->Option R) (z:R),c.out afC h k=some z-> ∃r h' dt,k r h' dt=some z/\cU G.K P f afC h r h' dt
 D: ∀g a,pU G.D g=some a-> ∀ {R:Type} (cs:List (ay S)) (p:Option Value) (b:Nat->Option (Ob S)) (k:Option Value->Up S->Option R) (z:R),a.out cs p b k=some z-> ∃q up,k q up=some z/\mu G.K P g cs p b q up
 M:P.follows .mixedOrders=true
 N:oN P
theorem ak.all {G:bw S} (h:ak G P) {L:Nat->Nat->Γ} (b:G.T=qU P L):a_ G P where
 K:=h.K
 C:=h.C
 H:=h.H
 D:=h.D
 M:=h.M
 T f J a:=by
  rw[b] at a;unfold qU at a;split at a
  ·rename_i fn d;split at a
   ·cases a;exact d
   ·cases a
  ·cases a
 E f J a:=by
  rw[b] at a;unfold qU at a;split at a
  ·rename_i fn d;split at a
   ·rename_i c e;exact cR h.N d (by rw[e];rfl)
   ·cases a
  ·cases a
 L f J c a e:=by
  rw[b] at a;unfold qU at a;split at a
  ·split at a
   ·cases a;exact aJ.nil
   ·cases a
  ·cases a
theorem a_.fI {G:bw S} (h:a_ G P) {f:Nat} {J:dr S} (i:P.funcs[f]? =some J.fn) (b:J.fn.body.isSome=true) (k:oN P) (j: ∀c,J.fn.body=some c->aJ G.K P J c):a_ {G with T:=fX G.T f J} P where
 K:=h.K
 C:=⟨h.C.C⟩
 H:=h.H
 D:=h.D
 M:=h.M
 T g I a:=by
  simp only[fX] at a;cases b:ζ g f<;>rw[b] at a
  ·exact h.T g I a
  ·cases a;rw[δ b];exact i
 E g I a:=by
  simp only[fX] at a;cases d:ζ g f<;>rw[d] at a
  ·exact h.E g I a
  ·cases a;rw[δ d];exact cR k i b
 L g I c a e:=by
  simp only[fX] at a;cases d:ζ g f<;>rw[d] at a
  ·exact h.L g I c a e
  ·cases a;exact j c e
def vP (K:Kit S) {R:Type} (k:Rs S->Option R) (r:Rs S) (h:AH S) (_:Γ):Option R:=
 match r with
 | .ret (.s a)=>(match jD K (aC h) a with|some (a',_)=>k (.ret (.s a'))|none=>none)
 | .ret (.br afC)=>(match iF K (aC h) afC with|some (b,_)=>k (.ret (.br b))|none=>none)
 | .bA u=>k (.bA u)
variable {A A':Pl} {O O':Γ} {w w':World}
theorem LV.qz {l:LV S} {xs:Γb} (hp:l.pure=true) (b:Tr O w O' w') (h:l.rel A O w xs):l.rel A' O' w' xs:=by
 cases l with
 |v u=>exact h
 |ao t d=>obtain⟨x,h1,a,c⟩:=h;exact⟨x,h1,a.tr b,c⟩
 |ptr t d o=>obtain⟨x,h1,a⟩:=h;exact⟨x,h1,Ty.is.tr a b⟩
 |bu k n gs=>exact h
 |b2 n gs=>exact h
 |_=>cases hp
theorem Nr (a:Tr O w O' w'): ∀ {ls:List (LV S)} {xs:Γb},ls.all LV.pure=true->bB A O w ls xs->bB A' O' w' ls xs
 |[],_,_,h=>h
 |l::ls,_,hp,⟨y,ys,h,h1,b⟩=>by
  simp only[ξB,η] at hp;exact⟨y,ys,h,LV.qz hp.1 a h1,Nr a hp.2 b⟩
theorem ay.qz (b:Tr O w O' w') {a:ay S} {x:Value} (hp:a.pure=true) (h:a.rel A O w x):a.rel A' O' w' x:=by
 cases a with
 |one l=>exact LV.qz hp b h
 |agg ls=>obtain⟨xs,h1,c⟩:=h;exact⟨xs,h1,Nr b hp c⟩
theorem EV (a:Tr O w O' w'): ∀ {ls:List (ay S)} {xs:Γb},ls.all ay.pure=true->cF A O w ls xs->cF A' O' w' ls xs
 |[],_,_,h=>h
 |l::ls,_,hp,⟨y,ys,h,h1,b⟩=>by
  simp only[ξB,η] at hp;exact⟨y,ys,h,ay.qz a hp.1 h1,EV a hp.2 b⟩
theorem eC.MS {K:Kit S} (H:bW K P) {f:Nat} {afC:List (ay S)} {r:Rs S} {h':AH S} {dt:Γ} (hp:afC.all ay.pure=true) (h:cU K P f afC [] r h' dt) {R:Type} {k:Rs S->Option R} {z:R} (c:vP K k r h' dt=some z): ∃L,k L=some z/\eC K P f afC L:=by
 obtain⟨B,Q⟩:=h;have key: ∀(A:Pl) (O:Γ) (w:World) (xs:Γb),cF A O w afC xs->OB O w->cI K O w->Calls P f xs.toArray w (λe w'=> ∃A' O',ic A' O' w' r e/\bK A' O' w' (aC h')/\(∀rs:Γ,(∀r∈rs,∃Z,aC h' r=some Z)->Tr (dm A' rs O') w' O w')/\Fr [] w w'):=by
  intro A O w xs m hO l;refine(Q ⟨λ_=>none,none⟩ O w xs (EV (Tr.refl O w) hp m) ⟨λi X hi=>by simp[aC] at hi,λi j X Y p q b _ hi=>by simp[aC] at hi⟩ hO l (λ_ _=>rfl) (λi X hi=>by simp[aC] at hi)).mono ?_;rintro e w' ⟨A',O',d,g⟩;have U: ∀i,i∉dt:=λi hi=>by have:=g.lt i hi;simp at this
  have J: ∀b∈O,w'.heap[b]? =w.heap[b]? /\b∈O'/\ ∀i X p,aC h' i=some X->A'.pl i=some p-> ¬cy w' X p b:=λb o=>by
   obtain⟨c1,c2,t⟩:=g.cl b o λi hi=>absurd hi (U i);exact⟨c1,c2,λi X p=>t i X p (ξt _)⟩
  refine⟨A',O',d,g.rel,λrs aa=>Tr.less λb o=>?_,?_⟩
  ·obtain⟨c1,c2,t⟩:=J b o;refine hG.2 ⟨c2,λr d p W=>?_⟩;obtain⟨Z,T⟩:=aa r d;exact λV=>t r Z p T W (.inl V)
  ·refine⟨g.tr.os,g.tr.tape,g.tr.output,g.tr.size,λb o _=>?_⟩
   by_cases I:b∈O
   ·exact(J b I).1
   ·exact(g.tr.keep b o I).2
 cases r with
 |bA u=>
  refine⟨.bA u,c,B,λA O w xs m hO l=>(key A O w xs m hO l).mono ?_⟩;rintro e w' ⟨A',O',d,_,_,n⟩;exact⟨d,n⟩
 |ret M=>
  cases M with
  |s a=>
   simp only[vP] at c;split at c
   ·rename_i a' rs y;refine⟨_,c,B,λA O w xs m hO l=>(key A O w xs m hO l).mono ?_⟩;rintro e w' ⟨A',O',⟨v,h1,x⟩,C,D,n⟩;obtain⟨E,F,G⟩:=J4 H C (all:=rs) y x (λr d=>d);exact⟨⟨v,h1,ay.qz (D rs G) F E⟩,n⟩
   ·cases c
  |br bs=>
   simp only[vP] at c;split at c
   ·rename_i ab rs y;refine⟨_,c,B,λA O w xs m hO l=>(key A O w xs m hO l).mono ?_⟩;rintro e w' ⟨A',O',⟨v,h1,ys,x,N⟩,C,D,n⟩;obtain⟨E,F,G⟩:=lJ H C (all:=rs) y N (λr d=>d);exact⟨⟨v,h1,ys,x,EV (D rs G) F E⟩,n⟩
   ·cases c
def shape (a b:ay S):Bool:=match a,b with| .one _,.one _=>true| .agg _,.agg _=>true|_,_=>false
def vZ (K:Kit S) (t:Nat) (a:ay S):Option (S.El t):=match K.cls t a.cells with|some x=>bif shape a (K.a1 t x) then some x else none|none=>none
theorem NG {K:Kit S} (f:bW K P) {t:Nat} {a:ay S} {x:S.El t} {v:Value} (h:vZ K t a=some x) (d:a.rel A O w v):(K.a1 t x).rel A O w v:=by
 unfold vZ at h;split at h
 ·rename_i y j;cases c:shape a (K.a1 t y)<;>rw[c] at h
  ·cases h
  ·cases h;have h1:=f.a1 A O w t x _ (f.cls A O w t _ x _ j (ay.rel.cells d));cases a with
   |one l=>
    have i:=MV (LV.rel.one d v ν);rw[i] at h1;cases b:K.a1 t x with
    |one l'=>
     rw[b] at h1;obtain⟨ys,zs,e,g,k⟩:=h1;rw[show zs=[] from k,ξz] at e;rw[<-e] at g;exact g
    |agg ls=>rw[b] at c;cases c
   |agg ls=>
    obtain⟨xs,rfl,q⟩:=d;cases b:K.a1 t x with
    |one l'=>rw[b] at c;cases c
    |agg m=>
     rw[b] at h1;exact⟨xs,rfl,by simpa[ζP,ay.cells] using h1⟩
 ·cases h
inductive hS (S:bo):Γ->Type
 |nil:hS S []
 |cons {t a} (x:S.El t) (r:hS S a):hS S (t::a)
def qB (K:Kit S):(b:Γ)->List (ay S)->Option (hS S b)
 |[],[]=>some .nil
 |t::b,a::afC=>(match vZ K t a with|some x=>(match qB K b afC with|some r=>some (.cons x r)|none=>none)|none=>none)
 |_,_=>none
def kG (K:Kit S): {a:Γ}->hS S a->List (ay S)
 |_,.nil=>[]
 |_,.cons (t:=t) x r=>K.a1 t x::kG K r
theorem v7 {K:Kit S} (d:bW K P): ∀ {c:Γ} {afC:List (ay S)} {xs:hS S c} {vs:Γb},qB K c afC=some xs->cF A O w afC vs->cF A O w (kG K xs) vs
 |[],[],xs,vs,h,b=>by cases h;exact b
 |t::c,a::afC,xs,vs,h,⟨y,ys,e,h1,f⟩=>by
  simp only[qB] at h;split at h
  ·rename_i x g;split at h
   ·rename_i r b;cases h;exact⟨y,ys,e,NG d g h1,v7 d b f⟩
   ·cases h
  ·cases h
 |[],_::_,xs,vs,h,_=>by cases h
 |_::_,[],xs,vs,h,_=>by cases h
def fE (K:Kit S) (f:Nat) (a:Γ) (spec: {R:Type}->hS S a->(Rs S->Option R)->Option R):eJ S:=⟨f,λafC k=>match qB K a afC with|some xs=>bif (kG K xs).all ay.pure then spec xs k else none|none=>none⟩
theorem ak.ga {G:bw S} (h:ak G P) {c:eJ S} (g: ∀ {R:Type} (afC:List (ay S)) (k:Rs S->Option R) (z:R),afC.all ay.pure=true->c.out afC k=some z-> ∃r,k r=some z/\eC G.K P c.f afC r):ak {G with C:=c::G.C} P where
 K:=h.K
 H:=h.H
 D:=h.D
 M:=h.M
 N:=h.N
 C:=⟨λf e a=>by
  simp only[tQ] at a;cases d:ζ c.f f<;>rw[d] at a
  ·exact h.C.C f e a
  ·cases a;intro R afC k z hp i;obtain⟨r,h1,b⟩:=g afC k z hp i;rw[δ d] at b;exact⟨r,h1,b⟩⟩
theorem ak.dw {G:bw S} (h:ak G P) {c:dD S} (i: ∀ {R:Type} (afC:List (ay S)) (b:AH S) (k:Rs S->AH S->Γ->Option R) (z:R),c.out afC b k=some z-> ∃r h' dt,k r h' dt=some z/\cU G.K P c.f afC b r h' dt):ak {G with H:=c::G.H} P where
 K:=h.K
 C:=⟨h.C.C⟩
 D:=h.D
 M:=h.M
 N:=h.N
 H f g a:=by
  simp only[pV] at a;cases e:ζ c.f f<;>rw[e] at a
  ·exact h.H f g a
  ·cases a;intro R afC b k z j;obtain⟨r,h',dt,h1,d⟩:=i afC b k z j;rw[δ e] at d;exact⟨r,h',dt,h1,d⟩
theorem ak.Jl {G:bw S} (h:ak G P) {c:mr S} (i: ∀ {R:Type} (cs:List (ay S)) (p:Option Value) (a:Nat->Option (Ob S)) (k:Option Value->Up S->Option R) (z:R),c.out cs p a k=some z-> ∃q up,k q up=some z/\mu G.K P c.g cs p a q up):ak {G with D:=c::G.D} P where
 K:=h.K
 C:=⟨h.C.C⟩
 H:=h.H
 M:=h.M
 N:=h.N
 D g f b:=by
  simp only[pU] at b;cases e:ζ c.g g<;>rw[e] at b
  ·exact h.D g f b
  ·cases b;intro R cs p a k z j;obtain⟨q,up,h1,d⟩:=i cs p a k z j;rw[δ e] at d;exact⟨q,up,h1,d⟩
end
def jh (k:IntKind) (n:Nat):Ty (Γa) where
 agg:=true
 n:=n
 rep _ _ cs xs:=xs.length=n/\cs=xs.map (ξ2 k)
 tr _ h:=h
 len h:=by rw[h.2,ξw];exact h.1
 one h u hu:=by
  rw[h.2] at hu;obtain⟨x,_,rfl⟩:=ζs.1 hu;rfl
 fv h:=by cases h
section
variable {S:bo} {α β γ:Type}
def dR (T:Ty α) (f:α->List (LV S)):Prop:= ∀(A:Pl) (O:Γ) (w:World) (x:α) (cs:Γb),T.rep O w cs x->bB A O w (f x) cs
theorem ee {k:IntKind}:dR (S:=S) (Ty.int k) λx=>[.v (.int k x)]:=λA O w x cs h=>by subst h;exact⟨_,[],rfl,⟨rfl,rfl⟩,rfl⟩
theorem M5:dR (S:=S) Ty.bool λx=>[.v (.bool x)]:=λA O w x cs h=>by subst h;exact⟨_,[],rfl,⟨rfl,rfl⟩,rfl⟩
theorem abc:dR (S:=S) Ty.str λx=>[.v (.string x)]:=λA O w x cs h=>by subst h;exact⟨_,[],rfl,⟨rfl,rfl⟩,rfl⟩
theorem e4 {t:Nat} (a:(S.ty t).agg=false):dR (S:=S) (S.ty t) λx=>[.ao t x]:=λA O w x cs h=>by
 have hl:=(S.ty t).len h;rw[(S.ty t).fv a] at hl
 match cs,hl with
 |[c],_=>exact⟨[c],[],rfl,⟨c,rfl,⟨[c],h,by unfold Ty.mk';rw[a];rfl⟩,a⟩,rfl⟩
theorem vI {k:IntKind} {n:Nat}:dR (S:=S) (jh k n) λx=>[.bu k n x]:=λA O w x cs h=>⟨cs,[],(ξz _).symm,h,rfl⟩
theorem eF {X:Ty α} {Y:Ty β} {f:α->List (LV S)} {g:β->List (LV S)} (b:dR X f) (c:dR Y g):dR (Ty.pair X Y) λx=>f x.1++g x.2:=λA O w x cs ⟨c1,c2,h,h1,a⟩=>by
 subst h;exact NW (b A O w _ _ h1) (c A O w _ _ a)
theorem gK {X:Ty α} {f:α->List (LV S)} {e:β->α} (a:dR X f):dR (X.fm e) λx=>f (e x):=λA O w x cs h=>a A O w _ _ h
theorem abb {X:Ty α} {f:α->List (LV S)} (a:dR X f):dR (Ty.single X) f:=λA O w x cs h=>a A O w _ _ h
def dL (T:Ty α) (f:List (LV S)->Option (α×List (LV S))):Prop:= ∀(A:Pl) (O:Γ) (w:World) (ls:List (LV S)) (x:α) (r:List (LV S)) (cs:Γb),f ls=some (x,r)->bB A O w ls cs-> ∃c1 c2,cs=c1++c2/\T.rep O w c1 x/\bB A O w r c2
def dO (k:IntKind):List (LV S)->Option (Int×List (LV S))
 | .v (.int a x)::r=>bif sameKind k a then some (x,r) else none
 |_=>none
def v8:List (LV S)->Option (Bool×List (LV S))
 | .v (.bool x)::r=>some (x,r)
 |_=>none
def Fe:List (LV S)->Option (ByteArray×List (LV S))
 | .v (.string x)::r=>some (x,r)
 |_=>none
def kP (k:IntKind) (n:Nat) (ls:List (LV S)):Option (Γa×List (LV S)):=
 match ls with
 | .bu a b x::r=>bif sameKind k a&&ζ n b then some (x,r) else none
 |ls=>(match iK (ls.take n) with|some (a,gs)=>bif sameKind k a&&ζ gs.length n then some (gs,ls.drop n) else none|none=>none)
def eG (t:Nat) (nl:Option (S.El t)):List (LV S)->Option (S.El t×List (LV S))
 | .ao t' x::r=>(match ζl t' t with| .isTrue p=>some (p▸x,r)| .isFalse _=>none)
 | .v (.slice none 0 0)::r=>(match nl with|some x=>some (x,r)|none=>none)
 |_=>none
def rdPair (f:List (LV S)->Option (α×List (LV S))) (g:List (LV S)->Option (β×List (LV S))) (ls:List (LV S)):Option ((α×β)×List (LV S)):=
 match f ls with|some (a,r)=>(match g r with|some (b,c)=>some ((a,b),c)|none=>none)|none=>none
def fU (f:List (LV S)->Option (α×List (LV S))) (m:α->β) (ls:List (LV S)):Option (β×List (LV S)):=match f ls with|some (a,r)=>some (m a,r)|none=>none
def ch:Option (α×List (LV S))->Option α
 |some (x,[])=>some x
 |_=>none
theorem eg {k:IntKind}:dL (S:=S) (Ty.int k) (dO k):=λA O w ls x r cs h c=>by
 unfold dO at h;split at h
 ·rename_i d y e;cases a:sameKind k d<;>rw[a] at h
  ·cases h
  ·simp only[cond_true,ι,ξl] at h;obtain⟨rfl,rfl⟩:=h;obtain⟨ys,zs,rfl,⟨h1,_⟩,b⟩:=c;refine⟨ys,zs,rfl,?_,b⟩;rw[eR a];exact h1
 ·cases h
theorem NR:dL (S:=S) Ty.bool v8:=λA O w ls x r cs h b=>by
 unfold v8 at h;split at h
 ·cases h;obtain⟨ys,zs,rfl,⟨h1,_⟩,a⟩:=b;exact⟨ys,zs,rfl,h1,a⟩
 ·cases h
theorem ade:dL (S:=S) Ty.str Fe:=λA O w ls x r cs h b=>by
 unfold Fe at h;split at h
 ·cases h;obtain⟨ys,zs,rfl,⟨h1,_⟩,a⟩:=b;exact⟨ys,zs,rfl,h1,a⟩
 ·cases h
theorem NX {A:Pl} {O:Γ} {w:World}: ∀ {b a:List (LV S)} {cs:Γb},bB A O w (b++a) cs-> ∃c1 c2,cs=c1++c2/\bB A O w b c1/\bB A O w a c2
 |[],a,cs,h=>⟨[],cs,rfl,rfl,h⟩
 |l::b,a,cs,⟨ys,zs,e,h1,c⟩=>by
  obtain⟨c1,c2,q,d,f⟩:=NX c;subst q;exact⟨ys++c1,c2,by rw[e,ξj],⟨ys,c1,rfl,h1,d⟩,f⟩
theorem KN {A:Pl} {O:Γ} {w:World} {k:IntKind}: ∀ {ls:List (LV S)} {gs:Γa} {cs:Γb},iK ls=some (k,gs)->bB A O w ls cs->cs=gs.map (ξ2 k)
 |[],gs,cs,h,_=>by simp[iK] at h
 |l::r,gs,cs,h,⟨ys,zs,e,h1,a⟩=>by
  unfold iK at h;split at h
  ·rename_i d x g heq;cases heq;split at h
   ·cases h;rw[e,show zs=[] from a,h1.1];rfl
   ·split at h
    ·rename_i f xs c;cases b:sameKind d f<;>rw[b] at h
     ·cases h
     ·simp only[cond_true,ι,ξl] at h;obtain⟨rfl,rfl⟩:=h;have:=eR b;subst this;rw[e,h1.1,KN c a];rfl
    ·cases h
  ·cases h
theorem n9 {k:IntKind} {n:Nat}:dL (S:=S) (jh k n) (kP k n):=λA O w ls x r cs h c=>by
 unfold kP at h;split at h
 ·rename_i d j y o;cases a:(sameKind k d&&ζ n j)<;>rw[a] at h
  ·cases h
  ·simp only[cond_true,ι,ξl] at h;obtain⟨rfl,rfl⟩:=h;simp only[η] at a;obtain⟨ys,zs,rfl,h1,g⟩:=c;refine⟨ys,zs,rfl,?_,g⟩;have b:=eR a.1;have f:=δ a.2;subst b;subst f;exact h1
 ·split at h
  ·rename_i d gs i;cases a:(sameKind k d&&ζ gs.length n)<;>rw[a] at h
   ·cases h
   ·simp only[cond_true,ι,ξl] at h;obtain⟨rfl,rfl⟩:=h;simp only[η] at a;rw[<-ξ6 n ls] at c;obtain⟨c1,c2,e,l,m⟩:=NX c;have b:=eR a.1;subst b;exact⟨c1,c2,e,⟨δ a.2,KN i l⟩,m⟩
  ·cases h
theorem e6 {t:Nat} {nl:Option (S.El t)} (d: ∀x,nl=some x-> ∀O w,(S.ty t).rep O w [.slice none 0 0] x):dL (S:=S) (S.ty t) (eG t nl):=λA O w ls x r cs h b=>by
 unfold eG at h;split at h
 ·rename_i t' y e;split at h
  ·rename_i p hp;cases h;subst p;obtain⟨ys,zs,rfl,⟨v,rfl,h1,c⟩,a⟩:=b;exact⟨[v],zs,rfl,l5 c h1,a⟩
  ·cases h
 ·split at h
  ·rename_i y;cases h;obtain⟨ys,zs,rfl,⟨h1,_⟩,a⟩:=b;exact⟨ys,zs,rfl,by rw[h1];exact d _ rfl O w,a⟩
  ·cases h
 ·cases h
theorem e3 {T:Ty α} (O:Γ) (w:World):(Ty.slice T).rep O w [.slice none 0 0] []:=⟨none,0,rfl,⟨ξc _,ξt _⟩,λk x hk=>by simp at hk⟩
theorem eH {X:Ty α} {Y:Ty β} {f:List (LV S)->Option (α×List (LV S))} {g:List (LV S)->Option (β×List (LV S))} (j:dL X f) (k:dL Y g):dL (Ty.pair X Y) (rdPair f g):=λA O w ls x r cs h l=>by
 unfold rdPair at h;split at h
 ·rename_i a d h1;split at h
  ·rename_i b q i;cases h;obtain⟨c1,c2,rfl,m,n⟩:=j A O w ls a d cs h1 l;obtain⟨c,e,rfl,o,p⟩:=k A O w d b r c2 i n;exact⟨c1++c,e,(ξj _ _ _).symm,⟨c1,c,rfl,m,o⟩,p⟩
  ·cases h
 ·cases h
theorem gL {X:Ty α} {f:List (LV S)->Option (α×List (LV S))} {e:β->α} {m:α->β} (b:dL X f) (hm: ∀a,e (m a)=a):dL (X.fm e) (fU f m):=λA O w ls x r cs h c=>by
 unfold fU at h;split at h
 ·rename_i a i h1;cases h;obtain⟨c1,c2,rfl,d,g⟩:=b A O w ls a r cs h1 c;exact⟨c1,c2,rfl,by show X.rep O w c1 (e (m a));rw[hm];exact d,g⟩
 ·cases h
theorem adb {X:Ty α} {f:List (LV S)->Option (α×List (LV S))} (a:dL X f):dL (Ty.single X) f:=a
theorem cq {X:Ty α} {f:List (LV S)->Option (α×List (LV S))} (a:dL X f) {A:Pl} {O:Γ} {w:World} {ls:List (LV S)} {x:α} {cs:Γb} (h:ch (f ls)=some x) (b:bB A O w ls cs):X.rep O w cs x:=by
 unfold ch at h;split at h
 ·rename_i y c;cases h;obtain⟨c1,c2,rfl,d,e⟩:=a A O w ls x [] cs c b;rw[show c2=[] from e,ξz];exact d
 ·cases h
end
theorem IC: ∀(xs ys:Γa),xs.length=ys.length->((ξs xs.length).all λi=>xs.getD i 0==ys.getD i 0)=(xs==ys)
 |[],[],_=>rfl
 |x::xs,y::ys,h=>by
  have a:=IC xs ys (by simpa using h);rw[ζ2,List.range_succ_eq_map,ξB,List.all_map];simp only[List.getD_cons_zero,Function.comp_def,List.getD_cons_succ,a];simp[List.cons_beq_cons]
 |[],_::_,h=>by simp at h
 |_::_,[],h=>by simp at h
section
variable {P:Program} (w:World)
theorem Ow (d:Nat) (t e:TypeId) (n:Nat) (k b:IntKind) (g:P.underlying t=some (.array n e)) (he:P.underlying e=some (.int b)) (f: ∀w,(sizeOf e).run P w= .ok 1 w)
  (xs ys:Γa) (a:xs.length=n) (h:ys.length=n):
  (ζG (d+2) t (.agg (xs.map (ξ2 k)).toArray) (.agg (ys.map (ξ2 k)).toArray)).run P w= .ok (xs==ys) w:=by
 rw[<-IC xs ys (a.trans h.symm),a,List.range_eq_range',ζG];simp only[ξ,run_underlying g,π,f,ζf,ζO,ζN,Nat.add_sub_cancel,Nat.div_one];have hl: ∀i∈ζQ 0 n 1,i<n:=λi hi=>by simpa using(List.mem_range'_1.1 hi).2
 generalize ζQ 0 n 1=l at hl ⊢
 induction l with
 |nil=>simp
 |cons i l m=>
  have hi:i<n:=hl i (by simp);have p:(part e (xs.map (ξ2 k)).toArray (i*1)).run P w= .ok (.int k (xs.getD i 0)) w:=by
   simp[part,isAgg,run_underlying he,List.getD,σ (show i<xs.length by omega)]
  have q:(part e (ys.map (ξ2 k)).toArray (i*1)).run P w= .ok (.int k (ys.getD i 0)) w:=by
   simp[part,isAgg,run_underlying he,List.getD,σ (show i<ys.length by omega)]
  have o:(ζG (d+1) e (.int k (xs.getD i 0)) (.int k (ys.getD i 0))).run P w= .ok (xs.getD i 0==ys.getD i 0) w:=run_equalIn_int w d e k b _ _ he;simp only[List.forIn_cons,ξ,p,q,o,π,ξB];cases r:(xs.getD i 0==ys.getD i 0)
  ·simp
  ·simp only[ξY,ζo,if_false,ξh,π,ξW];exact m λj c=>hl j (by simp[c])
theorem adK (t e:TypeId) (n:Nat) (k a:IntKind) (d:P.underlying t=some (.array n e)) (he:P.underlying e=some (.int a)) (c: ∀w,(sizeOf e).run P w= .ok 1 w) (b:P.eqGuardType P.depth t=false)
  (xs ys:Γa) (f:xs.length=n) (g:ys.length=n) (ox oy:Operand):
  (do eqGuard .eql t ox oy (.agg (xs.map (ξ2 k)).toArray) (.agg (ys.map (ξ2 k)).toArray);binOp .eql t (.agg (xs.map (ξ2 k)).toArray) (.agg (ys.map (ξ2 k)).toArray):Sem Value).run P w= .ok (.bool (xs==ys)) w/\
  (do eqGuard .neq t ox oy (.agg (xs.map (ξ2 k)).toArray) (.agg (ys.map (ξ2 k)).toArray);binOp .neq t (.agg (xs.map (ξ2 k)).toArray) (.agg (ys.map (ξ2 k)).toArray):Sem Value).run P w= .ok (.bool (!(xs==ys))) w:=by
 constructor
 ·simp only[ξ];rw[run_eqGuard_agg w .eql t ox oy _ _ b];simp only[π];rw[run_eql_struct,show(10000:Nat)=9998+2 from rfl,Ow w 9998 t e n k a d he c xs ys f g];rfl
 ·simp only[ξ];rw[run_eqGuard_agg w .neq t ox oy _ _ b];simp only[π];rw[run_neq_struct,show(10000:Nat)=9998+2 from rfl,Ow w 9998 t e n k a d he c xs ys f g];rfl
end
section
variable {S:bo} {K:Kit S} {P:Program} {A:Pl} {O:Γ} {w w1 w2:World} {g:Nat->Option (Ob S)}
theorem b'.two {i j:Nat} {X Y:Ob S} (F:bK A O w g) (m:i≠j) (h1:b' A O w g [(i,some X)] A O w1) (f:b' A O w1 (b1 g [(i,some X)]) [(j,some Y)] A O w2) (hO:OB O w):b' A O w g [(i,some X),(j,some Y)] A O w2:=by
 have N:=F.ca hO h1;have I:b1 g [(i,some X)] i=some X:=by simp[b1]
 have n: ∀ {k:Nat} {Z:Option (Ob S)},(k,Z)∈[(i,some X),(j,some Y)]->(k=i/\Z=some X)\/(k=j/\Z=some Y):=by
  intro k Z h;simp only[τ,ξl,List.not_mem_nil,or_false] at h;exact h
 have one: ∀ {k l:Nat} {Z W:Option (Ob S)},(k,Z)∈[(l,W)]->k=l/\Z=W:=by
  intro k l Z W h;simpa using h
 obtain⟨p,hp,ag,L⟩:=h1.al i X (by simp);obtain⟨q,x,aj,M⟩:=f.al j Y (by simp);obtain⟨Z,E⟩:=f.lv j (some Y) q (by simp) x;have G: ∀b,cy w1 X p b->w2.heap[b]? =w1.heap[b]? /\b∈O:=λb d=>f.keep b (L b d).1 λk V r hk a B=>by
  obtain⟨rfl,rfl⟩:=one hk;exact N.gb i k X Z p r b m I E hp a d (.inl B)
 have ae:c6 A O w2 X p:=ag.keep f.tr (Pl.le.refl A) G;have K: ∀b,cy w2 X p b->cy w1 X p b:=λb=>kp λc z=>(G c (.inl z)).1;have ah: ∃Z,g j=some Z:=by
  have:b1 g [(i,some X)] j=g j:=ei λV o=>m (one o).1.symm;rw[this] at E;exact⟨Z,E⟩
 obtain⟨U,ak⟩:=ah;refine⟨Pl.le.refl A,h1.tr.trans f.tr,f.ob,λb d hn=>?_,λk V hk=>?_,λk l V W r s b P hk hl a C B=>?_,λk V W hk hl=>?_,λk V r hk a=>?_,λ_=>.inl rfl,λk V H hk J hn=>?_⟩
 ·obtain⟨u,a2⟩:=h1.keep b d λk V r hk a=>hn k V r (by obtain⟨rfl,rfl⟩:=one hk;simp) a;obtain⟨aa,ab⟩:=f.keep b a2 λk V r hk a=>hn k V r (by obtain⟨rfl,rfl⟩:=one hk;simp) a;exact⟨aa.trans u,ab⟩
 ·rcases n hk with⟨rfl,e⟩|⟨rfl,e⟩
  ·cases e;refine⟨p,hp,ae,λb d=>⟨(G b (K b d)).2,(L b (K b d)).2.imp id ?_⟩⟩;rintro ⟨y,T,D,t,u,a2,a3,a4⟩;obtain⟨rfl,rfl⟩:=one u;exact⟨y,some X,D,t,by simp,a2,a3,a4⟩
  ·cases e;refine⟨q,x,aj,λb d=>⟨(M b d).1,(M b d).2.elim (λh=>.inl (ζe h1.tr.size h)) ?_⟩⟩;rintro ⟨y,T,D,t,u,a2,a3,a4⟩;obtain⟨rfl,rfl⟩:=one u;rw[ei (λV o=>m (one o).1.symm)] at a2;refine .inr ⟨y,some Y,D,t,by simp,a2,a3,?_⟩;obtain⟨ar,Q,aq,hm⟩:=F.al y t a2;rw[a3] at Q;cases Q;refine kp (λc z=>?_) a4;refine(h1.keep c (hm c z) λk V r hk a ao=>?_).1;obtain⟨rfl,rfl⟩:=one hk;obtain⟨R,ad⟩:=h1.lv k (some X) r (by simp) a;exact F.dj k y R t r D c m ad a2 a a3 ao z
 ·have an:=N.ca h1.ob f;have ai:b1 (b1 g [(i,some X)]) [(j,some Y)] j=some Y:=by simp[b1]
  have af:b1 (b1 g [(i,some X)]) [(j,some Y)] i=some X:=by
   rw[ei (λV o=>m (one o).1)];exact I
  have key: ∀b,cy w2 X p b-> ¬cy w2 Y q b:=λb=>an.gb i j X Y p q b m af ai hp x;rcases n hk with⟨rfl,e⟩|⟨rfl,e⟩
  ·rcases n hl with⟨rfl,v⟩|⟨rfl,v⟩
   ·exact absurd rfl P
   ·cases e;cases v;rw[hp] at a;cases a;rw[x] at C;cases C;exact key b B
  ·rcases n hl with⟨rfl,v⟩|⟨rfl,v⟩
   ·cases e;cases v;rw[x] at a;cases a;rw[hp] at C;cases C;exact λh=>key b h B
   ·exact absurd rfl P
 ·rcases n hk with⟨rfl,rfl⟩|⟨rfl,rfl⟩
  ·rcases n hl with⟨e,rfl⟩|⟨e,rfl⟩
   ·rfl
   ·exact absurd e m
  ·rcases n hl with⟨e,rfl⟩|⟨e,rfl⟩
   ·exact absurd e.symm m
   ·rfl
 ·rcases n hk with⟨rfl,rfl⟩|⟨rfl,rfl⟩
  ·exact h1.lv k (some X) r (by simp) a
  ·exact⟨U,ak⟩
 ·rcases n hk with⟨rfl,e⟩|⟨rfl,e⟩
  ·cases e;exact h1.nt k X H (by simp) J hn
  ·cases e;refine f.nt k Y H (by simp) ?_ hn;rw[ei (λV o=>m (one o).1.symm)];exact J
theorem ti {i b t:Nat} {Z:Ob S} {cs:List (LV S)} {vs:Γb} (f:bK A O w g) (hO:OB O w) (hi:g i=some Z) (hp:A.pl i=some (.pointer (some ⟨b,0,none⟩))) (d:Fr [b] w w1) (c:bE w1 b t vs) (h:bB A O w1 cs vs):b' A O w g [(i,some (.box t cs))] A O w1:=by
 obtain⟨p,a,_,e⟩:=f.al i Z hi;rw[hp] at a;cases a;exact mT hO (e b rfl) hi hp rfl d ⟨b,vs,rfl,c,h⟩
theorem qq {i t:Nat} {cs:List (LV S)} (d:bK A O w g) (hi:g i=some (.box t cs)): ∃b vs,A.pl i=some (.pointer (some ⟨b,0,none⟩))/\bE w b t vs/\bB A O w cs vs/\b∈O:=by
 obtain⟨p,hp,⟨b,vs,rfl,h1,a⟩,c⟩:=d.al i _ hi;exact⟨b,vs,hp,h1,a,c b rfl⟩
theorem N0: ∀ {ls:List (LV S)} {vs:Γb},bB A O w ls vs-> ∀u∈vs,u.oneCell'=true
 |[],vs,h,u,hu=>by rw[show vs=[] from h] at hu;cases hu
 |l::ls,vs,⟨ys,zs,e,h1,a⟩,u,hu=>by
  subst e;rcases ψ.1 hu with h|h
  ·exact h1.one u h
  ·exact N0 a u h
theorem N2: ∀ {vs:Γb},(∀u∈vs,u.oneCell'=true)->bB (S:=S) A O w (vs.map .v) vs
 |[],_=>rfl
 |v::vs,h=>⟨[v],vs,rfl,⟨rfl,h v (by simp)⟩,N2 λu hu=>h u (by simp[hu])⟩
end
section
variable {S:bo} {R:Type}
noncomputable def p3 (p:Prop) (x:Option R):Option R:=open Classical in if p then x else none
theorem Kl {p:Prop} {x:Option R} {z:R} (h:p3 p x=some z):p/\x=some z:=by
 unfold p3 at h;split at h
 ·exact⟨by assumption,h⟩
 ·cases h
noncomputable def gd {α:Type} (a:α) (x:Option R):Option R:=p3 (a=a) x
theorem Y8 {α:Type} (a:α) (x:Option R):gd a x=x:=by unfold gd p3;simp
def aU:Option (LV S)->Option Int
 |some (.v (.int _ x))=>some x
 |_=>none
def iz:Option (LV S)->Option Bool
 |some (.v (.bool x))=>some x
 |_=>none
def tn:Option (LV S)->Option ByteArray
 |some (.v (.string x))=>some x
 |_=>none
def e1:Option (LV S)->Option (Γa)
 |some (.bu _ _ x)=>some x
 |_=>none
def ba (t:Nat):Option (LV S)->Option (S.El t)
 |some (.ao t' x)=>(match ζl t' t with| .isTrue p=>some (p▸x)| .isFalse _=>none)
 |_=>none
def aK (st:AS S) (s n:Nat):Option (LV S):=match aV.get st.env s with
 |some (.s (.one l))=>some l
 |some (.s (.agg ls))=>ls[n]?
 |_=>none
def aN (st:AS S) (j n:Nat):Option (LV S):=match aC st.h j with
 |some (.box _ cs)=>cs[n]?
 |_=>none
def cd (st:AS S) (j e:Nat):Option (List (S.El e)):=match aC st.h j with
 |some (.row a xs)=>(match ζl a e with| .isTrue p=>some (jk p xs)| .isFalse _=>none)
 |_=>none
def gE (st:AS S) (j:Nat):Option (Γc):=match aC st.h j with
 |some (.map _ _ m)=>some m
 |_=>none
def lpL (st:AS S) (s n:Nat):Option (LV S):=match st.lp with
 |some a=>(match aV.get a.env s with
  |some (.s (.one l))=>some l
  |some (.s (.agg ls))=>ls[n]?
  |_=>none)
 |none=>none
def b9 (st:AS S) (j g:Nat):Option Unit:=match aC st.h j with
 |some (.aD a _ _)=>bif ζ a g then some () else none
 |_=>none
def fQ (st:AS S) (m n:Nat):Option Unit:=match st.lp with
 |some a=>bif ζ a.J.fn.ntmps m&&ζ (dI a.body) n then some () else none
 |none=>none
def mO (c:AS S->Option Unit) (a b:bh S):bh S:=⟨a.id,λst k=>match c st with|some _=>a.out st k|none=>b.out st k⟩
end
def bY (fn:Func):Code:=match fn.body with|some c=>c|none=>.skip
def kT:Code->List (Code×Code)
 | .rangeFunc _ _ x y=>[(x,y)]
 | .loop x=>kT x
 | .seq x y=>kT x++kT y
 | .cond _ x y=>kT x++kT y
 | .block _ x=>kT x
 | .scope x=>kT x
 |_=>[]
def N8 (c:Code) (id:Nat):Code×Code:=match(kT c).filter (λx=>ζ (dI x.2) id) with|[x]=>x|_=>(.skip,.skip)
def dT (c:Code) (id:Nat):Code:=(N8 c id).1
def dU (c:Code) (id:Nat):Code:=(N8 c id).2
theorem KY {S:bo} {l:List (bh S)} {n:Nat} (h:(match gg l n with|some _=>false|none=>true)=true):gg l n=none:=by
 cases a:gg l n with
 |none=>rfl
 |some c=>rw[a] at h;cases h
section
variable {S:bo} {P:Program} {R:Type}
def vO (K:Kit S) (b:Γ) (k:Rs S->Option R):Rs S->Option R
 | .bA u=>k (.bA u)
 | .ret (.s a)=>(match b with|[t]=>(match vZ K t a with|some x=>k (.ret (.s (K.a1 t x)))|none=>none)|_=>none)
 | .ret (.br afC)=>(match qB K b afC with|some xs=>k (.ret (.br (kG K xs)))|none=>none)
theorem Nb {K:Kit S} (l:bW K P) {f:Nat} {afC:List (ay S)} {p:Γ} {k:Rs S->Option R} {r:Rs S} {z:R} (h:vO K p k r=some z) (b:eC K P f afC r): ∃m,k m=some z/\eC K P f afC m:=by
 cases r with
 |bA u=>exact⟨_,h,b⟩
 |ret n=>
  cases n with
  |s a=>
   simp only[vO] at h;split at h
   ·split at h
    ·rename_i x j;refine⟨_,h,b.1,λA O w xs i hO g=>(b.2 A O w xs i hO g).mono ?_⟩;rintro e w' ⟨⟨v,h1,c⟩,d⟩;exact⟨⟨v,h1,NG l j c⟩,d⟩
    ·cases h
   ·cases h
  |br bs=>
   simp only[vO] at h;split at h
   ·rename_i q j;refine⟨_,h,b.1,λA O w xs i hO g=>(b.2 A O w xs i hO g).mono ?_⟩;rintro e w' ⟨⟨v,h1,ys,c,o⟩,d⟩;exact⟨⟨v,h1,ys,c,v7 l j o⟩,d⟩
   ·cases h
def gq (K:Kit S) (a:Γ) (k:Rs S->Option R) (r:Rs S) (h:AH S) (dt:Γ):Option R:=vP K (vO K a k) r h dt
theorem ir {G:bw S} (b:a_ G P) {f:Nat} {c rs:Γ} {spec: {R:Type}->hS S c->(Rs S->Option R)->Option R}
  (h: ∀ {R:Type} (xs:hS S c) (k:Rs S->Option R) (z:R),spec xs k=some z-> ∃n,dY G n f (kG G.K xs) [] (gq G.K rs k)=some z) {afC:List (ay S)} {k:Rs S->Option R} {z:R} (a:(fE G.K f c spec).out afC k=some z): ∃r,k r=some z/\eC G.K P f afC r:=by
 simp only[fE] at a;split at a
 rotate_left
 ·cases a
 rename_i xs p;cases hp:(kG G.K xs).all ay.pure<;>rw[hp] at a
 ·cases a
 simp only[cond_true] at a;obtain⟨n,hn⟩:=h xs k z a;obtain⟨r,h',dt,h1,d⟩:=s4 b hn;obtain⟨s,e,g⟩:=eC.MS b.K hp d h1;obtain⟨q,i,j,l⟩:=Nb b.K e g;exact⟨q,i,j,λA O w vs o hO m=>l A O w vs (v7 b.K p o) hO m⟩
end
section
variable {S:bo} {P:Program} {G:bw S} {I:dr S} {x:Code} {R:Type}
def qh (G:bw S) (n:Nat) (I:dr S) (x:Code) (k:AX->AS S->Option R):AX->AS S->Option R:=λe a=>match e with| .normal=>cm G n I (.loop x) (gc (I.L (dI x)) a) k|e=>k e a
theorem Eb (a:gg I.lc (dI x)=none) {n:Nat} {st:AS S} {k:AX->AS S->Option R}:cm G (n+1) I (.loop x) st k=cm G n I x st (qh G n I x k):=by
 show(match gg I.lc (dI x) with|some lc=>lc.out st k|none=>_)=_;rw[a];rfl
theorem aas {i n:Nat} (h:i<n):decide ((i:Int)<(n:Int))=true:=by simp;exact h
theorem aar {n:Nat}:decide ((n:Int)<(n:Int))=false:=by simp
theorem cW {α:Type} {l:List α} {i:Nat} {z:α} (h:l[i]? =some z):idx l (i:Int)=some z:=by
 unfold idx;rw[if_pos (Int.natCast_nonneg i),Int.toNat_natCast,h]
theorem aX.alt {K:Kit S} {J:k6} {c:AS S->Option Unit} {a b:bh S} (d:aX K P J x a) (e:aX K P J x b):aX K P J x (mO c a b):=by
 intro R st k z h;simp only[mO] at h;split at h
 ·exact d st k z h
 ·exact e st k z h
theorem cE {α:Type} {T:Ty α} {A:Pl} {O:Γ} {w:World} {N:Nat} {C:cO} {K:Kit S} {st:AS S} {a:Act} {sl t:Nat} {d:S.El t} (e:bn K P N C A O w st a) (f:aV.get st.env sl=some (.s (.one (.ao t d)))) {l:List α} (c: ∀v,(S.ty t).is O w v d->T.slice.is O w v l):l.length<=maxLen:=by
 obtain⟨x,h1,b,_⟩:=e.env sl _ f;cases h1;obtain⟨_,_,_,g,h⟩:=eS (c _ b);omega
theorem NY {A:Pl} {O:Γ} {w:World}: ∀ {ls:List (LV S)} {xs:Γb} {n:Nat} {l:LV S},bB A O w ls xs->ls[n]? =some l-> ∃ys,l.rel A O w ys
 |[],_,n,l,_,h=>by simp at h
 |a::ls,_,0,l,⟨ys,_,_,h1,_⟩,h=>by
  have h:a=l:=by simpa using h
  subst h;exact⟨ys,h1⟩
 |a::ls,_,n+1,l,⟨_,_,_,_,b⟩,h=>NY b (by simpa using h)
theorem D' {α:Type} {T:Ty α} {A:Pl} {O:Γ} {w:World} {N:Nat} {C:cO} {K:Kit S} {st:AS S} {a:Act} {j k n t:Nat} {cs:List (LV S)} {d:S.El t} (g:bn K P N C A O w st a) (i:aC st.h j=some (.box k cs)) (hn:cs[n]? =some (.ao t d)) {l:List α} (f: ∀v,(S.ty t).is O w v d->T.slice.is O w v l):l.length<=maxLen:=by
 obtain⟨p,_,⟨b,vs,_,_,e⟩,_⟩:=g.rel.al j _ i;obtain⟨ys,x,_,c,_⟩:=NY e hn;obtain⟨_,_,_,m,o⟩:=eS (f _ c);omega
theorem lR {e j:Nat} {xs:List (S.El e)} {A:Pl} {O:Γ} {w:World} {N:Nat} {C:cO} {K:Kit S} {st:AS S} {a:Act} (c:bn K P N C A O w st a) (d:aC st.h j=some (.row e xs)):xs.length<=maxLen:=by
 obtain⟨p,_,b,_⟩:=c.rel.al j _ d;obtain⟨_,_,_,f,g⟩:=Dc.Own.form b;omega
end
end Go.Vx
end
