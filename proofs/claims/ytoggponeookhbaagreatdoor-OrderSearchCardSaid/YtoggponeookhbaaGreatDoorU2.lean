/- A part of the proof that OrderSearch returns true for every input: the machine of values, its soundness, the program as plain functions, the law. Conditions: those of the given rows. -/
import Derived.Test.YtoggponeookhbaaGreatDoorU1
import Derived.Recover
import Derived.LoopNIn
import Derived.Stop.BytesEq
import Derived.KernelRfl
import Derived.RecoverIn
set_option linter.unusedVariables false
set_option linter.unusedSimpArgs false
noncomputable section
set_option maxRecDepth 1000000
set_option maxHeartbeats 12000000
open Array renaming getD_eq_getD_getElem?→θ,getElem?_eq_getElem→κ,getElem?_setIfInBounds_ne→ξ0,replicate→ξ8,getElem?_eq_some_iff→ξa,getElem?_toList→ξi,all_eq_true_iff_forall_mem→ξD,eq_empty_of_size_eq_zero→ξH,foldl_toList→ξQ,toList_map→ζv
open Bool renaming and_eq_true→η,or_true→ξv,not_eq_true'→ξF,or_eq_true→ξO,true_and→ξW,not_true→ξY,false_or→ξZ,true_or→ζb,false_eq_true→ζn,and_true→ζo,not_eq_true→ζx
open Go renaming Call→ζ8
open Go.Act renaming put→ζz
open Go.Addr renaming add→ζR
open Go.Builtin renaming copy_→ζj,firstCells→ζk,lenOf→ζI
open Go.Code renaming region→ζA
open Go.Deferred renaming ofValue→ζ0
open Go.Instr renaming fill→ζE
open Go.Lib renaming byteCells→ζH
open Go.Op renaming equalIn→ζF
open Go.Oper renaming semAt_eq→ζm
open Go.Region renaming wanted→ξ1,ready→ζc
open Go.Result renaming andThen_ok→π
open Go.RowKit.Below renaming heap_alloc→ζ4
open Go.Sem renaming run_bind→ξ,run_pure→ξh
open Go.StepsIn renaming of_steps→ζw,mono→ζM
open Go.Target.collected renaming injEq→ζJ
open Go.Value renaming int→ξ2,oneCell'→ξR,func→ζq,cells→ζP,bool→ζS
open Go.World renaming putObj_heap_other→ξm,putObj_heap_same→ζ6,alloc_heap_new→ζg
open List renaming getElem?_eq_some_iff→ε,mem_cons_of_mem→μ,mem_cons_self→ν,getElem?_eq_getElem→σ,mem_cons→τ,getElem?_append_left→φ,length_append→χ,mem_append→ψ,length_take→ξ3,all_eq_true→ξ4,take_append_drop→ξ6,mem_append_right→ξ7,mem_append_left→ξ9,getElem?_append_right→ξb,length_set→ξf,getElem?_eq_none→ξg,append_assoc→ξj,mem_filter→ξk,length_drop→ξn,take_of_length_le→ξq,length_singleton→ξr,range→ξs,getElem?_take→ξw,length_map→ξx,getElem?_cons_zero→ξz,append_nil→ξA,all_cons→ξC,getElem?_set→ξE,replicate→ξG,take_append_of_le_length→ξK,mem_of_getElem?→ξM,getElem?_eq_none_iff→ξS,drop→ξT,getElem?_take_of_lt→ξU,cons_append→ζ1,length_cons→ζ2,take_length→ζ3,drop_of_length_le→ζ5,length_replicate→ζ7,drop_drop→ζh,toList_toArray→ζi,getElem?_drop→ζl,nodup_append→ζp,mem_map→ζr,drop_append→ζt,any_eq_true→ζy,of_mem_zip→ζB,mapM_cons→ζC,map_cons→ζG,range'→ζQ
open Nat renaming eq_of_beq_eq_true→δ,beq→ζ,blt_eq→ο,blt→υ,lt_or_ge→ω,le_of_ble_eq_true→ξ5,le_refl→ξc,lt_trichotomy→ξd,zero_add→ξe,zero_le→ξt,beq_refl→ξu,ble→ξI,le_add_right→ξJ,mul_le_mul_right→ξL,min_eq_left→ξN,add_zero→ξP,add_sub_cancel_left→ξV,min→ζ9,succ_mul→ζa,le_of_lt→ζd,le_trans→ζe,sub_self→ζs,min_eq_right→ζu,ble_eq→ζD,le_total→ζK,decEq→ζL,sub_zero→ζN
open Option renaming bind_some→ξo,getD_some→ξp,map_some→ξy,bind_eq_some_iff→ξX
open Option.some renaming injEq→ι,inj→ξB
open Prod.mk renaming injEq→ξl
open Std.Legacy.Range renaming forIn_eq_forIn_range'→ζf,size→ζO
section
namespace Go.Vx
open Go.RowKit Go.Dc
section
variable {S:bm} {K:Kit S} {P:Program} {rr:Option Nat} {o:Oper} {env:a1 S} {g:Nat->Option (Ob S)} {nx:Nat} {R:Type} {z:R} {k:AV S->Up S->AH S->Option R}
def jA (a:Act):Γ->Env
 |[]=>[]
 |s::r=>(s,a.tmps.getD s undef)::jA a r
theorem NR (a:Act) (l:Γ):Has a.tmps.size (jA a l) a.defers a:=by
 refine⟨rfl,rfl,?_⟩
 induction l with
 |nil=>intro i v h;simp[jA,Env.get] at h
 |cons s r d=>
  intro i v h;simp only[jA,Env.get] at h;cases b:ζ s i with
  |true=>
   rw[b] at h;have c:=δ b;subst c;simp only[cond_true,ι] at h;exact h
  |false=>rw[b] at h;exact d i v h
theorem NQ {a:Act} {s:Nat}: ∀ {l:Γ},s∈l->(jA a l).get s=some (a.tmps.getD s undef)
 |t::r,h=>by
  simp only[jA,Env.get];cases b:ζ t s with
  |true=>have c:=δ b;subst c;rfl
  |false=>
   rcases τ.1 h with rfl|h
   ·simp at b
   ·exact NQ h
theorem NO {a:Act} {x:Operand} {l:Γ} (h: ∀s∈slotsOf [x],s∈l):ev (jA a l) x=some (a.eval x):=by
 cases x with
 |tmp t=>exact NQ (h t (by simp[slotsOf]))
 |const v=>rfl
 |global g=>rfl
 |func f=>rfl
theorem JS {x:Operand}: ∀ {l:List Operand},x∈l-> ∀s∈slotsOf [x],s∈slotsOf l
 |y::r,h,s,a=>by
  rcases τ.1 h with rfl|h
  ·cases x<;>simp[slotsOf] at a ⊢;exact .inl a
  ·have:=JS h s a;cases y<;>simp[slotsOf,this]
theorem Pn: ∀ {ps:List (Nat×Operand)} {n:Nat} {xs:List Operand},w_ n ps=some xs-> ∀ {E:Env} {f:Operand->Value},(∀x∈xs,ev E x=some (f x))->jQ E n ps=some (xs.map f)
 |[],n,xs,h,E,f,a=>by cases h;rfl
 |(i,x)::r,n,xs,h,E,f,a=>by
  simp only[w_] at h;cases b:ζ i n<;>rw[b] at h
  ·cases h
  simp only[cond_true] at h;split at h
  rotate_left
  ·cases h
  rename_i ys d;cases h;simp only[jQ,b,cond_true,a x ν,Pn d (λy c=>a y (μ _ c)),ζG]
theorem NH (b:b6 K P) {A:Pl} {O:Γ} {w:World} {t:Nat}: ∀ {aka:List (aB S)} {ys:List (S.El t)} {vs:Γb},uP K t aka=some ys->cI A O w aka vs->bY (S.ty t) O w (hr vs) ys/\vs.length=ys.length/\ ∀v∈vs,v.cells.size=(S.ty t).n
 |[],ys,vs,h,e=>by cases h;rw[show vs=[] from e];exact⟨rfl,rfl,λv h=>by cases h⟩
 |a::r,ys,vs,h,⟨v,m,f,h1,d⟩=>by
  subst f;simp only[uP] at h;split at h
  rotate_left
  ·cases h
  rename_i y g;split at h
  rotate_left
  ·cases h
  rename_i o i;cases h;have c:=b.cls A O w t _ y _ g h1.cells;obtain⟨j,k,l⟩:=NH b i d;refine⟨⟨v.cells.toList,hr m,by simp[hr],c,j⟩,by simp[k],λu hu=>?_⟩;rcases τ.1 hu with rfl|hu
  ·have:=(S.ty t).len c;simpa using this
  ·exact l u hu
theorem ac6 (j:b6 K P) {t n:Nat} {ps:Array (Nat×Operand)} (C:o.op= .buildSlice t n ps) (h:Iu K env g nx k t n ps.toList=some z):Good K P rr o env g nx k z:=by
 have m: ∀c,o.op≠ .defer c:=λc=>by rw[C];simp
 unfold Iu at h;split at h
 rotate_left
 ·cases h
 rename_i i hi;split at h
 rotate_left
 ·cases h
 rename_i d xs N ab;split at h
 rotate_left
 ·cases h
 rename_i aka has;split at h
 rotate_left
 ·cases h
 rename_i ai rs M;split at h
 rotate_left
 ·cases h
 rename_i ys ad;cases l:(ζ i.tag 5&&(ζ ys.length n&&(ζ (S.ty i.e).n d.size&&(ζ d.zero.cells.size d.size&&(ξI (n*d.size) 16777216&&ξI n 16777216)))))<;>rw[l] at h
 ·cases h
 simp only[cond_true,η] at h l;obtain⟨G,hlen,s,ae,V,W⟩:=l;have s:=δ s;refine gg m h λA O w a he y hO H L=>?_;have u:A.pl nx=none:=L 0 (by simp);obtain⟨af,aj,D⟩:=lL j y (all:=rs) M (lr he H has) (λr q=>q);obtain⟨F,ag,ah⟩:=NH j ad af;have hk:=N0 (A:=A) hO D;have hn:n=ys.length:=(δ hlen).symm;have Q:n<=maxLen:=by have:=ξ5 W;unfold maxLen;omega
 have b:=jN hk.ob i.e (hr (xs.map a.eval));have I:Dc.Lit (S.ty i.e) i.e (c' A rs O) w w.heap.size n ys (w.alloc (.cells (hr (xs.map a.eval)).toArray i.e)):=⟨⟨hr (xs.map a.eval),b,F.tr b.tr,by rw[F.len,hn]⟩,hn.symm,Q⟩;have T:=I.own (B:=0) (ξt _);have R:nx∉rs:=λq=>by
  obtain⟨Z,J⟩:=D nx q;obtain⟨p,hp,_⟩:=y.al nx Z J;rw[u] at hp;cases hp
 refine⟨.slice (some ⟨w.heap.size,0,none⟩) n n,_,_,_,?_,⟨_,Pl.ff A nx (.slice (some ⟨w.heap.size,0,none⟩) n n),rfl,rfl⟩,
  hk.Nf (mV (p:=.slice (some ⟨w.heap.size,0,none⟩) n n) hk.ob u b.fr b.tr b.ob b.ge T (λc m=>by cases m;rfl)) (λi X hi=>by obtain⟨rfl,_⟩:=c0 hi;exact R)⟩
 simp only[execOp,C,ξ];have U:=Pn ab (E:=jA a (slotsOf xs)) (f:=a.eval) λx aa=>NO (JS aa);rw[JD j.Θ (NR a _) hi (δ G) N (δ ae) U (λv Y=>(ah v Y).trans s) (ag.trans hn.symm) (ξ5 V)];rfl
theorem adm (l:b6 K P) {t:Nat} {x y:Operand} (C:o.op= .makeSlice t x y) (h:ID K env nx k t x y=some z):Good K P rr o env g nx k z:=by
 have q: ∀c,o.op≠ .defer c:=λc=>by rw[C];simp
 unfold ID at h;split at h
 rotate_left
 ·cases h
 rename_i i hi;split at h
 rotate_left
 ·cases h
 rename_i b U;split at h
 rotate_left
 ·cases h
 rename_i n c u ad af M;cases m:(ζ i.tag 5&&(ζ (S.ty i.e).n b.size&&(ζ b.zero.cells.size b.size&&b.zero.cells.toList.all ξR)))<;>rw[m] at h
 ·cases h
 simp only[cond_true,η] at h m;obtain⟨J,aa,f,h1⟩:=m;have hn:=δ aa;have f:=δ f;obtain⟨zs,hm,I⟩:=bind_some h;refine gg q I λA O w a he B hO v R=>?_;have T:A.pl nx=none:=R 0 (by simp);have ab:=l.Θ.fits U;obtain⟨x',ae,Z,L,ag⟩:=ab.info;have Y:(S.ty i.e).rep O w b.zero.cells.toList u:=l.cls A O w i.e _ u _ M (q_ h1);unfold kI at hm;split at hm
 rotate_left
 ·cases hm
 rename_i Q;obtain⟨F,G,H,aj⟩:=Q;simp only[ι] at hm;subst hm;obtain⟨ai,W⟩:=ij he v ad;obtain⟨ah,V⟩:=ij he v af;have hu:=(l.Θ.fits hi).slice (δ J);have E:=run_make (P:=P) w t i.e x' b.zero hu ae ag ai ah n c F G (by rw[L];exact H) (by omega);rw[Z] at E;have d:=jN hO i.e (madeCells b.zero.cells (c.toNat*b.size)).toList;have X:Dc.Own (S.ty i.e) i.e 0 (w.heap.size::O) (w.alloc (.cells (madeCells b.zero.cells (c.toNat*b.size)).toList.toArray i.e)) (.slice (some ⟨w.heap.size,0,none⟩) n.toNat c.toNat) (ξG n.toNat u):=by
  have N:c.toNat<=maxLen:=by unfold maxLen;omega
  have D:=(ahF Y n.toNat).tr d.tr;have s:=D.len;simp only[ζ7] at s;have hle:n.toNat*b.size<=c.toNat*b.size:=ξL _ (by omega);refine⟨⟨_,⟨by rw[s];simp,.inr ⟨w.heap.size,c.toNat,madeCells b.zero.cells (c.toNat*b.size),by simp,ξt _,?_,by simp;omega,N,by simp[madeCells,hn],?_⟩⟩,D⟩,λg B=>by cases B;exact ν⟩
  ·have:=d.bL;unfold bM at this;simpa using this
  ·apply List.ext_getElem?;intro j;simp only[ξw,ζ7,hn]
   by_cases r:j<n.toNat*b.size
   ·rw[if_pos r,RH _ _ _ (by omega) f,acT (by simpa using f) _ _ r]
   ·rw[if_neg r]
    symm
    rw[ξS,s,hn];omega
 refine⟨.slice (some ⟨w.heap.size,0,none⟩) n.toNat c.toNat,_,_,_,?_,⟨_,Pl.ff A nx (.slice (some ⟨w.heap.size,0,none⟩) n.toNat c.toNat),rfl,rfl⟩,
  mV (p:=.slice (some ⟨w.heap.size,0,none⟩) n.toNat c.toNat) hO T d.fr d.tr d.ob d.ge X (λc q=>by cases q;rfl)⟩
 simp only[execOp,C,ξ,W,V,E];simp
theorem jD (i:b6 K P) {A:Pl} {O:Γ} {w:World} (k:bW A O w g) {e:Nat} {l:LV S} {xs:List (S.El e)} {u:Value} (h:dO K g e l=some xs) (c:l.rel A O w [u]):(S.ty e).slice.is (c' A (jT l) O) w u xs:=by
 have less:Tr O w (c' A (jT l) O) w:=Tr.less eI;unfold dO at h;split at h
 ·rename_i r;split at h
  rotate_left
  ·cases h
  rename_i o ys n;split at h
  rotate_left
  ·cases h
  rename_i p _;subst p;cases h;obtain⟨v,h1,a,d⟩:=c;have a:u=v:=by simpa using a
  subst a;obtain⟨p,hp,f,hm⟩:=k.al r _ n;rw[h1] at hp;cases hp;exact Dc.Own.share f eI λb j m=>(hT.1 m).2 r (by simp[jT]) u h1 (gw j)
 ·rename_i t y;split at h
  rotate_left
  ·cases h
  rename_i I hI;split at h
  rotate_left
  ·cases h
  rename_i p _;subst p;cases h;obtain⟨v,h1,a,d⟩:=c;have h1:u=v:=by simpa using h1
  subst h1;exact((i.sl t I hI).2.1 O w u y a).tr less
 ·cases h;have:=eg c;subst this;exact gT _ _ _
 ·cases h
theorem ahM {c:ζ8} {x y:Operand} {ty:Nat} {a:Act} {w w':World} {u v r:Value} (f:o.op= .call c) (d:c.callee= .builtin .append) (b:c.args.toList=[x,y]) (g:c.argTypes.toList=[ty,ty]) (i:a.eval x=u) (j:a.eval y=v)
  (h:(Builtin.append_ #[ty,ty] o.type #[u,v]).run P w= .ok r w'):(execOp a.eval o).run P w= .ok (.value r) w':=by
 refine rl f d λcs=>?_;rw[fJ b,fJ g];simp only[builtin,ξ];have e:(#[x,y].map a.eval)= #[u,v]:=by simp[i,j]
 rw[show([x,y]:List Operand).toArray.map a.eval= #[u,v] from e,show([ty,ty]:Γ).toArray= #[ty,ty] from rfl,h];rfl
theorem afo {A:Pl} {O:Γ} {w:World} (n:bW A O w g) {e r:Nat} {ys:List (S.El e)} {u:Value} (a:dO K g e (.own r)=some ys) (p:(LV.own r:LV S).rel A O w [u]):Dc.Src (S.ty e) O w u ys:=by
 obtain⟨v,z,u2,u3⟩:=p;have u2:u=v:=by simpa using u2
 subst u2;simp only[dO] at a;split at a
 rotate_left
 ·cases a
 rename_i f B s;split at a
 rotate_left
 ·cases a
 rename_i q _;subst q;cases a;obtain⟨C,i,c,_⟩:=n.al r _ s;rw[z] at i;cases i;have c:Dc.Own (S.ty f) f 0 O w u B:=c;rcases gO c with⟨h,l⟩|⟨b,k,h⟩
 ·subst h;subst l;exact .inl ⟨0,rfl,rfl⟩
 ·subst h;obtain⟨cs,cur,t,x,y,_,_,_,_,_⟩:=nV c;refine .inr ⟨⟨b,0,none⟩,k,cs,rfl,y,λj v d=>?_⟩;have o:cur.toList[j]? =some v:=by
   rw[<-x,ξw] at d;split at d
   ·exact d
   ·cases d
  have m:(⟨b,0,none⟩:Addr).add j=⟨b,j,none⟩:=by unfold ζR;split<;>simp_all
  rw[m];have hblk:bM w b f cur.toList:=by unfold bM;simpa using t
  rw[hblk.cell];exact o
theorem ac2 (L:b6 K P) {ty:Nat} {c:ζ8} {x y:Operand} (af:o.op= .call c) (an:c.callee= .builtin .append) (ai:c.args.toList=[x,y]) (aD:c.argTypes.toList=[ty,ty]) (h:Ir K env g nx k ty x y=some z):Good K P rr o env g nx k z:=by
 have ak: ∀c,o.op≠ .defer c:=λc=>by rw[af];simp
 unfold Ir at h;split at h
 rotate_left
 ·cases h
 rename_i i hi;split at h
 rotate_left
 ·cases h
 rename_i f au;split at h
 rotate_left
 ·cases h
 rename_i aL I G H;have key: ∀ {l:LV S} {xs ys:List (S.El i.e)} {kl:Γ},cb K env x=some l->(∀r∈kl,∃Z,g r=some Z)->(∀(A:Pl) (O:Γ) (w:World) (u:Value),bW A O w g->l.rel A O w [u]->Dc.Own (S.ty i.e) i.e 0 (c' A kl O) w u xs/\u.oneCell'=true)->
   (∀(A:Pl) (O:Γ) (w:World) (u:Value),bW A O w g->I.rel A O w [u]->Dc.Src (S.ty i.e) (c' A kl O) w u ys)->
   ∀ {ef0:Up S},(∀(A:Pl) (O:Γ) (w:World) (u:Value),bW A O w g->l.rel A O w [u]->(∀i X,(i,X)∈ef0->X=none/\A.pl i=some u/\ ∃Z,g i=some Z)/\((∃i,(i,none)∈ef0)\/u.ownBlock=none))->(∀i X,(i,X)∈ef0->i∉kl)->
   (ζ i.tag 5&&(ζ (S.ty i.e).n f.size&&(ζ f.zero.cells.size f.size&&(υ 0 f.size&&υ 0 f.bytes))))=true->
   ∀ {up:Up S},up=fu kl++ef0->((app f.bytes xs ys).bind λzs=>k (.s (.one (.own nx))) up [some (.row i.e zs)])=some z->Good K P rr o env g nx k z:=by
  intro l xs ys kl G M ax D ef0 aq ao B up aE h;simp only[η] at B;obtain⟨R,aC,aG,ay,aj⟩:=B;obtain⟨zs,aH,J⟩:=bind_some h;obtain⟨hlen,rfl⟩:=uH aH;subst aE;refine gg ak J λA O w a he m hO T ar=>?_;have ad:A.pl nx=none:=ar 0 (by simp);have hk:=N0 (A:=A) (w:=w) hO M;obtain⟨aI,aM⟩:=ax A O w _ m (cc he T G);have aJ:=D A O w _ m (cc he T H);obtain⟨N,w',O',aB,aa⟩:=ahN (P:=P) (ty:=o.type) L.Θ hi (δ R) au (δ aC) (ο.mp ay) (δ aG) (ξt _) hk.ob aI aJ hlen (ο.mp aj);obtain⟨ag,ah⟩:=aq A O w _ m (cc he T G);have aF:N.oneCell'=true:=by
   rcases gO aa.own with⟨rfl,_⟩|⟨_,_,rfl⟩<;>rfl
  have ab:=hk.Nf (ab' (g:=g) hk.ob ad ag ah aa) (λi X hi=>by
   rcases ψ.1 hi with hi|hi
   ·exact ao i X hi
   ·obtain⟨rfl,_⟩:=c0 hi;intro C;obtain⟨Z,U⟩:=M _ C;obtain⟨p,hp,_⟩:=m.al _ Z U;rw[ad] at hp;cases hp)
  refine⟨N,w',_,O',ahM af an ai aD rfl rfl aB,⟨N,Pl.ff A nx N,rfl,aF⟩,?_⟩;rw[<-ξj] at ab;exact ab
 have V: ∀ {r:Nat} {xs:List (S.El i.e)} {kl:Γ},dO K g i.e (.own r)=some xs->r∉kl->(∀q∈kl,∃Z,g q=some Z)-> ∀(A:Pl) (O:Γ) (w:World) (u:Value),bW A O w g->(LV.own r:LV S).rel A O w [u]->Dc.Own (S.ty i.e) i.e 0 (c' A kl O) w u xs/\u.oneCell'=true:=by
  intro r xs kl t C M A O w u m aA;unfold dO at t;simp only at t;split at t
  rotate_left
  ·cases t
  rename_i aK ys H;split at t
  rotate_left
  ·cases t
  rename_i p _;subst p;cases t;obtain⟨v,h1,E,J⟩:=aA;have E:u=v:=by simpa using E
  subst E;obtain⟨p,hp,Y,hm⟩:=m.al r _ H;rw[h1] at hp;cases hp;refine⟨Dc.Own.keep Y (Tr.less eI) λb B=>⟨rfl,hT.2 ⟨Y.mem b B,λq d p hp az=>?_⟩⟩,J⟩;obtain⟨Z,U⟩:=M q d;exact m.dj r q _ Z u p b (λe=>C (e▸d)) H U h1 hp (gw B) az
 have live: ∀ {r:Nat} {xs:List (S.El i.e)},dO K g i.e (.own r)=some xs-> ∃Z,g r=some Z:=by
  intro r xs h;unfold dO at h;simp only at h;split at h
  ·rename_i e ys H;exact⟨_,H⟩
  ·cases h
 have Q: ∀ {r:Nat} {xs:List (S.El i.e)},dO K g i.e (.own r)=some xs-> ∀(A:Pl) (O:Γ) (w:World) (u:Value),bW A O w g->(LV.own r:LV S).rel A O w [u]->(∀j X,(j,X)∈([(r,none)]:Up S)->X=none/\A.pl j=some u/\ ∃Z,g j=some Z)/\((∃j,(j,none)∈([(r,none)]:Up S))\/u.ownBlock=none):=by
  intro r xs t A O w u m ⟨v,h1,E,J⟩;have E:u=v:=by simpa using E
  subst E;refine⟨λj X F=>?_,.inl ⟨r,ν⟩⟩;obtain⟨rfl,rfl⟩:=c0 F;exact⟨rfl,h1,live t⟩
 split at h
 ·rename_i r;split at h
  ·rename_i W;cases d:ζ r W<;>rw[d] at h
   ·simp only[cond_false] at h;have ae:r≠W:=λe=>by subst e;simp at d
    split at h
    rotate_left
    ·cases h
    rename_i xs ys t D;cases B:(ζ i.tag 5&&(ζ (S.ty i.e).n f.size&&(ζ f.zero.cells.size f.size&&(υ 0 f.size&&υ 0 f.bytes))))<;>rw[B] at h
    ·cases h
    cases R:ζ f.tag 5<;>rw[R] at h
    ·refine key (kl:=[W]) G (λq d=>by simp at d;subst d;exact live D) (V t (by simpa using ae) (λq d=>by simp at d;subst d;exact live D)) (λA O w u m C=>?_) (Q t) (λj X F=>by obtain⟨rfl,_⟩:=c0 F;simpa using ae) B rfl h;exact Dc.Src.xF (jD L m D C)
    ·refine key (kl:=[]) G (λq d=>by cases d) (V t (by simp) (λq d=>by cases d)) (λA O w u m C=>?_) (Q t) (λj X F=>by simp) B rfl h;have hO:c' A [] O=O:=by unfold c';simp
     rw[hO];exact afo m D C
   ·cases h
  ·rename_i aw;split at h
   rotate_left
   ·cases h
   rename_i xs ys t D;cases B:(ζ i.tag 5&&(ζ (S.ty i.e).n f.size&&(ζ f.zero.cells.size f.size&&(υ 0 f.size&&υ 0 f.bytes))))<;>rw[B] at h
   ·cases h
   have av:jT I=[]:=by cases I<;>first|rfl|exact absurd rfl (aw _)
   refine key (kl:=[]) G (λq d=>by cases d) (V t (by simp) (λq d=>by cases d)) (λA O w u m C=>?_) (Q t) (λj X F=>by simp) B rfl h;have:=jD L m D C;rw[av] at this;exact Dc.Src.xF this
 ·split at h
  rotate_left
  ·cases h
  rename_i ys D;cases B:(ζ i.tag 5&&(ζ (S.ty i.e).n f.size&&(ζ f.zero.cells.size f.size&&(υ 0 f.size&&υ 0 f.bytes))))<;>rw[B] at h
  ·cases h
  have hl: ∀q∈jT I,∃Z,g q=some Z:=by
   intro q d;cases I<;>simp[jT] at d;subst d;exact live D
  refine key (kl:=jT I) (xs:=[]) (ef0:=[]) G hl (λA O w u m C=>?_) (λA O w u m C=>Dc.Src.xF (jD L m D C)) (λA O w u m C=>⟨(λi X h=>nomatch h),.inr ?_⟩) (λj X F=>nomatch F) B (by simp) h
  ·rw[eg C];exact⟨Dc.Own.iZ,rfl⟩
  ·rw[eg C];rfl
 ·cases h
end
section
variable {S:bm} {K:Kit S} {P:Program} {rr:Option Nat} {o:Oper} {env:a1 S} {g:Nat->Option (Ob S)} {nx:Nat} {R:Type} {z:R} {k:AV S->Up S->AH S->Option R}
theorem HQ (b:b6 K P) {O:Γ} {w:World} {e:Nat} {a:IntKind}: ∀ {ys:List (S.El e)} {zs:Γa} {cs:Γb},iT K e a ys=some zs->bY (S.ty e) O w cs ys->cs=zs.map (ξ2 a)
 |[],zs,cs,h,i=>by cases h;exact i
 |y::ys,zs,cs,h,⟨c,r,f,h1,g⟩=>by
  simp only[iT] at h;split at h
  ·rename_i k x j;cases d:sameKind a k<;>rw[d] at h
   ·cases h
   simp only[cond_true] at h;split at h
   ·rename_i t l;cases h;have q:=b.bl ⟨λ_=>none,none⟩ O w e y c h1;rw[j] at q;obtain⟨s,p,m,n,o⟩:=q;rw[f,m,n.1,show p=[] from o,HQ b l g,<-eU d];rfl
   ·cases h
  ·cases h
theorem afD {vs us:Γb} {off n:Nat} (h1:us.length<=n) (a:off+n<=vs.length):putAt vs off (us++((vs.drop off).take n).drop us.length)=putAt vs off us:=by
 unfold putAt;rw[ξj,ξj,ξj]
 congr 2
 have hl:(us++ξT us.length (List.take n (ξT off vs))).length=n:=by
  rw[χ,ξn,ξ3,ξn];omega
 rw[hl];have e:ξT (off+us.length) vs=ξT us.length (ξT off vs):=by rw[ζh]
 rw[e,<-ζh]
 conv=>rhs;rw[<-ξ6 n (ξT off vs)]
 rw[ζt,ξ3,ξn];have:us.length-min n (vs.length-off)=0:=by omega
 rw[this,List.drop_zero]
theorem ac8 (D:b6 K P) {ty C:Nat} {c:ζ8} {x y:Operand} (aa:o.op= .call c) (ao:c.callee= .builtin .copy) (aj:c.args.toList=[x,y]) (aH:c.argTypes.toList=[ty,C]) {i H:TI} (hi:K.Θ.get ty=some i) (ay:K.Θ.get i.e=some H) {b off n:Nat} {af:LV S} (aO:cb K env x=some (.fD b off n)) (aQ:cb K env y=some af)
  (h:Iw K g k i H b off n af=some z):Good K P rr o env g nx k z:=by
 have an: ∀c,o.op≠ .defer c:=λc=>by rw[aa];simp
 unfold Iw at h;split at h
 rotate_left
 ·cases h
 rename_i B cs V;split at h
 rotate_left
 ·cases h
 rename_i ls aA;split at h
 rotate_left
 ·cases h
 rename_i t gs ax;split at h
 rotate_left
 ·cases h
 rename_i zs d;split at h
 rotate_left
 ·cases h
 rename_i R au;cases f:(ζ i.tag 5&&(ζ (S.ty i.e).n H.size&&(ζ H.size 1&&ζ gs.length n)))<;>rw[f] at h
 ·cases h
 simp only[cond_true,η] at h f;have ai:=δ f.1;have hn:=δ f.2.1;have h1:=δ f.2.2.1;have aw:=δ f.2.2.2;refine gg an h λA O w a he Y hO U aY=>?_;obtain⟨bL,ah,Q⟩:=cc he U aO;have Q:a.eval x= .slice (some ⟨bL,off,none⟩) n n:=by simpa using Q
 obtain⟨p,hp,⟨aV,vs,p1,p2,ag⟩,hm⟩:=Y.al b _ V;rw[ah] at hp;cases hp;cases p1;obtain⟨aT,aU⟩:=hc aA ag;have hold:=ph ax aT;have M:=(D.Θ.fits hi).slice ai;have L:=D.Θ.fits ay;obtain⟨us,l⟩: ∃us,us=(zs.take n).map (ξ2 t):=⟨_,rfl⟩;have G:us.length=ζ9 zs.length n:=by rw[l,ξx,ξ3];exact Nat.min_comm _ _
 have aJ:us.length<=n:=by rw[G];exact Nat.min_le_right _ _
 have aM: ∀u∈us,u.oneCell'=true:=λu hu=>by
  rw[l] at hu;obtain⟨x,_,rfl⟩:=ζr.1 hu;rfl
 have J:=run_storeCells_at (P:=P) bL off B us 0 vs.toArray w p2 (by simp;omega) aM;have aF:(vs.toArray.toList.take (off+0)++us++vs.toArray.toList.drop (off+0+us.length)).toArray=(putAt vs off us).toArray:=by simp[putAt]
 rw[aF] at J;have I:(ζj #[ty,C] o.type #[.slice (some ⟨bL,off,none⟩) n n,a.eval y]).run P w= .ok (goInt (ζ9 zs.length n)) (w.setRow bL (putAt vs off us).toArray):=by
  have ae:=cc he U aQ;unfold yu at d;split at d
  ·rename_i s;cases hk:(sameKind t .u8&&ξI s.size n)<;>rw[hk] at d
   ·cases d
   simp only[cond_true,ι] at d;simp only[η] at hk;have az:=eU hk.1;have F:=ξ5 hk.2;have aS:a.eval y= .string s:=eg (S:=S) (A:=A) (O:=O) (w:=w) ae;have q:zs.length=s.size:=by rw[<-d];simp
   obtain⟨a1,aP,aG,_,_⟩:=L.info;have I:=Lib.run_copy_row_string (P:=P) w ty C o.type i.e bL off n n s vs.toArray B M (by rw[aP,ξy,aG,h1]) p2 F (by simp;omega);have aL:us=ζH s.data.toList:=by
    rw[l,<-d,ξq (by simp;exact F),az];simp[ζH]
   rw[aS,I,q,show ζ9 s.size n=s.size from ξN F]
   congr 2
   have aE:us.length=s.size:=by rw[G,q];exact ξN F
   simp[putAt,<-aL,aE]
  ·split at d
   rotate_left
   ·cases d
   rename_i ys aR;have hu:=jD D Y aR ae;obtain⟨A',aW,N,aZ,_⟩:=eW hu;rw[N];rcases A' with _|ad
   ·have aB:ys=[]:=yt (by rw[N] at hu;exact hu);subst aB;cases d;have aI:us=[]:=by rw[l];simp
    rw[aI] at J ⊢;have:putAt vs off []=vs:=by simp[putAt]
    rw[this];have aD:w.setRow bL vs.toArray=w:=setRow_self w bL vs.toArray B (0,0) p2;rw[aD];simp[ζj,run_underlying M,ζI,ζk,dW L,storeCells]
   ·rw[N] at hu;obtain⟨_,ds,ab,av⟩:=rm hu;have W:=HQ D d ab;have q:zs.length=ys.length:=by
     have r:=ab.len;rw[hn,h1,Nat.mul_one,W,ξx] at r;exact r
    obtain⟨m,hm⟩: ∃m,m=ζ9 ys.length n:=⟨_,rfl⟩;have aN:us=ds.take m:=by
     rw[l,W,<-List.map_take]
     congr 1
     rw[hm,<-q];rcases ζK zs.length n with h|h
     ·rw[show ζ9 zs.length n=zs.length from ξN h,ξq h,ξq (ξc _)]
     ·rw[show ζ9 zs.length n=n from ζu h]
    have aq: ∀j v,us[j]? =some v->w.cell? (ad.add j)=some v:=λj v E=>by
     rw[aN,ξw] at E;split at E
     ·exact av j v E
     ·cases E
    have Z:=run_loadCells_list (P:=P) w ad _ aq;have aK:us.length=m:=by rw[G,hm,q]
    rw[aK] at Z;simp only[ζj,ξ,List.getElem?_toArray,ξz,List.getElem?_cons_succ,run_underlying M,π,ζI,ξh,<-hm,dW L,ζk];rw[h1,Nat.mul_one,Z];simp only[π,J,ξ,ξh];rw[q,<-hm]
 have ak:bM (w.setRow bL (putAt vs off us).toArray) bL B (putAt vs off us):=by
  unfold bM;rw[setRow_heap w bL _ _ _ _ p2]
 have T:Fr [bL] w (w.setRow bL (putAt vs off us).toArray):=j1 p2;have aC:bF A O (w.setRow bL (putAt vs off us).toArray) R (putAt vs off us):=by
  have ar:((c5 gs zs).length=n):=by
   simp only[c5,χ,ξ3,ξn];omega
  have r:=(jb au ag ⟨(c5 gs zs).map (ξ2 t),[],(ξA _).symm,⟨ar,rfl⟩,rfl⟩).1;have e:(c5 gs zs).map (ξ2 t)=us++((vs.drop off).take n).drop us.length:=by
   rw[hold];show _=us++ξT us.length (gs.map (ξ2 t));rw[G,c5,List.map_append,aw,l,<-List.map_drop]
   congr 2
   rcases ζK zs.length n with h|h
   ·rw[show ζ9 zs.length n=zs.length from ξN h]
   ·rw[show ζ9 zs.length n=n from ζu h,ζ5 (by omega),ζ5 (by omega)]
  rw[e,afD aJ aU] at r;exact jV (T.tr (gM (hm bL rfl))) (Pl.le.refl A) r
 refine⟨_,_,A,O,?_,⟨rfl,rfl⟩,by simpa[news] using mW (X:=.box B R) hO (hm bL rfl) V ah rfl T ⟨bL,putAt vs off us,rfl,ak,aC⟩⟩;refine rl aa ao λaX=>?_;rw[fJ aj,fJ aH];simp only[builtin,ξ];have e:(([x,y]:List Operand).toArray.map a.eval)= #[.slice (some ⟨bL,off,none⟩) n n,a.eval y]:=by simp[Q]
 rw[e,show([ty,C]:Γ).toArray= #[ty,C] from rfl,I];rfl
theorem ac9 (T:b6 K P) {ty t:Nat} {c:ζ8} {x y:Operand} (H:o.op= .call c) (W:c.callee= .builtin .copy) (U:c.args.toList=[x,y]) (af:c.argTypes.toList=[ty,t]) {i L:TI} (hi:K.Θ.get ty=some i) (X:K.Θ.get i.e=some L) {r D:Nat} (ag:cb K env x=some (.own r)) (ah:cb K env y=some (.own D))
  {xs ys:List (S.El i.e)} (J:g r=some (.row i.e xs)) (d:dO K g i.e (.own D)=some ys) (F:ζ i.tag 5=true/\ζ (S.ty i.e).n L.size=true) (h:k (.s (.one (.v (goInt (ζ9 ys.length xs.length))))) [(r,some (.row i.e (c5 xs ys)))] []=some z):Good K P rr o env g nx k z:=by
 have V: ∀c,o.op≠ .defer c:=λc=>by rw[H];simp
 refine gg V h λA O w a he G hO E au=>?_;obtain⟨v,h1,C,ar⟩:=cc he E ag;have C:a.eval x=v:=by simpa using C
 obtain⟨p,hp,R,hm⟩:=G.al r _ J;rw[h1] at hp;cases hp;have ae:Dc.Src (S.ty i.e) O w (a.eval y) ys:=by
  obtain⟨u,an,u2,u3⟩:=cc he E ah;have u2:a.eval y=u:=by simpa using u2
  rw[u2];simp only[dO] at d;split at d
  rotate_left
  ·cases d
  rename_i aq ao ab;split at d
  rotate_left
  ·cases d
  rename_i q _;subst q;cases d;obtain⟨av,I,f,_⟩:=G.al D _ ab;rw[an] at I;cases I;have f:Dc.Own (S.ty i.e) i.e 0 O w u ao:=f;rcases gO f with⟨B,N⟩|⟨b,M,B⟩
  ·subst B;subst N;exact .inl ⟨0,rfl,rfl⟩
  ·subst B;obtain⟨cs,cur,ai,aj,ak,_,_,_,_,_⟩:=nV f;refine .inr ⟨⟨b,0,none⟩,M,cs,rfl,ak,λj v m=>?_⟩;have Y:cur.toList[j]? =some v:=by
    rw[<-aj,ξw] at m;split at m
    ·exact m
    ·cases m
   have Q:(⟨b,0,none⟩:Addr).add j=⟨b,j,none⟩:=by unfold ζR;split<;>simp_all
   rw[Q];have hblk:bM w b i.e cur.toList:=by unfold bM;simpa using ai
   rw[hblk.cell];exact Y
 obtain⟨w',ad,l⟩:=Tw (P:=P) (t':=t) (ty:=o.type) T.Θ hi (δ F.1) X (δ F.2) hO R ae;refine⟨_,w',A,O,?_,⟨rfl,rfl⟩,N2 hO J h1 l.tr l.ob (λq aa Z=>l.fr q aa λe=>Z (gw e)) l.own hm⟩;refine rl H W λcs=>?_;rw[fJ U,fJ af];simp only[builtin,ξ];have e:(([x,y]:List Operand).toArray.map a.eval)= #[v,a.eval y]:=by simp[C]
 rw[e,show([ty,t]:Γ).toArray= #[ty,t] from rfl,ad];rfl
theorem ac7 (m:b6 K P) {ty B:Nat} {c:ζ8} {x y:Operand} (u:o.op= .call c) (E:c.callee= .builtin .copy) (D:c.args.toList=[x,y]) (H:c.argTypes.toList=[ty,B]) (h:Iv K env g k ty x y=some z):Good K P rr o env g nx k z:=by
 have Q: ∀c,o.op≠ .defer c:=λc=>by rw[u];simp
 unfold Iv at h;split at h
 rotate_left
 ·cases h
 rename_i i hi;split at h
 rotate_left
 ·cases h
 rename_i M F;split at h
 ·rename_i b off n aa j l;exact ac8 m u E D H hi F j l h
 rotate_left
 ·rename_i r W j l;cases G:ζ r W<;>rw[G] at h
  rotate_left
  ·cases h
  simp only[cond_false] at h;split at h
  rotate_left
  ·cases h
  rename_i e xs ys f I;split at h
  rotate_left
  ·cases h
  rename_i p _;subst p;cases d:(ζ i.tag 5&&ζ (S.ty i.e).n M.size)<;>rw[d] at h
  ·cases h
  simp only[cond_true,η] at h d;exact ac9 m u E D H hi F j l f I d h
 ·cases h
 rename_i r t ys j l;split at h
 rotate_left
 ·cases h
 rename_i e xs X f I;split at h
 rotate_left
 ·cases h
 rename_i p _;subst p;cases d:(ζ i.tag 5&&ζ (S.ty i.e).n M.size)<;>rw[d] at h
 ·cases h
 simp only[cond_true,η] at h d;refine gg Q h λA O w a he L hO J Z=>?_;obtain⟨v,h1,C,Y⟩:=cc he J j;have C:a.eval x=v:=by simpa using C
 obtain⟨p,hp,N,hm⟩:=L.al r _ f;rw[h1] at hp;cases hp;have hu:=jD m L I (cc he J l);have hu:(S.ty i.e).slice.is O w (a.eval y) X:=hu.tr ⟨rfl,rfl,rfl,ξc _,λk hk T=>⟨λR=>T (hT.2 ⟨R,λr f=>by cases f⟩),rfl⟩⟩;obtain⟨w',V,s⟩:=ahR (P:=P) (t':=B) (ty:=o.type) m.Θ hi (δ d.1) F (δ d.2) hO N hu;refine⟨_,w',A,O,?_,⟨rfl,rfl⟩,N2 hO f h1 s.tr s.ob (λq U G=>s.fr q U λe=>G (gw e)) s.own hm⟩;refine rl u E λcs=>?_;rw[fJ D,fJ H];simp only[builtin,ξ];have e:(([x,y]:List Operand).toArray.map a.eval)= #[v,a.eval y]:=by simp[C]
 rw[e,show([ty,B]:Γ).toArray= #[ty,B] from rfl,V];rfl
theorem OZ (M:b6 K P) {t:Nat} {x y q:Operand} (d:o.op= .mapUpdate t x y q\/o.op= .insert t x y q) (h:xD K env g k t x y q=some z):Good K P rr o env g nx k z:=by
 have R: ∀c,o.op≠ .defer c:=λc=>by rcases d with d|d<;>rw[d]<;>simp
 unfold xD at h;split at h
 rotate_left
 ·cases h
 rename_i i b B j C u hi X Y V;split at h
 rotate_left
 ·cases h
 rename_i s v aa m U r;cases e:(ζ i.tag 7&&(ζ s.tag 2&&(sameKind (Dc.noKind s.k) v&&(sameKind B v&&sameKind C aa))))<;>rw[e] at h
 ·cases h
 simp only[cond_true] at h;simp only[η] at e;obtain⟨J,F,G,H,I⟩:=e;have D:=eU H;have E:=eU I;subst D;subst E;refine vU R h λA O w a he T hO f=>?_;obtain⟨m',n,l⟩:=cc he f X;obtain⟨p,hp,⟨m2,rfl,N⟩,hm⟩:=T.al b _ r;rw[n] at hp;cases hp;have l:a.eval x= .map (some m'):=by simpa using l
 have Z:a.eval y= .int B j:=eg (S:=S) (A:=A) (O:=O) (w:=w) (dL he f Y);have e:a.eval q= .int C u:=eg (S:=S) (A:=A) (O:=O) (w:=w) (dL he f V);obtain⟨w',W,Q,L⟩:=ah6 (P:=P) M.Θ hi (δ J) U (δ F) (eU G) N j u;refine⟨w',A,O,?_,mW hO (hm m' rfl) r n rfl L ⟨m',rfl,Q⟩⟩;unfold execOp;rcases d with d|d<;>rw[d]<;>simp only[ξ,l,Z,e,W]<;>rfl
theorem JG {t:Nat} {x y:Operand} {i:TI} {a:Act} {w:World} {b off c:Nat} {cs:Γb} (j:o.op= .store t x y) (h:i.fits P t) (l:a.eval x= .pointer (some ⟨b,off,none⟩)) (g:bM w b c cs) (k:(a.eval y).cells.size=i.size) (h1: ∀u∈(a.eval y).cells.toList,u.oneCell'=true) (hl:off+i.size<=cs.length):
  ∃w',(execOp a.eval o).run P w= .ok .skip w'/\bM w' b c (putAt cs off (a.eval y).cells.toList)/\Fr [b] w w':=by
 obtain⟨w',d,e,f⟩:=TH h g k h1 hl;refine⟨w',?_,e,f⟩;unfold execOp;rw[j];simp only[ξ,l,d];rfl
theorem S_ {α:Type} {T:Ty α} {O:Γ} {w:World}: ∀ {xs:List α} {cs:Γb} {j:Nat} {x y:α} {us:Γb} {off:Nat},bY T O w cs xs->xs[j]? =some x->off+us.length<=T.n->
  (∀c,T.rep O w c x->(cs.drop (j*T.n)).take T.n=c->T.rep O w (putAt c off us) y)->bY T O w (putAt cs (j*T.n+off) us) (xs.set j y)
 |[],cs,j,x,y,us,off,h,a,hl,hp=>by simp at a
 |q::xs,cs,0,x,y,us,off,⟨c,r,d,h1,b⟩,a,hl,hp=>by
  subst d;simp at a;subst a;have hlen:=T.len h1;rw[Nat.zero_mul,ξe,q7 (by omega)];exact⟨_,r,rfl,hp c h1 (by simp[<-hlen]),b⟩
 |q::xs,cs,j+1,x,y,us,off,⟨c,r,d,h1,b⟩,a,hl,hp=>by
  subst d;have hlen:=T.len h1;have i:=S_ (j:=j) b (by simpa using a) hl (λf g e=>hp f g (by
   rw[<-e,ζa,ζt,List.drop_eq_nil_of_le (by omega),hlen];simp))
  rw[n3 hlen (by rw[ζa];omega)];refine⟨c,_,rfl,h1,?_⟩;have e:(j+1)*T.n+off-T.n=j*T.n+off:=by rw[ζa];omega
  rw[e];exact i
theorem xX {vs us:Γb} {q:Nat} (h:q+us.length<=vs.length):(putAt vs q us).length=vs.length:=by
 unfold putAt;simp;omega
theorem afB {x y c us:Γb} {jj:Nat} (a:jj+us.length<=y.length):putAt (x++(y++c)) x.length (putAt y jj us)=putAt (x++(y++c)) (x.length+jj) us:=by
 have hl:=xX a;rw[n3 rfl (ξc _),n3 rfl (ξJ _ _),ζs,ξV,q7 a];have:=xW (ys:=y) (zs:=c) (us:=putAt y jj us) (vs:=[]) hl;rw[ξA] at this;rw[this,xY]
theorem Sx {vs us:Γb} {q n jj:Nat} (h:q+n<=vs.length) (b:jj+us.length<=n):putAt vs q (putAt ((vs.drop q).take n) jj us)=putAt vs (q+jj) us:=by
 have e:vs=vs.take q++((vs.drop q).take n++vs.drop (q+n)):=by
  rw[<-ζh,ξ6,ξ6]
 have a:(vs.take q).length=q:=by rw[ξ3];omega
 have d:((vs.drop q).take n).length=n:=by rw[ξ3,ξn];omega
 have:=afB (x:=vs.take q) (y:=(vs.drop q).take n) (c:=vs.drop (q+n)) (us:=us) (jj:=jj) (by omega);rw[<-e,a] at this;exact this
theorem afE {cur us:Γb} {p L:Nat} (h:p+us.length<=L) (a:L<=cur.length):(putAt cur p us).take L=putAt (cur.take L) p us:=by
 have b:(cur.take L).length=L:=by rw[ξ3];omega
 conv=>lhs;rw[<-ξ6 L cur]
 rw[q7 (by omega),ξK (by rw[xX (by omega)];omega),ξq (by rw[xX (by omega)];omega)]
theorem O5 (M:b6 K P) {t:Nat} {x y:Operand} (Y:o.op= .store t x y) (h:xE K env g k t x y=some z):Good K P rr o env g nx k z:=by
 have ad: ∀c,o.op≠ .defer c:=λc=>by rw[Y];simp
 unfold xE at h;split at h
 rotate_left
 ·cases h
 rename_i i l b hi Q Z;cases F:ζ (dQ b.cells) i.size<;>rw[F] at h
 ·cases h
 simp only[cond_true] at h;have F:=δ F;have val: ∀ {A:Pl} {O:Γ} {w:World} {a:Act},cQ A O w env a->cN K O w->bF A O w b.cells (a.eval y).cells.toList/\(a.eval y).cells.size=i.size/\ ∀u∈(a.eval y).cells.toList,u.oneCell'=true:=by
  intro A O w a he d;have h1:=aB.rel.cells (dL he d Z);have f:=gR h1;exact⟨h1,by rw[<-F,<-f];simp,S6 h1⟩
 have box: ∀ {j q:Nat} {cs B ns:List (LV S)} {L:Nat},g j=some (.box L cs)->b5 cs q ns=some B->k (.bJ []) [(j,some (.box L B))] []=some z->
   (∀(A:Pl) (O:Γ) (w:World) (a:Act),cQ A O w env a->cN K O w-> ∃m off,A.pl j=some (.pointer (some ⟨m,0,none⟩))/\a.eval x= .pointer (some ⟨m,off,none⟩)/\ ∀vs,bF A O w cs vs-> ∃us,bF A O w ns us/\putAt vs q us=putAt vs off (a.eval y).cells.toList/\(q+us.length<=vs.length->off+i.size<=vs.length))->Good K P rr o env g nx k z:=by
  intro j q cs B ns L C s hk aI;refine vU ad hk λA O w a he H hO d=>?_;obtain⟨m,off,h1,f,ax⟩:=aI A O w a he d;obtain⟨p,hp,⟨m2,vs,rfl,U,I⟩,hm⟩:=H.al j _ C;rw[h1] at hp;cases hp;obtain⟨us,ay,az,aA⟩:=ax vs I;obtain⟨aP,aQ⟩:=jb s I ay;obtain⟨v1,v2,v3⟩:=val he d;obtain⟨w',E,V,G⟩:=JG Y (M.Θ.fits hi) f U v2 v3 (aA aQ);refine⟨w',A,O,E,mW hO (hm m rfl) C h1 rfl G ⟨m,_,rfl,V,?_⟩⟩;rw[<-az];exact jV (G.tr (gM (hm m rfl))) (Pl.le.refl A) aP
 split at h
 ·rename_i j q;split at h
  rotate_left
  ·cases h
  rename_i L cs C;split at h
  rotate_left
  ·cases h
  rename_i B s;refine box C s h λA O w a he d=>?_;obtain⟨m,h1,f⟩:=cc he d Q;obtain⟨v1,v2,v3⟩:=val he d;refine⟨m,q,h1,by simpa using f,λvs N=>⟨_,v1,rfl,λhl=>?_⟩⟩;rw[<-v2];simpa using hl
 ·rename_i j q n jj;split at h
  rotate_left
  ·cases h
  rename_i L cs C;split at h
  rotate_left
  ·cases h
  rename_i ls ag;split at h
  ·rename_i J gs aO v W _;split at h
   rotate_left
   ·cases h
   rename_i B s;cases D:(sameKind J aO&&ζ gs.length n)<;>rw[D] at h
   ·cases h
   simp only[cond_true,η] at h D;have aw:=eU D.1;subst aw;have hl:=δ D.2;refine box C s h λA O w a he d=>?_;obtain⟨m,h1,f,aJ⟩:=cc he d Q;have ab:a.eval y= .int J v:=eg (S:=S) (A:=A) (O:=O) (w:=w) (dL he d Z);refine⟨m,q+jj,h1,by simpa using f,λvs N=>⟨(gs.set jj v).map (ξ2 J),⟨_,[],by simp,⟨by simp[hl],rfl⟩,rfl⟩,?_,λhle=>?_⟩⟩
   ·obtain⟨c1,c2⟩:=hc ag N;have E:=ph W c1;rw[ab,<-oe _ _ _ _ (by omega),show(gs.map (ξ2 J))=iw.cells (.i J gs) from rfl,<-E];exact Sx c2 (by simp;omega)
   ·have aM:i.size=1:=by rw[<-F];rfl
    simp at hle;omega
  ·rename_i gs v W _;split at h
   rotate_left
   ·cases h
   rename_i B s;cases D:(ζ gs.length n)<;>rw[D] at h
   ·cases h
   simp only[cond_true] at h;have hl:=δ D;refine box C s h λA O w a he d=>?_;obtain⟨m,h1,f,aJ⟩:=cc he d Q;have ab:a.eval y= .bool v:=eg (S:=S) (A:=A) (O:=O) (w:=w) (dL he d Z);refine⟨m,q+jj,h1,by simpa using f,λvs N=>⟨(gs.set jj v).map (ζS),⟨_,[],by simp,⟨by simp[hl],rfl⟩,rfl⟩,?_,λhle=>?_⟩⟩
   ·obtain⟨c1,c2⟩:=hc ag N;have E:=ph W c1;rw[ab,<-oe _ _ _ _ (by omega),show(gs.map (ζS))=iw.cells (.b gs) from rfl,<-E];exact Sx c2 (by simp;omega)
   ·have aM:i.size=1:=by rw[<-F];rfl
    simp at hle;omega
  ·cases h
 ·rename_i e r j q;split at h
  rotate_left
  ·cases h
  rename_i aj xs I;cases ae:ζ e aj<;>rw[ae] at h
  ·cases h
  simp only[cond_true] at h;have aH:=δ ae;subst aH;obtain⟨aR,aa,h⟩:=bind_some h;split at h
  rotate_left
  ·cases h
  rename_i B s;split at h
  rotate_left
  ·cases h
  rename_i ai aD;cases aK:b.pure<;>rw[aK] at h
  ·cases h
  simp only[cond_true] at h;refine vU ad h λA O w a he H hO d=>?_;obtain⟨m,n,c,h1,f⟩:=cc he d Q;have f:a.eval x= .pointer (some ⟨m,j*(S.ty e).n+q,none⟩):=by simpa using f
  obtain⟨p,hp,U,hm⟩:=H.al r _ I;rw[h1] at hp;cases hp;obtain⟨v1,v2,v3⟩:=val he d;obtain⟨cs,cur,ak,an,R,T,aq,ar,au,aT⟩:=nV U;have aC:bM w m e cur.toList:=by unfold bM;simpa using ak
  have aV:=(ε.1 aa).1;have af:=R.at_ aa;have aF:=(S.ty e).len af;obtain⟨p1,p2⟩:=jb s (M.bl A O w e aR _ af) v1;rw[aF] at p2;have aE:cs.length=n*(S.ty e).n:=by rw[T];exact R.len
  have aX:(a.eval y).cells.toList.length=i.size:=by simpa using v2
  have hmul:(j+1)*(S.ty e).n<=n*(S.ty e).n:=ξL _ (by omega);have aW:n*(S.ty e).n<=c*(S.ty e).n:=ξL _ aq;rw[ζa] at hmul;have aG:cur.toList.length=c*(S.ty e).n:=by simpa using au
  obtain⟨w',E,V,G⟩:=JG Y (M.Θ.fits hi) f aC v2 v3 (by omega);have X:=hm m rfl;refine⟨w',A,O,E,mW hO X I h1 rfl G ?_⟩;have aN:=G.tr (gM X);have ah:bY (S.ty e) O w' (putAt cs (j*(S.ty e).n+q) (a.eval y).cells.toList) (xs.set j ai):=by
   refine bY.tr aN (S_ R aa (by omega) λaS aU av=>?_);rw[<-av];exact M.cls A O w e B ai _ aD p1
  have aL:(putAt cur.toList (j*(S.ty e).n+q) (a.eval y).cells.toList).take (n*(S.ty e).n)=putAt cs (j*(S.ty e).n+q) (a.eval y).cells.toList:=by
   have ao:cur.toList.take (n*(S.ty e).n)=cs:=by rw[<-aE];exact an
   rw[afE (by omega) (by omega),ao]
  refine⟨⟨_,⟨by rw[ah.len],.inr ⟨m,c,(putAt cur.toList (j*(S.ty e).n+q) (a.eval y).cells.toList).toArray,by simp[T],ξt _,V,by simp;omega,ar,?_,?_⟩⟩,ah⟩,λg H=>by cases H;exact X⟩
  ·have:=xX (vs:=cur.toList) (us:=(a.eval y).cells.toList) (q:=j*(S.ty e).n+q) (by omega);simp only[List.size_toArray,this];exact aG
  ·simp only[ξf,<-T];exact aL
 ·cases h
end
section
variable {S:bm} {K:Kit S} {P:Program} {rr:Option Nat} {o:Oper} {env:a1 S} {g:Nat->Option (Ob S)} {nx:Nat} {R:Type} {z:R} {k:AV S->Up S->AH S->Option R}
theorem Uo {l:LV S} {T:ll S} (h:oh g l=some T):l= .d' T.t T.r T.j 0/\g T.r=some (.cP T.t T.e T.bR):=by
 unfold oh at h;split at h
 ·rename_i t r j;unfold Uq at h;split at h
  ·rename_i t' e bR b;cases a:ζ t t'<;>rw[a] at h
   ·cases h
   ·cases h;have:=δ a;subst this;exact⟨rfl,b⟩
  ·cases h
 ·cases h
theorem Sl {x:Operand} {q:Nat} (h:nU K env x=some q):cb K env x=some (.own q):=by
 unfold nU at h;split at h
 ·rename_i b a;cases h;exact a
 ·cases h
theorem aiJ {α:Type} {bR:List (Option (List α))} {j:Nat} {xs:List α} (h:JX bR j=some xs):bR[j]? =some (some xs):=by
 unfold JX at h;split at h
 ·rename_i z a;subst h;exact a
 ·cases h
theorem abg {A:Pl} {O:Γ} {w:World} {e d:Nat} {xs:List (S.El e)} {v:Value} (h:Dc.Own (S.ty e) e 0 O w v xs) (a:b4 v=some d):v.ownBlock=some d:=by
 rcases gO h with⟨b,_⟩|⟨f,c,b⟩
 ·rw[b] at a;cases a
 ·rw[b] at a ⊢;cases a;rfl
theorem aeA {i:TI} (h:i.tag=5):i.isAgg=false:=by
 show(ζ i.tag 8||ζ i.tag 6)=false;rw[h];rfl
theorem adf (B:b6 K P) {t:Nat} {x y:Operand} (q:o.op= .indexAddr t x y) (h:Iz K env g k t x y=some z):Good K P rr o env g nx k z:=by
 have C: ∀c,o.op≠ .defer c:=λc=>by rw[q];simp
 unfold Iz at h;split at h
 rotate_left
 ·cases h
 rename_i i j r hi I f;have f:=Sl f;split at h
 rotate_left
 ·cases h
 rename_i t' M bR s H E;cases d:(ζ i.tag 5&&(ζ (S.ty t').n 1&&ζ s.size 1))<;>rw[d] at h
 ·cases h
 simp only[cond_true,η] at h d;obtain⟨N,J,h⟩:=bind_some h;obtain⟨u,F⟩:=kF J;have G:=(ε.1 F).1;refine cS C h λA O w a he D hO m=>?_;obtain⟨v,l,e,_⟩:=cc he m f;obtain⟨L,hk⟩:=ij he m I;obtain⟨p,hp,⟨b,c,cur,rfl,_⟩,_⟩:=D.al r _ H;rw[l] at hp;cases hp;have e:a.eval x= .slice (some ⟨b,0,none⟩) bR.length c:=by simpa using e
 have:=yk (P:=P) (w:=w) (ad:=⟨b,0,none⟩) (n:=bR.length) (c:=c) (k:=L) B.Θ hi (δ d.1) E u G;refine⟨.pointer (some ((⟨b,0,none⟩:Addr).add (j.toNat*s.size))),?_,b,_,c,l,?_⟩
 ·unfold execOp;rw[q];simp only[e,hk,ξ,this,π];rfl
 ·rw[hF,δ d.2.1,δ d.2.2];simp
theorem adh (az:b6 K P) {t:Nat} {x:Operand} {l:LV S} {T:ll S} (ad:o.op= .load t x) (ag:cb K env x=some l) (aA:oh g l=some T) (h:IB K nx k t T=some z):Good K P rr o env g nx k z:=by
 have aD: ∀c,o.op≠ .defer c:=λc=>by rw[ad];simp
 obtain⟨rfl,B⟩:=Uo aA;obtain⟨r,j,t',e,bR⟩:=T;simp only at B ag;unfold IB at h;split at h
 rotate_left
 ·cases h
 rename_i i hi;cases L:(ζ i.tag 5&&ζ i.size 1)<;>rw[L] at h
 ·cases h
 simp only[cond_true,η] at h L;obtain⟨xs,E,h⟩:=bind_some h;have E:=aiJ E;have aB:=aeA (δ L.1);have af:=δ L.2;refine gg aD h λA O w a he R hO ay aG=>?_;have I:A.pl nx=none:=aG 0 (by simp);obtain⟨b,n,c,h1,aw⟩:=cc he ay ag;obtain⟨p,hp,hR,hm⟩:=R.al r _ B;rw[h1] at hp;cases hp;have aW:=hR;obtain⟨aS,aU,cur,m,J,aM,aN,aO,an,ao,aq,ar⟩:=hR;cases m;have aX:=(ε.1 E).1;obtain⟨u,hu⟩: ∃u,cur[j]? =some u:=⟨cur[j]'(by omega),κ (by omega)⟩;obtain⟨ae,aK⟩:=aq j u xs hu E;have aJ:u.oneCell'=true:=ao u (by rw[<-ξi] at hu;exact ξM hu);have V:r≠nx:=λe=>by subst e;rw[h1] at I;cases I
 have ax:bM w b t' cur.toList:=by unfold bM;simpa using J
 have aE:dJ w ⟨b,j,none⟩ [u]:=λv au s=>by
  match v,s with
  |0,s=>simp at s;subst s;rw[hF,ax.cell];simpa using hu
  |v+1,s=>simp at s
 have aL:a.eval x= .pointer (some ⟨b,j,none⟩):=by
  have:a.eval x= .pointer (some ⟨b,j*(S.ty t').n+0,none⟩):=by simpa using aw
  rw[this,an];simp
 have N: ∀ {G:Nat} {ys:List (S.El e)},(bR.set j none)[G]? =some (some ys)->G≠j/\bR[G]? =some (some ys):=by
  intro G ys F;rw[ξE] at F;split at F
  ·simp at F
  ·rename_i he;exact⟨λe=>he e.symm,F⟩
 have aa: ∀d,gI w (.cP t' e (bR.set j none):Ob S) (.slice (some ⟨b,0,none⟩) bR.length c) d->gI w (.cP t' e bR:Ob S) (.slice (some ⟨b,0,none⟩) bR.length c) d/\u.ownBlock≠some d:=by
  rintro d ⟨aT,c2,t2,aV,ai,u2,ys,f1,f2,f3,f4,f5⟩;rw[ξf] at f1;cases f1;rw[J] at f2;cases f2;obtain⟨g1,g2⟩:=N f4;exact⟨⟨b,c,t',cur,ai,u2,ys,rfl,J,f3,g2,f5⟩,ar ai j u2 u ys xs d g1 f3 hu g2 E f5⟩
 have ab: ∀d,cD w (.row e xs:Ob S) u d->u.ownBlock=some d/\gI w (.cP t' e bR:Ob S) (.slice (some ⟨b,0,none⟩) bR.length c) d:=λd f=>by
  have:=abg (A:=A) ae (eQ rfl f);exact⟨this,b,c,t',cur,j,u,xs,rfl,J,hu,E,this⟩
 have U:(A.put nx u).pl r=some (.slice (some ⟨b,0,none⟩) bR.length c):=by rw[Pl.kT λe=>V e.symm];exact h1
 have dp: ∀ {v:Nat} {X:Option (Ob S)},(v,X)∈[(r,some (.cP t' e (bR.set j none)))]++news nx [some (.row e xs)]->(v=r/\X=some (.cP t' e (bR.set j none)))\/(v=nx/\X=some (.row e xs)):=by
  intro v X s;simpa[news] using s
 have m1:(r,some (.cP t' e (bR.set j none)))∈([(r,some (.cP t' e (bR.set j none)))]++news nx [some (.row e xs)]:Up S):=by simp
 refine⟨u,w,A.put nx u,O,?_,⟨u,Pl.ff A nx u,rfl,aJ⟩,⟨Pl.kS I,Tr.refl O w,hO,λ_ aC _=>⟨rfl,aC⟩,?_,?_,?_,?_,?_,?_⟩⟩
 ·rw[JE (cs:=[u]) ad (az.Θ.fits hi) aL af.symm aE (λ_=>af),aB];rfl
 ·intro v X s;rcases dp s with⟨rfl,m⟩|⟨rfl,m⟩
  ·cases m;refine⟨_,U,⟨b,c,cur,by rw[ξf],J,by rw[ξf];exact aM,aN,aO,an,ao,λG au ys aI F=>aq G au ys aI (N F).2,λi1 ah aP v1 aQ aR d M av a2 a3 a4=>ar i1 ah aP v1 aQ aR d M av a2 (N a3).2 (N a4).2⟩,λd f=>?_⟩;have f:cD w (.cP t' e bR:Ob S) (.slice (some ⟨b,0,none⟩) bR.length c) d:=f.imp id λf=>(aa d f).1;exact⟨R.gE B h1 f,.inr ⟨v,_,_,_,m1,B,h1,f⟩⟩
  ·cases m;refine⟨u,Pl.ff A _ u,ae,λd f=>?_⟩;have f:=(ab d f).2;exact⟨R.gE B h1 (.inr f),.inr ⟨r,_,_,_,m1,B,h1,.inr f⟩⟩
 ·have key: ∀d,cD w (.cP t' e (bR.set j none):Ob S) (.slice (some ⟨b,0,none⟩) bR.length c) d-> ¬cD w (.row e xs:Ob S) u d:=by
   intro d f aF;have W:=(ab d aF).1;rcases f with f|f
   ·cases f;exact aK W
   ·exact(aa d f).2 W
  intro i1 ah X Y p q d M C y H Q aj ak;rcases dp C with⟨rfl,m⟩|⟨rfl,m⟩<;>cases m<;>rcases dp y with⟨rfl,D⟩|⟨rfl,D⟩<;>cases D
  ·exact M rfl
  ·rw[U] at H;cases H;rw[Pl.ff] at Q;cases Q;exact key d aj ak
  ·rw[U] at Q;cases Q;rw[Pl.ff] at H;cases H;exact key d ak aj
  ·exact M rfl
 ·intro i1 X Y C y;rcases dp C with⟨rfl,rfl⟩|⟨rfl,rfl⟩<;>rcases dp y with⟨D,rfl⟩|⟨D,rfl⟩
  ·rfl
  ·exact absurd D V
  ·exact absurd D.symm V
  ·rfl
 ·intro i1 X p C y;rcases dp C with⟨rfl,rfl⟩|⟨rfl,rfl⟩
  ·exact⟨_,B⟩
  ·rw[I] at y;cases y
 ·intro i1;rcases ζL nx i1 with aH|rfl
  ·exact .inl (Pl.kT aH)
  ·exact .inr ⟨I,some (.row e xs),by simp[news]⟩
 ·intro i1 X Z C y H;rcases dp C with⟨rfl,m⟩|⟨rfl,m⟩
  ·rw[B] at y;cases y;cases H
  ·cases m;rfl
theorem ada (aN:b6 K P) {t q:Nat} {x y:Operand} {l:LV S} {T:ll S} (aA:o.op= .store t x y) (aG:cb K env x=some l) (aO:oh g l=some T) (ar:nU K env y=some q) (h:Ix K g k t q T=some z):Good K P rr o env g nx k z:=by
 have aP: ∀c,o.op≠ .defer c:=λc=>by rw[aA];simp
 obtain⟨rfl,F⟩:=Uo aO;have ar:=Sl ar;obtain⟨r,j,t',e,bR⟩:=T;simp only at F aG;unfold Ix at h;split at h
 rotate_left
 ·cases h
 rename_i i s xs hi Q;split at h
 rotate_left
 ·cases h
 rename_i aI _;simp only at aI;subst aI;simp only[jy] at h;cases ai:(ζ i.tag 5&&(ζ i.size 1&&!(ζ q r)))<;>rw[ai] at h
 ·cases h
 simp only[cond_true,η,ξF] at h ai;obtain⟨bj,aC,I⟩:=ai;have aC:=δ aC;have I:q≠r:=λe=>by subst e;rw[ξu] at I;cases I
 obtain⟨_,aR,h⟩:=bind_some h;refine vU aP h λA O w a he N hO av=>?_;obtain⟨b,n,c,h1,aL⟩:=cc he av aG;obtain⟨u,hu,U,aq⟩:=cc he av ar;have U:a.eval y=u:=by simpa using U
 obtain⟨p,hp,hR,hm⟩:=N.al r _ F;rw[h1] at hp;cases hp;obtain⟨bd,bg,cur,E,au,a6,a7,aJ,aK,a8,a_,a'⟩:=hR;cases E;obtain⟨pu,aB,ad,bl⟩:=N.al q _ Q;rw[hu] at aB;cases aB;have ad:Dc.Own (S.ty s) s 0 O w u xs:=ad;have aU:j<bR.length:=by
  have:=(ε.1 (kF aR).2).1;simpa using this
 have aw:=hm b rfl;have aM:bM w b t' cur.toList:=by unfold bM;simpa using au
 have aj:u.cells.toList=[u]:=R6 aq;have aY:a.eval x= .pointer (some ⟨b,j,none⟩):=by
  have:a.eval x= .pointer (some ⟨b,j*(S.ty t').n+0,none⟩):=by simpa using aL
  rw[this,aK];simp
 obtain⟨w',aW,ah,V⟩:=JG aA (aN.Θ.fits hi) aY aM (by rw[U];have:=congrArg List.length aj;simp at this;omega) (by rw[U,aj];intro bn aE;simp at aE;subst aE;exact aq) (by simp;omega);rw[U,aj] at ah;have bk:cur.toList.length=c:=by simpa using aJ
 have aV:putAt cur.toList j [u]=cur.toList.set j u:=by
  have aT:j<cur.toList.length:=by omega
  rw[List.set_eq_take_append_cons_drop,if_pos aT];unfold putAt;simp
 rw[aV] at ah;obtain⟨L,W⟩: ∃L:Array Value,L=(cur.toList.set j u).toArray:=⟨_,rfl⟩;have ax:w'.heap[b]? =some (.cells L t' (0,0)):=by rw[W];exact ah
 have aQ: ∀m,L[m]? =if m=j then some u else cur[m]? :=λm=>by
  rw[W,<-ξi,ζi,ξE,<-ξi]
  by_cases ao:m=j
  ·subst ao;rw[if_pos rfl,if_pos rfl,if_pos (by omega)]
  ·rw[if_neg λe=>ao e.symm,if_neg ao]
 have R: ∀ {C:Nat} {ys:List (S.El s)} {v:Value},L[C]? =some v->(bR.set j (some xs))[C]? =some (some ys)->(C=j/\v=u/\ys=xs)\/(C≠j/\cur[C]? =some v/\bR[C]? =some (some ys)):=by
  intro C ys v f H;rw[aQ] at f;rw[ξE] at H
  by_cases ab:C=j
  ·subst ab;rw[if_pos rfl] at f;rw[if_pos rfl,if_pos aU] at H;simp at f H;exact .inl ⟨rfl,f.symm,H.symm⟩
  ·rw[if_neg ab] at f;rw[if_neg λe=>ab e.symm] at H;exact .inr ⟨ab,f,H⟩
 have aD:=V.tr (gM aw);have aF:u.ownBlock≠some b:=λB=>N.f' q r _ _ _ _ b I Q F hu h1 (.inl (gw B)) (.inl rfl);have az: ∀ {d:Nat} {v:Value} {ys:List (S.El s)},Dc.Own (S.ty s) s 0 O w v ys->v.ownBlock≠some b->Dc.Own (S.ty s) s 0 O w' v ys:=λ{d v ys} f aX=>f.keep aD λag ak=>⟨V.block ag (f.lt ag ak).2 (by simp;rintro rfl;exact aX ak),f.mem ag ak⟩;have ay: ∀ {C:Nat} {v:Value} {ys:List (S.El s)} {d:Nat},cur[C]? =some v->bR[C]? =some (some ys)->v.ownBlock=some d->u.ownBlock≠some d:=λ{C v ys d} ae a2 a3 a4=>
  N.f' q r _ _ _ _ d I Q F hu h1 (.inl (gw a4)) (.inr ⟨b,c,t',cur,C,v,ys,rfl,au,ae,a2,a3⟩)
 have aS: ∀d,gI w' (.cP t' s (bR.set j (some xs)):Ob S) (.slice (some ⟨b,0,none⟩) bR.length c) d->gI w (.cP t' s bR:Ob S) (.slice (some ⟨b,0,none⟩) bR.length c) d\/u.ownBlock=some d:=by
  rintro d ⟨bf,c2,t2,bh,aZ,u2,ys,f1,f2,f3,f4,f5⟩;rw[ξf] at f1;cases f1;rw[ax] at f2;cases f2;rcases R f3 f4 with⟨_,rfl,_⟩|⟨_,g1,g2⟩
  ·exact .inr f5
  ·exact .inl ⟨b,c,t',cur,aZ,u2,ys,rfl,au,g1,g2,f5⟩
 have dp: ∀ {J:Nat} {X:Option (Ob S)},(J,X)∈([(q,none),(r,some (.cP t' s (bR.set j (some xs))))]:Up S)->(J=q/\X=none)\/(J=r/\X=some (.cP t' s (bR.set j (some xs)))):=by
  intro J X an;simpa using an
 have m1:(r,some (.cP t' s (bR.set j (some xs))))∈([(q,none),(r,some (.cP t' s (bR.set j (some xs))))]:Up S):=by simp
 have m2:(q,none)∈([(q,none),(r,some (.cP t' s (bR.set j (some xs))))]:Up S):=by simp
 refine⟨w',A,O,aW,⟨Pl.le.refl A,aD,V.ob hO,λd B hn=>⟨V.block d (hO d B) ?_,B⟩,?_,?_,?_,?_,λ_=>.inl rfl,?_⟩⟩
 ·have:=hn r _ _ m1 h1;simp;rintro rfl;exact this rfl
 ·intro J X an;rcases dp an with⟨_,E⟩|⟨rfl,E⟩
  ·cases E
  cases E;refine⟨_,h1,⟨b,c,L,by rw[ξf],ax,by rw[ξf];exact a6,a7,by rw[W];simpa using aJ,aK,?_,?_,?_⟩,λd B=>?_⟩
  ·intro v f;rw[W,ζi] at f;rcases List.mem_or_eq_of_mem_set f with f|rfl
   ·exact a8 v f
   ·exact aq
  ·intro C v ys f H;rcases R f H with⟨_,rfl,rfl⟩|⟨_,g1,g2⟩
   ·exact⟨az (d:=0) ad aF,aF⟩
   ·obtain⟨G,D⟩:=a_ C v ys g1 g2;exact⟨az (d:=0) G D,D⟩
  ·intro i1 aH ba v1 bb bc d aa ae a2 a3 a4 a5 af;rcases R ae a3 with⟨f1,rfl,_⟩|⟨f1,f2,f3⟩
   ·rcases R a2 a4 with⟨f4,_,_⟩|⟨_,f5,f6⟩
    ·exact aa (f1.trans f4.symm)
    ·exact ay f5 f6 af a5
   ·rcases R a2 a4 with⟨_,rfl,_⟩|⟨_,f5,f6⟩
    ·exact ay f2 f3 a5 af
    ·exact a' i1 aH ba v1 bb bc d aa f2 f5 f3 f6 a5 af
  ·rcases B with B|B
   ·cases B;exact⟨aw,.inr ⟨J,_,_,_,m1,F,h1,.inl rfl⟩⟩
   ·rcases aS d B with B|B
    ·exact⟨N.gE F h1 (.inr B),.inr ⟨J,_,_,_,m1,F,h1,.inr B⟩⟩
    ·exact⟨ad.mem d B,.inr ⟨q,none,_,_,m2,Q,hu,.inl (gw B)⟩⟩
 ·intro i1 aH X Y p bm d aa G D;rcases dp G with⟨_,E⟩|⟨rfl,_⟩
  ·cases E
  rcases dp D with⟨_,M⟩|⟨rfl,_⟩
  ·cases M
  exact absurd rfl aa
 ·intro i1 X Y G D;rcases dp G with⟨rfl,rfl⟩|⟨rfl,rfl⟩<;>rcases dp D with⟨M,rfl⟩|⟨M,rfl⟩
  ·rfl
  ·exact absurd M I
  ·exact absurd M.symm I
  ·rfl
 ·intro i1 X p G D;rcases dp G with⟨rfl,rfl⟩|⟨rfl,rfl⟩
  ·exact⟨_,Q⟩
  ·exact⟨_,F⟩
 ·intro i1 X Z G D a1;rcases dp G with⟨_,E⟩|⟨rfl,_⟩
  ·cases E
  ·rw[F] at D;cases D;cases a1
theorem adn (Q:b6 K P) {t:Nat} {x y:Operand} (R:o.op= .makeSlice t x y) (h:IE K env nx k t x y=some z):Good K P rr o env g nx k z:=by
 have ag: ∀c,o.op≠ .defer c:=λc=>by rw[R];simp
 unfold IE at h;split at h
 rotate_left
 ·cases h
 rename_i i hi;split at h
 rotate_left
 ·cases h
 rename_i m an;split at h
 rotate_left
 ·cases h
 rename_i n c ay az hzero;cases F:(ζ i.tag 5&&(ζ (S.ty i.e).n 1&&ζ m.size 1))<;>rw[F] at h
 ·cases h
 simp only[cond_true,η] at h F;obtain⟨ae,L,J⟩:=F;have L:=δ L;have J:=δ J;obtain⟨zs,hm,ad⟩:=bind_some h;refine gg ag ad λA O w a he ak hO N aj=>?_;have C:A.pl nx=none:=aj 0 (by simp);have ax:=Q.Θ.fits an;obtain⟨x',M,aw,af,aA⟩:=ax.info;unfold kI at hm;split at hm
 rotate_left
 ·cases hm
 rename_i ai;obtain⟨W,aa,ab,aG⟩:=ai;simp only[ι] at hm;subst hm;obtain⟨aE,ar⟩:=ij he N ay;obtain⟨aD,aq⟩:=ij he N az;have hu:=(Q.Θ.fits hi).slice (δ ae);have I:=run_make (P:=P) w t i.e x' m.zero hu M aA aE aD n c W aa (by rw[af];exact ab) (by omega);rw[aw,hzero,J] at I;obtain⟨cur,G⟩: ∃cur,cur=madeCells (Value.slice none 0 0).cells (c.toNat*1):=⟨_,rfl⟩;rw[<-G] at I;have D:=jN hO i.e cur.toList;have hlen:cur.size=c.toNat:=by rw[G];simp[madeCells]
 have s: ∀(j:Nat) (u:Value),cur[j]? =some u->u= .slice none 0 0:=by
  intro j u l;have b:j<c.toNat*1:=by have:=(ξa.1 l).1;omega
  rw[<-ξi,G,RH 1 c.toNat j b rfl,Nat.mod_one] at l;simpa[ζP] using l.symm
 have hblk:(w.alloc (.cells cur.toList.toArray i.e)).heap[w.heap.size]? =some (.cells cur i.e (0,0)):=by
  have:=D.bL;unfold bM at this;simpa using this
 have ah:c.toNat<=maxLen:=by unfold maxLen;omega
 have av: ∀ {j:Nat} {xs:List (S.El m.e)},(ξG n.toNat (some ([]:List (S.El m.e))))[j]? =some (some xs)->xs=[]:=by
  intro j xs b;rw[List.getElem?_replicate] at b;split at b
  ·simpa using b.symm
  ·cases b
 have dp: ∀ {E:Nat} {X:Option (Ob S)},(E,X)∈([]++news nx [some (.cP i.e m.e (ξG n.toNat (some [])))]:Up S)->E=nx/\X=some (.cP i.e m.e (ξG n.toNat (some []))):=by
  intro E X H;simpa[news] using H
 refine⟨.slice (some ⟨w.heap.size,0,none⟩) n.toNat c.toNat,_,A.put nx (.slice (some ⟨w.heap.size,0,none⟩) n.toNat c.toNat),w.heap.size::O,?_,⟨_,Pl.ff A nx _,rfl,rfl⟩,⟨Pl.kS C,D.tr,D.ob,λd B _=>⟨D.fr.block d (hO d B) (by simp),μ _ B⟩,?_,?_,?_,?_,?_,?_⟩⟩
 ·simp only[execOp,R,ξ,ar,aq,I];simp
 ·intro E X H;obtain⟨rfl,e⟩:=dp H;cases e;refine⟨_,Pl.ff A _ _,⟨w.heap.size,c.toNat,cur,by simp,hblk,by simp;omega,ah,hlen,L,?_,?_,?_⟩,?_⟩
  ·intro u l;obtain⟨j,b⟩:=List.getElem?_of_mem l;rw[s j u (by rw[<-ξi];exact b)];rfl
  ·intro j u xs l M;rw[s j u l,av M];exact⟨Own.iZ,by simp[Value.ownBlock]⟩
  ·intro i1 aB u v xs ys d _ T _ _ _ a5;rw[s i1 u T] at a5;cases a5
  ·rintro d (B|⟨U,c2,t2,aF,aC,u2,ys,f1,f2,f3,f4,f5⟩)
   ·cases B;exact⟨ν,.inl (ξc _)⟩
   ·have V:U=w.heap.size:=by simp at f1;exact f1.1.symm
    subst V;rw[hblk] at f2;cases f2;rw[s aC u2 f3] at f5;cases f5
 ·intro i1 aB X Y p q d ao r f;obtain⟨rfl,_⟩:=dp r;obtain⟨rfl,_⟩:=dp f;exact absurd rfl ao
 ·intro i1 X Y r f;exact(dp r).2.trans (dp f).2.symm
 ·intro i1 X p r f;obtain⟨rfl,_⟩:=dp r;rw[C] at f;cases f
 ·intro i1;rcases ζL nx i1 with au|rfl
  ·exact .inl (Pl.kT au)
  ·exact .inr ⟨C,some (.cP i.e m.e (ξG n.toNat (some []))),by simp[news]⟩
 ·intro i1 X Z r f aH;obtain⟨rfl,_⟩:=dp r;obtain⟨p,hp,_⟩:=ak.al _ Z f;rw[C] at hp;cases hp
end
section
variable {S:bm} {K:Kit S} {P:Program} {rr:Option Nat} {o:Oper} {env:a1 S} {g:Nat->Option (Ob S)} {nx:Nat} {R:Type} {z:R} {k:AV S->Up S->AH S->Option R}
theorem On {A:Pl} {O:Γ} {w:World} {a:Act} {E:Env} {fs:List (Nat×Nat)} (he:cQ A O w env a) (k:cN K O w): ∀ {ps:List (Nat×Operand)} {cs d:List (LV S)} {xs:Array Value},(∀p∈ps,ev E p.2=some (a.eval p.2))->vN K env fs ps cs=some d->bF A O w cs xs.toList-> ∃q,ku fs K.Θ E ps xs=some q/\bF A O w d q.toList
 |[],cs,d,xs,f,h,g=>by cases h;exact⟨xs,rfl,g⟩
 |(i,x)::r,cs,d,xs,f,h,g=>by
  simp only[vN] at h;split at h
  rotate_left
  ·cases h
  rename_i t off u;split at h
  rotate_left
  ·cases h
  rename_i b s;split at h
  rotate_left
  ·cases h
  rename_i o y;cases m:ζ (dQ b.cells) o.size<;>rw[m] at h
  ·cases h
  simp only[cond_true] at h;split at h
  rotate_left
  ·cases h
  rename_i C v;have n:=aB.rel.cells (dL he k s);obtain⟨z,B⟩:=jb v g n;have hlen:(a.eval x).cells.size=o.size:=by rw[<-δ m,<-gR n];simp
  have hle:off+(a.eval x).cells.size<=xs.size:=by simpa using B
  have l:=Hb (a.eval x).cells.toList 0 off xs (by simpa using hle);have e:((a.eval x).cells.zipIdx.foldl (λcs (c,j)=>cs.setIfInBounds (off+j) c) xs).toList=putAt xs.toList off (a.eval x).cells.toList:=by
   rw[ξP] at l;rw[<-l]
   congr 1
   rw[<-ξQ];simp
  simp only[ku,u,f (i,x) ν,y,hlen,ξu,ξW];rw[hlen] at hle;rw[ζD.mpr hle];simp only[cond_true];refine On he k (λp hp=>f p (μ _ hp)) h ?_;rw[e];exact z
theorem Om {A:Pl} {O:Γ} {w:World} {a:Act} {size:Nat} (he:cQ A O w env a) (g:cN K O w): ∀ {ps:List (Nat×Operand)} {cs d:List (LV S)} {xs:Array Value},vM K env size ps cs=some d->bF A O w cs xs.toList-> ∃n,ζE (λi=>some (i*size,size)) xs (ps.map λp=>(p.1,a.eval p.2))=some n/\bF A O w d n.toList
 |[],cs,d,xs,h,f=>by cases h;exact⟨xs,rfl,f⟩
 |(i,x)::r,cs,d,xs,h,f=>by
  simp only[vM] at h;split at h
  rotate_left
  ·cases h
  rename_i b o;cases l:ζ (dQ b.cells) size<;>rw[l] at h
  ·cases h
  simp only[cond_true] at h;split at h
  rotate_left
  ·cases h
  rename_i v s;have m:=aB.rel.cells (dL he g o);obtain⟨t,u⟩:=jb s f m;have hlen:(a.eval x).cells.size=size:=by rw[<-δ l,<-gR m];simp
  have hle:i*size+(a.eval x).cells.size<=xs.size:=by simpa using u
  have k:=Hb (a.eval x).cells.toList 0 (i*size) xs (by simpa using hle);have e:((a.eval x).cells.zipIdx.foldl (λcs (c,j)=>cs.setIfInBounds (i*size+j) c) xs).toList=putAt xs.toList (i*size) (a.eval x).cells.toList:=by
   rw[ξP] at k;rw[<-k]
   congr 1
   rw[<-ξQ];simp
  simp only[ζG,ζE];have q: ¬((a.eval x).cells.size≠size\/i*size+(a.eval x).cells.size>xs.size):=by omega
  rw[if_neg (by simpa using q)];refine Om he g h ?_;rw[e];exact t
theorem ac5 (e:b6 K P) {t:Nat} {ps:Array (Nat×Operand)} (f:o.op= .build t ps) (h:It K env k t ps.toList=some z):Good K P rr o env g nx k z:=by
 have r: ∀c,o.op≠ .defer c:=λc=>by rw[f];simp
 unfold It at h;split at h
 rotate_left
 ·cases h
 rename_i i hi;cases q:ζ i.tag 8<;>rw[q] at h
 ·cases n:ζ i.tag 6<;>rw[n] at h
  ·cases h
  simp only[cond_true,cond_false] at h;split at h
  rotate_left
  ·cases h
  rename_i s y;split at h
  rotate_left
  ·cases h
  rename_i cs m;cases b:(i.zero.cells.toList.all ξR)<;>rw[b] at h
  ·cases h
  simp only[cond_true] at h;refine cS r h λA O w a he v hO l=>?_;obtain⟨d,h1,j⟩:=Om (xs:=i.zero.cells) he l m (q_ b);refine⟨.agg d,?_,d.toList,by simp,j⟩;unfold execOp;rw[f];simp only[Instr.build,ξ,mm (e.Θ.fits hi),π,run_underlying ((e.Θ.fits hi).array (δ n)),dW (e.Θ.fits y)];rw[ζv];have u:ζE (λi=>some (i*s.size,s.size)) i.zero.cells (ps.toList.map λx=>(x.1,a.eval x.2))=some d:=h1;rw[u];rfl
 simp only[cond_true] at h;split at h
 rotate_left
 ·cases h
 rename_i cs m;cases b:(ig K.Θ (.build t ps.toList.toArray)&&i.zero.cells.toList.all ξR)<;>rw[b] at h
 ·cases h
 simp only[cond_true,η] at h b;refine cS r h λA O w a he v hO l=>?_;obtain⟨d,h1,j⟩:=On (E:=jA a (slotsOf (ps.toList.map (·.2)))) (xs:=i.zero.cells) he l (λp hp=>NO (JS (ζr.2 ⟨p,hp,rfl⟩))) m (q_ b.2);refine⟨.agg d,yj e.Θ (NR a (slotsOf (ps.toList.map (·.2)))) (by rw[f];simpa using b.1) ?_,d.toList,by simp,j⟩;rw[f];simp only[iI,hi,q,cond_true,h1]
theorem OW (b:b6 K P) {t t2:Nat} {x:Operand} {l:LV S} (m:o.op= .convert t t2 x) (M:cb K env x=some l) (h:xB K g k t t2 l=some z):Good K P rr o env g nx k z:=by
 have D: ∀c,o.op≠ .defer c:=λc=>by rw[m];simp
 unfold xB at h;split at h
 rotate_left
 ·cases h
 rename_i i i2 hi H;split at h
 rotate_left
 ·cases h
 rename_i q I;cases f:(ζ i.tag 5&&(ζ i2.tag 3&&(ζ q.tag 2&&sameKind (Dc.noKind q.k) .u8)))<;>rw[f] at h
 ·cases h
 simp only[cond_true] at h;simp only[η] at f;obtain⟨u,s,r,hk⟩:=f;split at h
 rotate_left
 ·cases h
 rename_i ys N;split at h
 rotate_left
 ·cases h
 rename_i zs j;refine cS D h λA O w a he G hO v=>?_;have d:=jD b G N (cc he v M);refine⟨.string (strOf zs),?_,rfl,rfl⟩;obtain⟨B,c,p,_,_⟩:=eW d;have n:=(b.Θ.fits I).int (δ r);rw[eU hk] at n;unfold execOp;rw[m];simp only[ξ,p];rw[run_convert_bytes_string w t t2 i.e B ys.length c ((b.Θ.fits hi).slice (δ u)) n ((b.Θ.fits H).string (δ s))];rw[p] at d;rcases B with _|ad
 ·have J:=yt d;subst J;cases j;simp[Conv.bytesToString,strOf,ξh]
 ·obtain⟨_,cs,L,E⟩:=rm d;have F:=HQ b j L;have hlen:zs.length=ys.length:=by
   have: ∀ {ys:List (S.El i.e)} {zs:Γa},iT K i.e .u8 ys=some zs->zs.length=ys.length:=by
    intro ys
    induction ys with
    |nil=>intro zs h;cases h;rfl
    |cons y ys R=>
     intro zs h;simp only[iT] at h;split at h
     ·rename_i T x' U;cases C:sameKind .u8 T<;>rw[C] at h
      ·cases h
      simp only[cond_true] at h;split at h
      ·rename_i V Q;cases h;simp[R Q]
      ·cases h
     ·cases h
   exact this j
  subst F;have hl:=run_loadCells_list (P:=P) w ad (zs.map (ξ2 .u8)) E;rw[ξx] at hl;rw[<-hlen,run_bytesToString w ad zs.length c zs hl];rfl
theorem aeK (v:b6 K P) (h:qU K env g nx k o.type o.op=some z):Good K P rr o env g nx k z:=by
 unfold qU at h;split at h
 ·rename_i x a;split at h
  ·rename_i L E;exact O2 v (.inl a) E h
  ·cases h
 ·rename_i x a;split at h
  ·split at h
   rotate_left
   ·cases h
   rename_i i hi;cases W:ζ i.tag 5<;>rw[W] at h
   ·cases h
   ·exact adp a rfl h
  ·split at h
   ·rename_i L E;exact O2 v (.inr a) E h
   ·cases h
 ·rename_i x i a;split at h
  ·rename_i aka B;split at h
   ·rename_i b C;exact ac_ a B C h
   ·cases h
  ·cases h
 ·rename_i x a;split at h
  ·rename_i B;exact vT a B rfl h
  ·rename_i B;exact vT a B rfl h
  ·rename_i B;exact vT a B rfl h
  ·rename_i B;exact vT a B rfl h
  ·cases h
 ·rename_i c x y a;split at h
  ·rename_i t B;cases t with
   |true=>
    simp only[cond_true] at h;split at h
    ·rename_i L E;exact O4 a B E h
    ·cases h
   |false=>
    simp only[cond_false] at h;split at h
    ·rename_i L E;exact O4 a B E h
    ·cases h
  ·cases h
 ·rename_i t x f a;split at h
  ·rename_i ls B;split at h
   ·rename_i off n V I;split at h
    ·rename_i ab hl;split at h
     ·rename_i b C;exact ac' v a B I hl C h
     ·cases h
    ·cases h
   ·cases h
  ·cases h
 ·rename_i t x f a;split at h
  ·rename_i off n V I;cases hn:ζ n 0<;>rw[hn] at h
   ·simp only[cond_false] at h;split at h
    ·rename_i b q B;refine Hg v a B I hn (λA O w x F=>?_) h;obtain⟨m,h1,D⟩:=F;exact⟨⟨m,q,none⟩,by simpa using D,m,h1,by rw[hF]⟩
    ·rename_i e r j q B;refine Hg v a B I hn (λA O w x F=>?_) h;obtain⟨m,Y,c,h1,D⟩:=F;exact⟨⟨m,j*(S.ty e).n+q,none⟩,by simpa using D,m,Y,c,h1,by rw[hF,Nat.add_assoc]⟩
    ·rename_i t' x' q B;refine Hg v a B I hn (λA O w x F=>?_) h;obtain⟨ad,h1,D⟩:=F;exact⟨ad.add q,by simpa using h1,ad,by rw[add_add],D⟩
    ·cases h
   ·cases h
  ·cases h
 ·rename_i t x a;split at h
  ·rename_i i hi;split at h
   ·rename_i l B;split at h
    ·rename_i T M;exact adh v a B M h
    ·exact adi v a hi B h
   ·cases h
  ·cases h
 ·rename_i t a;split at h
  ·rename_i i hi;cases R:i.zero.cells.toList.all ξR<;>rw[R] at h
   ·cases h
   ·exact ac1 v a hi R h
  ·cases h
 ·rename_i t x a;split at h
  ·rename_i b C;exact ac4 a C h
  ·cases h
 ·rename_i t ps a;exact ac5 v a h
 ·rename_i f fs cs a;split at h
  ·rename_i aa Z h1 D;exact adk a h1 D h
  ·cases h
 ·rename_i t a;split at h
  ·rename_i i hi;split at h
   ·rename_i p q hp Q;cases C:(ζ i.tag 7&&(ζ p.tag 2&&ζ q.tag 2))<;>rw[C] at h
    ·cases h
    ·exact adl a h
   ·cases h
  ·cases h
 ·rename_i t n c a;cases C:Ur K t<;>rw[C] at h
  ·exact adm v a h
  ·exact adn v a h
 ·rename_i t n ps a;exact ac6 v a h
 ·rename_i t x y a;split at h
  ·rename_i r F;cases C:Pt g r<;>rw[C] at h
   ·exact OX v a h
   ·exact adf v a h
  ·exact OX v a h
 ·rename_i t x y a;exact ade v a h
 ·rename_i t x lo hi mx a;exact adt v a h
 ·rename_i t x y ok a;exact adj v a h
 ·rename_i b t x y t' a;exact ac3 v a h
 ·rename_i t x a;split at h
  ·rename_i i u hi B;cases D:ζ i.tag 2<;>rw[D] at h
   ·cases h
   ·exact adb v a hi (δ D) B h
  ·cases h
 ·rename_i t x a;split at h
  ·rename_i i s hi B;cases N:ζ i.tag 3<;>rw[N] at h
   ·cases h
   ·exact adq v a hi (δ N) B h
  ·cases h
 ·rename_i x a;split at h
  ·rename_i i B;split at h
   ·rename_i s pos hi;exact ado a B hi h
   ·cases h
  ·cases h
 ·rename_i t x y a;split at h
  ·rename_i l B;split at h
   ·rename_i T q M Q;exact ada v a B M Q h
   ·exact O5 v a h
  ·exact O5 v a h
 ·rename_i t x y q a;exact OZ v (.inl a) h
 ·rename_i t x y q a;exact OZ v (.inr a) h
 ·rename_i c a;split at h
  ·rename_i H;split at h
   ·rename_i x ty G J;exact adg v a H G J h
   ·cases h
  ·rename_i H;split at h
   ·rename_i x y ty U G J;cases C:ζ ty U<;>rw[C] at h
    ·cases h
    ·have e:=δ C;subst e;exact ac2 v a H G J h
   ·cases h
  ·rename_i H;split at h
   ·rename_i x y ty U G J;exact ac7 v a H G J h
   ·cases h
  ·exact p3 v (λc=>by rw[a];simp) (by rw[a];exact h)
 ·rename_i t t2 x a;split at h
  ·rename_i r B;exact OW v a B h
  ·rename_i t' d B;exact OW v a B h
  ·exact p3 v (λc=>by rw[a];simp) (by rw[a];exact h)
 ·refine p3 v (λc X=>?_) h;rw[X] at h;simp[plain,ig,iI] at h
end
inductive AX|normal|exit (id:Nat)|ret|bD (u:Value)
structure k9 where
 fn:Func
 L:Nat->Γ
structure hC (S:bm) where
 J:k9
 ps:Γ
 gv:Code
 body:Code
 env:a1 S
 fe:Option AX
structure AS (S:bm) where
 env:a1 S
 h:AH S
 nb:Nat
 lp:Option (hC S)
 inr:Bool
 df:List (LV S)
 dt:Γ
structure aX (S:bm) where
 id:Nat
 out: {R:Type}->AS S->(AX->AS S->Option R)->Option R
structure dq (S:bm) extends k9 where
 lc:List (aX S)
structure eM (S:bm) where
 f:Nat
 out: {R:Type}->List (aB S)->(Rs S->Option R)->Option R
structure eO (S:bm) where
 f:Nat
 out: {R:Type}->List (aB S)->AH S->(Rs S->AH S->Γ->Option R)->Option R
structure mn (S:bm) where
 g:Nat
 out: {R:Type}->List (aB S)->Option Value->(Nat->Option (Ob S))->(Option Value->Up S->Option R)->Option R
structure bN (S:bm) where
 K:Kit S
 C:List (eM S)
 H:List (eO S)
 D:List (mn S)
 T:Nat->Option (dq S)
 F:Γ:=[]
def vO {S:bm}:List (eM S)->Nat->Option (eM S)
 |[],_=>none
 |c::r,f=>bif ζ c.f f then some c else vO r f
def pV {S:bm}:List (eO S)->Nat->Option (eO S)
 |[],_=>none
 |c::r,f=>bif ζ c.f f then some c else pV r f
def pU {S:bm}:List (mn S)->Nat->Option (mn S)
 |[],_=>none
 |c::r,f=>bif ζ c.g f then some c else pU r f
def gb {S:bm}:List (aX S)->Nat->Option (aX S)
 |[],_=>none
 |c::r,f=>bif ζ c.id f then some c else gb r f
section
variable {S:bm}
def eA:AH S->Up S->AH S
 |h,[]=>h
 |h,(i,X)::r=>eA (h.set i X) r
def keys:Up S->Γ
 |[]=>[]
 |(i,_)::r=>i::keys r
def e3 (nb:Nat):Γ->Γ->Γ
 |dt,[]=>dt
 |dt,i::r=>e3 nb (bif υ i nb&&!(dz i dt) then dt++[i] else dt) r
def AS.cg (st:AS S) (up:Up S) (nw:AH S):AS S:= {st with h:=eA st.h up++nw,dt:=e3 st.nb st.dt (keys up)}
def e2 (g:Nat->Option (Ob S)) (up:Up S):Bool:=(keys up).all λi=>(g i).isSome
def kept (g:Nat->Option (Ob S)) (nb:Nat) (roots:Γ):Γ:=ξs nb++reach g nb 1000 roots []
def gc (sl:Γ) (st:AS S):AS S:=
 let env:=eR st.env sl
 let a:=kept (aE st.h) st.nb (n5 (st.h.take st.nb)++(Jr env++n9 st.df))
 match kX (λi=>posOf i a 0) st.df with
 |some df=> {st with env:=n_ (λi=>posOf i a 0) env,h:=eT (λi=>posOf i a 0) (fS (aE st.h) a),df:=df}
 |none=>st
def j3 (rs:Γ) (ρ:Nat->Option Nat) (h:AH S):Γ->Up S
 |[]=>[]
 |j::r=>(match rs[j]? with|some i=>(i,l1 ρ (aE h j))::j3 rs ρ h r|none=>j3 rs ρ h r)
section
variable (G:bN S) {R:Type}
def uL (c:Nat->List (aB S)->AH S->(Rs S->AH S->Γ->Option R)->Option R) (f:Nat) (aka:List (aB S)) (g:Nat->Option (Ob S)) (nx:Nat) (d:Value->Up S->AH S->Option R) (k:AV S->Up S->AH S->Option R):Option R:=
 let rs:=reach g 0 1000 (jU aka) []
 match lY (λi=>posOf i rs 0) aka with
 |none=>none
 |some b=>c f b (eT (λi=>posOf i rs 0) (fS (nN g) rs)) λr h' dt=>
  let ρ:=λj=>bif υ j rs.length then rs[j]? else some (nx+(j-rs.length))
  match r with
  | .ret a=>(match a.cn ρ with|some a'=>k a' (j3 rs ρ h' dt) (eT ρ (h'.drop rs.length))|none=>none)
  | .bD u=>bif u.oneCell' then d u (j3 rs ρ h' dt) (eT ρ (h'.drop rs.length)) else none
def lK (g:Nat->Option (Ob S)) (rs:Γ):LV S->LV S
 | .own r=>bif dz r rs then(match iQ G.K g (.own r) with|some (l,_)=>l|none=>.own r) else .own r
 |l=>l
def O9 (rs:Γ) (cs:List (LV S)):Bool:=cs.any λl=>match l with| .own r=>dz r rs|_=>false
def iN (g:Nat->Option (Ob S)) (rs:Γ):Γ->Up S
 |[]=>[]
 |j::t=>match g j with
  |some (.box a cs)=>bif O9 rs cs then(j,some (.box a (cs.map (lK G g rs))))::iN g rs t else iN g rs t
  |_=>iN g rs t
def FD (c:Nat->List (aB S)->AH S->(Rs S->AH S->Γ->Option R)->Option R) (f:Nat) (aka:List (aB S)) (g:Nat->Option (Ob S)) (nx:Nat) (b:Value->Up S->AH S->Option R) (k:AV S->Up S->AH S->Option R):Option R:=
 match vO G.C f with
 |some e=>(match iP G.K g aka with
  |some (d,rs)=>e.out d λr=>(match r with
   | .ret a=>bif a.pure then(bif a.flat then k a [] [] else k a (bif dz f G.F then iN G g rs (ξs nx)++fu rs else fu rs) []) else none
   | .bD u=>bif u.oneCell' then b u [] [] else none)
  |none=>uL c f aka g nx b k)
 |none=>uL c f aka g nx b k
def NB (env:a1 S) (g:Nat->Option (Ob S)) (c:ζ8):Option (Nat×List (aB S)):=
 match c.callee with
 | .value x=>
  (match cb G.K env x with
  |some (.a7 i)=>(match g i with
   |some (.a7 f fs cs)=>(match g' G.K env c.args.toList with|some aka=>some (f,fs++aka++cs)|none=>none)
   |_=>none)
  |some (.v u)=>(match u with
   | .func (.func f) fs cs=>bif ζ fs.size 0&&ζ cs.size 0 then(match g' G.K env c.args.toList with|some aka=>some (f,aka)|none=>none) else none
   |_=>none)
  |_=>none)
 |_=>none
def nQ (a:Nat->List (aB S)->AH S->(Rs S->AH S->Γ->Option R)->Option R) (env:a1 S) (g:Nat->Option (Ob S)) (nx:Nat) (o:Oper) (b:Value->Up S->AH S->Option R) (k:AV S->Up S->AH S->Option R):Option R:=
 match o.op with
 | .call c=>
  (match c.callee with
  | .value _=>(match NB G env g c with|some (f,aka)=>FD G a f aka g nx b k|none=>none)
  |_=>qU G.K env g nx k o.type o.op)
 | .panic _=>none
 |_=>qU G.K env g nx k o.type o.op
def iq (N:Nat) (o:Oper) (st:AS S) (a:AV S) (k:AS S->Option R):Option R:=
 match o.dst with
 |some d=>bif υ d N then k {st with env:=(d,a)::st.env} else none
 |none=>k st
def mQ (N:Nat) (ops:Array Oper) (g:Option (Nat×Bool)) (st:AS S) (yes no:AS S->Option R):Option R:=
 match g with
 |none=>yes st
 |some (j,b)=>
  match ops[j]? with
  |some o=>
   match o.dst with
   |some d=>
    bif υ d N then
     match a1.get st.env d with
     |some (.s (.one (.v (.bool c))))=>
      bif c then(match b with|true=>yes|false=>no) {st with env:=(d,.s (.one (.v (.bool true))))::st.env}
      else(match b with|true=>no|false=>yes) {st with env:=(d,.s (.one (.v (.bool false))))::st.env}
     |some (.bJ [])=>no st
     |_=>none
    else none
   |none=>none
  |none=>none
def Ks (env:a1 S) (c:ζ8):Bool:=
 match c.callee with
 | .value x=>(match cb G.K env x with|some .cW=>true|_=>false)
 |_=>false
def Fq (e:Nat->List (aB S)->AH S->(Rs S->AH S->Γ->Option R)->Option R) (g:List (aB S)->AS S->(Bool->AS S->Option R)->Option R) (N:Nat) (o:Oper) (st:AS S) (d:Value->AS S->Option R) (k:AS S->Option R):Option R:=
 match o.op with
 | .defer c=>(match c.callee with
  | .value x=>(match c.args.toList,cb G.K st.env x,st.inr,st.lp,o.dst with
   |[],some (.a7 i),false,none,none=>k {st with df:=.a7 i::st.df}
   |_,_,_,_,_=>none)
  |_=>none)
 | .panic x=>(match cb G.K st.env x with|some (.v (.iface t u))=>d (.iface t u) st|_=>none)
 | .call c=>
  bif Ks G st.env c then(match g' G.K st.env c.args.toList with
   |some aka=>g aka st λb f=>iq N o f (.s (.one (.v (.bool b)))) k
   |none=>none)
  else nQ G e st.env (aE st.h) st.h.length o (λu up nw=>bif e2 (aE st.h) up then d u (st.cg up nw) else none) λa up nw=>bif e2 (aE st.h) up then iq N o (st.cg up nw) a k else none
 |_=>nQ G e st.env (aE st.h) st.h.length o (λu up nw=>bif e2 (aE st.h) up then d u (st.cg up nw) else none) λa up nw=>bif e2 (aE st.h) up then iq N o (st.cg up nw) a k else none
def pd (a:Nat->List (aB S)->AH S->(Rs S->AH S->Γ->Option R)->Option R) (c:List (aB S)->AS S->(Bool->AS S->Option R)->Option R) (N:Nat) (ops:Array Oper) (b:Value->AS S->Option R):Γ->AS S->(AS S->Option R)->Option R
 |[],st,k=>k st
 |i::l,st,k=>
  match ops[i]? with
  |some o=>mQ N ops o.guard st (λst=>Fq G a c N o st b λst=>pd a c N ops b l st k) (λst=>iq N o st (.bJ []) λst=>pd a c N ops b l st k)
  |none=>none
structure cx (S:bm) where
 rd:Γ
 up:Up S
 nx:Nat
 nw:AH S
def dh (ops:Array Oper) (j:Nat):Option Nat:=match ops[j]? with|some o=>o.dst|none=>none
def O7 (ops:Array Oper) (g:Option (Nat×Bool)):Γ:=match g with|some (j,_)=>(match dh ops j with|some d=>[d]|none=>[])|none=>[]
def fh (ops:Array Oper) (o:Oper):Γ:=slotsOf o.op.operands.toList++O7 ops o.guard
def eD (ops:Array Oper) (i:Nat):Γ:=match ops[i]? with|some o=>ly ops 12 (cV o)|none=>[]
def Jk (env:a1 S) (g:Nat->Option (Ob S)) (o:Oper):Γ:=
 match o.op with
 | .load _ x=>(match cb G.K env x with|some l=>l.refs|none=>[])
 | .store _ x _=>(match cb G.K env x with|some l=>l.refs|none=>[])
 | .indexAddr _ x _=>(match cb G.K env x with|some (.own r)=>[r]|_=>[])
 | .lookup _ x _ _=>(match cb G.K env x with|some l=>l.refs|none=>[])
 | .mapUpdate _ x _ _=>(match cb G.K env x with|some l=>l.refs|none=>[])
 | .insert _ x _ _=>(match cb G.K env x with|some l=>l.refs|none=>[])
 | .next x _=>(match cb G.K env x with|some l=>l.refs|none=>[])
 | .convert _ _ x=>(match cb G.K env x with|some l=>l.refs|none=>[])
 | .buildSlice _ _ ps=>(match g' G.K env (ps.toList.map (·.2)) with|some aka=>jU aka|none=>[])
 | .call c=>
  (match g' G.K env c.args.toList with
  |some aka=>(match c.callee with
   | .value x=>(match cb G.K env x with|some l=>l.refs++reach g 0 1000 (l.refs++jU aka) []|none=>[])
   |_=>jU aka)
  |none=>[])
 |_=>[]
def jm (rd:Γ) (g:Nat->Option (Ob S)):Nat->Option (Ob S):=λi=>bif dz i rd then g i else none
def xy (l m:Γ):Bool:=l.all λi=>!(dz i m)
def Il (l:Γ) (nx n:Nat):Bool:=l.all λi=>!(ξI nx i&&υ i (nx+n))
def kk (cl rd:Γ) (up:Up S):List (cx S)->Nat->Bool
 |[],_=>true
 |r::rs,k=>(dz k cl||(xy rd (keys r.up)&&(Il rd r.nx r.nw.length&&xy (keys up) r.rd)))&&kk cl rd up rs (k+1)
def idle (cl:Γ):List (cx S)->Nat->Bool
 |[],_=>true
 |r::rs,k=>(dz k cl||(match r.up,r.nw with|[],[]=>true|_,_=>false))&&idle cl rs (k+1)
def JR (ops:Array Oper) (i:Nat) (o:Oper) (s:Nat):Bool:=
 ((cV o).any λj=>match dh ops j with|some d=>ζ d s|none=>false)||
 (ξs ops.size).all λk=>match dh ops k with|some d=>!(ζ d s)||(ζ k i||dz i (eD ops k))|none=>true
def R9 (N:Nat) (ops:Array Oper) (i:Nat):Bool:=
 match ops[i]? with
 |some o=>hJ i (cV o)&&(hJ i (eD ops i)&&((match o.dst with
  |some d=>υ d N&&(ξs ops.size).all λk=>ζ k i||(match dh ops k with|some e=>!(ζ d e)|none=>true)
  |none=>true)&&(fh ops o).all (JR ops i o)))
 |none=>false
def ya (N:Nat) (ops:Array Oper):Bool:=(ξs ops.size).all (R9 N ops)
def Ka (ops:Array Oper) (env:a1 S):a1 S:=env.filter λp=>(ξs ops.size).all λk=>match dh ops k with|some d=>!(ζ d p.1)|none=>true
def Kb (up:Up S) (nw:AH S):Bool:=match up,nw with|[],[]=>true|_,_=>false
def uT (pn:Option (Γ×Value×AS S)) (cl:Γ):Bool:=match pn with|some (dead,_,_)=>dead.any λj=>dz j cl|none=>false
def afx (pn:Option (Γ×Value×AS S)) (i:Nat):Option (Γ×Value×AS S):=match pn with|some (dead,u,st)=>some (i::dead,u,st)|none=>none
def kd (b:Nat->List (aB S)->AH S->(Rs S->AH S->Γ->Option R)->Option R) (N:Nat) (ops:Array Oper) (d:Value->AS S->Option R) (k:AS S->Option R):Nat->List (cx S)->Option (Γ×Value×AS S)->AS S->Option R
 |0,_,pn,st=>(match pn with|none=>k st|some (_,u,f)=>d u f)
 |c+1,acc,pn,st=>
  match ops[acc.length]? with
  |none=>none
  |some o=>
   bif uT pn (eD ops acc.length) then kd b N ops d k c (acc++[⟨[],[],st.h.length,[]⟩]) (afx pn acc.length) st
   else mQ N ops o.guard st
    (λst=>
     let rd:=Jk G (eR st.env (fh ops o)) (aE st.h) o
     bif rd.all λi=>υ i st.h.length then
      nQ G b (eR st.env (fh ops o)) (jm rd (aE st.h)) st.h.length o
       (λu up nw=>match pn with
        |some _=>none
        |none=>bif e2 (aE st.h) up&&((keys up).all (λi=>dz i rd)&&(kk (eD ops acc.length) rd up acc 0&&idle (eD ops acc.length) acc 0)) then
          kd b N ops d k c (acc++[⟨rd,up,st.h.length,nw⟩]) (some ([acc.length],u,{st.cg up nw with env:=Ka ops st.env})) (st.cg up nw) else none)
       (λa up nw=>
        bif e2 (aE st.h) up&&((keys up).all (λi=>dz i rd)&&(kk (eD ops acc.length) rd up acc 0&&(pn.isNone||Kb up nw))) then
         iq N o (st.cg up nw) a λe=>kd b N ops d k c (acc++[⟨rd,up,st.h.length,nw⟩]) pn e
        else none)
     else none)
    (λst=>iq N o st (.bJ []) λe=>kd b N ops d k c (acc++[⟨[],[],st.h.length,[]⟩]) pn e)
def Ft (a:Nat->List (aB S)->AH S->(Rs S->AH S->Γ->Option R)->Option R) (c:List (aB S)->AS S->(Bool->AS S->Option R)->Option R) (N:Nat) (ops:Array Oper) (draw:Bool) (st:AS S) (b:Value->AS S->Option R) (k:AS S->Option R):Option R:=
 match draw with
 |false=>pd G a c N ops b (ξs ops.size) st k
 |true=>bif ya N ops then kd G a N ops b k ops.size [] none st else none
def dG:Code->Nat
 | .region id _ _=>id+1
 | .seq x y=>(match dG x with|0=>dG y|n=>n)
 | .block _ x=>dG x
 | .loop x=>dG x
 | .scope x=>dG x
 |_=>0
def afy (I:dq S) (body:Code) (st:AS S):AS S:=gc (I.L (2000001+dG body)) st
def Su (I:dq S):Code->AS S->AS S
 | .loop x,st=>gc (I.L (dG x)) st
 |_,st=>st
def iE:Nat->List (aB S)->a1 S
 |_,[]=>[]
 |i,a::l=>(i,.s a)::iE (i+1) l
def rB:List (aB S)->AV S
 |[a]=>.s a
 |aka=>.bJ aka
def jW (K:Kit S) (env:a1 S) (h:AH S):List ResultVar->Option (List (aB S))
 |[]=>some []
 | .tmp t::r=>(match a1.get env t with|some (.s a)=>(match jW K env h r with|some aka=>some (a::aka)|none=>none)|_=>none)
 | .cell x t::r=>
  (match a1.get env x with
  |some (.s (.one (.aM b 0)))=>(match K.Θ.get t,aE h b with
   |some i,some (.box _ cs)=>bif ζ (dQ cs) i.size then
     (match jz (TI.gi i) cs with
     |some a=>(match jW K env h r with|some aka=>some (a::aka)|none=>none)
     |none=>none)
    else none
   |_,_=>none)
  |_=>none)
def j4:Γ->List (aB S)->Option (a1 S)
 |[],[]=>some []
 |p::ps,a::aka=>(match j4 ps aka with|some e=>some ((p,.s a)::e)|none=>none)
 |_,_=>none
def LV.fR:LV S->Bool
 | .cW=>false
 |_=>true
def kL:List (LV S)->Bool
 |[]=>true
 |l::r=>l.fR&&kL r
def lR:List (aB S)->Bool
 |[]=>true
 |a::r=>kL a.cells&&lR r
def AV.fR:AV S->Bool
 | .s a=>kL a.cells
 | .bJ aka=>lR aka
def Ob.fR:Ob S->Bool
 | .box _ cs=>kL cs
 | .a7 _ fs cs=>lR fs&&lR cs
 | .cP .. =>false
 |_=>true
def nL:a1 S->Bool
 |[]=>true
 |(_,a)::r=>a.fR&&nL r
def hV:AH S->Bool
 |[]=>true
 |some X::r=>X.fR&&hV r
 |none::r=>hV r
def ri (fn:Func) (e:AX) (st:AS S) (k:Rs S->AS S->Option R):Option R:=
 match st.df with
 |[]=>(match e with
  | .exit _=>none
  | .bD u=>k (.bD u) st
  |_=>(match jW G.K st.env st.h fn.results.toList with|some aka=>k (.ret (rB aka)) st|none=>none))
 |[.a7 i]=>(match aE st.h i with
  |some (.a7 g [] cs)=>(match pU G.D g with
   |some a=>
    let fin:Option Value->Up S->Option R:=λp up=>bif !(e2 (aE st.h) up) then none else(match p with
     |some u=>k (.bD u) {st.cg up [] with df:=[]}
     |none=>(match jW G.K st.env (eA st.h up) fn.results.toList with|some aka=>k (.ret (rB aka)) {st.cg up [] with df:=[]}|none=>none))
    (match e with
    | .exit _=>none
    | .bD u=>a.out cs (some u) (aE st.h) fin
    |_=>a.out cs none (aE st.h) fin)
   |none=>none)
  |_=>none)
 |_=>none
def q3 (r:Rs S) (st:AS S) (k:Rs S->AH S->Γ->Option R):Option R:=
 let b:=kept (aE st.h) st.nb (n5 (st.h.take st.nb)++(match r with| .ret a=>a.refs| .bD _=>[]))
 let h:=eT (λi=>posOf i b 0) (fS (aE st.h) b)
 let dt:=st.dt.filter λi=>υ i st.nb
 match r with
 | .ret a=>(match a.cn (λi=>posOf i b 0) with|some a'=>k (.ret a') h dt|none=>none)
 | .bD u=>k (.bD u) h dt
def nZ (N:Nat):Γ->Bool
 |[]=>true
 |p::r=>υ p N&&(!(dz p r)&&nZ N r)
def jO:AH S->Bool
 |[]=>true
 |some X::r=>X.nt&&jO r
 |none::r=>jO r
def Kr (run:dq S->Code->AS S->(AX->AS S->Option R)->Option R) (aka:List (aB S)) (st:AS S) (k:Bool->AS S->Option R):Option R:=
 match st.lp with
 |some a=>(match a.fe,j4 a.ps aka with
  |none,some b=>bif nZ a.J.fn.ntmps a.ps&&jO st.h then
   run ⟨a.J,[]⟩ a.gv ⟨b++a.env,st.h,st.h.length,none,true,[],[]⟩ λe st1=>(match e,st1.inr with
   | .normal,true=>bif jO st1.h then run ⟨a.J,[]⟩ a.body ⟨st1.env,st1.h,st1.h.length,none,true,[],[]⟩ λe st2=>(match e with
    | .normal=>k true {st with h:=st2.h,dt:=e3 st.nb st.dt (st1.dt++st2.dt)}
    | .bD _=>none
    | .ret=>k false {st with h:=st2.h,dt:=e3 st.nb st.dt (st1.dt++st2.dt),lp:=some {a with fe:=some .ret}}
    | .exit id=>k false {st with h:=st2.h,dt:=e3 st.nb st.dt (st1.dt++st2.dt),lp:=some {a with fe:=some (.exit id)}}) else none
   |_,_=>none) else none
  |_,_=>none)
 |none=>none
def xZ (st a:AS S) (k:AX->AS S->Option R):Option R:=
 match a.df,a.lp with
 |[],some b=>bif hV a.h then(match b.fe with
  |none=>k .normal {st with h:=a.h,dt:=e3 st.nb st.dt a.dt}
  |some .ret=>k .ret {st with h:=a.h,dt:=e3 st.nb st.dt a.dt}
  |some (.exit id)=>k (.exit id) {st with h:=a.h,dt:=e3 st.nb st.dt a.dt}
  |_=>none) else none
 |_,_=>none
def Jb (run:dq S->Code->AS S->(AX->AS S->Option R)->Option R) (I:dq S) (fo:Operand) (ps:Array Nat) (gv body:Code) (st:AS S) (k:AX->AS S->Option R):Option R:=
 match st.lp,st.inr with
 |none,false=>(match de G.K st.env fo with
  |some (.s (.one (.a7 i)))=>(match aE st.h i with
   |some (.a7 g [] cs)=>(match G.T g with
    |some J=>(match J.fn.body,J.fn.results.toList with
     |some b,[]=>bif ξI (1+cs.length) J.fn.ntmps&&(nL st.env&&hV st.h) then
       run J b ⟨iE 0 (.one .cW::cs),st.h,st.h.length,some ⟨I.tok9,ps.toList,gv,body,st.env,none⟩,false,[],[]⟩ λe a=>
        (match e with
        | .normal=>xZ st a k
        | .ret=>xZ st a k
        |_=>none)
      else none
     |_,_=>none)
    |none=>none)
   |_=>none)
  |_=>none)
 |_,_=>none
def FC (run:dq S->Code->AS S->(AX->AS S->Option R)->Option R) (f:Nat) (aka:List (aB S)) (h:AH S) (k:Rs S->AH S->Γ->Option R):Option R:=
 match pV G.H f with
 |some a=>a.out aka h k
 |none=>(match G.T f with
  |some J=>(match J.fn.body with
   |some c=>bif ξI aka.length J.fn.ntmps then run J c ⟨iE 0 aka,h,h.length,none,false,[],[]⟩ λe b=>ri G J.fn e b λr d=>q3 r d k else none
   |none=>none)
  |none=>none)
def cq:Nat->dq S->Code->AS S->(AX->AS S->Option R)->Option R
 |0,_,_,_,_=>none
 |n+1,I,c,st,k=>
  let f:Nat->List (aB S)->AH S->(Rs S->AH S->Γ->Option R)->Option R:=FC G (cq n)
  let g:List (aB S)->AS S->(Bool->AS S->Option R)->Option R:=Kr (cq n)
  match c with
  | .skip=>k .normal st
  | .label _=>k .normal st
  | .scope x=>bif st.inr then none else cq n I x st k
  | .region _ ops draw=>Ft G f g I.fn.ntmps ops draw st (λu st=>k (.bD u) st) λst=>k .normal st
  | .seq x y=>cq n I x st λe st=>(match e with| .normal=>cq n I y st k|e=>k e st)
  | .cond o x y=>
   (match de G.K st.env o with
   |some (.s (.one (.v (.bool b))))=>bif b then cq n I x st k else cq n I y st k
   |_=>none)
  | .block id x=>cq n I x (Su I x st) λe st=>(match e with| .exit a=>bif ζ a id then k .normal (gc (I.L (1000001+id)) st) else k (.exit a) st|e=>k e st)
  | .loop x=>(match gb I.lc (dG x) with
   |some lc=>lc.out st k
   |none=>cq n I x st λe d=>(match e with| .normal=>cq n I (.loop x) (gc (I.L (dG x)) d) k|e=>k e d))
  | .rangeFunc fo ps gv body=>Jb G (cq n) I fo ps gv body (afy I body st) k
  | .exit id=>k (.exit id) st
  | .ret=>k .ret (gc (I.L 1000000) st)
  |_=>none
def e1 (n f:Nat) (aka:List (aB S)) (h:AH S) (k:Rs S->AH S->Γ->Option R):Option R:=
 match G.T f with
 |some J=>(match J.fn.body with
  |some c=>bif ξI aka.length J.fn.ntmps then cq G n J c ⟨iE 0 aka,h,h.length,none,false,[],[]⟩ λe a=>ri G J.fn e a λr b=>q3 r b k else none
  |none=>none)
 |none=>none
end
end
section
variable {S:bm} {A A':Pl} {O:Γ} {w:World} {ρ:Nat->Option Nat}
structure fW (ρ:Nat->Option Nat) (A A':Pl):Prop where
 pl: ∀i j p,ρ i=some j->A.pl i=some p->A'.pl j=some p
 ls:A'.ls=A.ls
theorem LV.h0 (h:fW ρ A A') {l l':LV S} {xs:Γb} (a:l.cn ρ=some l') (hl:l.rel A O w xs):l'.rel A' O w xs:=by
 cases l with
 |v u=>cases a;exact hl
 |aJ t d=>cases a;exact hl
 |ptr t d q=>cases a;exact hl
 |aM i q=>simp only[LV.cn] at a;split at a<;>cases a;rename_i j o;obtain⟨m,h1,g⟩:=hl;exact⟨m,h.pl _ _ _ o h1,g⟩
 |fa i q n y=>simp only[LV.cn] at a;split at a<;>cases a;rename_i j o;obtain⟨m,h1,g⟩:=hl;exact⟨m,h.pl _ _ _ o h1,g⟩
 |own i=>simp only[LV.cn] at a;split at a<;>cases a;rename_i j o;obtain⟨m,h1,g⟩:=hl;exact⟨m,h.pl _ _ _ o h1,g⟩
 |d' e i y q=>simp only[LV.cn] at a;split at a<;>cases a;rename_i j o;obtain⟨b,n,c,h1,g⟩:=hl;exact⟨b,n,c,h.pl _ _ _ o h1,g⟩
 |fD i q n=>simp only[LV.cn] at a;split at a<;>cases a;rename_i j o;obtain⟨m,h1,g⟩:=hl;exact⟨m,h.pl _ _ _ o h1,g⟩
 |mp i=>simp only[LV.cn] at a;split at a<;>cases a;rename_i j o;obtain⟨m,h1,g⟩:=hl;exact⟨m,h.pl _ _ _ o h1,g⟩
 |a7 i=>simp only[LV.cn] at a;split at a<;>cases a;rename_i j o;obtain⟨f,u,c,h1,g⟩:=hl;exact⟨f,u,c,h.pl _ _ _ o h1,g⟩
 |cW=>cases a;obtain⟨m,h1,g⟩:=hl;exact⟨m,h.ls.trans h1,g⟩
 |cZ i=>simp only[LV.cn] at a;split at a<;>cases a;rename_i j o;obtain⟨m,h1,g⟩:=hl;exact⟨m,h.pl _ _ _ o h1,g⟩
 |bA k n gs=>cases a;exact hl
 |cA n bs=>cases a;exact hl
theorem Jw (h:fW ρ A A'): ∀ {ls b:List (LV S)} {xs:Γb},kX ρ ls=some b->bF A O w ls xs->bF A' O w b xs
 |[],_,_,a,hl=>by cases a;exact hl
 |l::r,_,_,a,⟨y,ys,e,h1,c⟩=>by
  simp only[kX] at a;split at a
  ·rename_i x d;split at a
   ·rename_i z f;cases a;exact⟨y,ys,e,LV.h0 h d h1,Jw h f c⟩
   ·cases a
  ·cases a
theorem aB.h0 (h:fW ρ A A') {a a':aB S} {x:Value} (b:a.cn ρ=some a') (hl:a.rel A O w x):a'.rel A' O w x:=by
 cases a with
 |one l=>
  simp only[aB.cn] at b;split at b<;>cases b;rename_i y c;exact LV.h0 h c hl
 |agg ls=>
  simp only[aB.cn] at b;split at b<;>cases b;rename_i y c;obtain⟨xs,h1,d⟩:=hl;exact⟨xs,h1,Jw h c d⟩
theorem q' (h:fW ρ A A'): ∀ {ls b:List (aB S)} {xs:Γb},lY ρ ls=some b->cI A O w ls xs->cI A' O w b xs
 |[],_,_,a,hl=>by cases a;exact hl
 |l::r,_,_,a,⟨y,ys,e,h1,c⟩=>by
  simp only[lY] at a;split at a
  ·rename_i x d;split at a
   ·rename_i z f;cases a;exact⟨y,ys,e,aB.h0 h d h1,q' h f c⟩
   ·cases a
  ·cases a
theorem AV.h0 (h:fW ρ A A') {a a':AV S} {x:Value} (b:a.cn ρ=some a') (hl:a.rel A O w x):a'.rel A' O w x:=by
 cases a with
 |s l=>
  simp only[AV.cn] at b;split at b<;>cases b;rename_i y c;exact aB.h0 h c hl
 |bJ ls=>
  simp only[AV.cn] at b;split at b<;>cases b;rename_i y c;obtain⟨xs,h1,d⟩:=hl;exact⟨xs,h1,q' h c d⟩
theorem Ob.h0 (h:fW ρ A A') {X i:Ob S} {p:Value} (a:X.cn ρ=some i) (hl:dd A O w X p):dd A' O w i p:=by
 cases X with
 |box t cs=>
  simp only[Ob.cn] at a;split at a<;>cases a;rename_i y g;obtain⟨b,vs,h1,c,d⟩:=hl;exact⟨b,vs,h1,c,Jw h g d⟩
 |row e xs=>cases a;exact hl
 |map k l m=>cases a;exact hl
 |a7 f fs cs=>
  simp only[Ob.cn] at a;split at a<;>cases a;rename_i y n g j;obtain⟨us,vs,h1,c,d⟩:=hl;exact⟨us,vs,h1,q' h g c,q' h j d⟩
 |cZ s pos=>cases a;exact hl
 |cP t e bR=>cases a;exact hl
theorem Ob.l2 {X c:Ob S} {w:World} {p:Value} {b:Nat} (a:X.cn ρ=some c) (h:cD w c p b):cD w X p b:=by
 refine h.imp id λhi=>?_;cases X with
 |cP t e bR=>cases a;exact hi
 |box t cs=>simp only[Ob.cn] at a;split at a<;>cases a;cases hi
 |a7 f fs cs=>simp only[Ob.cn] at a;split at a<;>cases a;cases hi
 |row e xs=>cases a;cases hi
 |map d g m=>cases a;cases hi
 |cZ s pos=>cases a;cases hi
theorem Ob.yc {X b:Ob S} (a:X.cn ρ=some b):b.nt=X.nt:=by
 cases X with
 |box t cs=>simp only[Ob.cn] at a;split at a<;>cases a;rfl
 |a7 f fs cs=>simp only[Ob.cn] at a;split at a<;>cases a;rfl
 |_=>cases a;rfl
theorem RU {g:Nat->Option (Ob S)} {i:Nat} {X:Ob S} (h:nN g i=some X):g i=some X/\X.nt=true:=by
 unfold nN at h;split at h
 ·rename_i Y a;cases hn:Y.nt<;>rw[hn] at h
  ·cases h
  ·cases h;exact⟨a,hn⟩
 ·cases h
theorem get_mem {l:a1 S} {s:Nat} {a:AV S}:a1.get l s=some a->(s,a)∈l:=by
 induction l with
 |nil=>intro h;cases h
 |cons p l d=>
  intro h;obtain⟨t,b⟩:=p;simp only[a1.get] at h;cases c:ζ t s with
  |true=>
   rw[c] at h;simp only[cond_true,ι] at h;have:=δ c;subst this;subst h;exact ν
  |false=>rw[c] at h;exact μ _ (d h)
theorem xd {env:a1 S} {s:Nat} {a:AV S}: ∀ {l:Γ},(s,a)∈eR env l->s∈l/\a1.get env s=some a
 |[],h=>by cases h
 |t::r,h=>by
  simp only[eR] at h;split at h
  ·rename_i b d;rcases τ.1 h with e|h
   ·cases e;exact⟨ν,d⟩
   ·obtain⟨h1,c⟩:=xd h;exact⟨μ _ h1,c⟩
  ·obtain⟨h1,c⟩:=xd h;exact⟨μ _ h1,c⟩
theorem Ju {s:Nat} {a':AV S}: ∀ {l:a1 S},(s,a')∈n_ ρ l-> ∃a,(s,a)∈l/\a.cn ρ=some a'
 |[],h=>by cases h
 |(t,b)::r,h=>by
  simp only[n_] at h;split at h
  ·rename_i x d;rcases τ.1 h with e|h
   ·cases e;exact⟨b,ν,d⟩
   ·obtain⟨a,h1,c⟩:=Ju h;exact⟨a,μ _ h1,c⟩
  ·obtain⟨a,h1,c⟩:=Ju h;exact⟨a,μ _ h1,c⟩
theorem ahC (h:fW ρ A A') {a:Act} {env:a1 S} {sl:Γ} (he:cQ A O w env a):cQ A' O w (n_ ρ (eR env sl)) a:=λs e d=>by
 obtain⟨b,h1,c⟩:=Ju (get_mem d);exact AV.h0 h c (he s b (xd h1).2)
theorem bW.cn {g f:Nat->Option (Ob S)} {idx:Nat->Option Nat} (h:bW A O w g) (l: ∀j,A'.pl j=(idx j).bind A.pl) (z:A'.ls=A.ls) (inj: ∀i j d,idx j=some i->idx d=some i->j=d) (D: ∀i j,ρ i=some j->idx j=some i)
  (n: ∀j a,f j=some a-> ∃i X,idx j=some i/\g i=some X/\X.cn ρ=some a):bW A' O w f:=by
 have hR:fW ρ A A':=⟨λi j p hi hp=>by rw[l,D i j hi];exact hp,z⟩;have back: ∀j a p,f j=some a->A'.pl j=some p-> ∃i X,idx j=some i/\g i=some X/\A.pl i=some p/\X.cn ρ=some a:=by
  intro j a p m hp;obtain⟨i,X,h1,c,k⟩:=n j a m;rw[l,h1] at hp;exact⟨i,X,h1,c,hp,k⟩
 constructor
 ·intro j a m;obtain⟨i,X,h1,c,k⟩:=n j a m;obtain⟨p,F,G,H⟩:=h.al i X c;exact⟨p,by rw[l,h1];exact F,Ob.h0 hR k G,H⟩
 ·intro j d X Y p q b B h1 c hp C;obtain⟨i,a,r,a2,a3,a4⟩:=back j X p h1 hp;obtain⟨E,o,s,t,x,y⟩:=back d Y q c C;exact λu v=>h.f' i E a o p q b (λe=>B (by subst e;exact inj i j d r s)) a2 t a3 x (Ob.l2 a4 u) (Ob.l2 y v)
theorem gL {i:Nat}: ∀ {l:Γ},dz i l=true↔i∈l
 |[]=>by simp[dz]
 |j::r=>by
  simp only[dz,τ];cases a:ζ i j with
  |true=>have:=δ a;simp[this]
  |false=>
   have b:i≠j:=λe=>by subst e;simp at a
   simp[b,gL]
theorem Ss {i j:Nat}: ∀ {l:Γ} {n:Nat},posOf i l n=some j->n<=j/\l[j-n]? =some i
 |[],n,h=>by cases h
 |t::r,n,h=>by
  simp only[posOf] at h;cases a:ζ i t with
  |true=>
   rw[a] at h;have:=δ a;simp only[cond_true,ι] at h;subst h;subst this;simp
  |false=>
   rw[a] at h;obtain⟨h1,b⟩:=Ss (n:=n+1) h;refine⟨by omega,?_⟩;rw[show j-n=(j-(n+1))+1 by omega];simpa using b
theorem nY {i j:Nat} {l:Γ} (h:posOf i l 0=some j):l[j]? =some i:=by simpa using(Ss h).2
structure Reach (g:Nat->Option (Ob S)) (nb:Nat) (l:Γ):Prop where
 nd:l.Nodup
 ge: ∀i∈l,nb<=i
 al: ∀i∈l,∃X,g i=some X
theorem lW {g:Nat->Option (Ob S)} {nb:Nat}: ∀ {n:Nat} {t seen:Γ},Reach g nb seen->Reach g nb (reach g nb n t seen)
 |0,t,seen,h=>h
 |n+1,[],seen,h=>h
 |n+1,i::t,seen,h=>by
  simp only[reach];cases d:υ i nb with
  |true=>exact lW h
  |false=>
   simp only[cond_false];cases hm:dz i seen with
   |true=>exact lW h
   |false=>
    simp only[cond_false];split
    ·rename_i X hX;have o:i∉seen:=λm=>by rw[gL.2 m] at hm;cases hm
     have l:nb<=i:=by
      rcases ω i nb with h1|h1
      ·rw[ο.mpr h1] at d;cases d
      ·exact h1
     refine lW ⟨?_,?_,?_⟩
     ·rw[ζp];exact⟨h.nd,by simp,λa k b f=>by simp at f;subst f;exact λe=>o (e▸k)⟩
     ·intro j c;rcases ψ.1 c with c|c
      ·exact h.ge j c
      ·simp at c;subst c;exact l
     ·intro j c;rcases ψ.1 c with c|c
      ·exact h.al j c
      ·simp at c;subst c;exact⟨X,hX⟩
    ·exact lW h
theorem Jq {g:Nat->Option (Ob S)} {nb:Nat}:Reach g nb []:=⟨List.nodup_nil,(λi h=>nomatch h),(λi h=>nomatch h)⟩
theorem xw {l:Γ} (h:l.Nodup) {i j a:Nat} (h1:l[j]? =some i) (e:l[a]? =some i):j=a:=by
 obtain⟨b,a2⟩:=ε.1 h1;obtain⟨c,d⟩:=ε.1 e;have hp:=List.pairwise_iff_getElem.1 h;rcases ξd j a with g|he|f
 ·exact absurd (a2.trans d.symm) (hp j a b c g)
 ·exact he
 ·exact absurd (d.trans a2.symm) (hp a j c b f)
theorem Pz {g:Nat->Option (Ob S)} {nb:Nat} {roots:Γ}:(kept g nb roots).Nodup:=by
 have:=lW (g:=g) (nb:=nb) (n:=1000) (t:=roots) Jq;unfold kept;rw[ζp];exact⟨List.nodup_range,this.nd,λa c b d e=>by have:=this.ge b d;simp at c;omega⟩
theorem Py {g:Nat->Option (Ob S)} {nb i:Nat} {roots:Γ} (h:i<nb):(kept g nb roots)[i]? =some i:=by
 unfold kept;rw[φ (by simpa using h)];simp[h]
theorem Pw {g:Nat->Option (Ob S)} {nb i j:Nat} {roots:Γ} (h:nb<=j) (a:(kept g nb roots)[j]? =some i):nb<=i:=by
 unfold kept at a;rw[ξb (by simpa using h)] at a;exact(lW (g:=g) (nb:=nb) (n:=1000) (t:=roots) Jq).ge i (ξM a)
theorem Px {g:Nat->Option (Ob S)} {nb:Nat} {roots:Γ}:nb<=(kept g nb roots).length:=by unfold kept;simp
theorem Sr {g:Nat->Option (Ob S)}: ∀ {l:Γ} {j:Nat},(fS g l)[j]? =(l[j]?).map g
 |[],j=>by simp[fS]
 |i::r,0=>by simp[fS]
 |i::r,j+1=>by simp[fS,Sr]
theorem Jv: ∀ {h:AH S} {j:Nat},(eT ρ h)[j]? =(h[j]?).map (l1 ρ)
 |[],j=>by simp[eT]
 |i::r,0=>by simp[eT]
 |i::r,j+1=>by simp[eT,Jv]
theorem lZ: ∀ {h:AH S},(eT ρ h).length=h.length
 |[]=>rfl
 |i::r=>by simp[eT,lZ]
theorem nW {g:Nat->Option (Ob S)}: ∀ {l:Γ},(fS g l).length=l.length
 |[]=>rfl
 |i::r=>by simp[fS,nW]
theorem hW {h:AH S} {i:Nat} {X:Ob S}:aE h i=some X↔h[i]? =some (some X):=by
 unfold aE;split
 ·rename_i Y a;rw[a];simp
 ·rename_i hn;constructor
  ·intro h;cases h
  ·intro h;exact absurd h (hn X)
theorem re {X:Option (Ob S)} {a:Ob S} (h:l1 ρ X=some a): ∃Y,X=some Y/\Y.cn ρ=some a:=by
 cases X with
 |none=>cases h
 |some Y=>exact⟨Y,rfl,h⟩
theorem jR {g:Nat->Option (Ob S)} {l:Γ} {j:Nat} {a:Ob S} (h:aE (eT ρ (fS g l)) j=some a): ∃i X,l[j]? =some i/\g i=some X/\X.cn ρ=some a:=by
 rw[hW,Jv,Sr] at h;cases hl:l[j]? with
 |none=>rw[hl] at h;cases h
 |some i=>
  rw[hl] at h;simp only[ξy,ι] at h;obtain⟨Y,h1,b⟩:=re h;exact⟨i,Y,rfl,h1,b⟩
theorem fc {h:AH S} {i:Nat} {X:Ob S} (hi:aE h i=some X):i<h.length:=(ε.1 (hW.1 hi)).1
end
section
variable {S:bm} {K:Kit S} {P:Program} {R:Type} {z:R}
def eB (P:Program) (f:Nat):Prop:= ∀(vs:Array Value) (u:World),(callFunc f vs).run P u= .ok (.enter f vs) u
def iC (A:Pl) (O:Γ) (w:World):Rs S->Ending->Prop
 | .ret a,e=> ∃v,e= .returned v/\a.rel A O w v
 | .bD u,e=>e= .panicked [{v:=u,recovered:=false}]
structure zb (A:Pl) (O:Γ) (w:World) (n:Nat) (h':AH S) (dt:Γ) (A':Pl) (O':Γ) (w':World):Prop where
 rel:bW A' O' w' (aE h')
 ob:OB O' w'
 tr:Tr O w O' w'
 pl: ∀i,i<n->A'.pl i=A.pl i
 lt: ∀j∈dt,j<n
 ls:A'.ls=A.ls
 len:n<=h'.length
 free: ∀i,h'.length<=i->A'.pl i=none
 cl: ∀b,b∈O->(∀i∈dt,∀p,A.pl i=some p->b4 p≠some b)->w'.heap[b]? =w.heap[b]? /\b∈O'/\ ∀i X p,n<=i->aE h' i=some X->A'.pl i=some p-> ¬cD w' X p b
 nt: ∀i X,i<n->aE h' i=some X->X.nt=true
def dk (K:Kit S) (P:Program) (f:Nat) (aka:List (aB S)) (h:AH S) (r:Rs S) (h':AH S) (dt:Γ):Prop:=eB P f/\ ∀(A:Pl) (O:Γ) (w:World) (xs:Γb),cI A O w aka xs->bW A O w (aE h)->OB O w->cN K O w->(∀i,h.length<=i->A.pl i=none)->(∀i X,aE h i=some X->X.nt=true)->Calls P f xs.toArray w (λe w'=> ∃A' O',iC A' O' w' r e/\zb A O w h.length h' dt A' O' w')
def j5 (K:Kit S) (P:Program) (a:Nat->List (aB S)->AH S->(Rs S->AH S->Γ->Option R)->Option R):Prop:= ∀(f:Nat) (aka:List (aB S)) (h:AH S) (k:Rs S->AH S->Γ->Option R) (z:R),a f aka h k=some z-> ∃r h' dt,k r h' dt=some z/\dk K P f aka h r h' dt
def Kv (K:Kit S) (P:Program) (f:Nat) (aka:List (aB S)) (g:Nat->Option (Ob S)) (nx:Nat) (r:Rs S) (up:Up S) (nw:AH S):Prop:=eB P f/\ ∀(A:Pl) (O:Γ) (w:World) (xs:Γb),cI A O w aka xs->bW A O w g->OB O w->cN K O w->(∀j,j<nw.length->A.pl (nx+j)=none)->Calls P f xs.toArray w (λe w'=> ∃A' O',iC A' O' w' r e/\cf A O w g (up++news nx nw) A' O' w')
def jY (b:Value->Up S->AH S->Option R) (k:AV S->Up S->AH S->Option R):Rs S->Up S->AH S->Option R
 | .ret a,up,nw=>k a up nw
 | .bD u,up,nw=>bif u.oneCell' then b u up nw else none
theorem iY {i n:Nat} {X:Option (Ob S)}: ∀ {nw:AH S},(i,X)∈news n nw↔ ∃j,nw[j]? =some X/\i=n+j:=by
 intro nw
 induction nw generalizing n with
 |nil=>simp[news]
 |cons Y r a=>
  simp only[news,τ,ξl,a];constructor
  ·rintro (⟨rfl,rfl⟩|⟨j,h1,rfl⟩)
   ·exact⟨0,rfl,rfl⟩
   ·exact⟨j+1,by simpa using h1,by omega⟩
  ·rintro ⟨j,h1,rfl⟩;cases j with
   |zero=>simp at h1;exact .inl ⟨rfl,h1.symm⟩
   |succ j=>exact .inr ⟨j,by simpa using h1,by omega⟩
theorem Kc {rs:Γ} {ρ:Nat->Option Nat} {h:AH S} {i:Nat} {X:Option (Ob S)}: ∀ {dt:Γ},(i,X)∈j3 rs ρ h dt↔ ∃j∈dt,rs[j]? =some i/\X=l1 ρ (aE h j):=by
 intro dt
 induction dt with
 |nil=>simp[j3]
 |cons j r c=>
  simp only[j3];split
  ·rename_i e d;simp only[τ,ξl,c,exists_eq_or_imp,d,ι];constructor
   ·rintro (⟨rfl,rfl⟩|h)
    ·exact .inl ⟨rfl,rfl⟩
    ·exact .inr h
   ·rintro (⟨rfl,rfl⟩|h)
    ·exact .inl ⟨rfl,rfl⟩
    ·exact .inr h
  ·rename_i hn;rw[c];constructor
   ·rintro ⟨b,h1,a⟩;exact⟨b,μ _ h1,a⟩
   ·rintro ⟨b,h1,a⟩;rcases τ.1 h1 with rfl|h1
    ·rw[hn] at a;cases a.1
    ·exact⟨b,h1,a⟩
theorem ahD {ρ:Nat->Option Nat} {h:AH S} {m j:Nat} {X:Option (Ob S)} (a:(eT ρ (h.drop m))[j]? =some X):m+j<h.length/\X=l1 ρ (aE h (m+j)):=by
 rw[Jv,ζl] at a;cases b:h[m+j]? with
 |none=>rw[b] at a;cases a
 |some Y=>
  rw[b] at a;simp only[ξy,ι] at a;refine⟨(ε.1 b).1,?_⟩;subst a;unfold aE;rw[b];cases Y<;>rfl
theorem NA {ai:Nat->List (aB S)->AH S->(Rs S->AH S->Γ->Option R)->Option R} (aK:j5 K P ai) {f nx:Nat} {aka:List (aB S)} {g:Nat->Option (Ob S)} {ae:Value->Up S->AH S->Option R} {k:AV S->Up S->AH S->Option R}
  (h:uL ai f aka g nx ae k=some z): ∃r up nw,jY ae k r up nw=some z/\Kv K P f aka g nx r up nw:=by
 unfold uL at h;obtain⟨rs,au⟩: ∃rs,rs=reach g 0 1000 (jU aka) []:=⟨_,rfl⟩;have hR:Reach g 0 rs:=by rw[au];exact lW Jq
 simp only[<-au] at h;split at h
 ·cases h
 rename_i a7 has;obtain⟨r,h',dt,hk,aL,aD⟩:=aK _ _ _ _ _ h;obtain⟨y,W⟩: ∃y:Nat->Option Nat,y=λj=>bif υ j rs.length then rs[j]? else some (nx+(j-rs.length)):=⟨_,rfl⟩;simp only[<-W] at hk;obtain⟨aa,aP,aY⟩: ∃aa,jY ae k aa (j3 rs y h' dt) (eT y (h'.drop rs.length))=some z/\(∀(A1 A':Pl) (O':Γ) (w':World) (e:Ending),fW y A1 A'->iC A1 O' w' r e->iC A' O' w' aa e):=by
  cases r with
  |ret a=>
   simp only at hk;split at hk
   ·rename_i a' aH;exact⟨.ret a',hk,λA1 A' O' w' e hR ⟨v,h1,d⟩=>⟨v,h1,AV.h0 hR aH d⟩⟩
   ·cases hk
  |bD u=>exact⟨.bD u,hk,λA1 A' O' w' e hR h=>h⟩
 refine⟨aa,_,_,aP,aL,λA O w xs aG ab hO aA L=>?_⟩;obtain⟨H,D⟩: ∃H:Pl,H=⟨λj=>(rs[j]?).bind A.pl,A.ls⟩:=⟨_,rfl⟩;have aC:fW (λi=>posOf i rs 0) A H:=⟨λi j p hi hp=>by
  have:=nY hi;rw[D];simp only[this,ξo];exact hp,by rw[D]⟩
 have hlen:(eT (λi=>posOf i rs 0) (fS (nN g) rs)).length=rs.length:=by rw[lZ,nW]
 have aS: ∀j T,aE (eT (λi=>posOf i rs 0) (fS (nN g) rs)) j=some T->T.nt=true:=λj T E=>by
  obtain⟨i,X,_,d,n⟩:=jR E;rw[Ob.yc n];exact(RU d).2
 have aN:bW H O w (aE (eT (λi=>posOf i rs 0) (fS (nN g) rs))):=
  ab.cn (idx:=λj=>rs[j]?) (ρ:=λi=>posOf i rs 0) (λj=>by rw[D]) (by rw[D]) (λi j ba h1 d=>xw hR.nd h1 d) (λi j hi=>nY hi) (λj T E=>by
   obtain⟨i,X,h1,d,n⟩:=jR E;exact⟨i,X,h1,(RU d).1,n⟩)
 refine(aD H O w xs (q' aC has aG) aN hO aA (λi hi=>by rw[hlen] at hi;rw[D];simp[ξg hi]) aS).mono ?_;rintro e w' ⟨A1,O1,aX,hp⟩;rw[hlen] at hp;obtain⟨nw,ad⟩: ∃nw,nw=eT y (h'.drop rs.length):=⟨_,rfl⟩;rw[<-ad] at L ⊢;have a_:nw.length=h'.length-rs.length:=by rw[ad,lZ,ξn]
 obtain⟨A',M⟩: ∃A':Pl,A'=⟨λi=>match A.pl i with|some p=>some p|none=>bif ξI nx i&&υ i (nx+nw.length) then A1.pl (rs.length+(i-nx)) else none,A.ls⟩:=⟨_,rfl⟩;have hold: ∀i p,A.pl i=some p->A'.pl i=some p:=λi p hp=>by rw[M];simp[hp]
 have az: ∀j,j<rs.length->A1.pl j=(rs[j]?).bind A.pl:=λj E=>by rw[hp.pl j E,D]
 have aR: ∀c p,rs.length<=c->A1.pl c=some p->A'.pl (nx+(c-rs.length))=some p:=by
  intro c p t B;have G:c<h'.length:=by
   rcases ω c h'.length with h1|h1
   ·exact h1
   ·rw[hp.free c h1] at B;cases B
  have aM:=L (c-rs.length) (by omega);rw[M];simp only[aM];rw[ζD.mpr (ξJ _ _),ο.mpr (show nx+(c-rs.length)<nx+nw.length by omega)];simp only[Bool.and_self,cond_true];rw[show rs.length+(nx+(c-rs.length)-nx)=c by omega];exact B
 have N:fW y A1 A':=⟨λc i p t B=>by
  rw[W] at t;simp only at t;cases l:υ c rs.length with
  |true=>
   rw[l] at t;simp only[cond_true] at t;rw[az c (ο.mp l),t] at B;exact hold i p B
  |false=>
   rw[l] at t;simp only[cond_false,ι] at t;subst t;refine aR c p ?_ B;rcases ω c rs.length with h1|h1
   ·rw[ο.mpr h1] at l;cases l
   ·exact h1,by rw[M];rw[hp.ls,D]⟩
 have dp: ∀i X,(i,X)∈j3 rs y h' dt++news nx nw-> ∃c,y c=some i/\X=l1 y (aE h' c)/\((c<rs.length/\c∈dt/\rs[c]? =some i)\/(rs.length<=c/\i=nx+(c-rs.length)/\c-rs.length<nw.length)):=by
  intro i X hi;rcases ψ.1 hi with hi|hi
  ·obtain⟨c,h1,d,n⟩:=Kc.1 hi;have G:=(ε.1 d).1;exact⟨c,by rw[W];simp only[ο.mpr G,cond_true];exact d,n,.inl ⟨G,h1,d⟩⟩
  ·obtain⟨j,h1,rfl⟩:=iY.1 hi;have a8:=(ε.1 h1).1;rw[ad] at h1;obtain⟨d,n⟩:=ahD h1;refine⟨rs.length+j,?_,n,.inr ⟨by omega,by omega,by omega⟩⟩;rw[W];have:υ (rs.length+j) rs.length=false:=by
    cases l:υ (rs.length+j) rs.length with
    |false=>rfl
    |true=>have:=ο.mp l;omega
   simp only[this,cond_false]
   congr 1;omega
 have live: ∀c i:Nat,rs[c]? =some i-> ∃Z p,g i=some Z/\A.pl i=some p:=by
  intro c i t;obtain⟨Z,J⟩:=hR.al i (ξM t);obtain⟨p,hp,_⟩:=ab.al i Z J;exact⟨Z,p,J,hp⟩
 have inj: ∀c m i:Nat,y c=some i->y m=some i->((c<rs.length/\rs[c]? =some i)\/(rs.length<=c/\i=nx+(c-rs.length)/\c-rs.length<nw.length))->((m<rs.length/\rs[m]? =some i)\/(rs.length<=m/\i=nx+(m-rs.length)/\m-rs.length<nw.length))->c=m:=by
  rintro c m i _ _ (⟨h1,d⟩|⟨h1,d,n⟩) (⟨o,s⟩|⟨o,s,x⟩)
  ·exact xw hR.nd d s
  ·obtain⟨Z,p,_,hp⟩:=live c i d;rw[s,L _ x] at hp;cases hp
  ·obtain⟨Z,p,_,hp⟩:=live m i s;rw[d,L _ n] at hp;cases hp
  ·omega
 have src: ∀ {c i:Nat},((c<rs.length/\c∈dt/\rs[c]? =some i)\/(rs.length<=c/\i=nx+(c-rs.length)/\c-rs.length<nw.length))->((c<rs.length/\rs[c]? =some i)\/(rs.length<=c/\i=nx+(c-rs.length)/\c-rs.length<nw.length)):=
  λh=>h.imp (λ⟨a,_,b⟩=>⟨a,b⟩) id
 refine⟨A',O1,aY A1 A' O1 w' e N aX,⟨⟨hold,by rw[M]⟩,hp.tr,hp.ob,?_,?_,?_,?_,?_,?_,?_⟩⟩
 ·intro b l hk;obtain⟨F,af,_⟩:=hp.cl b l λc t p B=>by
   have G:=hp.lt c t;rw[D] at B;obtain⟨i,hi,U⟩:=ξX.1 B;exact hk i _ p (ξ9 _ (Kc.2 ⟨c,t,hi,rfl⟩)) U
  exact⟨F,af⟩
 ·intro i X hi;obtain⟨c,h1,d,n⟩:=dp i _ hi;obtain⟨Y,C,I⟩:=re d.symm;obtain⟨p,F,af,bb⟩:=hp.rel.al c Y C;refine⟨p,N.pl c i p h1 F,Ob.h0 N I af,λb l=>?_⟩;have l:=Ob.l2 I l;have an:=hp.rel.gE C F l;refine⟨an,?_⟩;rcases ω b w.heap.size with G|aO
  rotate_left
  ·exact .inl aO
  right;have aI:b∈O:=by
   rcases Decidable.em (b∈O) with h|h
   ·exact h
   ·exact absurd an (hp.tr.keep b G h).1
  rcases Classical.em (∀i∈dt,∀p,H.pl i=some p->b4 p≠some b) with Q|Q
  ·obtain⟨_,_,ay⟩:=hp.cl b aI Q;rcases n with⟨o,s,x⟩|⟨o,s,x⟩
   ·exact absurd (eQ (hp.nt c Y o C) l) (Q c s p (by rw[<-hp.pl c o];exact F))
   ·exact absurd l (ay c Y p o C F)
  ·simp only[Classical.not_forall,Decidable.not_not] at Q;obtain⟨m,aJ,q,ar,aW⟩:=Q;rw[D] at ar;obtain⟨av,ao,aU⟩:=ξX.1 ar;obtain⟨V,_,aF,_⟩:=live m av ao;exact⟨av,_,q,V,ξ9 _ (Kc.2 ⟨m,aJ,ao,rfl⟩),aF,aU,.inl aW⟩
 ·intro i j X Y p q b aQ hi E aT aV;obtain⟨c,h1,d,n⟩:=dp i _ hi;obtain⟨m,o,s,x⟩:=dp j _ E;obtain⟨ag,C,I⟩:=re d.symm;obtain⟨ah,aw,aZ⟩:=re s.symm;obtain⟨a1,F,_⟩:=hp.rel.al c ag C;obtain⟨a6,ax,_⟩:=hp.rel.al m ah aw;have aj:=N.pl c i a1 h1 F;have ak:=N.pl m j a6 o ax;rw[aT] at aj;rw[aV] at ak;cases aj;cases ak;exact λu v=>hp.rel.f' c m ag ah p q b (λe=>aQ (by subst e;rw[h1] at o;exact ξB o)) C aw F ax (Ob.l2 I u) (Ob.l2 aZ v)
 ·intro i X Y hi E;obtain⟨c,h1,d,n⟩:=dp i _ hi;obtain⟨m,o,s,x⟩:=dp i _ E;have:=inj c m i h1 o (src n) (src x);subst this;rw[d,s]
 ·intro i X p hi U;obtain⟨c,h1,d,n⟩:=dp i _ hi;rcases n with⟨o,s,x⟩|⟨o,s,x⟩
  ·obtain⟨Z,_,J,_⟩:=live c i x;exact⟨Z,J⟩
  ·rw[s,L _ x] at U;cases U
 ·intro i;rw[M];cases hi:A.pl i with
  |some p=>left;simp[hi]
  |none=>
   simp only[hi];cases l:(ξI nx i&&υ i (nx+nw.length)) with
   |false=>left;rfl
   |true=>
    simp only[η] at l;have h1:=ξ5 l.1;have d:=ο.mp l.2;have G:i-nx<nw.length:=by omega
    exact .inr ⟨trivial,nw[i-nx],ξ7 _ (iY.2 ⟨i-nx,σ G,by omega⟩)⟩
 ·intro i X Z hi J hn;obtain⟨c,h1,d,n⟩:=dp i _ hi;obtain⟨Y,C,I⟩:=re d.symm;rw[Ob.yc I];rcases n with⟨o,s,x⟩|⟨o,s,x⟩
  ·exact hp.nt c Y o C
  ·obtain⟨p,aq,_⟩:=ab.al i Z J;rw[s,L _ x] at aq;cases aq
def ej (K:Kit S) (P:Program) (f:Nat) (aka:List (aB S)) (r:Rs S):Prop:=eB P f/\ ∀(A:Pl) (O:Γ) (w:World) (xs:Γb),cI A O w aka xs->OB O w->cN K O w->Calls P f xs.toArray w (λe w'=>iC A O w' r e/\Fr [] w w')
theorem LV.lI {A A':Pl} {O O':Γ} {w w':World} {l:LV S} {xs:Γb} (a:l.flat=true) (h:l.rel A O w xs):l.rel A' O' w' xs:=by
 cases l<;>first|exact h|cases a
theorem Ow {A A':Pl} {O O':Γ} {w w':World}: ∀ {ls:List (LV S)} {xs:Γb},ls.all LV.flat=true->bF A O w ls xs->bF A' O' w' ls xs
 |[],_,_,h=>h
 |l::ls,_,hp,⟨y,ys,h,h1,a⟩=>by
  simp only[ξC,η] at hp;exact⟨y,ys,h,LV.lI hp.1 h1,Ow hp.2 a⟩
theorem aB.lI {A A':Pl} {O O':Γ} {w w':World} {a:aB S} {x:Value} (b:a.flat=true) (h:a.rel A O w x):a.rel A' O' w' x:=by
 cases a with
 |one l=>exact LV.lI b h
 |agg ls=>obtain⟨xs,h1,c⟩:=h;exact⟨xs,h1,Ow b c⟩
theorem Ov {A A':Pl} {O O':Γ} {w w':World}: ∀ {ls:List (aB S)} {xs:Γb},ls.all aB.flat=true->cI A O w ls xs->cI A' O' w' ls xs
 |[],_,_,h=>h
 |l::ls,_,hp,⟨y,ys,h,h1,a⟩=>by
  simp only[ξC,η] at hp;exact⟨y,ys,h,aB.lI hp.1 h1,Ov hp.2 a⟩
theorem AV.lI {A A':Pl} {O O':Γ} {w w':World} {a:AV S} {x:Value} (b:a.flat=true) (h:a.rel A O w x):a.rel A' O' w' x:=by
 cases a with
 |s l=>exact aB.lI b h
 |bJ ls=>obtain⟨xs,h1,c⟩:=h;exact⟨xs,h1,Ov b c⟩
theorem acd {A:Pl} {O:Γ} {w w':World} {g:Nat->Option (Ob S)} {rs:Γ} (hO:OB O w) (hl: ∀r∈rs,∃Z,g r=some Z) (a:Fr [] w w'):cf A O w g (fu rs) A (c' A rs O) w' where
 le:=Pl.le.refl A
 tr:=(Tr.less eI).trans a.dY
 ob:=a.ob λb f=>hO b (eI b f)
 keep c d h:=⟨a.block c (hO c d) (by simp),hT.2 ⟨d,λr k p hp=>h r none p (eb.2 ⟨k,rfl⟩) hp⟩⟩
 al i Y h:=by have:=(eb.1 h).2;cases this
 dj i j Y Z q r c _ h:=by have:=(eb.1 h).2;cases this
 nd i Y Z h1 e:=(eb.1 h1).2.trans (eb.1 e).2.symm
 lv i Y q h _:=hl i (eb.1 h).1
 pl _:=.inl rfl
 nt i X Z h _ _:=by have:=(eb.1 h).2;cases this
theorem FX {A:Pl} {O:Γ} {w w':World} {g:Nat->Option (Ob S)} (hO:OB O w) (a:Fr [] w w'):cf A O w g [] A O w':=
 ⟨Pl.le.refl A,a.dY,a.ob hO,λb c _=>⟨a.block b (hO b c) (by simp),c⟩,(λ_ _ h=>nomatch h),(λ_ _ _ _ _ _ _ _ h=>nomatch h),(λ_ _ _ h=>nomatch h),(λ_ _ _ h=>nomatch h),(λ_=>.inl rfl),(λ_ _ _ h=>nomatch h)⟩
theorem OR {g:Nat->Option (Ob S)} {l l':LV S} {rs:Γ} (h:iQ K g l=some (l',rs)): ∀r∈rs,∃e xs,g r=some (.row e xs):=by
 intro r a;cases l with
 |own c=>
  simp only[iQ] at h;split at h
  rotate_left
  ·cases h
  rename_i e ys b;split at h
  ·cases h;simp at a;subst a;exact⟨e,ys,b⟩
  ·cases h
 |v u=>cases h;cases a
 |aJ t x=>cases h;cases a
 |ptr t x q=>cases h;cases a
 |bA k n gs=>cases h;cases a
 |cA n gs=>cases h;cases a
 |_=>cases h
theorem OU {g:Nat->Option (Ob S)}: ∀ {ls i:List (LV S)} {rs:Γ},kC K g ls=some (i,rs)-> ∀r∈rs,∃e xs,g r=some (.row e xs)
 |[],_,_,h,r,c=>by cases h;cases c
 |l::ls,_,_,h,r,c=>by
  simp only[kC] at h;split at h
  ·rename_i l' a d;split at h
   ·rename_i j b f;cases h;rcases ψ.1 c with c|c
    ·exact OR d r c
    ·exact OU f r c
   ·cases h
  ·cases h
theorem OP {g:Nat->Option (Ob S)}: ∀ {ls j:List (aB S)} {rs:Γ},iP K g ls=some (j,rs)-> ∀r∈rs,∃e xs,g r=some (.row e xs)
 |[],_,_,h,r,d=>by cases h;cases d
 |l::ls,_,_,h,r,d=>by
  simp only[iP] at h;split at h
  ·rename_i l' a c;split at h
   ·rename_i m b i;cases h;rcases ψ.1 d with d|d
    ·cases l with
     |one l0=>
      simp only[jL] at c;split at c
      ·rename_i x y f;cases c;exact OR f r d
      ·cases c
     |agg k=>
      simp only[jL] at c;split at c
      ·rename_i x y f;cases c;exact OU f r d
      ·cases c
    ·exact OP i r d
   ·cases h
  ·cases h
section
variable {G:bN S} {A:Pl} {O:Γ} {w w':World} {g:Nat->Option (Ob S)} {rs:Γ}
theorem acV (c:b6 G.K P) (d:bW A O w g) {l:LV S} {xs:Γb} (h:l.rel A O w xs):(lK G g rs l).rel A (c' A rs O) w xs:=by
 have same:l.rel A (c' A rs O) w xs:=h.tr (Tr.less eI) (Pl.le.refl A);unfold lK;split
 ·rename_i r;cases hm:dz r rs
  ·exact same
  ·simp only[cond_true];split
   ·rename_i l' a hl;refine(He c d (all:=rs) hl h λf b=>?_).1;have e:a=[r]:=by
     simp only[iQ] at hl;split at hl
     rotate_left
     ·cases hl
     split at hl<;>cases hl;rfl
    subst e;simp at b;subst b;exact gL.1 hm
   ·exact same
 ·exact same
theorem OH (a:b6 G.K P) (b:bW A O w g): ∀ {ls:List (LV S)} {xs:Γb},bF A O w ls xs->bF A (c' A rs O) w (ls.map (lK G g rs)) xs
 |[],_,h=>h
 |_::_,_,⟨y,ys,h,h1,c⟩=>⟨y,ys,h,acV a b h1,OH a b c⟩
theorem nr {i:Nat} {X:Option (Ob S)}: ∀ {l:Γ},(i,X)∈iN G g rs l-> ∃a cs,g i=some (.box a cs)/\X=some (.box a (cs.map (lK G g rs)))
 |[],h=>by cases h
 |j::t,h=>by
  simp only[iN] at h;split at h
  ·rename_i a cs c;cases b:O9 rs cs<;>rw[b] at h
   ·exact nr h
   ·rcases τ.1 h with e|h
    ·cases e;exact⟨a,cs,c,rfl⟩
    ·exact nr h
  ·exact nr h
theorem acb (F:b6 G.K P) (u:bW A O w g) (hO:OB O w) (B: ∀r∈rs,∃e xs,g r=some (.row e xs)) (t:Fr [] w w') {l:Γ}:cf A O w g (iN G g rs l++fu rs) A (c' A rs O) w':=by
 have C:Tr (c' A rs O) w (c' A rs O) w':=t.dY;have bx: ∀ {i:Nat} {X:Ob S},(i,some X)∈iN G g rs l++fu rs-> ∃a cs b vs,g i=some (.box a cs)/\X= .box a (cs.map (lK G g rs))/\A.pl i=some (.pointer (some ⟨b,0,none⟩))/\bM w b a vs/\bF A O w cs vs/\b∈O:=by
  intro i X hi;rcases ψ.1 hi with hi|hi
  ·obtain⟨a,cs,h1,n⟩:=nr hi;cases n;obtain⟨p,hp,⟨b,vs,rfl,k,o⟩,x⟩:=u.al i _ h1;exact⟨a,cs,b,vs,h1,rfl,hp,k,o,x b rfl⟩
  ·have:=(eb.1 hi).2;cases this
 refine⟨Pl.le.refl A,(Tr.less eI).trans C,λb x=>Nat.lt_of_lt_of_le (hO b (eI b x)) t.size,λc m h=>⟨t.block c (hO c m) (by simp),hT.2 ⟨m,λr y p hp=>h r none p (ξ7 _ (eb.2 ⟨y,rfl⟩)) hp⟩⟩,?_,?_,?_,?_,λ_=>.inl rfl,?_⟩
 ·intro i X hi;obtain⟨a,cs,b,vs,h1,rfl,k,o,v,s⟩:=bx hi;have H:b∈c' A rs O:=hT.2 ⟨s,λr y p hp J=>by
   obtain⟨e,xs,z⟩:=B r y;exact u.dj i r _ _ _ _ b (λE=>by subst E;rw[h1] at z;cases z) h1 z k hp rfl J⟩
  refine⟨_,k,⟨b,vs,rfl,(t.block b (hO b s) (by simp)).trans o,jV C (Pl.le.refl A) (OH F u v)⟩,λc m=>?_⟩;have m:=eQ rfl m;cases m;exact⟨H,.inr ⟨i,_,_,_,hi,h1,k,.inl rfl⟩⟩
 ·intro i j X Y p q b I h1 n k o v s;obtain⟨_,_,_,_,d,rfl,a3,_⟩:=bx h1;obtain⟨_,_,_,_,f,rfl,L,_⟩:=bx n;exact u.dj i j _ _ p q b I d f k o (eQ rfl v) (eQ rfl s)
 ·intro i X Y h1 n;have D: ∀ {X:Option (Ob S)},(i,X)∈iN G g rs l++fu rs->(∃a cs,g i=some (.box a cs)/\X=some (.box a (cs.map (lK G g rs))))\/((∃e xs,g i=some (.row e xs))/\X=none):=λ{X} h=>by
   rcases ψ.1 h with h|h
   ·exact .inl (nr h)
   ·exact .inr ⟨B i (eb.1 h).1,(eb.1 h).2⟩
  rcases D h1 with⟨a,cs,d,rfl⟩|⟨⟨e,xs,d⟩,rfl⟩<;>rcases D n with⟨Q,M,f,rfl⟩|⟨⟨N,R,f⟩,rfl⟩
  ·rw[d] at f;cases f;rfl
  ·rw[d] at f;cases f
  ·rw[d] at f;cases f
  ·rfl
 ·intro i X p h1 _;rcases ψ.1 h1 with h1|h1
  ·obtain⟨a,cs,d,_⟩:=nr h1;exact⟨_,d⟩
  ·obtain⟨e,xs,d⟩:=B i (eb.1 h1).1;exact⟨_,d⟩
 ·intro i X Z h1 _ _;obtain⟨_,_,_,_,_,rfl,_⟩:=bx h1;rfl
end
structure j6 (G:bN S) (P:Program):Prop where
 C: ∀f a,vO G.C f=some a-> ∀ {R:Type} (aka:List (aB S)) (k:Rs S->Option R) (z:R),aka.all aB.pure=true->a.out aka k=some z-> ∃r,k r=some z/\ej G.K P f aka r
theorem abo {G:bN S} (q:b6 G.K P) (M:j6 G P) {E:Nat->List (aB S)->AH S->(Rs S->AH S->Γ->Option R)->Option R} (H:j5 G.K P E) {f nx:Nat} {aka:List (aB S)} {g:Nat->Option (Ob S)} {J:Value->Up S->AH S->Option R} {k:AV S->Up S->AH S->Option R}
  (h:FD G E f aka g nx J k=some z): ∃r up nw,jY J k r up nw=some z/\Kv G.K P f aka g nx r up nw:=by
 unfold FD at h;split at h
 ·rename_i L N;split at h
  ·rename_i D rs o;have T:D.all aB.pure=true:=by
    exact OO o
   obtain⟨r,hk,t,s⟩:=M.C f L N D _ z T h;cases r with
   |ret a=>
    simp only at hk;cases hp:a.pure<;>rw[hp] at hk
    ·cases hk
    simp only[cond_true] at hk;cases I:a.flat<;>rw[I] at hk
    ·simp only[cond_false] at hk;cases Q:dz f G.F<;>rw[Q] at hk
     ·refine⟨.ret a,fu rs,[],hk,t,λA O w xs j c hO i y=>?_⟩;obtain⟨n,B,x⟩:=lL q c (all:=rs) o j (λr m=>m);refine(s A (c' A rs O) w xs n (λb l=>hO b (eI b l)) (i.tr (Tr.less eI))).mono ?_;rintro e w' ⟨⟨v,h1,p⟩,d⟩;exact⟨A,c' A rs O,⟨v,h1,p⟩,by simpa[news] using acd hO x d⟩
     ·refine⟨.ret a,iN G g rs (ξs nx)++fu rs,[],hk,t,λA O w xs j c hO i y=>?_⟩;obtain⟨n,B,x⟩:=lL q c (all:=rs) o j (λr m=>m);refine(s A (c' A rs O) w xs n (λb l=>hO b (eI b l)) (i.tr (Tr.less eI))).mono ?_;rintro e w' ⟨⟨v,h1,p⟩,d⟩;exact⟨A,c' A rs O,⟨v,h1,p⟩,by simpa[news] using acb q c hO (OP o) d⟩
    ·refine⟨.ret a,[],[],hk,t,λA O w xs j c hO i y=>?_⟩;obtain⟨n,B,x⟩:=lL q c (all:=rs) o j (λr m=>m);refine(s A (c' A rs O) w xs n (λb l=>hO b (eI b l)) (i.tr (Tr.less eI))).mono ?_;rintro e w' ⟨⟨v,h1,p⟩,d⟩;exact⟨A,O,⟨v,h1,AV.lI I p⟩,FX hO d⟩
   |bD u=>
    refine⟨.bD u,[],[],hk,t,λA O w xs j c hO i y=>?_⟩;obtain⟨n,B,x⟩:=lL q c (all:=rs) o j (λr m=>m);refine(s A (c' A rs O) w xs n (λb l=>hO b (eI b l)) (i.tr (Tr.less eI))).mono ?_;rintro e w' ⟨h1,d⟩;exact⟨A,O,h1,FX hO d⟩
  ·exact NA H h
 ·exact NA H h
theorem abr {rr:Option Nat} {n f:Nat} {args:Array Value} {w:World} {Q b:Ending->World->Prop} (h:Calls P f args w Q) (d: ∀e w',Q e w'->b e w'):CallsIn (fw rr) n P f args w b:=by
 refine⟨trivial,λcs _=>?_⟩;obtain⟨e,cd,fr,i,a,c,hl⟩:=h cs;refine⟨e,cd,fr,d e cd i,?_,c,hl⟩;cases e with
 |outgrown=>exact a
 |returned v=>
  refine ζM (λm _=>?_) (ζw a);intro g _;exact⟨λh=>by simp[fw] at h,Or.inl trivial,λ_ _=>trivial,λ_ h=>by simp[fw] at h⟩
 |panicked j=>
  refine ζM (λm _=>?_) (ζw a);intro g _;exact⟨λh=>by simp[fw] at h,Or.inl trivial,λ_ _=>trivial,λ_ h=>by simp[fw] at h⟩
theorem afi {rr:Option Nat} {o:Oper} {a:Act} {w:World} {f:Nat} {args:Array Value} {post bD:Value->World->Prop} {Q:Ending->World->Prop} (b: ∀c,o.op≠ .defer c) (i:(execOp a.eval o).run P w= .ok (.enter f args) w) (d:Calls P f args w Q)
  (h: ∀e w',Q e w'->(∃v,e= .returned v/\post v w')\/(∃u,e= .panicked [{v:=u,recovered:=false}]/\bD u w')):iB P rr o a w post bD:=by
 refine⟨λ_ _=>trivial,?_⟩;rw[ζm _ _ _ b,i,Oper.uponIn_enter];refine⟨λh=>by simp[fw] at h,abr d λe w' g=>?_⟩;rcases h e w' g with⟨v,rfl,h1⟩|⟨u,rfl,h1⟩
 ·exact⟨v,rfl,h1⟩
 ·exact⟨u,rfl,rfl,h1⟩
theorem ahQ {o:Oper} {c:ζ8} {x:Operand} {a:Act} {w:World} {f:Nat} {fs cs:Γb} (e:o.op= .call c) (d:c.callee= .value x) (g:a.eval x= .func (.func f) fs.toArray cs.toArray) (he:eB P f):
  (execOp a.eval o).run P w= .ok (.enter f (fs++c.args.toList.map a.eval++cs).toArray) w:=by
 unfold execOp;rw[e];have b:fs.toArray++c.args.map a.eval++cs.toArray=(fs++c.args.toList.map a.eval++cs).toArray:=by
  rw[<-ζv];simp
 simp only[ξ,resolve,d,g,ζ0,ξh,π,invoke];rw[b];exact he _ w
theorem k4 {F:Fence} {n:Nat} {o:Oper} {a:Act} {w:World} {X g:Act->World->Prop} {Q f:Exit->Act->World->Prop} (h: ∀a w,X a w->g a w) (c: ∀e a w,Q e a w->f e a w) (j:o.wpIn F n P a w X Q):o.wpIn F n P a w g f:=by
 obtain⟨h1,b⟩:=j;refine⟨h1,?_⟩;unfold Oper.uponIn at b ⊢;split at b
 ·exact h _ _ b
 ·exact h _ _ b
 ·exact h _ _ b
 ·refine⟨b.1,b.2.1,λcs k=>?_⟩;obtain⟨e,w',fr,d,l⟩:=b.2.2 cs k;refine⟨e,w',fr,?_,l⟩;cases e with
  |returned v=>exact h _ _ d
  |panicked i=>exact c _ _ _ d
  |outgrown=>obtain⟨a',w',q⟩:=d;exact⟨a',w',c _ _ _ q⟩
 ·exact⟨b.1,b.2.mono λv w' q=>h _ _ q⟩
 ·refine⟨b.1,b.2.mono λe w' q=>?_⟩;cases e with
  |returned v=>exact h _ _ q
  |panicked i=>exact c _ _ _ q
  |outgrown=>obtain⟨a',w',q⟩:=q;exact⟨a',w',c _ _ _ q⟩
 ·exact c _ _ _ b
 ·exact b
theorem iB.mono {rr:Option Nat} {o:Oper} {a:Act} {w:World} {post d bD c:Value->World->Prop} (h:iB P rr o a w post bD) (h1: ∀v w',post v w'->d v w') (j: ∀v w',bD v w'->c v w'):iB P rr o a w d c:=
 k4 (λa' w' ⟨v,e,k⟩=>⟨v,e,h1 v w' k⟩) (λe a' w' b=>by
  cases e with
  |panic l=>obtain⟨u,f,g,i⟩:=b;exact⟨u,f,g,j u w' i⟩
  |_=>exact b.elim) h
def uA (K:Kit S) (P:Program) (o:Oper) (env:a1 S) (g:Nat->Option (Ob S)) (nx:Nat) (r:Rs S) (up:Up S) (nw:AH S):Prop:= ∀(rr:Option Nat) (A:Pl) (O:Γ) (w:World) (a:Act),cQ A O w env a->bW A O w g->OB O w->cN K O w->(∀j,j<nw.length->A.pl (nx+j)=none)->iB P rr o a w (λv w'=> ∃b,r= .ret b/\ ∃A' O',b.rel A' O' w' v/\cf A O w g (up++news nx nw) A' O' w') (λu w'=>r= .bD u/\ ∃A' O',cf A O w g (up++news nx nw) A' O' w')
theorem Sound.r {rr:Option Nat} {o:Oper} {env:a1 S} {g:Nat->Option (Ob S)} {nx:Nat} {b:AV S} {up:Up S} {nw:AH S} (h:Sound K P rr o env g nx b up nw):uA K P o env g nx (.ret b) up nw:=λrr A O w a h1 c d e f=>by
 exact(h rr A O w a h1 c d e f).mono (λv w' i=>⟨b,rfl,i⟩) (λu w' hu=>hu.elim)
theorem R8 {G:bN S} (t:b6 G.K P) (L:j6 G P) {s:Nat->List (aB S)->AH S->(Rs S->AH S->Γ->Option R)->Option R} (N:j5 G.K P s) {o:Oper} {env:a1 S} {g:Nat->Option (Ob S)} {nx:Nat} {q:Value->Up S->AH S->Option R} {k:AV S->Up S->AH S->Option R}
  (h:nQ G s env g nx o q k=some z): ∃r up nw,jY q k r up nw=some z/\uA G.K P o env g nx r up nw:=by
 have F:qU G.K env g nx k o.type o.op=some z-> ∃r up nw,jY q k r up nw=some z/\uA G.K P o env g nx r up nw:=λh=>by
  obtain⟨d,up,nw,h1,n⟩:=aeK (rr:=none) t h;exact⟨.ret d,up,nw,h1,n.r⟩
 unfold nQ at h;split at h
 ·rename_i c C;split at h
  ·rename_i x E;split at h
   rotate_left
   ·cases h
   rename_i f aka b;obtain⟨r,up,nw,h1,Q,n⟩:=abo t L N h;refine⟨r,up,nw,h1,λrr A O w a he B hO j V=>?_⟩;have M: ∀c,o.op≠ .defer c:=λc=>by rw[C];simp
   have key: ∀(fs cs:Γb),a.eval x= .func (.func f) fs.toArray cs.toArray->cI A O w aka (fs++c.args.toList.map a.eval++cs)->iB P rr o a w (λv w'=> ∃d,r= .ret d/\ ∃A' O',d.rel A' O' w' v/\cf A O w g (up++news nx nw) A' O' w') (λu w'=>r= .bD u/\ ∃A' O',cf A O w g (up++news nx nw) A' O' w'):=by
    intro fs cs T X;refine afi M (ahQ C E T Q) (n A O w _ X B hO j V) ?_;rintro e w' ⟨A',O',D,y⟩;cases r with
    |ret d=>
     obtain⟨v,rfl,l⟩:=D;exact .inl ⟨v,rfl,d,rfl,A',O',l,y⟩
    |bD u=>exact .inr ⟨u,D,rfl,A',O',y⟩
   unfold NB at b;rw[E] at b;simp only at b;split at b
   ·rename_i i hi;split at b
    rotate_left
    ·cases b
    rename_i I fs cs W;split at b
    rotate_left
    ·cases b
    rename_i H has;cases b;obtain⟨f1,ab,c1,J,l⟩:=cc he j hi;obtain⟨p,hp,⟨us,vs,rfl,Y,Z⟩,_⟩:=B.al i _ W;rw[J] at hp;cases hp;exact key us vs (by simpa using l) (Js (Js Y (lr he j has)) Z)
   ·rename_i u U;split at b
    rotate_left
    ·cases b
    rename_i I fs cs;cases m:(ζ fs.size 0&&ζ cs.size 0)<;>rw[m] at b
    ·cases b
    simp only[cond_true] at b;split at b
    rotate_left
    ·cases b
    rename_i H has;cases b;simp only[η] at m;have aa:=ξH (δ m.1);have z2:=ξH (δ m.2);subst aa;subst z2;have l:=eg (cc he j U);refine key [] [] l ?_;simpa using lr he j has
   ·cases b
  ·exact F h
 ·cases h
 ·exact F h
end
structure cT where
 A0:Pl
 O0:Γ
 w0:World
 nb:Nat
 live:Nat->Prop
 ex:Option Nat
 rr:Option Nat
def AX.code:AX->Option Code
 | .exit id=>some (.exit id)
 | .ret=>some .ret
 |_=>none
def HU:Obj->Bool
 | .loop _=>true
 | .deferred _=>true
 |_=>false
section
variable {S:bm} {K:Kit S} {P:Program} {N:Nat} {A A':Pl} {O O':Γ} {w w':World}
def ei (O:Γ) (w:World) (l:Nat) (o:Obj):Prop:=Rec w l o/\HU o=true/\l∈O
theorem dd.xz {X:Ob S} {p:Value} {l:Nat} {o:Obj} (h:dd A O w X p) (hl:w.heap[l]? =some o) (a:HU o=true):b4 p≠some l:=by
 intro hp;cases X with
 |box t cs=>
  obtain⟨b,vs,rfl,h1,_⟩:=h;cases hp;unfold bM at h1;rw[hl] at h1;cases h1;cases a
 |row e xs=>
  rcases gO h with⟨rfl,_⟩|⟨b,c,rfl⟩
  ·cases hp
  ·cases hp;obtain⟨cs,cur,h1,_⟩:=nV h;rw[hl] at h1;cases h1;cases a
 |map d g m=>
  obtain⟨b,rfl,es,c,h1,_⟩:=h;cases hp;rw[hl] at h1;cases h1;cases a
 |a7 f fs cs=>obtain⟨us,vs,rfl,_⟩:=h;cases hp
 |cZ s pos=>
  obtain⟨b,rfl,h1⟩:=h;cases hp;rw[hl] at h1;cases h1;cases a
 |cP t e bR=>
  obtain⟨b,c,cur,rfl,h1,_⟩:=h;cases hp;rw[hl] at h1;cases h1;cases a
theorem dd.aeB {X:Ob S} {p:Value} {l:Nat} {o:Obj} (h:dd A O w X p) (hl:w.heap[l]? =some o) (g:HU o=true): ¬cD w X p l:=by
 rintro (hp|hp)
 ·exact h.xz hl g hp
 ·cases X with
  |cP t e bR=>
   obtain⟨b,c,cur,rfl,h1,_,_,_,_,_,q,_⟩:=h;obtain⟨r,s,t',x,j,u,xs,k,a,m,n,f⟩:=hp;cases k;rw[h1] at a;cases a;have hu:=(q j u xs m n).1;rcases gO hu with⟨rfl,_⟩|⟨d,v,rfl⟩
   ·cases f
   ·cases f;obtain⟨cs,y,i,_⟩:=nV hu;rw[hl] at i;cases i;cases g
  |_=>cases hp
theorem ei.cg {g:Nat->Option (Ob S)} {ef:Up S} {l:Nat} {o:Obj} (h:ei O w l o) (f:bW A O w g) (e:cf A O w g ef A' O' w'):ei O' w' l o:=by
 obtain⟨h1,a,c⟩:=h;obtain⟨j,k⟩:=e.keep l c λi X p hi hp=>by
  obtain⟨Z,d⟩:=e.lv i X p hi hp;obtain⟨m,b,hR,_⟩:=f.al i Z d;rw[hp] at b;cases b;exact hR.xz h1.1 a
 exact⟨⟨j.trans h1.1,h1.2⟩,a,k⟩
def c8 (n0:Nat) (A:Pl) (O:Γ) (w:World):List (LV S)->List Deferred->Prop
 |df,[]=>df=[]
 |df,d::ds=>(∃D,d=Dc.mark D/\(n0<=D/\Dc.mark D∉ds)/\ei O w D (.deferred (some []))/\c8 n0 A O w df ds)\/
  (∃i r f u c,df= .a7 i::r/\A.pl i=some (.func f u c)/\d= {target:=.fn f c,args:=u}/\c8 n0 A O w r ds)
def ew (a:hC S) (fn:Nat) (tm:Array Value) (D:Nat):Loop:=
 {state:=(match a.fe with|none=>.ready|some _=>.done),pending:=a.fe.bind AX.code,fn:=fn,tmps:=tm,params:=a.ps.toArray,assign:=a.gv,body:=a.body,defers:=D}
def jr (P:Program) (B:cT) (O:Γ) (w:World):Option (hC S)->Prop
 |none=>True
 |some a=> ∃l fn tm D,B.A0.ls=some l/\B.ex=some l/\ei O w l (.loop (ew a fn tm D))/\ei O w D (.deferred (some []))/\cQ B.A0 O w a.env {tmps:=tm,defers:=[]}/\tm.size=a.J.fn.ntmps
structure bp (K:Kit S) (P:Program) (N:Nat) (B:cT) (A:Pl) (O:Γ) (w:World) (st:AS S) (a:Act):Prop where
 size:a.tmps.size=N
 env:cQ A O w st.env a
 rel:bW A O w (aE st.h)
 ob:OB O w
 c_:cN K O w
 free: ∀i,st.h.length<=i->A.pl i=none
 nb:st.nb=B.nb
 le:B.nb<=st.h.length
 tr:Tr B.O0 B.w0 O w
 pl: ∀i,i<B.nb->A.pl i=B.A0.pl i
 ls:A.ls=B.A0.ls
 lv: ∀i X,i<B.nb->aE st.h i=some X->B.live i
 cl: ∀b,b∈B.O0->B.ex≠some b->(∀i∈st.dt,B.live i-> ∀p,B.A0.pl i=some p->b4 p≠some b)->w.heap[b]? =B.w0.heap[b]? /\b∈O/\ ∀i X p,B.nb<=i->aE st.h i=some X->A.pl i=some p-> ¬cD w X p b
 df:c8 B.w0.heap.size A O w st.df a.defers
 lp:jr P B O w st.lp
 dl:(st.lp.isSome||st.inr)=true->a.defers=[]
 hi: ∀i,B.nb<=i->B.A0.pl i=none
 o0:OB B.O0 B.w0
 rr:st.inr=false->B.rr=none
 nt: ∀i X,i<B.nb->aE st.h i=some X->X.nt=true
theorem c8.cg {n0:Nat} {g:Nat->Option (Ob S)} {ef:Up S} (j:bW A O w g) (e:cf A O w g ef A' O' w'): ∀ {ds:List Deferred} {df:List (LV S)},c8 n0 A O w df ds->c8 n0 A' O' w' df ds
 |[],df,h=>h
 |d::ds,df,h=>by
  rcases h with⟨D,h1,k,a,b⟩|⟨i,r,f,u,c,h1,a,b,l⟩
  ·exact .inl ⟨D,h1,k,a.cg j e,c8.cg j e b⟩
  ·exact .inr ⟨i,r,f,u,c,h1,e.le.at_ _ _ a,b,c8.cg j e l⟩
theorem jr.cg {B:cT} {g:Nat->Option (Ob S)} {ef:Up S} (a:bW A O w g) (e:cf A O w g ef A' O' w'): ∀ {lp:Option (hC S)},jr P B O w lp->jr P B O' w' lp
 |none,h=>h
 |some j,⟨l,fn,tm,D,h1,b,c,d,f,i⟩=>⟨l,fn,tm,D,h1,b,c.cg a e,d.cg a e,f.tr e.tr (Pl.le.refl _),i⟩
theorem jB {nb x:Nat}: ∀ {l dt:Γ},x∈dt->x∈e3 nb dt l
 |[],dt,h=>h
 |i::r,dt,h=>by
  simp only[e3];refine jB ?_;cases (υ i nb&&!(dz i dt)) with
  |true=>exact ξ9 _ h
  |false=>exact h
theorem kq {nb x:Nat} (a:x<nb): ∀ {l dt:Γ},x∈l->x∈e3 nb dt l
 |i::r,dt,h=>by
  simp only[e3];rcases τ.1 h with e|h
  ·subst e;refine jB ?_;rw[ο.mpr a,ξW];cases hm:dz x dt with
   |true=>exact gL.1 hm
   |false=>exact ξ7 _ ν
  ·exact kq a h
theorem jg: ∀ {up:Up S} {h:AH S},(eA h up).length=h.length
 |[],h=>rfl
 |(i,X)::r,h=>by simp[eA,jg]
theorem T': ∀ {up:Up S} {h:AH S} {i:Nat},(∀j∈keys up,j<h.length)->i<h.length->aE (eA h up) i=b9 (aE h) up i
 |[],h,i,_,_=>rfl
 |(j,X)::r,h,i,hk,hi=>by
  have c:=hk j (by simp[keys]);rw[eA,T' (λq a=>by rw[ξf];exact hk q (by simp[keys,a])) (by rw[ξf];exact hi)];simp only[b9]
  congr 1
  funext q
  unfold aE;rw[ξE]
  by_cases a:j=q
  ·subst a;simp[c];cases X<;>rfl
  ·have d:ζ j q=false:=by
    cases b:ζ j q with
    |false=>rfl
    |true=>exact absurd (δ b) a
   simp[a,d]
theorem nE {i:Nat}: ∀ {up:Up S},i∈keys up↔ ∃X,(i,X)∈up
 |[]=>by simp[keys]
 |(j,X)::r=>by
  simp only[keys,τ,nE,ξl];constructor
  ·rintro (rfl|⟨Y,h⟩)
   ·exact⟨X,.inl ⟨rfl,rfl⟩⟩
   ·exact⟨Y,.inr h⟩
  ·rintro ⟨Y,⟨rfl,rfl⟩|h⟩
   ·exact .inl rfl
   ·exact .inr ⟨Y,h⟩
theorem UP {g:Nat->Option (Ob S)}: ∀ {u v:Up S},b9 g (u++v)=b9 (b9 g u) v
 |[],v=>rfl
 |(j,X)::r,v=>by
  funext i
  simp only[ζ1,b9];rw[UP]
theorem aeu {n:Nat} {nw:AH S} {i:Nat} {X Y:Option (Ob S)} (h1:(i,X)∈news n nw) (c:(i,Y)∈news n nw):X=Y:=by
 obtain⟨j,b,a2⟩:=iY.1 h1;obtain⟨d,a,e⟩:=iY.1 c;have:j=d:=by omega
 subst this;rw[b] at a;exact ξB a
theorem uW {h:AH S} {up:Up S} {nw:AH S} (hk: ∀j∈keys up,j<h.length):aE (eA h up++nw)=b9 (aE h) (up++news h.length nw):=by
 funext i
 rw[UP]
 by_cases hi: ∃X,(i,X)∈news h.length nw
 ·obtain⟨X,hX⟩:=hi;rw[me hX λY c=>aeu c hX];obtain⟨j,h1,rfl⟩:=iY.1 hX;unfold aE;rw[ξb (by rw[jg];omega),jg,ξV,h1];cases X<;>rfl
 ·rw[ee (λX hX=>hi ⟨X,hX⟩)];rcases ω i h.length with a|d
  ·rw[<-T' hk a];unfold aE;rw[φ (by rw[jg];exact a)]
  ·have hn:(eA h up++nw)[i]? =none:=by
    rw[ξb (by rw[jg];omega),jg,ξS];rcases ω (i-h.length) nw.length with h1|h1
    ·exact absurd ⟨nw[i-h.length],iY.2 ⟨i-h.length,σ h1,by omega⟩⟩ hi
    ·exact h1
   have b:aE h i=none:=by unfold aE;rw[ξg d]
   rw[ee (λX hX=>by have:=hk i (nE.2 ⟨X,hX⟩);omega),b];unfold aE;rw[hn]
theorem lq {h:AH S} {up:Up S} (a:e2 (aE h) up=true): ∀j∈keys up,∃X,aE h j=some X:=by
 intro j b;unfold e2 at a;rw[ξ4] at a;have:=a j b;cases c:aE h j with
 |none=>rw[c] at this;cases this
 |some X=>exact⟨X,rfl⟩
variable {B:cT} {st:AS S} {a:Act}
theorem bp.cg {up:Up S} {nw:AH S} (h:bp K P N B A O w st a) (l:e2 (aE st.h) up=true) (e:cf A O w (aE st.h) (up++news st.h.length nw) A' O' w'):bp K P N B A' O' w' (st.cg up nw) a:=by
 have hk: ∀j∈keys up,j<st.h.length:=λj m=>by
  obtain⟨X,hX⟩:=lq l j m;exact fc hX
 have s:=uW (nw:=nw) hk;have hlen:(eA st.h up++nw).length=st.h.length+nw.length:=by rw[χ,jg]
 have u: ∀i X,(i,X)∈up++news st.h.length nw->i∈keys up\/st.h.length<=i:=by
  intro i X hi;rcases ψ.1 hi with hi|hi
  ·exact .inl (nE.2 ⟨X,hi⟩)
  ·obtain⟨j,_,rfl⟩:=iY.1 hi;exact .inr (ξJ _ _)
 have low: ∀i,i<st.h.length->A'.pl i=A.pl i:=by
  intro i hi;rcases e.pl i with h1|⟨h1,X,hX⟩
  ·exact h1
  ·rcases u i X hX with o|o
   ·obtain⟨Y,d⟩:=lq l i o;obtain⟨p,hp,_⟩:=h.rel.al i Y d;rw[h1] at hp;cases hp
   ·omega
 have D:=h.rel.cg h.ob e;rw[<-s] at D;refine⟨h.size,h.env.tr e.tr e.le,D,e.ob,h.c_.tr e.tr,?_,h.nb,?_,h.tr.trans e.tr,?_,e.le.ls.trans h.ls,?_,?_,c8.cg h.rel e h.df,jr.cg h.rel e h.lp,h.dl,h.hi,h.o0,h.rr,?_⟩
 ·intro i hi;have hi:st.h.length+nw.length<=i:=by rw[<-hlen];exact hi
  rcases e.pl i with h1|⟨h1,X,hX⟩
  ·rw[h1];exact h.free i (by omega)
  ·rcases ψ.1 hX with hX|hX
   ·have:=hk i (nE.2 ⟨X,hX⟩);omega
   ·obtain⟨j,o,rfl⟩:=iY.1 hX;have:=(ε.1 o).1;omega
 ·show B.nb<=(eA st.h up++nw).length;rw[hlen];have:=h.le;omega
 ·intro i hi;have:=h.le;rw[low i (by omega)];exact h.pl i hi
 ·intro i X hi hX;rw[show aE (st.cg up nw).h=b9 (aE st.h) (up++news st.h.length nw) from s] at hX;have:=h.le
  by_cases g: ∃Y,(i,Y)∈up++news st.h.length nw
  ·obtain⟨Y,d⟩:=g;rcases u i Y d with h1|h1
   ·obtain⟨Z,f⟩:=lq l i h1;exact h.lv i Z hi f
   ·omega
  ·rw[ee λY d=>g ⟨Y,d⟩] at hX;exact h.lv i X hi hX
 ·intro b H L y;have J: ∀i∈st.dt,B.live i-> ∀p,B.A0.pl i=some p->b4 p≠some b:=λi hi=>y i (jB hi);obtain⟨c1,c2,v⟩:=h.cl b H L J;have E: ∀i X p,(i,X)∈up++news st.h.length nw->A.pl i=some p->b4 p≠some b:=by
   intro i X p hi hp;rcases u i X hi with h1|h1
   ·rcases ω i B.nb with n|r
    ·obtain⟨Y,d⟩:=lq l i h1;exact y i (kq (by rw[h.nb];exact n) h1) (h.lv i Y n d) p (by rw[<-h.pl i n];exact hp)
    ·obtain⟨Y,d⟩:=lq l i h1;exact λk=>v i Y p r d hp (.inl k)
   ·rw[h.free i h1] at hp;cases hp
  obtain⟨Q,R⟩:=e.keep b c2 E;have T: ∀i X p Z,(i,X)∈up++news st.h.length nw->aE st.h i=some Z->A.pl i=some p-> ¬cD w Z p b:=by
   intro i X p Z hi f hp k;rcases ω i B.nb with n|r
   ·exact E i X p hi hp (eQ (h.nt i Z n f) k)
   ·exact v i Z p r f hp k
  refine⟨Q.trans c1,R,?_⟩;intro i X p hi hX hp k;rw[show aE (st.cg up nw).h=b9 (aE st.h) (up++news st.h.length nw) from s] at hX
  by_cases g: ∃Y,(i,Y)∈up++news st.h.length nw
  ·obtain⟨Y,d⟩:=g;rw[me d λZ f=>e.nd i Z Y f d] at hX;subst hX;obtain⟨U,C,_,I⟩:=e.al i X d;rw[hp] at C;cases C;rcases(I b k).2 with r|⟨j,Z,q,V,m,G,t,M⟩
   ·have:=h.ob b c2;omega
   ·exact T j Z q V m G t M
  ·have z: ∀Y,(i,Y)∉up++news st.h.length nw:=λY d=>g ⟨Y,d⟩;rw[ee z] at hX;rw[low i (fc hX)] at hp;refine v i X p hi hX hp (ky (λc x=>?_) k);refine(e.keep c (h.rel.gE hX hp (.inl x)) λj Y q m t=>?_).1;obtain⟨Z,f⟩:=e.lv j Y q m t;exact h.rel.dj i j X Z p q c (λF=>by subst F;exact z Y m) hX f hp t x
 ·intro i X hi hX;rw[show aE (st.cg up nw).h=b9 (aE st.h) (up++news st.h.length nw) from s] at hX;have:=h.le
  by_cases g: ∃Y,(i,Y)∈up++news st.h.length nw
  ·obtain⟨Y,d⟩:=g;rcases u i Y d with h1|h1
   ·obtain⟨Z,f⟩:=lq l i h1;rw[me d λZ f=>e.nd i Z Y f d] at hX;subst hX;exact e.nt i X Z d f (h.nt i Z hi f)
   ·omega
  ·rw[ee λY d=>g ⟨Y,d⟩] at hX;exact h.nt i X hi hX
theorem bp.put {d:Nat} {g:AV S} {v:Value} (h:bp K P N B A O w st a) (j:υ d N=true) (m:g.rel A O w v):bp K P N B A O w {st with env:=(d,g)::st.env} (a.put (some d) v):=by
 have k:d<a.tmps.size:=by rw[h.size];exact ο.mp j
 refine⟨by simp[ζz,h.size],?_,h.rel,h.ob,h.c_,h.free,h.nb,h.le,h.tr,h.pl,h.ls,h.lv,h.cl,h.df,h.lp,h.dl,h.hi,h.o0,h.rr,h.nt⟩;intro s b c;simp only[a1.get] at c;cases f:ζ d s with
 |true=>
  rw[f] at c;have i:=δ f;subst i;simp only[cond_true,ι] at c;subst c;simpa[ζz,θ,k] using m
 |false=>
  rw[f] at c;have l:d≠s:=λe=>by subst e;simp at f
  have:=h.env s b c;simp only[ζz,θ,ξ0 l] at this ⊢;exact this
end
section
variable {S:bm} {P:Program} {R:Type} {z:R} {N:Nat}
def AX.of:AX->Exit
 | .normal=>.normal
 | .exit id=>.exit id
 | .ret=>.ret
 | .bD u=>.panic [{v:=u,recovered:=false}]
def hE (K:Kit S) (P:Program) (N:Nat) (B:cT) (e:AX) (st:AS S) (x:Exit) (a:Act) (w:World):Prop:=x=e.of/\ ∃A O,bp K P N B A O w st a
inductive NP|go|bD (u:Value)
def NP.x:NP->AX
 | .go=>.normal
 | .bD u=>.bD u
def qS (a:Value->AS S->Option R) (k:AS S->Option R):NP->AS S->Option R
 | .go,st=>k st
 | .bD u,st=>a u st
def uE (K:Kit S) (P:Program) (e:List (aB S)->AS S->(Bool->AS S->Option R)->Option R):Prop:= ∀(aka:List (aB S)) (st:AS S) (k:Bool->AS S->Option R) (z:R),e aka st k=some z-> ∃b d,k b d=some z/\ ∀(N:Nat) (B:cT) (o:Oper) (c:ζ8) (x:Operand) (A:Pl) (O:Γ) (w:World) (a:Act) (l:Nat),o.op= .call c->c.callee= .value x->a.eval x= .func (.yield l) #[] #[]->A.ls=some l->cI A O w aka (c.args.toList.map a.eval)->bp K P N B A O w st a->iB P B.rr o a w (λv w'=>v= .bool b/\ ∃A' O',bp K P N B A' O' w' d a) (λ_ _=>False)
theorem Vd {ops:Array Oper} {o:Oper} {a:Act} {j d:Nat} {b c:Bool} {g:Oper} (k:o.guard=some (j,b)) (l:ops[j]? =some g) (i:g.dst=some d) (h:υ d a.tmps.size=true) (e:a.tmps.getD d undef= .bool c):ξ1 o (yielded ops a.tmps)=(c==b):=by
 have f:d<a.tmps.size:=ο.mp h;rw[θ,κ f] at e;simp only[ξp] at e;unfold ξ1;rw[k];simp[yielded,l,i,f,e]
theorem UO {ops:Array Oper} {o:Oper} {a:Act} {j d:Nat} {b:Bool} {f:Oper} {xs:Array Value} (i:o.guard=some (j,b)) (k:ops[j]? =some f) (h:f.dst=some d) (g:υ d a.tmps.size=true) (c:a.tmps.getD d undef= .tuple xs):ξ1 o (yielded ops a.tmps)=false:=by
 have e:d<a.tmps.size:=ο.mp g;rw[θ,κ e] at c;simp only[ξp] at c;unfold ξ1;rw[i];simp[yielded,k,h,e,c]
theorem bp.ad4 {K:Kit S} {B:cT} {A:Pl} {O:Γ} {w:World} {st:AS S} {a:Act} {d:Nat} {c:Bool} (h:bp K P N B A O w st a) (i:a1.get st.env d=some (.s (.one (.v (.bool c))))):bp K P N B A O w {st with env:=(d,.s (.one (.v (.bool c))))::st.env} a:=by
 refine⟨h.size,?_,h.rel,h.ob,h.c_,h.free,h.nb,h.le,h.tr,h.pl,h.ls,h.lv,h.cl,h.df,h.lp,h.dl,h.hi,h.o0,h.rr,h.nt⟩;intro s b e;simp only[a1.get] at e;cases f:ζ d s with
 |true=>
  rw[f] at e;have g:=δ f;subst g;simp only[cond_true,ι] at e;subst e;exact h.env _ _ i
 |false=>rw[f] at e;exact h.env s b e
theorem aa3 {K:Kit S} {ops:Array Oper} {o:Oper} {st:AS S} {yes no:AS S->Option R} (h:mQ N ops o.guard st yes no=some z):
  ∃i,i.h=st.h/\(∀B A O w a,bp K P N B A O w st a->bp K P N B A O w i a)/\
   ((yes i=some z/\ ∀B A O w a,bp K P N B A O w st a->ξ1 o (yielded ops a.tmps)=true)\/(no i=some z/\ ∀B A O w a,bp K P N B A O w st a->ξ1 o (yielded ops a.tmps)=false)):=by
 unfold mQ at h;split at h
 ·rename_i g;exact⟨st,rfl,λ_ _ _ _ _ h=>h,.inl ⟨h,λB A O w a _=>by unfold ξ1;rw[g]⟩⟩
 ·rename_i j b g;split at h
  rotate_left
  ·cases h
  rename_i r n;split at h
  rotate_left
  ·cases h
  rename_i d m;cases k:υ d N<;>rw[k] at h
  ·cases h
  simp only[cond_true] at h;have l: ∀ {B A O w a},bp K P N B A O w st a->υ d a.tmps.size=true:=λh=>by rw[h.size];exact k
  split at h
  ·rename_i c f;have p: ∀ {B A O w a},bp K P N B A O w st a->a.tmps.getD d undef= .bool c:=λ{B A O w a} h=>eg (S:=S) (A:=A) (O:=O) (w:=w) (h.env d _ f);refine⟨{st with env:=(d,.s (.one (.v (.bool c))))::st.env},rfl,λB A O w a h=>h.ad4 f,?_⟩;have w1: ∀ {B A O w a},bp K P N B A O w st a->ξ1 o (yielded ops a.tmps)=(c==b):=λh=>Vd g n m (l h) (p h);cases c<;>cases b<;>simp only[cond_true,cond_false] at h
   ·exact .inl ⟨h,λB A O w a e=>by rw[w1 e];rfl⟩
   ·exact .inr ⟨h,λB A O w a e=>by rw[w1 e];rfl⟩
   ·exact .inr ⟨h,λB A O w a e=>by rw[w1 e];rfl⟩
   ·exact .inl ⟨h,λB A O w a e=>by rw[w1 e];rfl⟩
  ·rename_i f;refine⟨st,rfl,λB A O w a h=>h,.inr ⟨h,λB A O w a e=>?_⟩⟩;obtain⟨xs,q,_⟩:=e.env d _ f;exact UO g n m (l e) q
  ·cases h
theorem I5 {K:Kit S} {o:Oper} {st:AS S} {f:AV S} {k:AS S->Option R} (h:iq N o st f k=some z): ∃b,k b=some z/\b.h=st.h/\b.dt=st.dt/\ ∀B A O w a v,bp K P N B A O w st a->f.rel A O w v->bp K P N B A O w b (a.put o.dst v):=by
 unfold iq at h;split at h
 ·rename_i d c;cases g:υ d N<;>rw[g] at h
  ·cases h
  ·exact⟨_,h,rfl,rfl,λB A O w a v e i=>by rw[c];exact e.put g i⟩
 ·rename_i c;exact⟨st,h,rfl,rfl,λB A O w a v e i=>by rw[c];exact e⟩
theorem aa0 {G:bN S} (X:b6 G.K P) (W:j6 G P) {C:Nat->List (aB S)->AH S->(Rs S->AH S->Γ->Option R)->Option R} (Z:j5 G.K P C) {Q:List (aB S)->AS S->(Bool->AS S->Option R)->Option R} (ag:uE G.K P Q) {o:Oper} {st:AS S} {y:Value->AS S->Option R} {k:AS S->Option R}
  (h:Fq G C Q N o st y k=some z): ∃e g,qS y k e g=some z/\ ∀B A O w a,bp G.K P N B A O w st a->
   o.wpIn (fw B.rr) 0 P a w (λa' w'=>e= .go/\ ∃A' O',bp G.K P N B A' O' w' g a') (λx a' w'=> ∃u,e= .bD u/\x=(AX.bD u).of/\ ∃A' O',bp G.K P N B A' O' w' g a'):=by
 have plain:nQ G C st.env (aE st.h) st.h.length o (λu up nw=>bif e2 (aE st.h) up then y u (st.cg up nw) else none) (λa up nw=>bif e2 (aE st.h) up then iq N o (st.cg up nw) a k else none)=some z-> ∃e g,qS y k e g=some z/\ ∀B A O w a,bp G.K P N B A O w st a->
   o.wpIn (fw B.rr) 0 P a w (λa' w'=>e= .go/\ ∃A' O',bp G.K P N B A' O' w' g a') (λx a' w'=> ∃u,e= .bD u/\x=(AX.bD u).of/\ ∃A' O',bp G.K P N B A' O' w' g a'):=by
  intro h;obtain⟨r,up,nw,h1,E⟩:=R8 X W Z h;have go: ∀B A O w a,bp G.K P N B A O w st a->_:=λB A O w a d=>E B.rr A O w a d.env d.rel d.ob d.c_ (λj _=>d.free _ (ξJ _ _));cases r with
  |ret ah=>
   simp only[jY] at h1;cases s:e2 (aE st.h) up<;>rw[s] at h1
   ·cases h1
   simp only[cond_true] at h1;obtain⟨g,hk,_,_,H⟩:=I5 (K:=G.K) (P:=P) h1;refine⟨.go,g,hk,λB A O w a d=>k4 ?_ ?_ (go B A O w a d)⟩
   ·rintro a' w' ⟨v,rfl,T,e,A',O',m,F⟩;cases e;exact⟨rfl,A',O',H B A' O' w' a v (d.cg s F) m⟩
   ·intro x a' w' n;cases x with
    |panic L=>obtain⟨u,_,_,e,_⟩:=n;cases e
    |_=>exact n.elim
  |bD u=>
   simp only[jY] at h1;cases U:u.oneCell'<;>rw[U] at h1
   ·cases h1
   simp only[cond_true] at h1;cases s:e2 (aE st.h) up<;>rw[s] at h1
   ·cases h1
   simp only[cond_true] at h1;refine⟨.bD u,_,h1,λB A O w a d=>k4 ?_ ?_ (go B A O w a d)⟩
   ·rintro a' w' ⟨v,rfl,T,e,_⟩;cases e
   ·intro x a' w' n;cases x with
    |panic L=>
     obtain⟨ai,rfl,rfl,e,A',O',F⟩:=n;cases e;exact⟨u,rfl,rfl,A',O',d.cg s F⟩
    |_=>exact n.elim
 unfold Fq at h;split at h
 ·
  rename_i c p;split at h
  rotate_left
  ·cases h
  rename_i x J;split at h
  rotate_left
  ·cases h
  rename_i i Y hl M ab aa;refine⟨.go,_,h,λB A O w a d=>⟨λ_ _=>trivial,?_⟩⟩;have af:=d.rr M;rw[af];obtain⟨f,u,D,V,m⟩:=cc d.env d.c_ hl;have m:a.eval x= .func f u D:=by simpa using m
  have I:(o.semAt (fw none).round a.eval).run P w= .ok (.defer {target:=.fn f D,args:=u}) w:=by
   show(o.semAt none a.eval).run P w=_;unfold Oper.semAt execOp;rw[p];have:c.args= #[]:=fJ Y;simp[resolve,J,m,ζ0,this]
  rw[I,Oper.uponIn_defer];refine⟨rfl,A,O,?_⟩;rw[aa];exact⟨d.size,d.env,d.rel,d.ob,d.c_,d.free,d.nb,d.le,d.tr,d.pl,d.ls,d.lv,d.cl,.inr ⟨i,st.df,f,u,D,rfl,V,rfl,d.df⟩,d.lp,(λh=>by rw[show((st.lp.isSome||st.inr)=true)=(((none:Option (hC S)).isSome||false)=true) by rw[ab,M]] at h;cases h),d.hi,d.o0,d.rr,d.nt⟩
 ·
  rename_i x p;split at h
  rotate_left
  ·cases h
  rename_i t u hl;refine⟨.bD (.iface t u),_,h,λB A O w a d=>⟨λ_ _=>trivial,?_⟩⟩;have m:=eg (cc d.env d.c_ hl);rw[ζm _ _ _ (by rw[p];simp)];have I:(execOp a.eval o).run P w= .halt (.panic (.iface t u)) w:=by
   unfold execOp;rw[p];simp only[ξ,m,Instr.panic];rfl
  rw[I,Oper.uponIn_panic];exact⟨_,rfl,rfl,A,O,d⟩
 ·rename_i c p;cases q:Ks G st.env c<;>rw[q] at h
  ·exact plain h
  ·simp only[cond_true] at h;unfold Ks at q;split at q
   rotate_left
   ·cases q
   rename_i x J;split at q
   rotate_left
   ·cases q
   rename_i hl;split at h
   rotate_left
   ·cases h
   rename_i aka has;obtain⟨b,st1,h1,E⟩:=ag _ _ _ _ h;obtain⟨g,hk,_,_,H⟩:=I5 (K:=G.K) (P:=P) h1;refine⟨.go,g,hk,λB A O w a d=>?_⟩;obtain⟨l,ad,m⟩:=cc d.env d.c_ hl;refine k4 ?_ ?_ (E N B o c x A O w a l p J (by simpa using m) ad (lr d.env d.c_ has) d)
   ·rintro a' w' ⟨v,rfl,rfl,A',O',ae⟩;exact⟨rfl,A',O',H B A' O' w' a _ ae ⟨rfl,rfl⟩⟩
   ·intro x a' w' n;cases x with
    |panic L=>obtain⟨u,_,_,e⟩:=n;exact e.elim
    |_=>exact n.elim
 ·exact plain h
theorem Fs {G:bN S} (f:b6 G.K P) (d:j6 G P) {t:Nat->List (aB S)->AH S->(Rs S->AH S->Γ->Option R)->Option R} (g:j5 G.K P t) {D:List (aB S)->AS S->(Bool->AS S->Option R)->Option R} (r:uE G.K P D) {ops:Array Oper} {y:Value->AS S->Option R}:
  ∀ {l:Γ} {st:AS S} {k:AS S->Option R},pd G t D N ops y l st k=some z-> ∃e C,qS y k e C=some z/\ ∀B A O w a,bp G.K P N B A O w st a->wpOpsIn (fw B.rr) 0 P ops (hE G.K P N B e.x C) l a w
 |[],st,k,h=>⟨.go,st,h,λB A O w a b=>⟨rfl,A,O,b⟩⟩
 |i::l,st,k,h=>by
  simp only[pd] at h;split at h
  rotate_left
  ·cases h
  rename_i o m;obtain⟨st1,M,q,E⟩:=aa3 (K:=G.K) (P:=P) h;rcases E with⟨J,hw⟩|⟨hn,hw⟩
  ·obtain⟨e,st2,hk,v⟩:=aa0 f d g r J;cases e with
   |bD u=>
    refine⟨.bD u,st2,hk,λB A O w a b=>?_⟩;simp only[wpOpsIn,m];rw[if_pos (hw B A O w a b)];refine k4 ?_ ?_ (v B A O w a (q B A O w a b))
    ·rintro a' w' ⟨e,_⟩;cases e
    ·rintro x a' w' ⟨L,e,I,A',O',n⟩;cases e;exact⟨I,A',O',n⟩
   |go=>
    obtain⟨c,s,j,p⟩:=Fs f d g r hk;refine⟨c,s,j,λB A O w a b=>?_⟩;simp only[wpOpsIn,m];rw[if_pos (hw B A O w a b)];refine k4 ?_ ?_ (v B A O w a (q B A O w a b))
    ·rintro a' w' ⟨_,A',O',n⟩;exact p B A' O' w' a' n
    ·rintro x a' w' ⟨L,e,_⟩;cases e
  ·obtain⟨st2,F,_,_,H⟩:=I5 (K:=G.K) (P:=P) hn;obtain⟨c,s,j,p⟩:=Fs f d g r F;refine⟨c,s,j,λB A O w a b=>?_⟩;simp only[wpOpsIn,m];rw[if_neg (by rw[hw B A O w a b];simp)];exact⟨λ_ _=>trivial,p B A O w _ (H B A O w a undef (q B A O w a b) ⟨[],rfl,rfl⟩)⟩
end
section
variable {S:bm} {K:Kit S} {P:Program} {N:Nat} {A A':Pl} {O O':Γ} {w w':World} {B:cT}
structure fV (K:Kit S) (P:Program) (N:Nat) (B:cT) (A:Pl) (O:Γ) (w:World) (g:Nat->Option (Ob S)) (free dt:Nat->Prop) (c:Option (hC S)) (inr:Bool) (df:List (LV S)) (a:Act):Prop where
 size:a.tmps.size=N
 rel:bW A O w g
 ob:OB O w
 c_:cN K O w
 iM: ∀i,free i->A.pl i=none
 low: ∀i,i<B.nb-> ¬free i
 tr:Tr B.O0 B.w0 O w
 pl: ∀i,i<B.nb->A.pl i=B.A0.pl i
 ls:A.ls=B.A0.ls
 lv: ∀i X,i<B.nb->g i=some X->B.live i
 cl: ∀b,b∈B.O0->B.ex≠some b->(∀i,dt i->B.live i-> ∀p,B.A0.pl i=some p->b4 p≠some b)->w.heap[b]? =B.w0.heap[b]? /\b∈O/\ ∀i X p,B.nb<=i->g i=some X->A.pl i=some p-> ¬cD w X p b
 df:c8 B.w0.heap.size A O w df a.defers
 lp:jr P B O w c
 dl:(c.isSome||inr)=true->a.defers=[]
 hi: ∀i,B.nb<=i->B.A0.pl i=none
 o0:OB B.O0 B.w0
 rr:inr=false->B.rr=none
 nt: ∀i X,i<B.nb->g i=some X->X.nt=true
variable {st:AS S} {a:Act}
theorem bp.toC (h:bp K P N B A O w st a):fV K P N B A O w (aE st.h) (λi=>st.h.length<=i) (λi=>i∈st.dt) st.lp st.inr st.df a:=
 ⟨h.size,h.rel,h.ob,h.c_,h.free,λi hi h1=>absurd h1 (by have:=h.le;omega),h.tr,h.pl,h.ls,h.lv,h.cl,h.df,h.lp,h.dl,h.hi,h.o0,h.rr,h.nt⟩
theorem fV.Ut {g:Nat->Option (Ob S)} {free dt:Nat->Prop} (h:fV K P N B A O w g free dt st.lp st.inr st.df a) (k: ∀i,aE st.h i=g i) (j: ∀i,st.h.length<=i->free i) (f: ∀i,i<B.nb->dt i->i∈st.dt) (hn:st.nb=B.nb) (hle:B.nb<=st.h.length) (he:cQ A O w st.env a):bp K P N B A O w st a:=by
 have e:aE st.h=g:=funext k;exact⟨h.size,he,by rw[e];exact h.rel,h.ob,h.c_,λi hi=>h.iM i (j i hi),hn,hle,h.tr,h.pl,h.ls,by rw[e];exact h.lv,λb c l d=>by
  rw[e];exact h.cl b c l λi hi m p hp=>(by
   rcases ω i B.nb with h1|h1
   ·exact d i (f i h1 hi) m p hp
   ·rw[h.hi i h1] at hp;cases hp),h.df,h.lp,h.dl,h.hi,h.o0,h.rr,by rw[e];exact h.nt⟩
theorem fV.cg {g:Nat->Option (Ob S)} {free dt:Nat->Prop} {lp:Option (hC S)} {inr:Bool} {df:List (LV S)} {ef:Up S} (h:fV K P N B A O w g free dt lp inr df a) (n: ∀i X,(i,X)∈ef->(∃Z,g i=some Z)\/free i) (e:cf A O w g ef A' O' w'):
  fV K P N B A' O' w' (b9 g ef) (λi=>free i/\ ∀X,(i,X)∉ef) (λi=>dt i\/((∃Z,g i=some Z)/\ ∃X,(i,X)∈ef)) lp inr df a:=by
 have R: ∀i Z,g i=some Z-> ¬free i:=λi Z d k=>by
  obtain⟨p,hp,_⟩:=h.rel.al i Z d;rw[h.iM i k] at hp;cases hp
 have low: ∀i,¬free i->A'.pl i=A.pl i:=by
  intro i hi;rcases e.pl i with h1|⟨h1,X,hX⟩
  ·exact h1
  ·rcases n i X hX with⟨Z,d⟩|k
   ·obtain⟨p,hp,_⟩:=h.rel.al i Z d;rw[h1] at hp;cases hp
   ·exact absurd k hi
 refine⟨h.size,h.rel.cg h.ob e,e.ob,h.c_.tr e.tr,?_,λi hi k=>h.low i hi k.1,h.tr.trans e.tr,λi hi=>(low i (h.low i hi)).trans (h.pl i hi),e.le.ls.trans h.ls,?_,?_,c8.cg h.rel e h.df,jr.cg h.rel e h.lp,h.dl,h.hi,h.o0,h.rr,?_⟩
 ·rintro i ⟨h1,E⟩;rcases e.pl i with F|⟨_,X,hX⟩
  ·rw[F];exact h.iM i h1
  ·exact absurd hX (E X)
 ·intro i X hi hX
  by_cases l: ∃Y,(i,Y)∈ef
  ·obtain⟨Y,f⟩:=l;rcases n i Y f with⟨Z,d⟩|k
   ·exact h.lv i Z hi d
   ·exact absurd k (h.low i hi)
  ·rw[ee λY f=>l ⟨Y,f⟩] at hX;exact h.lv i X hi hX
 ·intro b H J x;obtain⟨c1,c2,u⟩:=h.cl b H J λi hi=>x i (.inl hi);have C: ∀i X p,(i,X)∈ef->A.pl i=some p->b4 p≠some b:=by
   intro i X p hi hp;rcases n i X hi with⟨Z,d⟩|k
   ·rcases ω i B.nb with s|o
    ·exact x i (.inr ⟨⟨Z,d⟩,X,hi⟩) (h.lv i Z s d) p (by rw[<-h.pl i s];exact hp)
    ·exact λm=>u i Z p o d hp (.inl m)
   ·rw[h.iM i k] at hp;cases hp
  obtain⟨M,Q⟩:=e.keep b c2 C;have T: ∀i X p Z,(i,X)∈ef->g i=some Z->A.pl i=some p-> ¬cD w Z p b:=by
   intro i X p Z hi d hp m;rcases ω i B.nb with s|o
   ·exact C i X p hi hp (eQ (h.nt i Z s d) m)
   ·exact u i Z p o d hp m
  refine⟨M.trans c1,Q,?_⟩;intro i X p hi hX hp m
  by_cases l: ∃Y,(i,Y)∈ef
  ·obtain⟨Y,f⟩:=l;rw[me f λZ d=>e.nd i Z Y d f] at hX;subst hX;obtain⟨U,z,_,I⟩:=e.al i X f;rw[hp] at z;cases z;rcases(I b m).2 with o|⟨j,Z,q,V,r,G,t,L⟩
   ·have:=h.ob b c2;omega
   ·exact T j Z q V r G t L
  ·have y: ∀Y,(i,Y)∉ef:=λY f=>l ⟨Y,f⟩;rw[ee y] at hX;rw[low i (R i X hX)] at hp;refine u i X p hi hX hp (ky (λc v=>?_) m);refine(e.keep c (h.rel.gE hX hp (.inl v)) λj Y q r t=>?_).1;obtain⟨Z,d⟩:=e.lv j Y q r t;exact h.rel.dj i j X Z p q c (λD=>by subst D;exact y Y r) hX d hp t v
 ·intro i X hi hX
  by_cases l: ∃Y,(i,Y)∈ef
  ·obtain⟨Y,f⟩:=l;rw[me f λZ d=>e.nd i Z Y d f] at hX;subst hX;rcases n i _ f with⟨Z,d⟩|k
   ·exact e.nt i X Z f d (h.nt i Z hi d)
   ·exact absurd k (h.low i hi)
  ·rw[ee λY f=>l ⟨Y,f⟩] at hX;exact h.nt i X hi hX
theorem fV.weaken {g:Nat->Option (Ob S)} {free c dt dt':Nat->Prop} {lp:Option (hC S)} {inr:Bool} {df:List (LV S)} (h:fV K P N B A O w g free dt lp inr df a) (d: ∀i,c i->free i) (j: ∀i,dt i->dt' i):fV K P N B A O w g c dt' lp inr df a:=
 ⟨h.size,h.rel,h.ob,h.c_,λi hi=>h.iM i (d i hi),λi hi h1=>h.low i hi (d i h1),h.tr,h.pl,h.ls,h.lv,λb e k f=>h.cl b e k λi hi=>f i (j i hi),h.df,h.lp,h.dl,h.hi,h.o0,h.rr,h.nt⟩
theorem fV.act {g:Nat->Option (Ob S)} {free dt:Nat->Prop} {lp:Option (hC S)} {inr:Bool} {df:List (LV S)} {a':Act} (h:fV K P N B A O w g free dt lp inr df a) (h1:a'.tmps.size=a.tmps.size) (b:a'.defers=a.defers):fV K P N B A O w g free dt lp inr df a':=
 ⟨h1.trans h.size,h.rel,h.ob,h.c_,h.iM,h.low,h.tr,h.pl,h.ls,h.lv,h.cl,by rw[b];exact h.df,h.lp,by rw[b];exact h.dl,h.hi,h.o0,h.rr,h.nt⟩
def cx.ef (r:cx S):Up S:=r.up++news r.nx r.nw
def cH (L:Nat->Bool):Nat->List (cx S)->(Nat->Option (Ob S))->Nat->Option (Ob S)
 |_,[],g=>g
 |k,r::rs,g=>cH L (k+1) rs (bif L k then b9 g r.ef else g)
theorem rC {o:Nat}: ∀ {ef:Up S} {g b:Nat->Option (Ob S)},(∃X,(o,X)∈ef)->b9 g ef o=b9 b ef o
 |[],g,b,⟨X,h⟩=>by cases h
 |(j,Y)::r,g,b,⟨X,h⟩=>by
  simp only[b9]
  by_cases a: ∃Z,(o,Z)∈r
  ·exact rC a
  ·rw[ee (λZ c=>a ⟨Z,c⟩),ee (λZ c=>a ⟨Z,c⟩)];rcases τ.1 h with e|e
   ·cases e;simp
   ·exact absurd ⟨X,e⟩ a
theorem UQ {o:Nat} {ef:Up S} {g c:Nat->Option (Ob S)} (h:g o=c o):b9 g ef o=b9 c ef o:=by
 by_cases b: ∃X,(o,X)∈ef
 ·exact rC b
 ·rw[ee (λZ a=>b ⟨Z,a⟩),ee (λZ a=>b ⟨Z,a⟩),h]
theorem lN {L d:Nat->Bool} {o:Nat}: ∀ {rs:List (cx S)} {k:Nat} {g b:Nat->Option (Ob S)},(∀j r,rs[j]? =some r->(∃X,(o,X)∈r.ef)->L (k+j)=d (k+j))->g o=b o->cH L k rs g o=cH d k rs b o
 |[],k,g,b,_,h=>h
 |r::rs,k,g,b,hl,h=>by
  simp only[cH];refine lN (λj l i a=>by have:=hl (j+1) l (by simpa using i) a;rwa [show k+(j+1)=k+1+j by omega] at this) ?_
  by_cases a: ∃X,(o,X)∈r.ef
  ·have:=hl 0 r rfl a;rw[ξP] at this;rw[this];cases d k with
   |true=>exact rC a
   |false=>exact h
  ·have out: ∀(c:Bool) (f:Nat->Option (Ob S)),(bif c then b9 f r.ef else f) o=f o:=λc f=>by
    cases c with
    |true=>exact ee (λZ e=>a ⟨Z,e⟩)
    |false=>rfl
   rw[out,out,h]
theorem wZ {L:Nat->Bool}: ∀ {rs a:List (cx S)} {k:Nat} {g:Nat->Option (Ob S)},cH L k (rs++a) g=cH L (k+rs.length) a (cH L k rs g)
 |[],a,k,g=>rfl
 |r::rs,a,k,g=>by
  simp only[ζ1,cH,ζ2];rw[wZ,show k+1+rs.length=k+(rs.length+1) by omega]
theorem HE {o:Nat} {L:Nat->Bool} {rs:List (cx S)} {k:Nat} {g:Nat->Option (Ob S)} (h: ∀j r,rs[j]? =some r->(∃X,(o,X)∈r.ef)->L (k+j)=false):cH L k rs g o=g o:=by
 have h1:cH L k rs g o=cH (λ_=>false) k rs g o:=lN (λj r a b=>h j r a b) rfl;rw[h1];clear h h1
 induction rs generalizing k with
 |nil=>rfl
 |cons r rs c=>simp only[cH,cond_false];exact c
theorem Pe {L:Nat->Bool} {i o:Nat} {acc:List (cx S)} {r:cx S} {g:Nat->Option (Ob S)} (l:acc[i]? =some r) (q:L i=false) (n:(∃X,(o,X)∈r.ef)-> ∀k a,i<k->acc[k]? =some a->(∃X,(o,X)∈a.ef)->L k=false):
  cH (λk=>ζ k i||L k) 0 acc g o=b9 (cH L 0 acc g) r.ef o:=by
 by_cases c: ∃X,(o,X)∈r.ef
 ·obtain⟨hi,he⟩:=ε.1 l;have p:acc=acc.take i++r::acc.drop (i+1):=by
   rw[<-he,<-List.drop_eq_getElem_cons hi,ξ6]
  have hlen:(acc.take i).length=i:=by rw[ξ3];omega
  have lhs:cH (λk=>ζ k i||L k) 0 acc g o=b9 (cH (λk=>ζ k i||L k) 0 (acc.take i) g) r.ef o:=by
   conv=>lhs;rw[p]
   rw[wZ,hlen,ξe];simp only[cH,ξu,ζb,cond_true];refine HE λj a b f=>?_;have hk:acc[i+1+j]? =some a:=by rw[<-ζl];exact b
   have h1:=n c (i+1+j) a (by omega) hk f;have d:ζ (i+1+j) i=false:=by
    cases e:ζ (i+1+j) i with
    |false=>rfl
    |true=>have:=δ e;omega
   simp only[h1,d,Bool.or_self]
  rw[lhs];exact rC c
 ·rw[ee (λZ m=>c ⟨Z,m⟩)];refine lN (λj a b f=>?_) rfl;rw[ξe]
  by_cases h:j=i
  ·subst h;rw[l] at b;cases b;exact absurd f c
  ·have d:ζ j i=false:=by
    cases e:ζ j i with
    |false=>rfl
    |true=>exact absurd (δ e) h
   simp[d]
theorem RP {l m:Γ}:xy l m=true↔ ∀i∈l,i∉m:=by
 unfold xy;rw[ξ4];exact forall_congr' λi=>forall_congr' λ_=>by rw[ξF,<-ζx,gL]
theorem aez {l:Γ} {nx n:Nat}:Il l nx n=true↔ ∀i∈l,¬(nx<=i/\i<nx+n):=by
 unfold Il;rw[ξ4];refine forall_congr' λi=>forall_congr' λ_=>?_;rw[ξF,<-ζx,η];constructor
 ·rintro h ⟨h1,a⟩;exact h ⟨ζD.mpr h1,ο.mpr a⟩
 ·rintro h ⟨h1,a⟩;exact h ⟨ξ5 h1,ο.mp a⟩
theorem NF {cl rd:Γ} {up:Up S}: ∀ {rs:List (cx S)} {k j:Nat} {r:cx S},kk cl rd up rs k=true->rs[j]? =some r->k+j∈cl\/((∀i∈rd,i∉keys r.up)/\(∀i∈rd,¬(r.nx<=i/\i<r.nx+r.nw.length))/\ ∀i∈keys up,i∉r.rd)
 |[],k,j,r,_,a=>by simp at a
 |q::rs,k,j,r,h,a=>by
  simp only[kk,η,ξO] at h;cases j with
  |zero=>
   simp at a;subst a;rw[ξP];rcases h.1 with h1|h1
   ·exact .inl (gL.1 h1)
   ·exact .inr ⟨RP.1 h1.1,aez.1 h1.2.1,RP.1 h1.2.2⟩
  |succ j=>
   have:=NF (j:=j) h.2 (by simpa using a)
   rwa [show k+1+j=k+(j+1) by omega] at this
theorem Pj {cl:Γ}: ∀ {rs:List (cx S)} {k j:Nat} {r:cx S},idle cl rs k=true->rs[j]? =some r->k+j∈cl\/(r.up=[]/\r.nw=[])
 |[],k,j,r,_,a=>by simp at a
 |q::rs,k,j,r,h,a=>by
  simp only[idle,η,ξO] at h;cases j with
  |zero=>
   simp at a;subst a;rw[ξP];rcases h.1 with h1|h1
   ·exact .inl (gL.1 h1)
   ·right;split at h1
    ·rename_i b c;exact⟨b,c⟩
    ·cases h1
  |succ j=>
   have:=Pj (j:=j) h.2 (by simpa using a)
   rwa [show k+1+j=k+(j+1) by omega] at this
theorem jC {r:cx S} {o:Nat}:(∃X,(o,X)∈r.ef)↔o∈keys r.up\/(r.nx<=o/\o<r.nx+r.nw.length):=by
 unfold cx.ef;constructor
 ·rintro ⟨X,h⟩;rcases ψ.1 h with h|h
  ·exact .inl (nE.2 ⟨X,h⟩)
  ·obtain⟨j,h1,rfl⟩:=iY.1 h;have:=(ε.1 h1).1;exact .inr ⟨by omega,by omega⟩
 ·rintro (h|⟨h1,b⟩)
  ·obtain⟨X,h⟩:=nE.1 h;exact⟨X,ξ9 _ h⟩
  ·have a:o-r.nx<r.nw.length:=by omega
   exact⟨r.nw[o-r.nx],ξ7 _ (iY.2 ⟨o-r.nx,σ a,by omega⟩)⟩
end
section
variable {S:bm} {P:Program} {N:Nat} {ops:Array Oper}
theorem ahy {id:Nat} {rr:Option Nat} {Q:Exit->Act->World->Prop} {I:Array Bool->Act->World->Prop} (hm:P.follows .mixedOrders=true) (u: ∀i o,ops[i]? =some o-> ∀x∈cV o,x<i)
  (M: ∀(listed:Array Bool) (a:Act) (w:World) (i:Nat) (o:Oper),listed.size=ops.size->(∀(k:Nat) (o:Oper),ops[k]? =some o->listed.getD k true=true-> ∀x∈cV o,listed.getD x true=true)->I listed a w->ops[i]? =some o->listed.getD i true=false->(∀x∈cV o,listed.getD x true=true)->
   wpOpIn (fw rr) 0 P ops Q i (λa' w'=>I (listed.setIfInBounds i true) a' w') a w)
  (F: ∀(listed:Array Bool) (a:Act) (w:World),listed.size=ops.size->(∀i,i<ops.size->listed.getD i true=true)->I listed a w->Q .normal a w) {a:Act} {w:World} (A:I (ξ8 ops.size false) a w.drew):(ζA id ops true).wpIn (fw rr) 0 P Q a w:=by
 refine wpIn_region_draw λt=>?_;simp only[Region.schedule,hm,ζb,if_true];refine wpAnyIn_sound ops.size t _ a _ ?_;have key: ∀(fuel:Nat) (listed:Array Bool) (a:Act) (w':World),listed.size=ops.size->ep listed ops.size=fuel->(∀(k:Nat) (o:Oper),ops[k]? =some o->listed.getD k true=true-> ∀x∈cV o,listed.getD x true=true)->I listed a w'->
   wpAnyIn (fw rr) 0 P .any ops Q fuel listed a w':=by
  intro fuel
  induction fuel with
  |zero=>
   intro listed a w' f hl j hI;have s:=nF _ hl;refine⟨?_,F listed a w' f s hI⟩;unfold ζc;rw[List.filter_eq_nil_iff];intro i hi;have:=s i (by simpa using hi);simp[this]
  |succ fuel q=>
   intro listed a w' f hl j hI;refine⟨λK=>?_,λi hi=>?_⟩
   ·exfalso;obtain⟨i,h1,B,C⟩:=qO ops.size (by rw[hl];omega:ep listed ops.size≠0);have b:=κ h1;have E:=u i _ b;have:i∈ζc .any ops listed:=by
     unfold ζc;rw[ξk];refine⟨by simpa using h1,?_⟩;rw[B,b];simp only[Bool.not_false,ξW,ξy,ξp,ξD];intro e he;cases g:Region.binds .any e with
     |false=>simp
     |true=>
      have d:=E e.on (iX.2 ⟨e,he,g,rfl⟩);have:=C e.on d;have p:e.on<listed.size:=by omega
      simp only[θ,κ p,ξp] at this ⊢;simp[this]
    rw[K] at this;cases this
   ·unfold ζc at hi;rw[ξk] at hi;obtain⟨G,l⟩:=hi;have v:i<ops.size:=by simpa using G
    have b:=κ v;rw[b] at l;simp only[η,ξF,ξy,ξp,ξD] at l;obtain⟨y,J⟩:=l;have r: ∀x∈cV ops[i],listed.getD x true=true:=by
     intro x c;obtain⟨e,he,g,rfl⟩:=iX.1 c;have h1:=J e he;rw[g] at h1;simp only[ξY,ξZ] at h1;have d:=u i _ b e.on c;have p:e.on<listed.size:=by omega
     simp only[θ,κ p,ξp] at h1 ⊢;exact h1
    have z:i<listed.size:=by omega
    have L: ∀k,(listed.setIfInBounds i true).getD k true=true↔k=i\/listed.getD k true=true:=by
     intro k
     by_cases hk:i=k
     ·subst hk;simp[θ,z]
     ·simp only[θ,ξ0 hk];constructor
      ·exact λh=>.inr h
      ·rintro (h|h)
       ·exact absurd h.symm hk
       ·exact h
    have H:=Ib z y ops.size;simp only[v,if_true] at H;refine wpOpIn_mono (λa' cd D=>?_) (M listed a w' i _ f j hI b y r);refine q _ a' cd (by simpa using f) (by omega) ?_ D;intro k o' m hk x c;rw[L] at hk ⊢;right;rcases hk with rfl|hk
    ·rw[b] at m;cases m;exact r x c
    ·exact j k o' m hk x c
 refine key ops.size _ a _ (by simp) ?_ ?_ A
 ·have: ∀n,n<=ops.size->ep (ξ8 ops.size false) n=n:=by
   intro n
   induction n with
   |zero=>intro _;rfl
   |succ n q=>
    intro hn;simp only[ep,q (by omega)];have:(ξ8 ops.size false).getD n true=false:=by simp[θ,show n<ops.size by omega]
    simp[this]
  exact this _ (ξc _)
 ·intro k o b hk;have d:=(ξa.1 b).1;simp[θ,d] at hk
inductive Gh (S:bm)|done (a:AV S)|bD (u:Value)|never
def j8 (ops:Array Oper) (bn:AS S) (b:List (Gh S)) (s:Nat) (a:AV S):Prop:=(∃k,dh ops k=some s/\b[k]? =some (.done a))\/(a1.get bn.env s=some a/\ ∀k c,dh ops k=some s->b[k]? ≠some (.done c))
structure Want (K:Kit S) (P:Program) (N:Nat) (ops:Array Oper) (bn:AS S) (pre:List (cx S)) (d:List (Gh S)) (i:Nat) (o:Oper) (r:cx S) (res:Rs S) (env:a1 S) (gc:Nat->Option (Ob S)):Prop where
 snd:uA K P o env (jm r.rd gc) r.nx res r.up r.nw
 ev: ∀s c,a1.get env s=some c->s∈fh ops o/\j8 ops bn d s c
 Vj: ∀A O w a,a.tmps.size=N->cQ A O w env a->ξ1 o (yielded ops a.tmps)=true
 gh: ∀x,gc x=cH (λ_=>true) 0 pre (aE bn.h) x
 al: ∀k∈keys r.up,∃Z,gc k=some Z
 sub: ∀k∈keys r.up,k∈r.rd
 lt: ∀x∈r.rd,x<r.nx
 uO: ∀k b,pre[k]? =some b->k∈eD ops i\/((∀i∈r.rd,i∉keys b.up)/\(∀i∈r.rd,¬(b.nx<=i/\i<b.nx+b.nw.length))/\ ∀i∈keys r.up,i∉b.rd)
def Zc (N:Nat) (ops:Array Oper) (bn:AS S) (c:List (Gh S)) (o:Oper) (r:cx S) (b:AV S) (env:a1 S):Prop:=(∀s b,a1.get env s=some b->s∈fh ops o/\j8 ops bn c s b)/\(∀A O w a,a.tmps.size=N->cQ A O w env a->ξ1 o (yielded ops a.tmps)=false)/\b= .bJ []/\r.up=[]/\r.nw=[]
def o8 (K:Kit S) (P:Program) (N:Nat) (ops:Array Oper) (bn:AS S) (pre:List (cx S)) (b:List (Gh S)) (i:Nat) (o:Oper) (r:cx S):Gh S->Prop
 | .done a=>(∃env gc,Want K P N ops bn pre b i o r (.ret a) env gc)\/ ∃env,Zc N ops bn b o r a env
 | .bD u=> ∃env gc,Want K P N ops bn pre b i o r (.bD u) env gc
 | .never=>(r.up=[]/\r.nw=[])/\ ∃k∈eD ops i,∀a,b[k]? ≠some (.done a)
structure tq (ops:Array Oper) (bn:AS S) (acc:List (cx S)) (gs:List (Gh S)) (i:Nat) (r:cx S) (b:AS S):Prop where
 hp: ∀x,aE b.h x=b9 (cH (λ_=>true) 0 (acc.take i) (aE bn.h)) r.ef x
 hl:b.h.length=r.nx+r.nw.length
 env: ∀s c,a1.get b.env s=some c->(∀k,dh ops k≠some s)/\a1.get bn.env s=some c
 kO:b.nb=bn.nb/\b.lp=bn.lp/\b.inr=bn.inr/\b.df=bn.df
 mU: ∀x∈bn.dt,x∈b.dt
 dt: ∀k a x,k<=i->acc[k]? =some a->x∈keys a.up->x<bn.nb->x∈b.dt
 pre: ∀k a,k<i->acc[k]? =some a->k∈eD ops i\/(a.up=[]/\a.nw=[])
 post: ∀k a,i<k->acc[k]? =some a->a.up=[]/\a.nw=[]
structure AnyF (K:Kit S) (P:Program) (N:Nat) (ops:Array Oper) (bn:AS S) (acc:List (cx S)) (gs:List (Gh S)) (pn:Option (Γ×Value×AS S)) (st:AS S):Prop where
 lg:gs.length=acc.length
 hp: ∀x,aE st.h x=cH (λ_=>true) 0 acc (aE bn.h) x
 hl:bn.h.length<=st.h.length
 pos: ∀(i k:Nat) r b,i<k->acc[i]? =some r->acc[k]? =some b->r.nx+r.nw.length<=b.nx
 top: ∀(i:Nat) r,acc[i]? =some r->bn.h.length<=r.nx/\r.nx+r.nw.length<=st.h.length
 env: ∀s a,a1.get st.env s=some a->j8 ops bn gs s a
 kO:st.nb=bn.nb/\st.lp=bn.lp/\st.inr=bn.inr/\st.df=bn.df
 mU: ∀x∈bn.dt,x∈st.dt
 dt: ∀(i:Nat) r x,acc[i]? =some r->x∈keys r.up->x<bn.nb->x∈st.dt
 step: ∀i o r gh,ops[i]? =some o->acc[i]? =some r->gs[i]? =some gh->o8 K P N ops bn (acc.take i) (gs.take i) i o r gh
 lU:pn=none-> ∀(k:Nat) (gh:Gh S),gs[k]? =some gh-> ∃a,gh=Gh.done a
 kR: ∀dead u c,pn=some (dead,u,c)-> ∃i r,gs[i]? =some (.bD u)/\acc[i]? =some r/\tq ops bn acc gs i r c/\(∀k d,gs[k]? =some (.bD d)->k=i)/\(∀(k:Nat) (gh:Gh S),gs[k]? =some gh->((∃a,gh=Gh.done a)\/k∈dead)/\(k∈dead-> ∀a,gh≠Gh.done a))/\ ∀k∈dead,k<acc.length
structure mv (K:Kit S) (P:Program) (N:Nat) (ops:Array Oper) (bn:AS S) (acc:List (cx S)) (gs:List (Gh S)) (B:cT) (L:Nat->Bool) (A:Pl) (O:Γ) (w:World) (a:Act):Prop where
 c:fV K P N B A O w (cH L 0 acc (aE bn.h)) (λx=>bn.h.length<=x/\ ∀(k:Nat) r,acc[k]? =some r->L k=true-> ¬(r.nx<=x/\x<r.nx+r.nw.length)) (λx=>x∈bn.dt\/ ∃(k:Nat) (r:cx S),acc[k]? =some r/\L k=true/\x∈keys r.up) bn.lp bn.inr bn.df a
 base: ∀s b,a1.get bn.env s=some b->(∀k,dh ops k=some s->L k=false)->b.rel A O w (a.tmps.getD s undef)
 done: ∀k s b,L k=true->dh ops k=some s->gs[k]? =some (.done b)->b.rel A O w (a.tmps.getD s undef)
 all: ∀k,L k=true-> ∃b,gs[k]? =some (.done b)
structure mB (N:Nat) (ops:Array Oper):Prop where
 below: ∀(i:Nat) o,ops[i]? =some o-> ∀x∈cV o,x<i
 cl: ∀i,i<ops.size-> ∀k∈eD ops i,k<i
 dN: ∀i s,dh ops i=some s->s<N
 un: ∀i k s,dh ops i=some s->dh ops k=some s->i=k
 slot: ∀(i:Nat) o s,ops[i]? =some o->s∈fh ops o->(∃j∈cV o,dh ops j=some s)\/ ∀k,dh ops k=some s->k=i\/i∈eD ops k
theorem mT {k s:Nat} (h:dh ops k=some s):k<ops.size:=by
 unfold dh at h;split at h
 ·rename_i o a;exact(ξa.1 a).1
 ·cases h
theorem Ng {k:Nat}: ∀ {l:Γ},hJ k l=true-> ∀x∈l,x<k:=Dc.Fx
theorem S0 (h:ya N ops=true):mB N ops:=by
 unfold ya at h;rw[ξ4] at h;have at_: ∀i o,ops[i]? =some o->hJ i (cV o)=true/\hJ i (eD ops i)=true/\(match o.dst with
   |some d=>υ d N&&(ξs ops.size).all λk=>ζ k i||(match dh ops k with|some e=>!(ζ d e)|none=>true)
   |none=>true)=true/\(fh ops o).all (JR ops i o)=true:=by
  intro i o a;have hi:=(ξa.1 a).1;have:=h i (by simpa using hi);unfold R9 at this;rw[a] at this;simp only[η] at this;exact this
 have m: ∀ {i s},dh ops i=some s-> ∃o,ops[i]? =some o/\o.dst=some s:=by
  intro i s f;unfold dh at f;split at f
  ·rename_i o a;exact⟨o,a,f⟩
  ·cases f
 constructor
 ·exact λi o a=>Ng (at_ i o a).1
 ·intro i hi;exact Ng (at_ i _ (κ hi)).2.1
 ·intro i s f;obtain⟨o,a,g⟩:=m f;have:=(at_ i o a).2.2.1;rw[g] at this;simp only[η] at this;exact ο.mp this.1
 ·intro i k s hi hk;obtain⟨o,a,g⟩:=m hi;have:=(at_ i o a).2.2.1;rw[g] at this;simp only[η,ξ4] at this;have b:=this.2 k (by simpa using mT hk);rw[hk] at b;simp at b;exact b.symm
 ·intro i o s a f;have:=(at_ i o a).2.2.2;rw[ξ4] at this;have b:=this s f;unfold JR at b;simp only[ξO,ζy,ξ4] at b;rcases b with⟨j,c,l⟩|b
  ·left;refine⟨j,c,?_⟩;split at l
   ·rename_i d g;rw[g,δ l]
   ·cases l
  ·right;intro k hk;have c:=b k (by simpa using mT hk);rw[hk] at c;simp only[ξO,ξu,ξY,ζn,false_or] at c;rcases c with c|c
   ·exact .inl (δ c)
   ·exact .inr (gL.1 c)
end
section
variable {S:bm} {K:Kit S} {P:Program} {N:Nat} {ops:Array Oper} {bn:AS S}
theorem py {r:cx S} (h:r.up=[]/\r.nw=[]) {x:Nat}: ¬ ∃X,(x,X)∈r.ef:=by
 rintro ⟨X,hX⟩;unfold cx.ef at hX;rw[h.1,h.2] at hX;cases hX
theorem Pf {acc:List (cx S)} {i x:Nat} {g:Nat->Option (Ob S)} (hi:i<=acc.length):cH (λ_=>true) 0 (acc.take i) g x=cH (λk=>υ k i) 0 acc g x:=by
 have hlen:(acc.take i).length=i:=by rw[ξ3];omega
 have h1:cH (λk=>υ k i) 0 acc g x=cH (λk=>υ k i) 0 (acc.take i) g x:=by
  conv=>lhs;rw[<-ξ6 i acc]
  rw[wZ,hlen,ξe];refine HE λj r a _=>?_;cases b:υ (i+j) i with
  |false=>rfl
  |true=>have:=ο.mp b;omega
 rw[h1];refine lN (λj r a _=>?_) rfl;have:j<i:=by
  have:=(ε.1 a).1;omega
 rw[ξe];exact(ο.mpr this).symm
theorem o8.cl {pre:List (cx S)} {b:List (Gh S)} {i:Nat} {o:Oper} {r:cx S} {gh:Gh S} (h:o8 K P N ops bn pre b i o r gh):
  (r.up=[]/\r.nw=[])\/((∀k∈keys r.up,k∈r.rd)/\(∀x∈r.rd,x<r.nx)/\ ∀(k:Nat) (a:cx S),pre[k]? =some a->k∈eD ops i\/((∀i∈r.rd,i∉keys a.up)/\(∀i∈r.rd,¬(a.nx<=i/\i<a.nx+a.nw.length))/\ ∀i∈keys r.up,i∉a.rd)):=by
 cases gh with
 |done c=>
  rcases h with⟨env,gc,hw⟩|⟨env,hw⟩
  ·exact .inr ⟨hw.sub,hw.lt,hw.uO⟩
  ·exact .inl hw.2.2.2
 |bD u=>obtain⟨env,gc,hw⟩:=h;exact .inr ⟨hw.sub,hw.lt,hw.uO⟩
 |never=>exact .inl h.1
structure lk (ops:Array Oper) (L:Nat->Bool) (i:Nat) (o:Oper):Prop where
 oi:ops[i]? =some o
 up: ∀k,L k=true->k<ops.size/\ ∀j∈eD ops k,L j=true
 cl: ∀j∈eD ops i,L j=true
 no:L i=false
 af: ∀j∈cV o,L j=true
variable {acc:List (cx S)} {gs:List (Gh S)} {pn:Option (Γ×Value×AS S)} {st:AS S} {L:Nat->Bool} {i:Nat} {o:Oper} {r:cx S}
theorem AnyF.Ug (c:AnyF K P N ops bn acc gs pn st) (e:acc.length=ops.size) {k:Nat} {d:cx S} (hk:acc[k]? =some d): ∃o' gh,ops[k]? =some o'/\gs[k]? =some gh/\o8 K P N ops bn (acc.take k) (gs.take k) k o' d gh:=by
 have h1:=(ε.1 hk).1;have a:k<ops.size:=by omega
 have b:k<gs.length:=by rw[c.lg];exact h1
 exact⟨_,_,κ a,σ b,c.step k _ _ _ (κ a) hk (σ b)⟩
theorem p0 {α:Type} {l:List α} {i k:Nat} {x:α} (h:l[k]? =some x) (hk:k<i):(l.take i)[k]? =some x:=by
 rw[ξU hk];exact h
theorem agree (n:AnyF K P N ops bn acc gs pn st) (v:acc.length=ops.size) (c:lk ops L i o) (g:acc[i]? =some r) (t: ∀x∈r.rd,x<r.nx)
  (s: ∀(k:Nat) (a:cx S),(acc.take i)[k]? =some a->k∈eD ops i\/((∀i∈r.rd,i∉keys a.up)/\(∀i∈r.rd,¬(a.nx<=i/\i<a.nx+a.nw.length))/\ ∀i∈keys r.up,i∉a.rd)):
  ∀x∈r.rd,cH L 0 acc (aE bn.h) x=cH (λ_=>true) 0 (acc.take i) (aE bn.h) x:=by
 intro x d;rw[Pf (ζd (ε.1 g).1)];refine lN (λk a hk j=>?_) rfl;rw[ξe];rcases ξd k i with h|h|h
 ·rw[show υ k i=true from ο.mpr h];rcases s k a (p0 hk h) with h1|⟨h1,l,_⟩
  ·exact c.cl k h1
  ·rcases jC.1 j with b|b
   ·exact absurd b (h1 x d)
   ·exact absurd b (l x d)
 ·subst h;rw[c.no];cases f:υ k k with
  |false=>rfl
  |true=>have:=ο.mp f;omega
 ·rw[show υ k i=false by
   cases f:υ k i with
   |false=>rfl
   |true=>have:=ο.mp f;omega]
  have hp:=n.pos i k r a h g hk;have y:=t x d;obtain⟨o',gh,w,_,u⟩:=n.Ug v hk;rcases u.cl with p|⟨h1,l,b⟩
  ·exact absurd j (py p)
  ·rcases jC.1 j with m|m
   ·rcases b i r (p0 g h) with e|⟨_,_,e⟩
    ·cases q:L k with
     |false=>rfl
     |true=>have:=(c.up k q).2 i e;rw[c.no] at this;cases this
    ·exact absurd d (e x m)
   ·omega
theorem late (f:AnyF K P N ops bn acc gs pn st) (u:acc.length=ops.size) (j:lk ops L i o) (g:acc[i]? =some r) (q: ∀x∈r.rd,x<r.nx) (t: ∀k∈keys r.up,k∈r.rd) {x:Nat} (v: ∃X,(x,X)∈r.ef):
  ∀k c,i<k->acc[k]? =some c->(∃X,(x,X)∈c.ef)->L k=false:=by
 intro k c h hk e;have hp:=f.pos i k r c h g hk;obtain⟨o',gh,z,_,s⟩:=f.Ug u hk;rcases s.cl with l|⟨h1,w,m⟩
 ·exact absurd e (py l)
 ·rcases m i r (p0 g h) with d|⟨d,n,y⟩
  ·cases p:L k with
   |false=>rfl
   |true=>have:=(j.up k p).2 i d;rw[j.no] at this;cases this
  ·exfalso;rcases jC.1 v with b|b
   ·have A:=q x (t x b);rcases jC.1 e with a|a
    ·exact d x (h1 x a) b
    ·omega
   ·rcases jC.1 e with a|a
    ·exact n x (h1 x a) b
    ·omega
variable {B:cT} {A:Pl} {O:Γ} {w:World} {a:Act}
theorem F2 (hR:mB N ops) (c:lk ops L i o) (hI:mv K P N ops bn acc gs B L A O w a) {env:a1 S} (q: ∀s b,a1.get env s=some b->s∈fh ops o/\j8 ops bn (gs.take i) s b):cQ A O w env a:=by
 intro s b h;obtain⟨m,he⟩:=q s b h;rcases he with⟨k,hk,d⟩|⟨p,u⟩
 ·have t:k<i:=by
   have:=(ε.1 d).1;rw[ξ3] at this;omega
  have r:gs[k]? =some (.done b):=by rw[ξU t] at d;exact d
  refine hI.done k s b ?_ hk r;rcases hR.slot i o s c.oi m with⟨j,g,l⟩|h1
  ·rw[<-hR.un j k s l hk];exact c.af j g
  ·rcases h1 k hk with rfl|f
   ·omega
   ·have:=hR.cl k (mT hk) i f;omega
 ·refine hI.base s b p λk hk=>?_;cases e:L k with
  |false=>rfl
  |true=>
   exfalso;rcases hR.slot i o s c.oi m with⟨j,g,l⟩|h1
   ·have:=hR.un j k s l hk;subst this;obtain⟨n,d⟩:=hI.all j e;exact u j n hk (p0 d (hR.below i o c.oi j g))
   ·rcases h1 k hk with rfl|f
    ·rw[c.no] at e;cases e
    ·have:=(c.up k e).2 i f;rw[c.no] at this;cases this
theorem bW.view {rd:Γ} {g gc:Nat->Option (Ob S)} (h:bW A O w g) (b: ∀x∈rd,g x=gc x):bW A O w (jm rd gc):=by
 refine h.less λx X a=>?_;unfold jm at a;cases hm:dz x rd<;>rw[hm] at a
 ·cases a
 ·rw[b x (gL.1 hm)];exact a
theorem cf.view {A':Pl} {O':Γ} {w':World} {rd:Γ} {ef:Up S} {g gc:Nat->Option (Ob S)} (h:cf A O w (jm rd gc) ef A' O' w') (e: ∀x∈rd,g x=gc x) (l: ∀x X,(x,X)∈ef->x∈rd\/g x=Option.none):cf A O w g ef A' O' w':=by
 have at_: ∀x Z,jm rd gc x=some Z->g x=some Z:=λx Z a=>by
  unfold jm at a;cases hm:dz x rd<;>rw[hm] at a
  ·cases a
  ·rw[e x (gL.1 hm)];exact a
 refine⟨h.le,h.tr,h.ob,h.keep,λi X hi=>?_,h.dj,h.nd,λx X p m hp=>?_,h.pl,λi X Z hi a hn=>?_⟩
 ·obtain⟨p,h1,k,c⟩:=h.al i X hi;exact⟨p,h1,k,λb d=>⟨(c b d).1,(c b d).2.imp id λ⟨j,Y,q,V,f,a2,a3⟩=>⟨j,Y,q,V,f,at_ _ _ a2,a3⟩⟩⟩
 ·obtain⟨Z,a⟩:=h.lv x X p m hp;exact⟨Z,at_ _ _ a⟩
 ·rcases l i _ hi with h1|h1
  ·refine h.nt i X Z hi ?_ hn;unfold jm;rw[gL.2 h1,cond_true,<-e i h1];exact a
  ·rw[a] at h1;cases h1
theorem Uh (m:AnyF K P N ops bn acc gs pn st) (D:acc.length=ops.size) (z:lk ops L i o) (g:acc[i]? =some r) (y: ∀x∈r.rd,x<r.nx) (l: ∀k∈keys r.up,k∈r.rd)
  {gc:Nat->Option (Ob S)} (q: ∀x∈r.rd,cH L 0 acc (aE bn.h) x=gc x) (s: ∀k∈keys r.up,∃Z,gc k=some Z) (hI:mv K P N ops bn acc gs B L A O w a) {A':Pl} {O':Γ} {w':World} (he:cf A O w (jm r.rd gc) r.ef A' O' w'):
  fV K P N B A' O' w' (b9 (cH L 0 acc (aE bn.h)) r.ef) (λx=>bn.h.length<=x/\ ∀(k:Nat) r,acc[k]? =some r->(ζ k i||L k)=true-> ¬(r.nx<=x/\x<r.nx+r.nw.length)) (λx=>x∈bn.dt\/ ∃(k:Nat) (r:cx S),acc[k]? =some r/\(ζ k i||L k)=true/\x∈keys r.up) bn.lp bn.inr bn.df a:=by
 have n: ∀x,r.nx<=x->x<r.nx+r.nw.length->bn.h.length<=x/\ ∀(k:Nat) r,acc[k]? =some r->L k=true-> ¬(r.nx<=x/\x<r.nx+r.nw.length):=by
  intro x h1 j;refine⟨by have:=(m.top i r g).1;omega,λk e hk d C=>?_⟩;rcases ξd k i with h|h|h
  ·have:=m.pos k i e r h hk g;omega
  ·subst h;rw[z.no] at d;cases d
  ·have:=m.pos i k r e h g hk;omega
 have t: ∀x X,(x,X)∈r.ef->x∈r.rd\/cH L 0 acc (aE bn.h) x=none:=λx X b=>by
  rcases jC.1 ⟨X,b⟩ with h|h
  ·exact .inl (l x h)
  ·right;cases f:cH L 0 acc (aE bn.h) x with
   |none=>rfl
   |some Z=>
    obtain⟨p,hp,_⟩:=hI.c.rel.al x Z f;rw[hI.c.iM x (n x h.1 h.2)] at hp;cases hp
 refine(hI.c.cg (λx X b=>?_) (he.view q t)).weaken ?_ ?_
 ·rcases jC.1 ⟨X,b⟩ with h|h
  ·obtain⟨Z,f⟩:=s x h;exact .inl ⟨Z,by rw[q x (l x h)];exact f⟩
  ·exact .inr (n x h.1 h.2)
 ·rintro x ⟨h1,j⟩;refine⟨⟨h1,λk e hk d=>j k e hk (by rw[d,ξv])⟩,λX b=>?_⟩;rcases jC.1 ⟨X,b⟩ with h|h
  ·have:=y x (l x h);obtain⟨Z,f⟩:=s x h;have v:cH L 0 acc (aE bn.h) x=some Z:=by rw[q x (l x h)];exact f
   obtain⟨p,hp,_⟩:=hI.c.rel.al x Z v;rw[hI.c.iM x ⟨h1,λk e hk d=>j k e hk (by rw[d,ξv])⟩] at hp;cases hp
  ·exact j i r g (by rw[ξu,ζb]) h
 ·rintro x (⟨h|⟨k,e,hk,d,b⟩⟩|⟨⟨Z,f⟩,X,b⟩)
  ·exact .inl h
  ·exact .inr ⟨k,e,hk,by rw[d,ξv],b⟩
  ·rcases jC.1 ⟨X,b⟩ with h|h
   ·exact .inr ⟨i,r,g,by rw[ξu,ζb],h⟩
   ·have u:=n x h.1 h.2;obtain⟨p,hp,_⟩:=hI.c.rel.al x Z f;rw[hI.c.iM x u] at hp;cases hp
theorem afH {a:Act} {d s:Nat} {v:Value} (c:d<a.tmps.size):(a.put (some d) v).tmps.getD s undef=bif ζ d s then v else a.tmps.getD s undef:=by
 cases b:ζ d s with
 |true=>
  have:=δ b;subst this;simp[ζz,θ,c]
 |false=>
  have f:d≠s:=λe=>by subst e;simp at b
  simp[ζz,θ,ξ0 f]
theorem Ui (hR:mB N ops) (p:lk ops L i o) (hI:mv K P N ops bn acc gs B L A O w a) {A':Pl} {O':Γ} {w':World} (z:Tr O w O' w') (hle:A.le A') {l:AV S} {v:Value} (t:gs[i]? =some (.done l)) (G:l.rel A' O' w' v)
  (D:fV K P N B A' O' w' (cH (λk=>ζ k i||L k) 0 acc (aE bn.h)) (λx=>bn.h.length<=x/\ ∀(k:Nat) r,acc[k]? =some r->(ζ k i||L k)=true-> ¬(r.nx<=x/\x<r.nx+r.nw.length)) (λx=>x∈bn.dt\/ ∃(k:Nat) (r:cx S),acc[k]? =some r/\(ζ k i||L k)=true/\x∈keys r.up) bn.lp bn.inr bn.df a):
  mv K P N ops bn acc gs B (λk=>ζ k i||L k) A' O' w' (a.put o.dst v):=by
 have y: ∀s,(a.put o.dst v).tmps.getD s undef=(match o.dst with|some d=>bif ζ d s then v else a.tmps.getD s undef|none=>a.tmps.getD s undef):=by
  intro s;cases e:o.dst with
  |none=>rfl
  |some d=>
   have E:dh ops i=some d:=by unfold dh;rw[p.oi];exact e
   exact afH (by rw[hI.c.size];exact hR.dN i d E)
 have q: ∀d,o.dst=some d->dh ops i=some d:=λd e=>by unfold dh;rw[p.oi];exact e
 refine⟨D.act ?_ ?_,?_,?_,?_⟩
 ·cases o.dst<;>simp[ζz]
 ·cases o.dst<;>rfl
 ·intro s b C u;rw[y s];have g:=(hI.base s b C λk hk=>by have:=u k hk;simp only[Bool.or_eq_false_iff] at this;exact this.2).tr z hle;split
  ·rename_i d e;cases n:ζ d s with
   |true=>
    have:=δ n;subst this;have:=u i (q d e);simp at this
   |false=>exact g
  ·exact g
 ·intro k s b hk j m;rw[y s];cases f:ζ k i with
  |true=>
   have:=δ f;subst this;rw[t] at m;cases m;have F:o.dst=some s:=by unfold dh at j;rw[p.oi] at j;exact j
   rw[F];simpa using G
  |false=>
   simp only[f,ξZ] at hk;have g:=(hI.done k s b hk j m).tr z hle;split
   ·rename_i d e;cases n:ζ d s with
    |true=>
     have:=δ n;subst this;have:=hR.un k i d j (q d e);subst this;simp at f
    |false=>exact g
   ·exact g
 ·intro k hk;cases f:ζ k i with
  |true=>
   have:=δ f;subst this;exact⟨l,t⟩
  |false=>
   simp only[f,ξZ] at hk;exact hI.all k hk
end
section
variable {S:bm} {K:Kit S} {P:Program} {N:Nat} {ops:Array Oper} {bn:AS S}
variable {acc:List (cx S)} {gs:List (Gh S)} {pn:Option (Γ×Value×AS S)} {st:AS S} {L:Nat->Bool} {i:Nat} {o:Oper} {r:cx S}
variable {B:cT} {A:Pl} {O:Γ} {w:World} {a:Act}
def e4 (n:Nat) (listed:Array Bool):Nat->Bool:=λk=>υ k n&&listed.getD k true
theorem ad_ {n:Nat} {listed:Array Bool} (c:listed.size=n) {i:Nat} (hi:i<n):e4 n (listed.setIfInBounds i true)=λk=>ζ k i||e4 n listed k:=by
 funext k
 unfold e4;cases a:ζ k i with
 |true=>
  have:=δ a;subst this;have h1:υ k n=true:=ο.mpr hi;rw[h1];simp[θ,c,hi]
 |false=>
  have b:i≠k:=λe=>by subst e;simp at a
  simp[θ,ξ0 b]
theorem afp (e:AnyF K P N ops bn acc gs pn st) (D:acc.length=ops.size) (hR:mB N ops) (p:lk ops L i o) (c:acc[i]? =some r) (y: ∀x∈r.rd,x<r.nx) (z: ∀k∈keys r.up,k∈r.rd)
  {gc:Nat->Option (Ob S)} (E: ∀x∈r.rd,cH L 0 acc (aE bn.h) x=gc x) (v: ∀k∈keys r.up,∃Z,gc k=some Z) (hI:mv K P N ops bn acc gs B L A O w a) {A':Pl} {O':Γ} {w':World} (he:cf A O w (jm r.rd gc) r.ef A' O' w')
  {q:AS S} (hp:tq ops bn acc gs i r q) (hle:B.nb<=bn.h.length) (n:bn.nb=B.nb):bp K P N B A' O' w' q a:=by
 have m:=Uh e D p c y z E v hI he;obtain⟨G,H,I,J⟩:=hp.kO;rw[<-H,<-I,<-J] at m;refine m.Ut (λx=>?_) (λx d=>?_) (λx F d=>?_) (G.trans n) (by rw[hp.hl];have:=(e.top i r c).1;omega) (λs j C=>?_)
 ·rw[hp.hp x]
  by_cases f: ∃X,(x,X)∈r.ef
  ·exact rC f
  ·rw[ee (λX hX=>f ⟨X,hX⟩),ee (λX hX=>f ⟨X,hX⟩),Pf (ζd (ε.1 c).1)]
   symm
   refine lN (λk b hk g=>?_) rfl;rw[ξe];rcases ξd k i with h|h|h
   ·rw[show υ k i=true from ο.mpr h];rcases hp.pre k b h hk with h1|h1
    ·exact p.cl k h1
    ·exact absurd g (py h1)
   ·subst h;rw[c] at hk;cases hk;exact absurd g f
   ·exact absurd g (py (hp.post k b h hk))
 ·rw[hp.hl] at d;refine⟨by have:=(e.top i r c).1;omega,λk b hk u l=>?_⟩;rcases ξd k i with h|h|h
  ·have:=e.pos k i b r h hk c;omega
  ·subst h;rw[c] at hk;cases hk;omega
  ·rw[(hp.post k b h hk).2] at l;simp at l;omega
 ·rcases d with h|⟨k,b,hk,u,d⟩
  ·exact hp.mU x h
  ·rcases ω i k with h|h
   ·rw[(hp.post k b h hk).1] at d;cases d
   ·exact hp.dt k b x h hk d (by rw[n];exact F)
 ·obtain⟨h1,t⟩:=hp.env s j C;exact(hI.base s j t λk hk=>absurd hk (h1 k)).tr he.tr he.le
theorem abb (hm:P.follows .mixedOrders=true) (hR:mB N ops) (d:AnyF K P N ops bn acc gs pn st) (G:acc.length=ops.size) {e:NP} {ab:AS S} (he:(pn=none/\e= .go/\ab=st)\/ ∃dead u T,pn=some (dead,u,T)/\e= .bD u/\ab=T) {id:Nat} (h:bp K P N B A O w bn a):
  (ζA id ops true).wpIn (fw B.rr) 0 P (hE K P N B e.x ab) a w:=by
 refine ahy (I:=λlisted a w=> ∃A O,mv K P N ops bn acc gs B (e4 ops.size listed) A O w a) hm hR.below ?_ ?_ ?_
 ·rintro listed a w i o ah W ⟨A,O,hI⟩ E av ad;have Y:i<ops.size:=(ξa.1 E).1;have Z: ∀k,k<ops.size->listed.getD k true=true->e4 ops.size listed k=true:=λk h1 y=>by
   unfold e4;rw[y,ζo];exact ο.mpr h1
  have f:lk ops (e4 ops.size listed) i o:=by
   refine⟨E,?_,?_,?_,?_⟩
   ·intro k hk;unfold e4 at hk;rw[η] at hk;have L:=ο.mp hk.1;refine⟨L,λj l=>?_⟩;have ar:=hR.cl k L j l;refine Z j (by omega) ?_;unfold eD at l;rw[κ L] at l;exact lz W 12 _ (λx b=>W k _ (κ L) hk.2 x b) j l
   ·intro j l;have ar:=hR.cl i Y j l;refine Z j (by omega) ?_;unfold eD at l;rw[E] at l;exact lz W 12 _ ad j l
   ·unfold e4;rw[av,Bool.and_false]
   ·intro j l;exact Z j (by have:=hR.below i o E j l;omega) (ad j l)
  have ag:i<acc.length:=by omega
  have m:acc[i]? =some acc[i]:=σ ag;have af:i<gs.length:=by rw[d.lg];exact ag
  have M:=d.step i o acc[i] gs[i] E m (σ af);have D:gs[i]? =some gs[i]:=σ af;have ae: ∀j,j<acc[i].nw.length->A.pl (acc[i].nx+j)=none:=by
   intro j l;refine hI.c.iM _ ⟨by have:=(d.top i _ m).1;omega,λk g hk C V=>?_⟩;rcases ξd k i with h|h|h
   ·have:=d.pos k i g _ h hk m;omega
   ·subst h;rw[f.no] at C;cases C
   ·have:=d.pos i k _ g h m hk;omega
  simp only[wpOpIn,E];rw[ad_ ah Y];generalize aN:gs[i]=aj at M D;cases aj with
  |done n=>
   rcases M with⟨env,gc,hw⟩|⟨env,aA,aB,aC,aa⟩
   ·have z:=F2 hR f hI hw.ev;rw[if_pos (hw.Vj A O w a hI.c.size z)];have H: ∀x∈acc[i].rd,cH (e4 ops.size listed) 0 acc (aE bn.h) x=gc x:=λx b=>(agree d G f m hw.lt hw.uO x b).trans (hw.gh x).symm;refine k4 ?_ ?_ (hw.snd B.rr A O w a z (hI.c.rel.view H) hI.c.ob hI.c.c_ ae)
    ·rintro a' w' ⟨v,rfl,U,t,A',O',az,p⟩;cases t;refine⟨A',O',Ui hR f hI p.tr p.le D az ?_⟩;have J:=Uh d G f m hw.lt hw.sub H hw.al hI p;rw[show cH (λk=>ζ k i||e4 ops.size listed k) 0 acc (aE bn.h)=b9 (cH (e4 ops.size listed) 0 acc (aE bn.h)) acc[i].ef from funext λx=>Pe m f.no λb=>late d G f m hw.lt hw.sub b];exact J
    ·intro x a' w' F;cases x with
     |panic ai=>obtain⟨u,_,_,t,_⟩:=F;cases t
     |_=>exact F.elim
   ·have z:=F2 hR f hI aA;rw[if_neg (by rw[aB A O w a hI.c.size z];simp)];refine⟨λ_ _=>trivial,A,O,?_⟩;subst aC;refine Ui hR f hI (Tr.refl O w) (Pl.le.refl A) D ⟨[],rfl,rfl⟩ ?_;have ao:acc[i].ef=[]:=by unfold cx.ef;rw[aa.1,aa.2];rfl
    rw[show cH (λk=>ζ k i||e4 ops.size listed k) 0 acc (aE bn.h)=cH (e4 ops.size listed) 0 acc (aE bn.h) from funext λx=>by
     rw[Pe m f.no λb=>absurd b (py aa),ao];rfl]
    refine hI.c.weaken ?_ ?_
    ·rintro x ⟨h1,y⟩;exact⟨h1,λk g hk C=>y k g hk (by rw[C,ξv])⟩
    ·rintro x (h1|⟨k,g,hk,C,b⟩)
     ·exact .inl h1
     ·exact .inr ⟨k,g,hk,by rw[C,ξv],b⟩
  |bD u=>
   obtain⟨env,gc,hw⟩:=M;have z:=F2 hR f hI hw.ev;rw[if_pos (hw.Vj A O w a hI.c.size z)];have H: ∀x∈acc[i].rd,cH (e4 ops.size listed) 0 acc (aE bn.h) x=gc x:=λx b=>(agree d G f m hw.lt hw.uO x b).trans (hw.gh x).symm;refine k4 ?_ ?_ (hw.snd B.rr A O w a z (hI.c.rel.view H) hI.c.ob hI.c.c_ ae)
   ·rintro a' w' ⟨v,rfl,U,t,_⟩;cases t
   ·intro x a' w' F;cases x with
    |panic ai=>
     obtain⟨aO,rfl,rfl,t,A',O',p⟩:=F;cases t;rcases he with⟨h1,_⟩|⟨dead,aM,T,h1,rfl,rfl⟩
     ·obtain⟨n,y⟩:=d.lU h1 i _ D;cases y
     ·obtain⟨i0,aL,Q,R,aJ,aK,_⟩:=d.kR dead aM _ h1;have:=aK i u D;subst this;rw[D] at Q;cases Q;rw[m] at R;cases R;exact⟨rfl,A',O',afp d G hR f m hw.lt hw.sub H hw.al hI p aJ h.le h.nb⟩
    |_=>exact F.elim
  |never=>
   obtain⟨_,k,hk,aw⟩:=M;exfalso;obtain⟨n,r⟩:=hI.all k (f.cl k hk);exact aw n (p0 r (hR.cl i Y k hk))
 ·rintro listed a w ah ak ⟨A,O,hI⟩;have q: ∀k,k<ops.size->e4 ops.size listed k=true:=λk hk=>by unfold e4;rw[ak k hk,ζo];exact ο.mpr hk
  rcases he with⟨h1,rfl,rfl⟩|⟨dead,u,T,h1,rfl,rfl⟩
  ·refine⟨rfl,A,O,?_⟩;obtain⟨aF,aG,aH,aI⟩:=d.kO;have J:=hI.c;rw[<-aG,<-aH,<-aI] at J;have au: ∀ {k:Nat} {g:cx S},acc[k]? =some g->k<ops.size:=λhk=>by have:=(ε.1 hk).1;omega
   refine J.Ut (λx=>?_) (λx b=>?_) (λx aD b=>?_) (aF.trans h.nb) (ζe h.le d.hl) (λs n ay=>?_)
   ·rw[d.hp x];refine lN (λk g hk _=>?_) rfl;rw[ξe];exact(q k (au hk)).symm
   ·exact⟨ζe d.hl b,λk g hk _ V=>by have:=(d.top k g hk).2;omega⟩
   ·rcases b with b|⟨k,g,hk,_,b⟩
    ·exact d.mU x b
    ·exact d.dt k g x hk b (by rw[h.nb];exact aD)
   ·rcases d.env s n ay with⟨k,hk,r⟩|⟨y,V⟩
    ·exact hI.done k s n (q k (mT hk)) hk r
    ·refine hI.base s n y λk hk=>?_;exfalso;obtain⟨U,r⟩:=hI.all k (q k (mT hk));exact V k U hk r
  ·exfalso;obtain⟨i0,aL,Q,R,_⟩:=d.kR dead u _ h1;have aq:i0<ops.size:=by have:=(ε.1 R).1;omega
   obtain⟨n,r⟩:=hI.all i0 (q i0 aq);rw[Q] at r;cases r
 ·have p:cf A O w (aE bn.h) [] A O w.drew:=FX h.ob (Fr.drew [] w);have q: ∀k,e4 ops.size (ξ8 ops.size false) k=false:=λk=>by
   unfold e4;cases an:υ k ops.size with
   |false=>rfl
   |true=>
    have:=ο.mp an;simp[θ,this]
  refine⟨A,O,?_,?_,?_,?_⟩
  ·rw[show cH (e4 ops.size (ξ8 ops.size false)) 0 acc (aE bn.h)=aE bn.h from funext λx=>HE λj g _ _=>by rw[ξe];exact q j];refine(h.toC.cg (ef:=[]) (λx X b=>by cases b) p).weaken ?_ ?_
   ·rintro x ⟨h1,_⟩;exact⟨h1,λX b=>by cases b⟩
   ·rintro x (h1|⟨_,X,b⟩)
    ·exact .inl h1
    ·cases b
  ·intro s n ax _;exact(h.env s n ax).tr p.tr p.le
  ·intro k s n hk;rw[q k] at hk;cases hk
  ·intro k hk;rw[q k] at hk;cases hk
end
section
variable {S:bm} {P:Program} {N:Nat} {ops:Array Oper} {bn:AS S} {R:Type} {z:R}
theorem HZ {env:a1 S} {s:Nat} {a:AV S} {l:Γ} (h:a1.get (eR env l) s=some a):s∈l/\a1.get env s=some a:=xd (get_mem h)
theorem qM {env:a1 S} {s:Nat}: ∀ {l:Γ},s∈l->a1.get (eR env l) s=a1.get env s
 |t::r,h=>by
  simp only[eR]
  by_cases c:t=s
  ·subst c;cases d:a1.get env t with
   |some a=>simp[a1.get]
   |none=>
    simp only
    by_cases b:t∈r
    ·rw[qM b,d]
    ·cases hk:a1.get (eR env r) t with
     |none=>rfl
     |some a=>exact absurd (HZ hk).1 b
  ·have b:s∈r:=by
    rcases τ.1 h with h|h
    ·exact absurd h.symm c
    ·exact h
   cases d:a1.get env t with
   |some a=>
    have f:ζ t s=false:=by
     cases e:ζ t s with
     |false=>rfl
     |true=>exact absurd (δ e) c
    simp only[a1.get,f,cond_false];exact qM b
   |none=>exact qM b
theorem ajh {env:a1 S} {s:Nat} {c:AV S} (h:a1.get (Ka ops env) s=some c):(∀k,dh ops k≠some s)/\a1.get env s=some c:=by
 constructor
 ·have:=(ξk.1 (get_mem h)).2;rw[ξ4] at this;intro k hk;have h1:=this k (by simpa using mT hk);rw[hk] at h1;simp at h1
 ·unfold Ka at h
  induction env with
  |nil=>cases h
  |cons p r d=>
   obtain⟨t,b⟩:=p;rw[List.filter_cons] at h;simp only[a1.get];split at h
   ·simp only[a1.get] at h;cases a:ζ t s with
    |true=>rw[a] at h;exact h
    |false=>rw[a] at h;exact d h
   ·rename_i e;cases a:ζ t s with
    |true=>
     exfalso;have f:=δ a;subst f;have h1:=(ξk.1 (get_mem h)).2;exact e h1
    |false=>exact d h
theorem aa2 {o:Oper} {st:AS S} {yes no:AS S->Option R} (h:mQ N ops o.guard st yes no=some z):
  ∃g,(∀s,a1.get g s=a1.get st.env s)/\
   ((yes {st with env:=g}=some z/\ ∀A O w a,a.tmps.size=N->cQ A O w (eR g (fh ops o)) a->ξ1 o (yielded ops a.tmps)=true)\/(no {st with env:=g}=some z/\ ∀A O w a,a.tmps.size=N->cQ A O w (eR g (fh ops o)) a->ξ1 o (yielded ops a.tmps)=false)):=by
 unfold mQ at h;split at h
 ·rename_i i;exact⟨st.env,λ_=>rfl,.inl ⟨h,λA O w a _ _=>by unfold ξ1;rw[i]⟩⟩
 ·rename_i j b i;split at h
  rotate_left
  ·cases h
  rename_i t n;split at h
  rotate_left
  ·cases h
  rename_i d m;cases l:υ d N<;>rw[l] at h
  ·cases h
  simp only[cond_true] at h;have p:d∈fh ops o:=by
   unfold fh O7 dh;rw[i];simp[n,m]
  split at h
  ·rename_i c k;have same: ∀s,a1.get ((d,AV.s (.one (.v (.bool c))))::st.env) s=a1.get st.env s:=λs=>by
    simp only[a1.get];cases q:ζ d s with
    |true=>
     have:=δ q;subst this;exact k.symm
    |false=>rfl
   refine⟨(d,AV.s (.one (.v (.bool c))))::st.env,same,?_⟩;have w1: ∀(A:Pl) (O:Γ) (w:World) (a:Act),a.tmps.size=N->cQ A O w (eR ((d,AV.s (.one (.v (.bool c))))::st.env) (fh ops o)) a->ξ1 o (yielded ops a.tmps)=(c==b):=λA O w a f e=>
    Vd i n m (by rw[f];exact l) (eg (S:=S) (A:=A) (O:=O) (w:=w) (e d (.s (.one (.v (.bool c)))) (by rw[qM p,same d];exact k)))
   cases c<;>cases b<;>simp only[cond_true,cond_false] at h
   ·exact .inl ⟨h,λA O w a f e=>by rw[w1 A O w a f e];rfl⟩
   ·exact .inr ⟨h,λA O w a f e=>by rw[w1 A O w a f e];rfl⟩
   ·exact .inr ⟨h,λA O w a f e=>by rw[w1 A O w a f e];rfl⟩
   ·exact .inl ⟨h,λA O w a f e=>by rw[w1 A O w a f e];rfl⟩
  ·rename_i k;refine⟨st.env,λ_=>rfl,.inr ⟨h,λA O w a f e=>?_⟩⟩;obtain⟨xs,r,_⟩:=e d _ (by rw[qM p];exact k);exact UO i n m (by rw[f];exact l) r
  ·cases h
variable {K:Kit S} {acc:List (cx S)} {gs:List (Gh S)} {pn:Option (Γ×Value×AS S)} {st st1:AS S} {r:cx S} {gh:Gh S}
theorem j8.snoc {s:Nat} {d:AV S} (h:j8 ops bn gs s d) (hn: ∀b,gh= .done b->dh ops gs.length≠some s):j8 ops bn (gs++[gh]) s d:=by
 rcases h with⟨k,h1,c⟩|⟨h1,c⟩
 ·exact .inl ⟨k,h1,by rw[φ (ε.1 c).1];exact c⟩
 ·refine .inr ⟨h1,λk b hk a=>?_⟩;rcases ξd k gs.length with e|heq|f
  ·rw[φ e] at a;exact c k b hk a
  ·subst heq;simp at a;exact hn b a hk
  ·rw[ξg (by simp;omega)] at a;cases a
theorem fq {α:Type} {l:List α} {x y:α} {k:Nat} (h:(l++[x])[k]? =some y):l[k]? =some y\/(k=l.length/\y=x):=by
 rcases ξd k l.length with a|heq|b
 ·rw[φ a] at h;exact .inl h
 ·subst heq;simp at h;exact .inr ⟨rfl,h.symm⟩
 ·rw[ξg (by simp;omega)] at h;cases h
theorem oj {α:Type} {l:List α} {x:α} {k:Nat} (h:k<=l.length):(l++[x]).take k=l.take k:=ξK h
theorem AnyF.snoc (c:AnyF K P N ops bn acc gs pn st) (n: ∀x,aE st1.h x=b9 (aE st.h) r.ef x) (O:r.nx=st.h.length) (hl:st1.h.length=st.h.length+r.nw.length)
  (I: ∀s d,a1.get st1.env s=some d->(gh= .done d/\dh ops acc.length=some s)\/(a1.get st.env s=some d/\ ∀B,gh= .done B->dh ops acc.length≠some s))
  (Q:st1.nb=st.nb/\st1.lp=st.lp/\st1.inr=st.inr/\st1.df=st.df) (q: ∀x∈st.dt,x∈st1.dt) (H: ∀x∈keys r.up,x<st.nb->x∈st1.dt) (V: ∀o,ops[acc.length]? =some o->o8 K P N ops bn acc gs acc.length o r gh)
  {kR:Option (Γ×Value×AS S)} (R:kR=none->pn=none/\ ∃d,gh= .done d)
  (T: ∀dead u z,kR=some (dead,u,z)-> ∃i y,(gs++[gh])[i]? =some (.bD u)/\(acc++[r])[i]? =some y/\tq ops bn (acc++[r]) (gs++[gh]) i y z/\(∀k Y,(gs++[gh])[k]? =some (.bD Y)->k=i)/\(∀(k:Nat) (g:Gh S),(gs++[gh])[k]? =some g->((∃d,g=Gh.done d)\/k∈dead)/\(k∈dead-> ∀d,g≠Gh.done d))/\ ∀k∈dead,k<(acc++[r]).length):
  AnyF K P N ops bn (acc++[r]) (gs++[gh]) kR st1:=by
 have l:=c.lg;refine⟨by simp[l],?_,?_,?_,?_,?_,?_,?_,?_,?_,?_,T⟩
 ·intro x;rw[wZ,ξe,n x];simp only[cH,cond_true];exact UQ (c.hp x)
 ·have:=c.hl;omega
 ·intro i k a b L f G;rcases fq G with p|⟨rfl,rfl⟩
  ·rcases fq f with e|⟨rfl,rfl⟩
   ·exact c.pos i k a b L e p
   ·have:=(ε.1 p).1;omega
  ·rcases fq f with e|⟨rfl,rfl⟩
   ·rw[O];exact(c.top i a e).2
   ·omega
 ·intro i a f;rcases fq f with e|⟨rfl,rfl⟩
  ·have:=c.top i a e;omega
  ·have:=c.hl;omega
 ·intro s d U;rcases I s d U with⟨h1,m⟩|⟨h1,m⟩
  ·exact .inl ⟨acc.length,m,by rw[<-l];simp[h1]⟩
  ·exact(c.env s d h1).snoc (by rw[l];exact m)
 ·obtain⟨A,a2,a3,a4⟩:=c.kO;obtain⟨C,D,E,F⟩:=Q;exact⟨C.trans A,D.trans a2,E.trans a3,F.trans a4⟩
 ·exact λx n=>q x (c.mU x n)
 ·intro i a x f v w;rcases fq f with e|⟨rfl,rfl⟩
  ·exact q x (c.dt i a x e v w)
  ·exact H x v (by rw[c.kO.1];exact w)
 ·intro i o a g t f j;rcases fq f with e|⟨rfl,rfl⟩
  ·have M:=(ε.1 e).1;rw[oj (ζd M),oj (by omega)];refine c.step i o a g t e ?_;rw[φ (by omega)] at j;exact j
  ·rw[oj (ξc _),ζ3];rw[<-l,oj (ξc _),ζ3,l];have:g=gh:=by
    rw[<-l] at j;simp at j;exact j.symm
   subst this;exact V o t
 ·intro h k g j;obtain⟨W,X⟩:=R h;rcases fq j with J|⟨rfl,rfl⟩
  ·exact c.lU W k g J
  ·exact X
theorem AnyF.IZ (t:AnyF K P N ops bn acc gs pn st) (D:r.up=[]/\r.nw=[]) {o:Γ} {y:Value} {w:AS S} (C:pn=some (o,y,w)) {dead:Γ} (l:dead=o/\(∃b,gh= .done b)\/dead=acc.length::o/\gh= .never):
  ∃i m,(gs++[gh])[i]? =some (.bD y)/\(acc++[r])[i]? =some m/\tq ops bn (acc++[r]) (gs++[gh]) i m w/\(∀k n,(gs++[gh])[k]? =some (.bD n)->k=i)/\(∀(k:Nat) (g:Gh S),(gs++[gh])[k]? =some g->((∃b,g=Gh.done b)\/k∈dead)/\(k∈dead-> ∀b,g≠Gh.done b))/\ ∀k∈dead,k<(acc++[r]).length:=by
 obtain⟨i,m,h1,q,c,A,s,p⟩:=t.kR _ _ _ C;have v:=(ε.1 q).1;have B:=t.lg;have G: ∀u,gh≠ .bD u:=by
  intro u e;rcases l with⟨_,b,h⟩|⟨_,h⟩<;>rw[h] at e<;>cases e
 refine⟨i,m,?_,?_,?_,?_,?_,?_⟩
 ·rw[φ (by omega)];exact h1
 ·rw[φ v];exact q
 ·refine⟨?_,c.hl,c.env,c.kO,c.mU,?_,?_,?_⟩
  ·rw[oj (ζd v)];exact c.hp
  ·intro k a x hk d E F;rcases fq d with f|⟨rfl,rfl⟩
   ·exact c.dt k a x hk f E F
   ·omega
  ·intro k a hk d;rcases fq d with f|⟨rfl,rfl⟩
   ·exact c.pre k a hk f
   ·omega
  ·intro k a hk d;rcases fq d with f|⟨rfl,rfl⟩
   ·exact c.post k a hk f
   ·exact D
 ·intro k n hk;rcases fq hk with j|⟨rfl,e⟩
  ·exact A k n j
  ·exact absurd e.symm (G n)
 ·intro k g hk;rcases fq hk with j|⟨rfl,rfl⟩
  ·have H:=(ε.1 j).1;rcases l with⟨rfl,_⟩|⟨rfl,_⟩
   ·exact s k g j
   ·obtain⟨z,a2⟩:=s k g j;refine⟨z.imp id (μ _),λh=>?_⟩;rcases τ.1 h with e|h
    ·omega
    ·exact a2 h
  ·rcases l with⟨rfl,b,rfl⟩|⟨rfl,rfl⟩
   ·exact⟨.inl ⟨b,rfl⟩,λh=>by have:=p _ h;omega⟩
   ·exact⟨.inr (by rw[B];exact ν),λ_ b e=>by cases e⟩
 ·intro k hk;rw[χ];rcases l with⟨rfl,_⟩|⟨rfl,_⟩
  ·have:=p k hk;omega
  ·rcases τ.1 hk with e|h
   ·subst e;simp
   ·have:=p k h;omega
end
section
variable {S:bm} {P:Program} {N:Nat} {ops:Array Oper} {bn:AS S} {R:Type} {z:R}
theorem abX {pn:Option (Γ×Value×AS S)} {cl:Γ} (h:uT pn cl=true): ∃dead u a,pn=some (dead,u,a)/\ ∃j∈dead,j∈cl:=by
 unfold uT at h;split at h
 ·rename_i dead u a;rw[ζy] at h;obtain⟨j,h1,b⟩:=h;exact⟨dead,u,a,rfl,j,h1,gL.1 b⟩
 ·cases h
theorem PC {l rd:Γ} (h:l.all (λi=>dz i rd)=true): ∀k∈l,k∈rd:=λk hk=>gL.1 (ξ4.1 h k hk)
theorem Sy {st:AS S} {o:Oper} {g:AV S} {k:AS S->Option R} (h:iq N o st g k=some z):
  ∃i,k {st with env:=i}=some z/\ ∀s b,a1.get i s=some b->(o.dst=some s/\b=g)\/(a1.get st.env s=some b/\o.dst≠some s):=by
 unfold iq at h;split at h
 ·rename_i d c;cases j:υ d N<;>rw[j] at h
  ·cases h
  ·refine⟨(d,g)::st.env,h,λs b a=>?_⟩;simp only[a1.get] at a;cases f:ζ d s with
   |true=>
    rw[f] at a;have:=δ f;subst this;simp only[cond_true,ι] at a;exact .inl ⟨c,a.symm⟩
   |false=>
    rw[f] at a;refine .inr ⟨a,λe=>?_⟩;rw[c] at e;cases e;simp at f
 ·rename_i c;exact⟨st.env,h,λs b a=>.inr ⟨a,by rw[c];simp⟩⟩
theorem pa {G:bN S} (D:b6 G.K P) (C:j6 G P) (hR:mB N ops) {ad:Nat->List (aB S)->AH S->(Rs S->AH S->Γ->Option R)->Option R} (H:j5 G.K P ad) {ah:Value->AS S->Option R} {k:AS S->Option R}:
  ∀ {c:Nat} {acc:List (cx S)} {gs:List (Gh S)} {pn:Option (Γ×Value×AS S)} {st:AS S},AnyF G.K P N ops bn acc gs pn st->acc.length+c=ops.size->kd G ad N ops ah k c acc pn st=some z->
   ∃ab al Y aj e Z,AnyF G.K P N ops bn ab al Y aj/\ab.length=ops.size/\qS ah k e Z=some z/\((Y=none/\e= .go/\Z=aj)\/ ∃dead u t,Y=some (dead,u,t)/\e= .bD u/\Z=t)
 |0,acc,gs,pn,st,d,hl,h=>by
  simp only[kd] at h;split at h
  ·exact⟨acc,gs,none,st,.go,st,d,by omega,h,.inl ⟨rfl,rfl,rfl⟩⟩
  ·rename_i dead u t;exact⟨acc,gs,_,st,.bD u,t,d,by omega,h,.inr ⟨dead,u,t,rfl,rfl,rfl⟩⟩
 |c+1,acc,gs,pn,st,d,hl,h=>by
  have V:=d.lg;simp only[kd] at h;split at h
  ·cases h
  rename_i o M;have aH:acc.length<ops.size:=by omega
  have I: ∀s,dh ops acc.length=some s↔o.dst=some s:=λs=>by unfold dh;rw[M]
  cases af:uT pn (eD ops acc.length)<;>rw[af] at h
  rotate_left
  ·
   simp only[cond_true] at h;obtain⟨dead,u,t,rfl,j,av,aw⟩:=abX af;refine pa D C hR H (c:=c) (gs:=gs++[.never]) (d.snoc (λx=>rfl) rfl (by simp) (λs f n=>.inr ⟨n,λaF e=>by cases e⟩) ⟨rfl,rfl,rfl,rfl⟩ (λ_ h=>h) (λx l=>by cases l) ?_ (λe=>by cases e) ?_) (by rw[χ,ξr];omega) h
   ·intro o' q;refine⟨⟨rfl,rfl⟩,j,aw,λf ar=>?_⟩;obtain⟨i,r,_,_,_,_,ao,_⟩:=d.kR _ _ _ rfl;exact(ao j _ ar).2 av f rfl
   ·rintro aG ak aL e;cases e;exact d.IZ ⟨rfl,rfl⟩ rfl (.inr ⟨rfl,rfl⟩)
  simp only[cond_false] at h;obtain⟨w,y,aq⟩:=aa2 h;have lU: ∀ {gh:Gh S},(∃f,gh= .done f)->pn=none->pn=none/\ ∃f,gh=Gh.done f:=λh e=>⟨e,h⟩;rcases aq with⟨B,hw⟩|⟨ax,hw⟩
  ·simp only at B;cases W:(Jk G (eR w (fh ops o)) (aE st.h) o).all (λi=>υ i st.h.length)<;>rw[W] at B
   ·cases B
   simp only[cond_true] at B;generalize aJ:Jk G (eR w (fh ops o)) (aE st.h) o=rd at B W;have ag: ∀x∈rd,x<st.h.length:=λx l=>ο.mp (ξ4.1 W x l);obtain⟨res,up,nw,m,ay⟩:=R8 D C H B;have ev: ∀s f,a1.get (eR w (fh ops o)) s=some f->s∈fh ops o/\j8 ops bn gs s f:=λs f n=>by
    obtain⟨h1,p⟩:=HZ n;rw[y s] at p;exact⟨h1,d.env s f p⟩
   have ae: ∀ {b:Bool},(e2 (aE st.h) up&&((keys up).all (λi=>dz i rd)&&(kk (eD ops acc.length) rd up acc 0&&b)))=true->
     b=true/\Want G.K P N ops bn acc gs acc.length o ⟨rd,up,st.h.length,nw⟩ res (eR w (fh ops o)) (aE st.h)/\(∀k∈keys up,k<st.h.length):=by
    intro b v;simp only[η] at v;obtain⟨aA,ai,aC,aD⟩:=v;refine⟨aD,⟨ay,ev,hw,d.hp,lq aA,PC ai,ag,λk aK hk=>?_⟩,λk hk=>?_⟩
    ·have:=NF aC hk
     rwa [ξe] at this
    ·exact ag k (PC ai k hk)
   cases res with
   |ret f=>
    simp only[jY] at m;cases v:(e2 (aE st.h) up&&((keys up).all (λi=>dz i rd)&&(kk (eD ops acc.length) rd up acc 0&&(pn.isNone||Kb up nw))))<;>rw[v] at m
    ·cases m
    simp only[cond_true] at m;obtain⟨O,X,L⟩:=ae v;obtain⟨Q,U,T⟩:=Sy m;refine pa D C hR H (c:=c) (acc:=acc++[⟨rd,up,st.h.length,nw⟩]) (gs:=gs++[.done f]) (d.snoc (st1:= {st.cg up nw with env:=Q}) (λx=>?_) rfl ?_ (λs b n=>?_) ⟨rfl,rfl,rfl,rfl⟩ (λx l=>jB l) (λx l A=>kq A l) (λo' q=>?_) (lU ⟨f,rfl⟩) ?_) (by rw[χ,ξr];omega) U
    ·exact congrFun (uW L) x
    ·show(eA st.h up++nw).length=_;rw[χ,jg]
    ·rcases T s b n with⟨h1,rfl⟩|⟨h1,p⟩
     ·exact .inl ⟨rfl,(I s).2 h1⟩
     ·exact .inr ⟨by rw[<-y s];exact h1,λ_ _ e=>p ((I s).1 e)⟩
    ·rw[M] at q;cases q;exact .inl ⟨_,_,X⟩
    ·intro dead u t e;subst e;have az:up=[]/\nw=[]:=by
      simp only[Option.isNone_some,ξZ] at O;unfold Kb at O;split at O
      ·exact⟨rfl,rfl⟩
      ·cases O
     exact d.IZ az rfl (.inl ⟨rfl,f,rfl⟩)
   |bD u=>
    simp only[jY] at m;cases an:u.oneCell'<;>rw[an] at m
    ·cases m
    simp only[cond_true] at m;split at m
    ·cases m
    cases v:(e2 (aE st.h) up&&((keys up).all (λi=>dz i rd)&&(kk (eD ops acc.length) rd up acc 0&&idle (eD ops acc.length) acc 0)))<;>rw[v] at m
    ·cases m
    simp only[cond_true] at m;obtain⟨au,X,L⟩:=ae v;refine pa D C hR H (c:=c) (acc:=acc++[⟨rd,up,st.h.length,nw⟩]) (gs:=gs++[.bD u]) (d.snoc (st1:=({st with env:=w}:AS S).cg up nw) (λx=>?_) rfl ?_ (λs b n=>?_) ⟨rfl,rfl,rfl,rfl⟩ (λx l=>jB l) (λx l A=>kq A l) (λo' q=>?_) (λe=>by cases e) ?_) (by rw[χ,ξr];omega) m
    ·exact congrFun (uW L) x
    ·show(eA st.h up++nw).length=_;rw[χ,jg]
    ·exact .inr ⟨by rw[<-y s];exact n,λ_ e=>by cases e⟩
    ·rw[M] at q;cases q;exact⟨_,_,X⟩
    ·intro dead ak t e;cases e;refine⟨acc.length,⟨rd,up,st.h.length,nw⟩,by rw[<-V,ξb (ξc _),ζs];rfl,by rw[ξb (ξc _),ζs];rfl,⟨?_,?_,?_,?_,?_,?_,?_,?_⟩,?_,?_,?_⟩
     ·intro x;rw[oj (ξc _),ζ3];rw[show aE (({st with env:=w}:AS S).cg up nw).h x=b9 (aE st.h) (up++news st.h.length nw) x from congrFun (uW L) x];exact UQ (d.hp x)
     ·show(eA st.h up++nw).length=_;rw[χ,jg]
     ·intro s b n;obtain⟨aa,a2⟩:=ajh n;refine⟨aa,?_⟩;rw[y s] at a2;rcases d.env s b a2 with⟨k,hk,_⟩|⟨h1,_⟩
      ·exact absurd hk (aa k)
      ·exact h1
     ·exact d.kO
     ·exact λx l=>jB (d.mU x l)
     ·intro k a x hk E l A;rcases fq E with F|⟨rfl,rfl⟩
      ·exact jB (d.dt k a x F l A)
      ·exact kq (by show x<st.nb;rw[d.kO.1];exact A) l
     ·intro k a hk E;rcases fq E with F|⟨rfl,rfl⟩
      ·have:=Pj au F
       rwa [ξe] at this
      ·omega
     ·intro k a hk E;rcases fq E with F|⟨rfl,rfl⟩
      ·have:=(ε.1 F).1;omega
      ·omega
     ·intro k ak hk;rcases fq hk with J|⟨rfl,_⟩
      ·obtain⟨f,e⟩:=d.lU rfl k _ J;cases e
      ·exact V
     ·intro k g hk;rcases fq hk with J|⟨rfl,rfl⟩
      ·have aI:=(ε.1 J).1;exact⟨.inl (d.lU rfl k g J),λhm=>by simp at hm;omega⟩
      ·exact⟨.inr (by rw[V];exact ν),λ_ f e=>by cases e⟩
     ·intro k hk;simp at hk;subst hk;simp
  ·obtain⟨Q,U,T⟩:=Sy ax;refine pa D C hR H (c:=c) (acc:=acc++[⟨[],[],st.h.length,[]⟩]) (gs:=gs++[.done (.bJ [])]) (d.snoc (st1:= {st with env:=Q}) (λx=>rfl) rfl (by simp) (λs b n=>?_) ⟨rfl,rfl,rfl,rfl⟩ (λ_ h=>h) (λx l=>by cases l) (λo' q=>?_) (lU ⟨_,rfl⟩) ?_) (by rw[χ,ξr];omega) U
   ·rcases T s b n with⟨h1,rfl⟩|⟨h1,p⟩
    ·exact .inl ⟨rfl,(I s).2 h1⟩
    ·exact .inr ⟨by rw[<-y s];exact h1,λ_ _ e=>p ((I s).1 e)⟩
   ·rw[M] at q;cases q;refine .inr ⟨eR w (fh ops o),λs f n=>?_,hw,rfl,rfl,rfl⟩;obtain⟨h1,p⟩:=HZ n;rw[y s] at p;exact⟨h1,d.env s f p⟩
   ·intro dead u t e;exact d.IZ ⟨rfl,rfl⟩ e (.inl ⟨rfl,_,rfl⟩)
theorem AnyF.start {K:Kit S}:AnyF K P N ops bn [] [] none bn:=by
 refine⟨rfl,λx=>rfl,ξc _,?_,?_,?_,⟨rfl,rfl,rfl,rfl⟩,λx h=>h,?_,?_,?_,?_⟩
 ·intro i k r d _ h;simp at h
 ·intro i r h;simp at h
 ·exact λs b h=>.inr ⟨h,λk c _ a=>by simp at a⟩
 ·intro i r x h;simp at h
 ·intro i o r gh _ h;simp at h
 ·intro _ k gh h;simp at h
 ·intro dead u e h;cases h
theorem aa1 {G:bN S} (hm:P.follows .mixedOrders=true) (i:b6 G.K P) (g:j6 G P) {f:Nat->List (aB S)->AH S->(Rs S->AH S->Γ->Option R)->Option R} (j:j5 G.K P f) {m:List (aB S)->AS S->(Bool->AS S->Option R)->Option R} (p:uE G.K P m) {draw:Bool} {st:AS S} {l:Value->AS S->Option R} {k:AS S->Option R} {id:Nat}
  (h:Ft G f m N ops draw st l k=some z): ∃e b,qS l k e b=some z/\ ∀B A O w a,bp G.K P N B A O w st a->(ζA id ops draw).wpIn (fw B.rr) 0 P (hE G.K P N B e.x b) a w:=by
 unfold Ft at h;split at h
 ·obtain⟨e,b,h1,c⟩:=Fs i g j p h;refine⟨e,b,h1,λB A O w a d=>?_⟩;exact wpIn_region (c B A O w a d)
 ·cases hR:ya N ops<;>rw[hR] at h
  ·cases h
  simp only[cond_true] at h;obtain⟨q,r,s,t,e,b,h1,c,n,o⟩:=pa i g (S0 hR) j AnyF.start (by simp) h;exact⟨e,b,n,λB A O w a d=>abb hm (S0 hR) h1 c o d⟩
end
section
variable {S:bm} {K:Kit S} {P:Program} {N:Nat} {B:cT} {A A':Pl} {O O':Γ} {w w':World} {st:AS S} {a:Act}
theorem c8.cn {n0:Nat} {ρ:Nat->Option Nat} (hR:fW ρ A A'): ∀ {ds:List Deferred} {df b:List (LV S)},kX ρ df=some b->c8 n0 A O w df ds->c8 n0 A' O w b ds
 |[],df,b,a,h=>by
  rw[show df=[] from h] at a;cases a;rfl
 |d::ds,df,b,a,h=>by
  rcases h with⟨D,h1,l,e,g⟩|⟨i,r,f,u,c,rfl,e,g,m⟩
  ·exact .inl ⟨D,h1,l,e,c8.cn hR a g⟩
  ·simp only[kX,LV.cn] at a;split at a
   ·rename_i x k;split at a
    ·rename_i y o;cases a;split at k
     ·rename_i j n;cases k;exact .inr ⟨j,y,f,u,c,rfl,hR.pl _ _ _ n e,g,c8.cn hR o m⟩
     ·cases k
    ·cases a
   ·cases a
theorem bp.gc {sl:Γ} (h:bp K P N B A O w st a): ∃A',bp K P N B A' O w (gc sl st) a:=by
 unfold Vx.gc;simp only;obtain⟨c,g⟩: ∃c,c=kept (aE st.h) st.nb (n5 (st.h.take st.nb)++(Jr (eR st.env sl)++n9 st.df)):=⟨_,rfl⟩;rw[<-g];split
 ·rename_i df r;obtain⟨A',d⟩: ∃A':Pl,A'=⟨λj=>(c[j]?).bind A.pl,A.ls⟩:=⟨_,rfl⟩;have hR:fW (λi=>posOf i c 0) A A':=⟨λi j p hi hp=>by
   rw[d];simp only[nY hi,ξo];exact hp,by rw[d]⟩
  have m: ∀i,i<B.nb->c[i]? =some i:=λi hi=>by rw[g];exact Py (by rw[h.nb];exact hi)
  have t: ∀i j,B.nb<=j->c[j]? =some i->B.nb<=i:=λi j l hi=>by rw[g,h.nb] at hi;exact Pw l hi
  have u: ∀i,i<B.nb->A'.pl i=A.pl i:=λi hi=>by rw[d];simp[m i hi]
  refine⟨A',h.size,ahC hR h.env,?_,h.ob,h.c_,?_,h.nb,?_,h.tr,λi hi=>(u i hi).trans (h.pl i hi),by rw[d];exact h.ls,?_,?_,c8.cn hR r h.df,h.lp,h.dl,h.hi,h.o0,h.rr,?_⟩
  ·exact h.rel.cn (idx:=λj=>c[j]?) (λj=>by rw[d]) (by rw[d]) (λi j y h1 e=>xw (by rw[g];exact Pz) h1 e) (λi j hi=>nY hi) (λj x l=>jR l)
  ·intro i hi;have:c.length<=i:=by simpa[lZ,nW] using hi
   rw[d];simp[ξg this]
  ·show B.nb<=(eT _ (fS _ c)).length;rw[lZ,nW,g,<-h.nb];exact Px
  ·intro i X hi hX;obtain⟨i0,f,h1,e,_⟩:=jR hX;rw[m i hi] at h1;cases h1;exact h.lv i f hi e
  ·intro b o v q;obtain⟨c1,c2,n⟩:=h.cl b o v q;refine⟨c1,c2,λi X p hi hX hp=>?_⟩;obtain⟨i0,f,h1,e,k⟩:=jR hX;rw[d] at hp;simp only[h1,ξo] at hp;exact λs=>n i0 f p (t i0 i hi h1) e hp (Ob.l2 k s)
  ·intro i X hi hX;obtain⟨i0,f,h1,e,k⟩:=jR hX;rw[m i hi] at h1;cases h1;rw[Ob.yc k];exact h.nt i f hi e
 ·exact⟨A,h⟩
theorem ei.put {l m:Nat} {o o' u:Obj} (h:ei O w m u) (a:m≠l):ei O (w.putObj l o') m u:=⟨⟨(ξm a).trans h.1.1,h.1.2⟩,h.2.1,h.2.2⟩
theorem pr {l:Nat} {o o':Obj} (hl:ei O w l o):Tr O w O (w.putObj l o'):=(Nv (n0:=0) o' hl.1.1 hl.1.2 hl.2.2 (ξt _)).tr
theorem bW.book {g:Nat->Option (Ob S)} {l:Nat} {o o':Obj} (h:bW A O w g) (hl:ei O w l o):bW A O (w.putObj l o') g:=by
 have same: ∀ {i:Nat} {X:Ob S} {p:Value} {b:Nat},g i=some X->A.pl i=some p->cD w X p b->(w.putObj l o').heap[b]? =w.heap[b]? :=λ{i X p b} hi hp a=>by
  obtain⟨s,k,hR,_⟩:=h.al i X hi;rw[hp] at k;cases k;exact ξm λe=>hR.aeB hl.1.1 hl.2.1 (by rw[<-e];exact a)
 refine⟨λi X hi=>?_,λi j X Y p q b r hi f hp n u v=>h.f' i j X Y p q b r hi f hp n (ky (λc d=>same hi hp (.inl d)) u) (ky (λc d=>same f n (.inl d)) v)⟩;obtain⟨p,hp,hR,a⟩:=h.al i X hi;exact⟨p,hp,hR.keep (pr hl) (Pl.le.refl A) λb m=>⟨same hi hp m,h.gE hi hp m⟩,a⟩
theorem bp.book {l:Nat} {o o':Obj} {lp':Option (hC S)} {a':Act} (h:bp K P N B A O w st a) (hl:ei O w l o) (hex:l∉B.O0\/B.ex=some l) (x:jr P B O (w.putObj l o') lp') (u:(lp'.isSome||st.inr)=true->a'.defers=[]) (t:c8 B.w0.heap.size A O (w.putObj l o') st.df a'.defers) (f:a'.tmps=a.tmps):
  bp K P N B A O (w.putObj l o') {st with lp:=lp'} a':=by
 have d:Tr O w O (w.putObj l o'):=pr hl;refine⟨by rw[f];exact h.size,?_,h.rel.book hl,?_,h.c_.tr d,h.free,h.nb,h.le,h.tr.trans d,h.pl,h.ls,h.lv,?_,t,x,u,h.hi,h.o0,h.rr,h.nt⟩
 ·intro s m z;rw[f];exact(h.env s m z).tr d (Pl.le.refl A)
 ·exact(Nv (n0:=0) o' hl.1.1 hl.1.2 hl.2.2 (ξt _)).ob h.ob
 ·intro b g k r;obtain⟨c1,c2,n⟩:=h.cl b g k r;refine⟨?_,c2,λi X p hi hX hp v=>n i X p hi hX hp (ky (λc q=>?_) v)⟩
  rotate_left
  ·obtain⟨C,j,hR,_⟩:=h.rel.al i X hX;rw[hp] at j;cases j;exact ξm λe=>hR.xz hl.1.1 hl.2.1 (by rw[<-e];exact q)
  have y:b≠l:=by
   rintro rfl;rcases hex with hex|hex
   ·exact hex g
   ·exact k hex
  exact(ξm y).trans c1
theorem c8.rA {n0:Nat} {A2:Pl} {j:Γ} {w2:World} (e: ∀i p,A.pl i=some p->A2.pl i=some p) (g: ∀D,ei O w D (.deferred (some []))->ei j w2 D (.deferred (some []))): ∀ {ds:List Deferred} {df:List (LV S)},c8 n0 A O w df ds->c8 n0 A2 j w2 df ds
 |[],df,h=>h
 |d::ds,df,h=>by
  rcases h with⟨D,h1,k,a,b⟩|⟨i,r,f,u,c,h1,a,b,l⟩
  ·exact .inl ⟨D,h1,k,g D a,c8.rA e g b⟩
  ·exact .inr ⟨i,r,f,u,c,h1,e _ _ a,b,c8.rA e g l⟩
def cT.of (A:Pl) (O:Γ) (w:World) (h:AH S) (ex rr:Option Nat):cT:=⟨A,O,w,h.length,λi=> ∃X,aE h i=some X,ex,rr⟩
theorem bp.init {h:AH S} {ex rr:Option Nat} {env:a1 S} {lp:Option (hC S)} {inr:Bool} {dt:Γ} (g:bW A O w (aE h)) (hO:OB O w) (e:cN K O w) (d: ∀i,h.length<=i->A.pl i=none) (m:a.tmps.size=N) (he:cQ A O w env a) (j:jr P (cT.of A O w h ex rr) O w lp) (l:inr=false->rr=none) (c:a.defers=[]) (k: ∀i X,aE h i=some X->X.nt=true):
  bp K P N (cT.of A O w h ex rr) A O w ⟨env,h,h.length,lp,inr,[],dt⟩ a:=
 ⟨m,he,g,hO,e,d,rfl,ξc _,Tr.refl _ _,λ_ _=>rfl,rfl,λi X _ hX=>⟨X,hX⟩,λb f _ _=>⟨rfl,f,λi X p hi hX=>absurd (fc hX) (Nat.not_lt.mpr hi)⟩,by rw[c];rfl,j,λ_=>c,d,hO,l,λi X _ hX=>k i X hX⟩
theorem bp.inner {J:Nat} {O1 e:Γ} {r d:World} {A1 A2:Pl} {ex rr:Option Nat} {st2:AS S} {a2:Act} (h:bp K P N B A O w st a) (Q:Tr O w O1 r) (M: ∀b∈O,b∈O1/\r.heap[b]? =w.heap[b]?) (G:A1.pl=A.pl) (V: ∀b∈O,ex≠some b) (c:bp K P J (cT.of A1 O1 r st.h ex rr) A2 e d st2 a2) {dt':Γ} (R: ∀x∈st.dt,x∈dt') (T: ∀x∈st2.dt,x<st.nb->x∈dt') (U:bW ⟨A2.pl,A.ls⟩ e d (aE st2.h)):
  bp K P N B ⟨A2.pl,A.ls⟩ e d {st with h:=st2.h,dt:=dt'} a/\(∀l o,ei O w l o->ei e d l o)/\Pl.le A ⟨A2.pl,A.ls⟩:=by
 have z: ∀i,i<st.h.length->A2.pl i=A.pl i:=λi hi=>by rw[c.pl i hi];exact congrFun G i
 have L: ∀i p,A.pl i=some p->A2.pl i=some p:=λi p hp=>by
  rcases ω i st.h.length with h1|h1
  ·rw[z i h1];exact hp
  ·rw[h.free i h1] at hp;cases hp
 have s:Pl.le A ⟨A2.pl,A.ls⟩:=⟨L,rfl⟩;have t:Tr O w e d:=Q.trans c.tr;have H: ∀b∈O,(∀i∈st2.dt,(∃X,aE st.h i=some X)-> ∀p,A.pl i=some p->b4 p≠some b)->d.heap[b]? =w.heap[b]? /\b∈e/\ ∀i X p,st.h.length<=i->aE st2.h i=some X->A2.pl i=some p-> ¬cD d X p b:=by
  intro b k n;obtain⟨s1,s2⟩:=M b k;obtain⟨f,g,C⟩:=c.cl b s1 (V b k) λi hi hl p hp=>n i hi hl p (by rw[<-congrFun G i];exact hp);exact⟨f.trans s2,g,C⟩
 have m: ∀l o,ei O w l o->ei e d l o:=by
  rintro l o ⟨j,q,E⟩;obtain⟨f,g,_⟩:=H l E λi _ ⟨X,hX⟩ p hp=>by
   obtain⟨ae,I,hR,_⟩:=h.rel.al i X hX;rw[hp] at I;cases I;exact hR.xz j.1 q
  exact⟨⟨f.trans j.1,j.2⟩,q,g⟩
 refine⟨⟨h.size,h.env.tr t s,U,c.ob,c.c_,c.free,h.nb,ζe h.le c.le,h.tr.trans t,λi hi=>(z i (by have:=h.le;omega)).trans (h.pl i hi),h.ls,?_,?_,h.df.rA s.at_ (λD=>m D _),?_,h.dl,h.hi,h.o0,h.rr,λi X hi hX=>c.nt i X (by have:=h.le;show i<st.h.length;omega) hX⟩,m,s⟩
 ·intro i X hi hX;obtain⟨Y,u⟩:=c.lv i X (by have:=h.le;show i<st.h.length;omega) hX;exact h.lv i Y hi u
 ·intro b k W n;obtain⟨c1,c2,F⟩:=h.cl b k W λi hi=>n i (R i hi);obtain⟨f,g,C⟩:=H b c2 λi hi ⟨X,hX⟩ p hp=>by
   rcases ω i B.nb with h1|h1
   ·exact n i (T i hi (by rw[h.nb];exact h1)) (h.lv i X h1 hX) p (by rw[<-h.pl i h1];exact hp)
   ·exact λv=>F i X p h1 hX hp (.inl v)
  refine⟨f.trans c1,g,λi X p hi hX hp=>?_⟩;rcases ω i st.h.length with h1|h1
  ·obtain⟨Y,u⟩:=c.lv i X h1 hX;have hp:A2.pl i=some p:=hp;rw[z i h1] at hp;exact λv=>F i Y p hi u hp (.inl (eQ (c.nt i X h1 hX) v))
  ·exact C i X p h1 hX hp
 ·have y:=h.lp
  revert y
  generalize st.lp=lp;intro y;cases lp with
  |none=>trivial
  |some ad=>
   obtain⟨l,fn,tm,D,j,Z,q,E,aa,ab⟩:=y;exact⟨l,fn,tm,D,j,Z,m _ _ q,m _ _ E,aa.tr t (Pl.le.refl _),ab⟩
variable {A1 A2:Pl}
theorem LV.rel.fR {l:LV S} {xs:Γb} (hn:l.fR=true) (g:A2.pl=A1.pl) (h:l.rel A1 O w xs):l.rel A2 O w xs:=by
 cases l with
 |v u=>exact h
 |aJ t d=>exact h
 |ptr t d q=>exact h
 |aM i q=>obtain⟨m,h1,a⟩:=h;exact⟨m,by rw[g];exact h1,a⟩
 |fa i q n y=>obtain⟨m,h1,a⟩:=h;exact⟨m,by rw[g];exact h1,a⟩
 |own i=>obtain⟨m,h1,a⟩:=h;exact⟨m,by rw[g];exact h1,a⟩
 |d' e i y q=>obtain⟨b,n,c,h1,a⟩:=h;exact⟨b,n,c,by rw[g];exact h1,a⟩
 |fD i q n=>obtain⟨m,h1,a⟩:=h;exact⟨m,by rw[g];exact h1,a⟩
 |mp i=>obtain⟨m,h1,a⟩:=h;exact⟨m,by rw[g];exact h1,a⟩
 |a7 i=>obtain⟨f,u,c,h1,a⟩:=h;exact⟨f,u,c,by rw[g];exact h1,a⟩
 |cW=>cases hn
 |cZ i=>obtain⟨m,h1,a⟩:=h;exact⟨m,by rw[g];exact h1,a⟩
 |bA k n gs=>exact h
 |cA n bs=>exact h
theorem Io (a:A2.pl=A1.pl): ∀ {ls:List (LV S)} {xs:Γb},kL ls=true->bF A1 O w ls xs->bF A2 O w ls xs
 |[],_,_,h=>h
 |l::r,_,hn,⟨y,ys,e,h1,b⟩=>by
  simp only[kL,η] at hn;exact⟨y,ys,e,h1.fR hn.1 a,Io a hn.2 b⟩
theorem RS (b:A2.pl=A1.pl) {a:aB S} {x:Value} (hn:kL a.cells=true) (h:a.rel A1 O w x):a.rel A2 O w x:=by
 cases a with
 |one l=>
  simp only[aB.cells,kL,ζo] at hn;exact LV.rel.fR hn b h
 |agg ls=>obtain⟨xs,h1,c⟩:=h;exact⟨xs,h1,Io b hn c⟩
theorem qR (a:A2.pl=A1.pl): ∀ {ls:List (aB S)} {xs:Γb},lR ls=true->cI A1 O w ls xs->cI A2 O w ls xs
 |[],_,_,h=>h
 |l::r,_,hn,⟨y,ys,e,h1,b⟩=>by
  simp only[lR,η] at hn;exact⟨y,ys,e,RS a hn.1 h1,qR a hn.2 b⟩
theorem AV.Ip (b:A2.pl=A1.pl) {a:AV S} {x:Value} (hn:a.fR=true) (h:a.rel A1 O w x):a.rel A2 O w x:=by
 cases a with
 |s l=>exact RS b hn h
 |bJ ls=>obtain⟨xs,h1,c⟩:=h;exact⟨xs,h1,qR b hn c⟩
theorem Ob.Ip (d:A2.pl=A1.pl) {X:Ob S} {p:Value} (hn:X.fR=true) (h:dd A1 O w X p):dd A2 O w X p:=by
 cases X with
 |box t cs=>obtain⟨b,vs,h1,a,c⟩:=h;exact⟨b,vs,h1,a,Io d hn c⟩
 |row e xs=>exact h
 |map g i m=>exact h
 |a7 f fs cs=>
  simp only[Ob.fR,η] at hn;obtain⟨us,vs,h1,a,c⟩:=h;exact⟨us,vs,h1,qR d hn.1 a,qR d hn.2 c⟩
 |cZ s pos=>exact h
 |cP t e bR=>cases hn
theorem Ob.RT {X:Ob S} (hn:X.fR=true):X.nt=true:=by cases X<;>first|rfl|cases hn
theorem nM: ∀ {h:AH S} {i:Nat} {X:Ob S},hV h=true->aE h i=some X->X.fR=true
 |[],i,X,_,hi=>by simp[aE] at hi
 |none::r,0,X,_,hi=>by simp[aE] at hi
 |some Y::r,0,X,hn,hi=>by
  simp only[hV,η] at hn;simp only[aE,ξz,ι] at hi;subst hi;exact hn.1
 |none::r,i+1,X,hn,hi=>nM (h:=r) (i:=i) hn (by simpa[aE] using hi)
 |some Y::r,i+1,X,hn,hi=>by
  simp only[hV,η] at hn;exact nM (h:=r) (i:=i) hn.2 (by simpa[aE] using hi)
theorem RR (a:A2.pl=A1.pl) {h:AH S} (hn:hV h=true) (c:bW A1 O w (aE h)):bW A2 O w (aE h):=by
 refine⟨λi X hi=>?_,λi j X Y p q b e hi f hp g=>c.f' i j X Y p q b e hi f (by rw[<-a];exact hp) (by rw[<-a];exact g)⟩;obtain⟨p,hp,hR,d⟩:=c.al i X hi;exact⟨p,by rw[a];exact hp,Ob.Ip a (nM hn hi) hR,d⟩
theorem xA: ∀ {h:AH S} {i:Nat} {X:Ob S},jO h=true->aE h i=some X->X.nt=true
 |[],i,X,_,hi=>by simp[aE] at hi
 |none::r,0,X,_,hi=>by simp[aE] at hi
 |some Y::r,0,X,hn,hi=>by
  simp only[jO,η] at hn;simp only[aE,ξz,ι] at hi;subst hi;exact hn.1
 |none::r,i+1,X,hn,hi=>xA (h:=r) (i:=i) hn (by simpa[aE] using hi)
 |some Y::r,i+1,X,hn,hi=>by
  simp only[jO,η] at hn;exact xA (h:=r) (i:=i) hn.2 (by simpa[aE] using hi)
theorem RQ: ∀ {env:a1 S} {s:Nat} {a:AV S},nL env=true->a1.get env s=some a->a.fR=true
 |[],s,a,_,h=>by cases h
 |(t,b)::r,s,a,hn,h=>by
  simp only[nL,η] at hn;simp only[a1.get] at h;cases c:ζ t s with
  |true=>rw[c] at h;simp only[cond_true,ι] at h;subst h;exact hn.1
  |false=>rw[c] at h;exact RQ hn.2 h
theorem aeC (d:A2.pl=A1.pl) {env:a1 S} {a:Act} (hn:nL env=true) (he:cQ A1 O w env a):cQ A2 O w env a:=λs c b=>AV.Ip d (RQ hn b) (he s c b)
end
section
variable {S:bm} {K:Kit S} {P:Program} {N:Nat} {B:cT} {A A':Pl} {O O':Γ} {w w':World} {st:AS S} {a:Act} {R:Type} {z:R}
theorem Uu {aka:List (aB S)} {vs:Γb} (h:cI A O w aka vs):(rB aka).rel A O w (h3 vs):=by
 match aka,vs,h with
 |[],vs,h=>rw[show vs=[] from h];exact⟨[],rfl,rfl⟩
 |[x],vs,⟨y,ys,e,h1,a⟩=>subst e;rw[show ys=[] from a];exact h1
 |x::x'::r,vs,h=>
  obtain⟨y,ys,rfl,h1,b,zs,rfl,a,c⟩:=h;exact⟨y::b::zs,by simp[h3],y,_,rfl,h1,b,_,rfl,a,c⟩
theorem JF (y:b6 K P) {fn:Func} {env:a1 S} {h:AH S} {aka:List (aB S)} (G:jW K env h fn.results.toList=some aka) (he:cQ A O w env a) (D:bW A O w (aE h)): ∃vs,cI A O w aka vs/\(results fn a.tmps).run P w= .ok (h3 vs) w:=by
 have key: ∀(l:List ResultVar) (aka:List (aB S)),jW K env h l=some aka-> ∃vs,cI A O w aka vs/\ ∀(F:ResultVar->Sem Value) (_: ∀t,F (.tmp t)=pure (a.tmps.getD t undef)) (_: ∀b t,F (.cell b t)=do loadVar t (<-asAddr (a.tmps.getD b undef))),(l.mapM F).run P w= .ok vs w:=by
  intro l
  induction l with
  |nil=>intro aka d;cases d;exact⟨[],rfl,λF _ _=>by simp⟩
  |cons x l r=>
   intro aka d;cases x with
   |tmp t=>
    simp only[jW] at d;split at d
    ·rename_i b m;split at d
     ·rename_i bs n;cases d;obtain⟨vs,h1,f⟩:=r bs n;refine⟨a.tmps.getD t undef::vs,⟨_,_,rfl,he t _ m,h1⟩,λF g k=>?_⟩;simp only[ζC,g,ξ,ξh,π,f F g k]
     ·cases d
    ·cases d
   |cell c t=>
    simp only[jW] at d;split at d
    rotate_left
    ·cases d
    rename_i b m;split at d
    rotate_left
    ·cases d
    rename_i i T cs hi B;cases q:ζ (dQ cs) i.size<;>rw[q] at d
    ·cases d
    simp only[cond_true] at d;split at d
    rotate_left
    ·cases d
    rename_i Q z;split at d
    rotate_left
    ·cases d
    rename_i bs n;cases d;obtain⟨us,h1,f⟩:=r bs n;obtain⟨bL,J,L⟩:=he c _ m;obtain⟨p,p1,⟨R,vs,p2,I,s⟩,_⟩:=D.al b _ B;rw[J] at p1;cases p1;cases p2;have hlen:vs.length=i.size:=(gR s).trans (δ q);obtain⟨M,N⟩:=FE z s;have C:dJ w ⟨bL,0,none⟩ vs:=λj u E=>by
     have:(⟨bL,0,none⟩:Addr).add j=⟨bL,j,none⟩:=by unfold ζR;split<;>simp_all
     rw[this,I.cell];exact E
    have o:=l8 (P:=P) (y.Θ.fits hi) hlen C (λe=>by have:=N e;omega);simp only[Instr.loadAt,Instr.sureAddr,ξ,ξh,π] at o;have H:a.tmps.getD c undef= .pointer (some ⟨bL,0,none⟩):=by simpa using L
    refine⟨_::us,⟨_,_,rfl,M,h1⟩,λF g k=>?_⟩;simp only[ζC,k,ξ,H,asAddr,ξh,π,o,f F g k]
 obtain⟨vs,h1,f⟩:=key _ _ G;refine⟨vs,h1,?_⟩;unfold results;rw[Array.mapM_eq_mapM_toList];simp only[ξ,Sem.run_map];rw[f _ (λt=>rfl) (λb t=>rfl)];simp only[π,ξh]
 congr 1
 match vs with
 |[]=>rfl
 |[v]=>rfl
 |v::u::vs=>simp[h3]
end
section
variable {S:bm} {K:Kit S} {P:Program} {N:Nat} {B:cT} {A A':Pl} {O O':Γ} {w w':World} {st:AS S} {a:Act} {R:Type} {z:R}
theorem aef {D a:Nat} (h:Dc.mark D=Dc.mark a):D=a:=by
 unfold Dc.mark at h;simp only[Deferred.mk.injEq,ζJ,and_true] at h;exact h
theorem c8.put {n0 D:Nat} {o':Obj}: ∀ {ds:List Deferred} {df:List (LV S)},Dc.mark D∉ds->c8 n0 A O w df ds->c8 n0 A O (w.putObj D o') df ds
 |[],df,_,h=>h
 |d::ds,df,hn,h=>by
  have g:Dc.mark D∉ds:=λhm=>hn (μ _ hm);rcases h with⟨j,h1,k,a,b⟩|⟨i,r,f,u,c,h1,a,b,l⟩
  ·exact .inl ⟨j,h1,k,a.put (o:=.deferred (some [])) (λe=>hn (by rw[h1,e];exact ν)),c8.put g b⟩
  ·exact .inr ⟨i,r,f,u,c,h1,a,b,c8.put g l⟩
theorem bp.take {tm:Array Value} {D:Nat} {ds:List Deferred} (h:bp K P N B A O w st {tmps:=tm,defers:=Dc.mark D::ds}) (c:B.w0.heap.size<=D/\Dc.mark D∉ds) (d:ei O w D (.deferred (some []))) (e:c8 B.w0.heap.size A O w st.df ds):
  bp K P N B A O (w.putObj D (.deferred none)) st {tmps:=tm,defers:=ds}:=by
 have a:=h.dl;have b:st.lp=none:=by
  cases hl:st.lp with
  |none=>rfl
  |some g=>rw[hl] at a;have:=a rfl;cases this
 have f:st.inr=false:=by
  cases hl:st.inr with
  |false=>rfl
  |true=>rw[hl,ξv] at a;have:=a rfl;cases this
 refine h.book (lp':=st.lp) d (.inl λhD=>?_) ?_ (λh=>?_) (e.put c.2) rfl
 ·have:=h.o0 D hD;omega
 ·rw[b];trivial
 ·rw[b,f] at h;cases h
theorem xm {fn:Func} {a:Ending->World->Prop} {u:FrameMode} (hu:u≠ .run) (e:st.df=[]) {tm:Array Value}: ∀ {ds:List Deferred} {w:World},bp K P N B A O w st {tmps:=tm,defers:=ds}->(∀w',bp K P N B A O w' st {tmps:=tm,defers:=[]}->LeavesIn (fw none) 0 P fn tm a [] u w')->LeavesInM (fw none) 0 P fn tm a ds u w
 |[],w,h,hk=>hk w h
 |d::ds,w,h,hk=>by
  rcases h.df with⟨D,h1,g,b,j⟩|⟨i,r,f,k,c,h1,_⟩
  ·subst h1;exact⟨hu,.inl ⟨D,_,rfl,run_takeDeferred b.1.1,xm hu e (h.take g b j) hk⟩⟩
  ·rw[e] at h1;cases h1
def lh:Option Value->FrameMode->Prop
 |none,u=>u= .returning
 |some v,u=>u= .panicking [{v:=v,recovered:=false}]
theorem lh.out {p:Option Value} {u:FrameMode} (h:lh p u):u≠ .run:=by
 cases p<;>rw[show u=_ from h]<;>simp
def mo (K:Kit S) (P:Program) (g:Nat) (cs:List (aB S)) (p:Option Value) (a:Nat->Option (Ob S)) (q:Option Value) (up:Up S):Prop:=eB P g/\ ∀(A:Pl) (O:Γ) (w:World) (xs:Γb) (u:FrameMode),cI A O w cs xs->bW A O w a->OB O w->cN K O w->lh p u->CallsDIn (fw none) 0 P g xs.toArray u w (λe b w'=>(∃v,e= .returned v)/\lh q (settle b)/\ ∃A' O',cf A O w a up A' O' w')
theorem Ia {fn:Func} {m:Ending->World->Prop} {i g:Nat} {cs:List (aB S)} {p q:Option Value} {up:Up S} (l:st.df=[.a7 i]) (t:aE st.h i=some (.a7 g [] cs)) (hD:mo K P g cs p (aE st.h) q up) (n:e2 (aE st.h) up=true) {tm:Array Value}:
  ∀ {ds:List Deferred} {w:World} {u:FrameMode},lh p u->bp K P N B A O w st {tmps:=tm,defers:=ds}->(∀A' O' w' j,lh q j->bp K P N B A' O' w' {st.cg up [] with df:=[]} {tmps:=tm,defers:=[]}->LeavesIn (fw none) 0 P fn tm m [] j w')->LeavesInM (fw none) 0 P fn tm m ds u w
 |[],w,u,hm,h,hk=>by have:=h.df;rw[l] at this;cases this
 |d::ds,w,u,hm,h,hk=>by
  rcases h.df with⟨D,h1,z,b,k⟩|⟨U,r,f,V,c,h1,b,k,C⟩
  ·subst h1;exact⟨hm.out,.inl ⟨D,_,rfl,run_takeDeferred b.1.1,Ia l t hD n hm (h.take z b k) hk⟩⟩
  ·rw[l] at h1;cases h1;obtain⟨I,E⟩:=hD;obtain⟨pp,p1,⟨us,vs,p2,Q,R⟩,_⟩:=h.rel.al i _ t;rw[b] at p1;cases p1;rw[show us=[] from Q] at p2;cases p2;subst k;have o:=E A O w vs u R h.rel h.ob h.c_ hm;refine⟨hm.out,.inr ⟨λh=>by simp[fw] at h,.func g,vs.toArray,g,vs.toArray,rfl,?_,λ_ _=>trivial,o.1,λc y F L=>?_⟩⟩
   ·show(invoke (.fn (.func g) vs.toArray) #[]).run P w=_;have:=I vs.toArray w;simpa[invoke] using this
   ·obtain⟨e,j,w',fr,⟨⟨v,rfl⟩,x,A',O',s⟩,T⟩:=o.2 c y F L;refine⟨.returned v,j,w',fr,?_,T⟩;have a:bp K P N B A' O' w' (st.cg up []) {tmps:=tm,defers:= {target:=.fn (.func g) vs.toArray,args:= #[]}::ds}:=h.cg n (by simpa[news] using s);have M:bp K P N B A' O' w' {st.cg up [] with df:=[]} {tmps:=tm,defers:=ds}:=by
     have G:c8 B.w0.heap.size A' O' w' ([]:List (LV S)) ds:=c8.cg h.rel s C;have H:=h.dl;refine⟨a.size,a.env,a.rel,a.ob,a.c_,a.free,a.nb,a.le,a.tr,a.pl,a.ls,a.lv,a.cl,G,a.lp,λJ=>?_,a.hi,a.o0,a.rr,a.nt⟩;have:=H J;cases this
    exact xm x.out rfl M λw2 b=>hk A' O' w2 _ x b
structure Kt (G:bN S) (P:Program):Prop where
 K:b6 G.K P
 C:j6 G P
 H: ∀f c,pV G.H f=some c-> ∀ {R:Type} (aka:List (aB S)) (h:AH S) (k:Rs S->AH S->Γ->Option R) (z:R),c.out aka h k=some z-> ∃r h' dt,k r h' dt=some z/\dk G.K P f aka h r h' dt
 D: ∀g a,pU G.D g=some a-> ∀ {R:Type} (cs:List (aB S)) (p:Option Value) (b:Nat->Option (Ob S)) (k:Option Value->Up S->Option R) (z:R),a.out cs p b k=some z-> ∃q up,k q up=some z/\mo G.K P g cs p b q up
 T: ∀f J,G.T f=some J->P.funcs[f]? =some J.fn
 E: ∀f J,G.T f=some J->eB P f
 M:P.follows .mixedOrders=true
theorem ahH {G:bN S} (n:Kt G P) {fn:Func} {e:AX} {k:Rs S->AS S->Option R} (h:ri G fn e st k=some z):
  ∃r d,k r d=some z/\d.nb=st.nb/\ ∀(N:Nat) (B:cT) (A:Pl) (O:Γ) (w:World) (a:Act) (b:Ending->World->Prop),bp G.K P N B A O w st a->
   (∀A' O' w' a' f,bp G.K P N B A' O' w' d a'->iC A' O' w' r f->b f w')->bodyPostM (fw none) 0 P fn b e.of a w:=by
 unfold ri at h;split at h
 ·rename_i j;split at h
  ·cases h
  ·rename_i u;refine⟨.bD u,st,h,rfl,λN B A O w a b c hk=>?_⟩;show LeavesInM (fw none) 0 P fn a.tmps b a.defers (.panicking _) w;exact xm (by simp) j (tm:=a.tmps) c λw' h'=>hk A O w' _ _ h' rfl
  ·rename_i s t;split at h
   rotate_left
   ·cases h
   rename_i aka has;refine⟨.ret (rB aka),st,h,rfl,λN B A O w a b c hk=>?_⟩;have fin:LeavesInM (fw none) 0 P fn a.tmps b a.defers .returning w:=xm (by simp) j (tm:=a.tmps) c λw' h'=>by
    obtain⟨vs,x,y⟩:=JF n.K (a:= {tmps:=a.tmps,defers:=[]}) has h'.env h'.rel;exact⟨_,y,hk A O w' _ _ h' ⟨_,rfl,Uu x⟩⟩
   cases e with
   |normal=>exact fin
   |ret=>exact fin
   |exit id=>exact absurd rfl (s id)
   |bD u=>exact absurd rfl (t u)
 ·rename_i i j;split at h
  rotate_left
  ·cases h
  rename_i g cs H;split at h
  rotate_left
  ·cases h
  rename_i E I;have main: ∀ {p:Option Value},E.out cs p (aE st.h) (λp up=>bif !(e2 (aE st.h) up) then none else(match p with
     |some u=>k (.bD u) {st.cg up [] with df:=[]}
     |none=>(match jW G.K st.env (eA st.h up) fn.results.toList with|some aka=>k (.ret (rB aka)) {st.cg up [] with df:=[]}|none=>none)))=some z->
    ∃r d,k r d=some z/\d.nb=st.nb/\ ∀(N:Nat) (B:cT) (A:Pl) (O:Γ) (w:World) (a:Act) (b:Ending->World->Prop) (u:FrameMode),lh p u->bp G.K P N B A O w st a->
   (∀A' O' w' a' f,bp G.K P N B A' O' w' d a'->iC A' O' w' r f->b f w')->LeavesInM (fw none) 0 P fn a.tmps b a.defers u w:=by
   intro p hp;obtain⟨q,up,h1,F⟩:=n.D g E I _ _ _ _ _ hp;cases o:e2 (aE st.h) up<;>rw[o] at h1
   ·cases h1
   simp only[ξY,cond_false] at h1;cases q with
   |some u=>
    refine⟨_,_,h1,rfl,λN B A O w a b L hm c hk=>?_⟩;refine Ia j H F o (tm:=a.tmps) hm c λA' O' w' C v h'=>?_;rw[show C=_ from v];exact hk A' O' w' _ _ h' rfl
   |none=>
    simp only at h1;split at h1
    rotate_left
    ·cases h1
    rename_i aka has;refine⟨_,_,h1,rfl,λN B A O w a b L hm c hk=>?_⟩;refine Ia j H F o (tm:=a.tmps) hm c λA' O' w' C v h'=>?_;rw[show C=_ from v];have J:bW A' O' w' (aE (eA st.h up)):=by
     have:=h'.rel;simpa[AS.cg] using this
    obtain⟨vs,x,y⟩:=JF n.K (a:= {tmps:=a.tmps,defers:=[]}) has h'.env J;exact⟨_,y,hk A' O' w' _ _ h' ⟨_,rfl,Uu x⟩⟩
  simp only at h;split at h
  ·cases h
  ·rename_i u;obtain⟨r,d,h1,l,m⟩:=main h;exact⟨r,d,h1,l,λN B A O w a b c hk=>m N B A O w a b _ rfl c hk⟩
  ·rename_i s t;obtain⟨r,d,h1,l,m⟩:=main h;refine⟨r,d,h1,l,λN B A O w a b c hk=>?_⟩;have fin:=m N B A O w a b .returning rfl c hk;cases e with
   |normal=>exact fin
   |ret=>exact fin
   |exit id=>exact absurd rfl (s id)
   |bD u=>exact absurd rfl (t u)
 ·cases h
theorem afm {r:Rs S} {k:Rs S->AH S->Γ->Option R} (h:q3 r st k=some z):
  ∃x h' dt,k x h' dt=some z/\ ∀(N:Nat) (B:cT) (A:Pl) (O:Γ) (w:World) (a:Act) (e:Ending),B.ex=none->bp K P N B A O w st a->iC A O w r e-> ∃A',iC A' O w x e/\zb B.A0 B.O0 B.w0 B.nb h' dt A' O w:=by
 unfold q3 at h;simp only at h;obtain⟨c,f⟩: ∃c,c=kept (aE st.h) st.nb (n5 (st.h.take st.nb)++(match r with| .ret a=>a.refs| .bD _=>[])):=⟨_,rfl⟩;have key: ∀(N:Nat) (B:cT) (A:Pl) (O:Γ) (w:World) (a:Act),B.ex=none->bp K P N B A O w st a-> ∃A',fW (λi=>posOf i c 0) A A'/\zb B.A0 B.O0 B.w0 B.nb (eT (λi=>posOf i c 0) (fS (aE st.h) c)) (st.dt.filter λi=>υ i st.nb) A' O w:=by
  intro N B A O w a hex h;obtain⟨A',d⟩: ∃A':Pl,A'=⟨λj=>(c[j]?).bind A.pl,A.ls⟩:=⟨_,rfl⟩;have hR:fW (λi=>posOf i c 0) A A':=⟨λi j p hi hp=>by
   rw[d];simp only[nY hi,ξo];exact hp,by rw[d]⟩
  have s: ∀i,i<B.nb->c[i]? =some i:=λi hi=>by rw[f];exact Py (by rw[h.nb];exact hi)
  have G: ∀i j,B.nb<=j->c[j]? =some i->B.nb<=i:=λi j l hi=>by rw[f,h.nb] at hi;exact Pw l hi
  refine⟨A',hR,?_,h.ob,h.tr,λi hi=>?_,λj l=>?_,by rw[d];exact h.ls,?_,?_,?_,?_⟩
  ·exact h.rel.cn (idx:=λj=>c[j]?) (λj=>by rw[d]) (by rw[d]) (λi j J h1 g=>xw (by rw[f];exact Pz) h1 g) (λi j hi=>nY hi) (λj H l=>jR l)
  ·rw[d];simp only[s i hi,ξo];exact h.pl i hi
  ·have:=(ξk.1 l).2;rw[<-h.nb];exact ο.mp this
  ·rw[lZ,nW,f,<-h.nb];exact Px
  ·intro i hi;rw[lZ,nW] at hi;rw[d];simp[ξg hi]
  ·intro b D E;obtain⟨c1,c2,y⟩:=h.cl b D (by rw[hex];simp) λi hi _ p hp=>by
    rcases ω i B.nb with h1|h1
    ·exact E i (ξk.2 ⟨hi,ο.mpr (by rw[h.nb];exact h1)⟩) p hp
    ·rw[h.hi i h1] at hp;cases hp
   refine⟨c1,c2,λi X p hi hX hp=>?_⟩;obtain⟨i0,m,h1,g,n⟩:=jR hX;rw[d] at hp;simp only[h1,ξo] at hp;exact λF=>y i0 m p (G i0 i hi h1) g hp (Ob.l2 n F)
  ·intro i X hi hX;obtain⟨i0,m,h1,g,n⟩:=jR hX;rw[s i hi] at h1;cases h1;rw[Ob.yc n];exact h.nt i m hi g
 cases r with
 |ret I=>
  simp only at h f;rw[<-f] at h;split at h
  ·rename_i a' C;refine⟨_,_,_,h,λN B A O w a e hex o ⟨v,h1,g⟩=>?_⟩;obtain⟨A',t,q⟩:=key N B A O w a hex o;exact⟨A',⟨v,h1,AV.h0 t C g⟩,q⟩
  ·cases h
 |bD u=>
  simp only at h f;rw[<-f] at h;refine⟨_,_,_,h,λN B A O w a e hex o he=>?_⟩;obtain⟨A',t,q⟩:=key N B A O w a hex o;exact⟨A',he,q⟩
end
section
variable {S:bm} {K:Kit S} {P:Program} {N:Nat} {B:cT} {A A':Pl} {O O':Γ} {w w':World} {st:AS S} {a:Act} {R:Type} {z:R}
inductive Sub:Code->Code->Prop
 |refl (c):Sub c c
 |seq1 {x y d}:Sub x d->Sub (.seq x y) d
 |T7 {x y d}:Sub y d->Sub (.seq x y) d
 |NS {o x y d}:Sub x d->Sub (.cond o x y) d
 |NT {o x y d}:Sub y d->Sub (.cond o x y) d
 |block {id x d}:Sub x d->Sub (.block id x) d
 |loop {x d}:Sub x d->Sub (.loop x) d
 |scope {x d}:Sub x d->Sub (.scope x) d
def aF (K:Kit S) (P:Program) (I:dq S) (c:Code):Prop:= ∀(x:Code) (lc:aX S),Sub c (.loop x)->gb I.lc (dG x)=some lc-> ∀ {R:Type} (st:AS S) (k:AX->AS S->Option R) (z:R),lc.out st k=some z-> ∃e b,k e b=some z/\ ∀B A O w a,bp K P I.fn.ntmps B A O w st a->(Code.loop x).wpIn (fw B.rr) 0 P (hE K P I.fn.ntmps B e b) a w
theorem aF.nil {I:k9} {c:Code}:aF K P (⟨I,[]⟩:dq S) c:=λx lc _ h=>by cases h
theorem aF.sub {I:dq S} {c d:Code} (h:aF K P I c) (b: ∀x,Sub d x->Sub c x):aF K P I d:=λx lc h1 a=>h x lc (b _ h1) a
def js (K:Kit S) (P:Program) (run: {R:Type}->dq S->Code->AS S->(AX->AS S->Option R)->Option R):Prop:= ∀ {R:Type} (I:dq S) (c:Code) (st:AS S) (k:AX->AS S->Option R) (z:R),aF K P I c->run I c st k=some z-> ∃e b,k e b=some z/\ ∀B A O w a,bp K P I.fn.ntmps B A O w st a->c.wpIn (fw B.rr) 0 P (hE K P I.fn.ntmps B e b) a w
theorem Vu: ∀ {ps:Γ} {aka:List (aB S)} {b:a1 S},j4 ps aka=some b->ps.length=aka.length
 |[],[],_,_=>rfl
 |p::ps,a::aka,b,h=>by
  simp only[j4] at h;split at h
  ·rename_i e he;simp[Vu he]
  ·cases h
 |[],_::_,_,h=>by cases h
 |_::_,[],_,h=>by cases h
theorem Oz: ∀ {l:List (Nat×Value)} {tm:Array Value},(l.foldl (λt p=>t.setIfInBounds p.1 p.2) tm).size=tm.size
 |[],tm=>rfl
 |(p,v)::l,tm=>by simp[Oz]
theorem Ha {s:Nat}: ∀ {l:List (Nat×Value)} {tm:Array Value},(∀p∈l,p.1≠s)->(l.foldl (λt p=>t.setIfInBounds p.1 p.2) tm).getD s undef=tm.getD s undef
 |[],tm,_=>rfl
 |(p,v)::l,tm,h=>by
  rw[List.foldl_cons,Ha λq b=>h q (μ _ b)];have a:p≠s:=h (p,v) ν;simp only[θ,ξ0 a]
theorem Vv {s:Nat} {b:AV S}: ∀ {ps:Γ} {aka:List (aB S)} {g:a1 S} {xs:Γb} {tm:Array Value},j4 ps aka=some g->nZ tm.size ps=true->cI A O w aka xs->a1.get g s=some b->b.rel A O w (((ps.zip xs).foldl (λt p=>t.setIfInBounds p.1 p.2) tm).getD s undef)
 |[],[],g,xs,tm,d,_,u,f=>by cases d;cases f
 |p::ps,c::aka,g,xs,tm,d,hp,⟨y,ys,e,h1,j⟩,f=>by
  subst e;simp only[j4] at d;split at d
  rotate_left
  ·cases d
  rename_i v r;cases d;simp only[nZ,η] at hp;obtain⟨n,i,o⟩:=hp;have k:p<tm.size:=ο.mp n;have l:p∉ps:=λhm=>by rw[gL.2 hm] at i;cases i
  have m: ∀q∈ps.zip ys,q.1≠p:=λq h e=>l (by rw[<-e];exact(ζB (a:=q.1) (b:=q.2) h).1);simp only[a1.get] at f;show b.rel A O w (((ps.zip ys).foldl (λt p=>t.setIfInBounds p.1 p.2) (tm.setIfInBounds p y)).getD s undef);cases h:ζ p s with
  |true=>
   rw[h] at f;have:=δ h;subst this;simp only[cond_true,ι] at f;subst f;rw[Ha m];have e:(tm.setIfInBounds p y).getD p undef=y:=by simp[θ,k]
   rw[e];exact h1
  |false=>
   rw[h] at f;exact Vv r (by simpa using o) j f
 |[],_::_,g,xs,tm,d,_,_,_=>by cases d
 |_::_,[],g,xs,tm,d,_,_,_=>by cases d
theorem Vw {s:Nat}: ∀ {ps:Γ} {aka:List (aB S)} {b:a1 S},j4 ps aka=some b->a1.get b s=none->s∉ps
 |[],[],b,a,_=>by simp
 |p::ps,c::aka,b,a,d=>by
  simp only[j4] at a;split at a
  rotate_left
  ·cases a
  rename_i h g;cases a;simp only[a1.get] at d;cases f:ζ p s with
  |true=>rw[f] at d;cases d
  |false=>
   rw[f] at d;intro hm;rcases τ.1 hm with e|hm
   ·subst e;simp at f
   ·exact Vw g d hm
 |[],_::_,b,a,_=>by cases a
 |_::_,[],b,a,_=>by cases a
theorem OL {env:a1 S} {s:Nat}: ∀ {a:a1 S},a1.get (a++env) s=(match a1.get a s with|some b=>some b|none=>a1.get env s)
 |[]=>rfl
 |(t,b)::r=>by
  simp only[ζ1,a1.get];cases ζ t s with
  |true=>rfl
  |false=>exact OL
theorem aj8 {env:a1 S} {ps:Γ} {aka:List (aB S)} {g:a1 S} {xs:Γb} {tm:Array Value} (f:j4 ps aka=some g) (hp:nZ tm.size ps=true) (j:cI A O w aka xs) (he:cQ A O w env {tmps:=tm,defers:=[]}):cQ A O w (g++env) {tmps:=(ps.zip xs).foldl (λt p=>t.setIfInBounds p.1 p.2) tm,defers:=[]}:=by
 intro s d c;rw[OL] at c;split at c
 ·rename_i b h;cases c;exact Vv f hp j h
 ·rename_i hn;have hn:=Vw f hn;show d.rel A O w (((ps.zip xs).foldl (λt p=>t.setIfInBounds p.1 p.2) tm).getD s undef);rw[Ha λq i e=>hn (by rw[<-e];exact(ζB (a:=q.1) (b:=q.2) i).1)];exact he s d c
theorem aj7 {run: {R:Type}->dq S->Code->AS S->(AX->AS S->Option R)->Option R} (al:js K P run) {R:Type}:uE (R:=R) K P (Kr run):=by
 intro aka st k z h;unfold Kr at h;split at h
 rotate_left
 ·cases h
 rename_i d M;split at h
 rotate_left
 ·cases h
 rename_i ar ak aq;cases Q:(nZ d.J.fn.ntmps d.ps&&jO st.h)<;>rw[Q] at h
 ·cases h
 simp only[cond_true] at h;rw[η] at Q;obtain⟨aU,aT⟩:=Q;obtain⟨f,st1,h1,aX⟩:=al _ _ _ _ _ aF.nil h;split at h1
 rotate_left
 ·cases h1
 rename_i aO;cases ai:jO st1.h<;>rw[ai] at h1
 ·cases h1
 simp only[cond_true] at h1;obtain⟨m,st2,u,aY⟩:=al _ _ _ _ _ aF.nil h1;obtain⟨dt',F⟩: ∃dt',dt'=e3 st.nb st.dt (st1.dt++st2.dt):=⟨_,rfl⟩;rw[<-F] at u;obtain⟨b,j,hk,aL⟩: ∃b j,k b {st with h:=st2.h,dt:=dt',lp:=some {d with fe:=j}}=some z/\(m= .normal/\b=true/\j=none\/m= .ret/\b=false/\j=some .ret\/ ∃id,m= .exit id/\b=false/\j=some (.exit id)):=by
  split at u
  ·refine⟨true,none,?_,.inl ⟨rfl,rfl,rfl⟩⟩;have:({d with fe:=none}:hC S)=d:=by rw[<-ak]
   rw[this,<-M];exact u
  ·cases u
  ·exact⟨false,_,u,.inr (.inl ⟨rfl,rfl,rfl⟩)⟩
  ·exact⟨false,_,u,.inr (.inr ⟨_,rfl,rfl,rfl⟩)⟩
 refine⟨b,_,hk,?_⟩;intro N B o c x A O w a l aj aH n aS aa g;have ag:=g.lp;rw[M] at ag;obtain⟨l',fn,tm,D,av,T,aw,ax,ay,U⟩:=ag;have aR:l'=l:=by
  have:=g.ls;rw[aS,av] at this;exact ξB this.symm
 subst aR;have I:a.defers=[]:=g.dl (by rw[M];rfl);have aB: ∀i p,B.A0.pl i=some p->A.pl i=some p:=λi p hp=>by
  rcases ω i B.nb with h1|h1
  ·rw[g.pl i h1];exact hp
  ·rw[g.hi i h1] at hp;cases hp
 have aA:Pl.le B.A0 A:=⟨aB,g.ls⟩;have af:w.heap[l']? =some (.loop (ew d fn tm D)):=aw.1.1;have aZ:(c.args.map a.eval).size=(ew d fn tm D).params.size:=by
  have f:=yb aa;simp only[ξx,Array.length_toList] at f;simp[ew,f,Vu aq]
 have a1:=run_yield (P:=P) af aZ;obtain⟨r,an⟩: ∃r,r=((ew d fn tm D).params.zip (c.args.map a.eval)).foldl (λtmps (t,a)=>tmps.setIfInBounds t a) tm:=⟨_,rfl⟩;have ao:r=(d.ps.zip (c.args.toList.map a.eval)).foldl (λt p=>t.setIfInBounds p.1 p.2) tm:=by
  rw[an,<-ξQ];simp[ew]
 have a6:(Instr.yield l' (c.args.map a.eval)).run P w= .ok (.round l' fn r d.gv d.body) w:=by rw[a1,an];rfl
 have aW:(execOp a.eval o).run P w= .ok (.round l' fn r d.gv d.body) w:=by
  simp only[execOp,aj,ξ,resolve,aH,n,ζ0,ξh,π,invoke];simpa using a6
 refine⟨λ_ _=>trivial,?_⟩;rw[ζm _ _ _ (by rw[aj];simp),aW,Oper.uponIn_round];refine⟨λh=>by simp[fw] at h,roundIn_of_wpIn trivial ?_⟩;have aM:cQ A O w (ar++d.env) {tmps:=r,defers:=[]}:=by
  rw[ao];exact aj8 aq (by rw[U];exact aU) aa (ay.tr (Tr.refl _ _) aA)
 have i1:bp K P d.J.fn.ntmps (cT.of A O w st.h none (some l')) A O w ⟨ar++d.env,st.h,st.h.length,none,true,[],[]⟩ {tmps:=r,defers:=[]}:=
  bp.init g.rel g.ob g.c_ g.free (by show r.size=_;rw[ao,Oz,U]) aM trivial (λh=>by cases h) rfl (λi X hX=>xA aT hX)
 refine wpIn_mono (aX _ A O w _ i1) ?_;rintro e W w1 ⟨rfl,⟨au,a7⟩,O1,q⟩;have aP:a7=A.ls:=q.ls;subst aP;show ∃bg,_;have aI: ∀x∈st.dt,x∈dt':=λx n=>by rw[F];exact jB n
 have aJ: ∀x∈st1.dt,x<st.nb->x∈dt':=λx n hn=>by rw[F];exact kq hn (ξ9 _ n)
 have aK: ∀x∈st2.dt,x<st.nb->x∈dt':=λx n hn=>by rw[F];exact kq hn (ξ7 _ n)
 obtain⟨bb,Y,bd⟩:=g.inner (Tr.refl O w) (λb H=>⟨H,rfl⟩) rfl (λ_ _ h=>by cases h) q aI aJ q.rel;have s:=Y _ _ aw;refine⟨_,run_beginRound s.1.1 (by simp[ew,ak]),?_⟩;obtain⟨busy,ab⟩: ∃busy,busy=({ew d fn tm D with state:=.busy}:Loop):=⟨_,rfl⟩;rw[<-ab];have ad: ∀ {w':World} {A':Pl} {O':Γ},c8 B.w0.heap.size A' O' w' st.df a.defers:=λ{w' A' O'}=>by
  have:=g.df;rw[I] at this ⊢;exact this
 have V:=bb.book (o':=.loop busy) (lp':=none) (a':=a) s (.inr T) trivial (λ_=>I) ad rfl;have aE:W.defers=[]:=q.dl (by rw[aO,ξv]);have i2:bp K P d.J.fn.ntmps (cT.of ⟨au,A.ls⟩ O1 (w1.putObj l' (.loop busy)) st1.h none (some l')) ⟨au,A.ls⟩ O1 (w1.putObj l' (.loop busy)) ⟨st1.env,st1.h,st1.h.length,none,true,[],[]⟩ W:=
  bp.init (q.rel.book s) V.ob V.c_ q.free q.size (q.env.tr (pr s) (Pl.le.refl _)) trivial (λh=>by cases h) aE (λi X hX=>xA ai hX)
 refine wpIn_mono (aY _ _ _ _ _ i2) ?_;rintro e a2 w2 ⟨rfl,⟨a_,a8⟩,az,G⟩;have aQ:a8=A.ls:=G.ls;subst aQ;obtain⟨bc,Z,bf⟩:=V.inner (st2:=st2) (Tr.refl O1 _) (λb H=>⟨H,rfl⟩) rfl (λ_ _ h=>by cases h) G (dt':=dt') (λx n=>n) aK G.rel;have aC:=Y _ _ ax;have ah:D≠l':=by
  rintro rfl;have f:=ax.1.1;rw[af] at f;cases f
 have ba:ei O1 (w1.putObj l' (.loop busy)) l' (.loop busy):=⟨⟨ζ6 s.1.lt,rfl⟩,rfl,s.2.2⟩;have E:=Z _ _ ba;have aD:=Z _ _ (aC.put (o:=.loop (ew d fn tm D)) (o':=.loop busy) ah);have L: ∀jump:Option Code,jump=j.bind AX.code->(j=none↔jump=none)-> ∃v w',(Instr.endRound l' jump).run P w2= .ok v w'/\v= .bool jump.isNone/\ ∃A' O',bp K P N B A' O' w' {st with h:=st2.h,dt:=dt',lp:=some {d with fe:=j}} a:=by
  intro jump ae aN;refine⟨_,_,run_endRound jump E.1.1,rfl,⟨a_,A.ls⟩,az,?_⟩;have aV:({busy with state:=if jump.isNone then .ready else .done,pending:=jump}:Loop)=ew {d with fe:=j} fn tm D:=by
   rw[ab,ae];unfold ew;cases j with
   |none=>rfl
   |some x=>
    have: ¬(jump=none):=λe=>by cases aN.2 e
    rw[ae] at this;cases aG:(some x).bind AX.code with
    |none=>exact absurd aG this
    |some y=>rfl
  rw[aV];refine bc.book (o':=.loop (ew {d with fe:=j} fn tm D)) (lp':=some {d with fe:=j}) E (.inr T) ?_ (λ_=>I) ad rfl;exact⟨l',fn,tm,D,av,T,⟨⟨ζ6 E.1.lt,rfl⟩,rfl,E.2.2⟩,aD.put (o:=.loop busy) ah,(((ay.tr q.tr (Pl.le.refl _)).tr (pr s) (Pl.le.refl _)).tr G.tr (Pl.le.refl _)).tr (pr E) (Pl.le.refl _),U⟩
 rcases aL with⟨rfl,rfl,rfl⟩|⟨rfl,rfl,rfl⟩|⟨id,rfl,rfl,rfl⟩
 ·obtain⟨v,w',f,m,C⟩:=L none rfl (by simp);exact⟨v,w',f,v,rfl,by rw[m];rfl,C⟩
 ·obtain⟨v,w',f,m,C⟩:=L (some .ret) rfl (by simp);exact⟨v,w',f,v,rfl,by rw[m];rfl,C⟩
 ·obtain⟨v,w',f,m,C⟩:=L (some (.exit id)) rfl (by simp);exact⟨v,w',f,v,rfl,by rw[m];rfl,C⟩
end
section
variable {S:bm} {P:Program} {N:Nat} {B:cT} {A A':Pl} {O O':Γ} {w w':World} {st:AS S} {a:Act} {R:Type} {z:R}
theorem Nn {s:Nat} {c:AV S}: ∀ {aka:List (aB S)} {i:Nat} {xs:Γb},cI A O w aka xs->a1.get (iE i aka) s=some c-> ∃x,i<=s/\xs[s-i]? =some x/\c.rel A O w x
 |[],i,xs,_,h=>by cases h
 |b::r,i,xs,⟨y,ys,e,h1,d⟩,h=>by
  subst e;simp only[iE,a1.get] at h;cases a:ζ i s with
  |true=>
   rw[a] at h;have:=δ a;subst this;simp only[cond_true,ι] at h;subst h;exact⟨y,ξc _,by simp,h1⟩
  |false=>
   rw[a] at h;obtain⟨x,j,f,g⟩:=Nn (i:=i+1) d h;refine⟨x,by omega,?_,g⟩;rw[show s-i=(s-(i+1))+1 by omega];simpa using f
theorem No {aka:List (aB S)} {xs:Γb} {n:Nat} (h:cI A O w aka xs):cQ A O w (iE 0 aka) {tmps:=xs.toArray++ξ8 n undef,defers:=[]}:=by
 intro s a d;obtain⟨x,_,h1,b⟩:=Nn h d;simp only[ζN] at h1;have c:=(ε.1 h1).1;have e:(xs.toArray++ξ8 n undef).getD s undef=x:=by
  rw[θ,Array.getElem?_append_left (by simpa using c)];simp[h1]
 show a.rel A O w ((xs.toArray++ξ8 n undef).getD s undef);rw[e];exact b
structure aR (G:bN S) (P:Program):Prop extends Kt G P where
 L: ∀f J c,G.T f=some J->J.fn.body=some c->aF G.K P J c
theorem Nx {G:bN S} (a:aR G P) {run: {R:Type}->dq S->Code->AS S->(AX->AS S->Option R)->Option R} (v:js G.K P run) {f:Nat} {J:dq S} {c:Code} {aka:List (aB S)} {h:AH S} {k:Rs S->AH S->Γ->Option R} (b:G.T f=some J) (g:J.fn.body=some c) (hl:ξI aka.length J.fn.ntmps=true)
  (t:run J c ⟨iE 0 aka,h,h.length,none,false,[],[]⟩ (λe M=>ri G J.fn e M λr N=>q3 r N k)=some z): ∃r h' dt,k r h' dt=some z/\dk G.K P f aka h r h' dt:=by
 obtain⟨e,st1,h1,x⟩:=v _ _ _ _ _ (a.L f J c b g) t;obtain⟨r,st2,l,W,y⟩:=ahH a.toKt h1;obtain⟨F,h',dt,m,B⟩:=afm (K:=G.K) (P:=P) l;refine⟨F,h',dt,m,a.E f J b,λA O w xs d q hO o p s=>?_⟩;refine(callsIn_wide (n:=0)).1 (callsIn_of_wp_marks (a.T f J b) g trivial ?_);have hlen:=yb d;have hle:=ξ5 hl;have i1:bp G.K P J.fn.ntmps (cT.of A O w h none none) A O w ⟨iE 0 aka,h,h.length,none,false,[],[]⟩ {tmps:=xs.toArray++ξ8 (J.fn.ntmps-xs.toArray.size) undef,defers:=[]}:=
  bp.init q hO o p (by simp;omega) (No d) trivial (λ_=>rfl) rfl s
 refine wpIn_mono (x _ A O w _ i1) ?_;rintro U Q w1 ⟨rfl,A1,O1,H⟩;refine y _ _ _ _ _ _ _ H λA2 j w2 a2 V I u=>?_;obtain⟨i,C,D⟩:=B _ _ _ _ _ _ _ rfl I u;exact⟨i,j,C,D⟩
theorem ahn {G:bN S} (ab:aR G P) {run: {R:Type}->dq S->Code->AS S->(AX->AS S->Option R)->Option R} (ba:js G.K P run) {I:dq S} {fo:Operand} {ps:Array Nat} {gv body:Code} {k:AX->AS S->Option R} (h:Jb G run I fo ps gv body st k=some z):
  ∃e aF,k e aF=some z/\ ∀B A O w a,bp G.K P I.fn.ntmps B A O w st a->(Code.rangeFunc fo ps gv body).wpIn (fw B.rr) 0 P (hE G.K P I.fn.ntmps B e aF) a w:=by
 unfold Jb at h;split at h
 rotate_left
 ·cases h
 rename_i av au;split at h
 rotate_left
 ·cases h
 rename_i i aV;split at h
 rotate_left
 ·cases h
 rename_i g cs ax;split at h
 rotate_left
 ·cases h
 rename_i J af;split at h
 rotate_left
 ·cases h
 rename_i aI aq a_;cases ag:(ξI (1+cs.length) J.fn.ntmps&&(nL st.env&&hV st.h))<;>rw[ag] at h
 ·cases h
 simp only[cond_true] at h;simp only[η] at ag;obtain⟨hle,aZ,ad⟩:=ag;obtain⟨ae,st1,h1,bb⟩:=ba _ _ _ _ _ (ab.L g J aI af aq) h;obtain⟨e,f,hk,N,br,aY,aT,aU⟩: ∃e f,k e {st with h:=st1.h,dt:=e3 st.nb st.dt st1.dt}=some z/\st1.lp=some f/\st1.df=[]/\hV st1.h=true/\(ae= .normal\/ae= .ret)/\(f.fe=none/\e= .normal\/f.fe=some .ret/\e= .ret\/ ∃id,f.fe=some (.exit id)/\e= .exit id):=by
  have tail:xZ st st1 k=some z-> ∃e f,k e {st with h:=st1.h,dt:=e3 st.nb st.dt st1.dt}=some z/\st1.lp=some f/\st1.df=[]/\hV st1.h=true/\(f.fe=none/\e= .normal\/f.fe=some .ret/\e= .ret\/ ∃id,f.fe=some (.exit id)/\e= .exit id):=by
   intro h1;unfold xZ at h1;split at h1
   ·rename_i f ah N;cases hn:hV st1.h<;>rw[hn] at h1
    ·cases h1
    simp only[cond_true] at h1;split at h1
    ·rename_i hp;exact⟨.normal,f,h1,N,ah,rfl,.inl ⟨hp,rfl⟩⟩
    ·rename_i hp;exact⟨.ret,f,h1,N,ah,rfl,.inr (.inl ⟨hp,rfl⟩)⟩
    ·rename_i id hp;exact⟨.exit id,f,h1,N,ah,rfl,.inr (.inr ⟨id,hp,rfl⟩)⟩
    ·cases h1
   ·cases h1
  cases ae with
  |normal=>obtain⟨e,f,t1,t2,t3,t4,t5⟩:=tail h1;exact⟨e,f,t1,t2,t3,t4,.inl rfl,t5⟩
  |ret=>obtain⟨e,f,t1,t2,t3,t4,t5⟩:=tail h1;exact⟨e,f,t1,t2,t3,t4,.inr rfl,t5⟩
  |exit id=>cases h1
  |bD u=>cases h1
 refine⟨e,_,hk,λB A O w a l=>?_⟩;have a':=l.rr au;rw[a'];refine wpIn_rangeFunc λfn _=>?_;obtain⟨f0,bm,aH,p1,p2⟩:=dL l.env l.c_ aV;have p2:a.eval fo= .func f0 bm aH:=by simpa using p2
 obtain⟨p,aC,⟨us,vs,aD,bh,bj⟩,_⟩:=l.rel.al i _ ax;rw[p1] at aC;cases aC;rw[show us=[] from bh] at aD;cases aD;obtain⟨rec,ay⟩: ∃rec:Loop,rec=ew ⟨I.tok9,ps.toList,gv,body,st.env,none⟩ fn a.tmps w.heap.size:=⟨_,rfl⟩;obtain⟨m,W⟩: ∃m,(w.alloc (.deferred (some []))).alloc (.loop rec)=m:=⟨_,rfl⟩;have aL:m.heap[w.heap.size+1]? =some (.loop rec):=by
  rw[<-W];have:=ζg (w.alloc (.deferred (some []))) (.loop rec);rwa [World.size_alloc] at this
 have ak:m.heap[w.heap.size]? =some (.deferred (some [])):=by
  rw[<-W];exact(ζ4 _ _ _ (by simp)).trans (ζg w _)
 have M:Fr [] w m:=by
  rw[<-W];exact⟨rfl,rfl,rfl,by simp;omega,λk hk _=>(ζ4 _ _ _ (by simp;omega)).trans (ζ4 _ _ _ hk)⟩
 have bw:m.heap.size=w.heap.size+2:=by rw[<-W];simp
 obtain⟨O1,U⟩: ∃O1,O1=w.heap.size::(w.heap.size+1)::O:=⟨_,rfl⟩;have ai: ∀b∈O,b∈O1:=λb q=>by rw[U];exact μ _ (μ _ q)
 have V:Tr O w O1 m:=⟨M.os,M.tape,M.output,M.size,λk hk a6=>⟨by rw[U];simp;exact⟨by omega,by omega,a6⟩,M.block k hk (by simp)⟩⟩;have aM:OB O1 m:=λk hk=>by
  rw[U] at hk;simp at hk;rcases hk with rfl|rfl|hk
  ·omega
  ·omega
  ·have:=l.ob k hk;omega
 have an: ∀b∈O,b∈O1/\m.heap[b]? =w.heap[b]? :=λb q=>⟨ai b q,M.block b (l.ob b q) (by simp)⟩;obtain⟨A1,aa⟩: ∃A1:Pl,A1=⟨A.pl,some (w.heap.size+1)⟩:=⟨_,rfl⟩;have H:A1.pl=A.pl:=by rw[aa]
 refine⟨w.heap.size+1,[{target:=.collected w.heap.size,args:= #[]}],m,{target:=.fn (.func g) vs.toArray,args:= #[.func (.yield (w.heap.size+1)) #[] #[]]},m,g,
  #[.func (.yield (w.heap.size+1)) #[] #[]]++vs.toArray,m,?_,?_,?_,?_,λh=>by simp[fw] at h,?_⟩
 ·rw[<-W,ay];exact run_enterLoop_outer _ _ _ _ _
 ·simp only[resolve,p2];simp[go_sem]
 ·intro aK bs;trivial
 ·have aJ: ∀(vs:Array Value) (u:World),(callFunc g vs).run P u= .ok (.enter g vs) u:=ab.E g J af;simp[invoke,go_sem,aJ]
 ·
  have az:cI A1 O1 m (.one .cW::cs) (.func (.yield (w.heap.size+1)) #[] #[]::vs):=by
   refine⟨_,_,rfl,⟨w.heap.size+1,by rw[aa],rfl⟩,?_⟩;have aQ:lR cs=true:=by
    have:=nM ad ax;simp only[Ob.fR,η] at this;exact this.2
   exact qR H aQ (lX V (Pl.le.refl A) bj)
  have hlen:=yb az;simp only[ζ2] at hlen;have bt:=ξ5 hle;have aW:bW A O1 m (aE st.h):=by
   refine bW.xr (λj X r=>Ob.RT (nM ad r)) (λj X r=>?_) l.rel.dj;obtain⟨p,hp,hR,q⟩:=l.rel.al j X r;exact⟨p,hp,hR.keep V (Pl.le.refl A) λb Q=>⟨(an b (l.rel.gE r hp Q)).2,ai b (l.rel.gE r hp Q)⟩,λb Q=>ai b (q b Q)⟩
  have aO:ei O1 m (w.heap.size+1) (.loop rec):=⟨⟨aL,rfl⟩,rfl,by rw[U];simp⟩;have ao:ei O1 m w.heap.size (.deferred (some [])):=⟨⟨ak,rfl⟩,rfl,by rw[U];simp⟩;have i1:bp G.K P J.fn.ntmps (cT.of A1 O1 m st.h (some (w.heap.size+1)) none) A1 O1 m ⟨iE 0 (.one .cW::cs),st.h,st.h.length,some ⟨I.tok9,ps.toList,gv,body,st.env,none⟩,false,[],[]⟩ {tmps:=(#[ζq (.yield (w.heap.size+1)) #[] #[]]++vs.toArray)++ξ8 (J.fn.ntmps-(#[ζq (.yield (w.heap.size+1)) #[] #[]]++vs.toArray).size) undef,defers:=[]}:=by
   refine bp.init (RR H ad aW) aM (l.c_.tr V) (λj r=>by rw[H];exact l.free j r) (by simp at hlen ⊢;omega) ?_ ?_ (λ_=>rfl) rfl (λj X r=>Ob.RT (nM ad r))
   ·have:=No (n:=J.fn.ntmps-(#[ζq (.yield (w.heap.size+1)) #[] #[]]++vs.toArray).size) az;have e:(ζq (.yield (w.heap.size+1)) #[] #[]::vs).toArray= #[.func (.yield (w.heap.size+1)) #[] #[]]++vs.toArray:=by simp
    rw[e] at this;exact this
   ·refine⟨w.heap.size+1,fn,a.tmps,w.heap.size,by rw[cT.of,aa],rfl,by rw[<-ay];exact aO,ao,?_,l.size⟩;exact aeC H aZ (l.env.tr V (Pl.le.refl A))
  refine callsIn_of_wp_marks (ab.T g J af) aq trivial (wpIn_mono (bb _ A1 O1 m _ i1) ?_);rintro bq a2 s ⟨rfl,A2,Z,t⟩;have bu:A2.ls=some (w.heap.size+1):=by rw[t.ls,cT.of,aa]
  have ar:a2.defers=[]:=t.dl (by rw[N];rfl);have Y: ∀b∈O,some (w.heap.size+1)≠some b:=λb q e=>by
   cases e;have:=l.ob _ q;omega
  have a8:bW ⟨A2.pl,A.ls⟩ Z s (aE st1.h):=RR (A1:=A2) (A2:=⟨A2.pl,A.ls⟩) rfl aY t.rel;obtain⟨bl,aG,bg⟩:=l.inner V an H Y t (dt':=e3 st.nb st.dt st1.dt) (λx Y=>jB Y) (λx Y hn=>kq hn Y) a8;have aw:=t.lp;rw[N] at aw;obtain⟨l',C,D,y,s1,s0,s2,bA,bB,bC⟩:=aw;have:l'=w.heap.size+1:=by
   have:some (w.heap.size+1)=some l':=s0;exact(ξB this).symm
  subst this;have aN:ei Z s w.heap.size (.deferred (some [])):=by
   obtain⟨bd,bf,_⟩:=t.cl w.heap.size ao.2.2 (λe=>by have e:some (w.heap.size+1)=some w.heap.size:=e;have:=ξB e;omega) λj _ hl p hp=>by
    obtain⟨X,hX⟩:=hl;obtain⟨bz,a7,hR,q⟩:=l.rel.al j X hX;have hp:A1.pl j=some p:=hp;rw[H,a7] at hp;cases hp;intro Q;have:=l.ob _ (q _ Q);omega
   exact⟨⟨bd.trans ak,rfl⟩,rfl,bf⟩
  have fin: ∀v,rangePost (fw none) 0 P (w.heap.size+1) (hE G.K P I.fn.ntmps B e {st with h:=st1.h,dt:=e3 st.nb st.dt st1.dt}) {a with defers:=[{target:=.collected w.heap.size,args:= #[]}]++a.defers} (.returned v) s:=by
   intro v;refine⟨_,_,run_endLoop s2.1.1 ?_,?_⟩
   ·unfold ew;cases f.fe<;>simp
   ·have a1:w.heap.size≠w.heap.size+1:=by omega
    have bc:B.w0.heap.size<=w.heap.size:=l.tr.size;have aX:Dc.mark w.heap.size∉a.defers:=by
     have: ∀(ds:List Deferred) (df:List (LV S)),c8 B.w0.heap.size A O w df ds->Dc.mark w.heap.size∉ds:=by
      intro ds
      induction ds with
      |nil=>intro df _ hm;cases hm
      |cons d ds aB=>
       intro df aS hm;rcases aS with⟨F,d1,d0,d2,d3⟩|⟨bx,bk,aK,bE,bo,d1,d2,d3,d4⟩
       ·rcases τ.1 hm with e|hm
        ·rw[d1] at e;have:=aef e;have:=d2.1.lt;omega
        ·exact aB df d3 hm
       ·rcases τ.1 hm with e|hm
        ·rw[d3] at e;unfold Dc.mark at e;cases e
        ·exact aB bk d4 hm
     exact this _ _ l.df
    have aP: ∀F,ei O w F (.deferred (some []))->F≠w.heap.size+1:=λF h e=>by
     have:=h.1.lt;omega
    have aj:bp G.K P I.fn.ntmps B ⟨A2.pl,A.ls⟩ Z (s.putObj (w.heap.size+1) (.loop {ew f C D y with state:=.exhausted})) {st with h:=st1.h,dt:=e3 st.nb st.dt st1.dt} {a with defers:=[{target:=.collected w.heap.size,args:= #[]}]++a.defers}:=by
     refine bl.book (o':=.loop {ew f C D y with state:=.exhausted}) (lp':=st.lp) s2 (.inl λhm=>?_) (by rw[av];trivial) (λh=>by rw[av,show st.inr=false from au] at h;cases h) ?_ rfl
     ·have:=l.o0 _ hm;have:=l.tr.size;omega
     ·refine .inl ⟨w.heap.size,rfl,⟨bc,aX⟩,aN.put (o:=.loop (ew f C D y)) a1,?_⟩;exact l.df.rA bg.at_ λF q=>(aG _ _ q).put (o:=.loop (ew f C D y)) (aP F q)
    have go: ∀j:Option Code,j=(ew f C D y).pending->(match j with
      |none=>hE G.K P I.fn.ntmps B e {st with h:=st1.h,dt:=e3 st.nb st.dt st1.dt} .normal {a with defers:=[{target:=.collected w.heap.size,args:= #[]}]++a.defers} (s.putObj (w.heap.size+1) (.loop {ew f C D y with state:=.exhausted}))
      |some c=>c.wpIn (fw none) 0 P (hE G.K P I.fn.ntmps B e {st with h:=st1.h,dt:=e3 st.nb st.dt st1.dt}) {a with defers:=[{target:=.collected w.heap.size,args:= #[]}]++a.defers} (s.putObj (w.heap.size+1) (.loop {ew f C D y with state:=.exhausted}))):=by
     intro j r;rcases aU with⟨hp,rfl⟩|⟨hp,rfl⟩|⟨id,hp,rfl⟩
     ·have:j=none:=by rw[r];unfold ew;rw[hp];rfl
      subst this;exact⟨rfl,_,_,aj⟩
     ·have:j=some .ret:=by rw[r];unfold ew;rw[hp];rfl
      subst this;exact wpIn_ret ⟨rfl,_,_,aj⟩
     ·have:j=some (.exit id):=by rw[r];unfold ew;rw[hp];rfl
      subst this;exact wpIn_exit ⟨rfl,_,_,aj⟩
    exact go _ rfl
  have aA:(results J.fn a2.tmps).run P s= .ok (h3 []) s:=by
   obtain⟨bn,t1,t2⟩:=JF (A:=A2) (O:=Z) (w:=s) (a:=a2) (env:=st1.env) (h:=st1.h) (aka:=[]) (fn:=J.fn) ab.K (by rw[a_];rfl) t.env t.rel;rw[show bn=[] from t1] at t2;exact t2
  rcases aT with rfl|rfl
  ·show LeavesInM (fw none) 0 P J.fn a2.tmps _ a2.defers .returning s;rw[ar];exact⟨_,aA,fin _⟩
  ·show LeavesInM (fw none) 0 P J.fn a2.tmps _ a2.defers .returning s;rw[ar];exact⟨_,aA,fin _⟩
theorem afz {K:Kit S} {I:dq S} {x:Code} (h:bp K P N B A O w st a): ∃A',bp K P N B A' O w (Su I x st) a:=by
 cases x<;>first|exact⟨A,h⟩|exact h.gc
def tp (K:Kit S) (P:Program) (n:Nat) (run: {R:Type}->dq S->Code->AS S->(AX->AS S->Option R)->Option R):Prop:= ∀ {R:Type} (I:dq S) (x:Code) (st:AS S) (k:AX->AS S->Option R) (z:R),aF K P I (.loop x)->gb I.lc (dG x)=none->run I (.loop x) st k=some z-> ∃e b,k e b=some z/\ ∀B A O w a,bp K P I.fn.ntmps B A O w st a->Code.roundsIn (fw B.rr) 0 P x (hE K P I.fn.ntmps B e b) n a w
theorem abn {G:bN S} (b:aR G P) {run: {R:Type}->dq S->Code->AS S->(AX->AS S->Option R)->Option R} (i:js G.K P run):j5 (R:=R) G.K P (FC G run):=by
 intro f aka h k z a;unfold FC at a;split at a
 ·rename_i e g;exact b.H f e g aka h k z a
 ·split at a
  ·rename_i J c;split at a
   ·rename_i j d;cases hl:ξI aka.length J.fn.ntmps<;>rw[hl] at a
    ·cases a
    ·exact Nx b i c d hl a
   ·cases a
  ·cases a
theorem Rv {G:bN S} {n:Nat} (o:js G.K P (λ{_}=>cq G n)) (p:tp G.K P n (λ{_}=>cq G n)):tp G.K P (n+1) (λ{_}=>cq G (n+1)):=by
 intro R I x st k z d f h;simp only[cq,f] at h;obtain⟨e,st1,h1,g⟩:=o _ _ _ _ _ (d.sub λ_ h=>.loop h) h
 by_cases he:e= .normal
 ·subst he;obtain⟨i,st2,j,m⟩:=p _ _ _ _ _ d f h1;refine⟨i,st2,j,λB A O w a b=>wpIn_mono (g B A O w a b) ?_⟩;rintro x' a' w' ⟨rfl,A',O',c⟩;obtain⟨A2,l⟩:=c.gc (sl:=I.L (dG x));exact m B A2 O' w' a' l
 ·refine⟨e,st1,by cases e<;>first|exact h1|exact absurd rfl he,λB A O w a b=>wpIn_mono (g B A O w a b) ?_⟩;rintro x' a' w' ⟨rfl,A',O',c⟩;cases e<;>first|exact⟨rfl,A',O',c⟩|exact absurd rfl he
theorem aiB {G:bN S} (p:aR G P) {n:Nat} (i:js G.K P (λ{_}=>cq G n)) (H:tp G.K P (n+1) (λ{_}=>cq G (n+1))):js G.K P (λ{_}=>cq G (n+1)):=by
 intro R I c st k z j h;cases c with
 |loop x=>
  cases r:gb I.lc (dG x) with
  |some lc=>
   simp only[cq,r] at h;exact j x lc (.refl _) r st k z h
  |none=>
   obtain⟨e,st1,h1,g⟩:=H _ _ _ _ _ j r h;exact⟨e,st1,h1,λB A O w a d=>wpIn_loop_rounds (n+1) (g B A O w a d)⟩
 |skip=>simp only[cq] at h;exact⟨.normal,st,h,λB A O w a d=>wpIn_skip ⟨rfl,A,O,d⟩⟩
 |label l=>simp only[cq] at h;exact⟨.normal,st,h,λB A O w a d=>wpIn_label ⟨rfl,A,O,d⟩⟩
 |exit id=>simp only[cq] at h;exact⟨.exit id,st,h,λB A O w a d=>wpIn_exit ⟨rfl,A,O,d⟩⟩
 |ret=>simp only[cq] at h;exact⟨.ret,_,h,λB A O w a d=>wpIn_ret (have⟨A2,s⟩:=d.gc (sl:=I.L 1000000);⟨rfl,A2,O,s⟩)⟩
 |seq x y=>
  simp only[cq] at h;obtain⟨e,st1,h1,g⟩:=i _ _ _ _ _ (j.sub λ_ h=>.seq1 h) h
  by_cases he:e= .normal
  ·subst he;obtain⟨v,st2,D,F⟩:=i _ _ _ _ _ (j.sub λ_ h=>.T7 h) h1;refine⟨v,st2,D,λB A O w a d=>wpIn_seq (wpIn_mono (g B A O w a d) ?_)⟩;rintro x' a' w' ⟨rfl,A',O',f⟩;exact F B A' O' w' a' f
  ·refine⟨e,st1,by cases e<;>first|exact h1|exact absurd rfl he,λB A O w a d=>wpIn_seq (wpIn_mono (g B A O w a d) ?_)⟩;rintro x' a' w' ⟨rfl,A',O',f⟩;cases e<;>first|exact⟨rfl,A',O',f⟩|exact absurd rfl he
 |cond o x y=>
  simp only[cq] at h;split at h
  rotate_left
  ·cases h
  rename_i b m;cases b with
  |true=>
   simp only[cond_true] at h;obtain⟨e,st1,h1,g⟩:=i _ _ _ _ _ (j.sub λ_ h=>.NS h) h;exact⟨e,st1,h1,λB A O w a d=>wpIn_cond_true (eg (S:=S) (A:=A) (O:=O) (w:=w) (dL d.env d.c_ m)) (g B A O w a d)⟩
  |false=>
   simp only[cond_false] at h;obtain⟨e,st1,h1,g⟩:=i _ _ _ _ _ (j.sub λ_ h=>.NT h) h;exact⟨e,st1,h1,λB A O w a d=>wpIn_cond_false (eg (S:=S) (A:=A) (O:=O) (w:=w) (dL d.env d.c_ m)) (g B A O w a d)⟩
 |block id x=>
  simp only[cq] at h;obtain⟨e,st1,h1,g⟩:=i _ _ _ _ _ (j.sub λ_ h=>.block h) h;have body: ∀B A O w a,bp G.K P I.fn.ntmps B A O w st a->x.wpIn (fw B.rr) 0 P (hE G.K P I.fn.ntmps B e st1) a w:=λB A O w a d=>by
   obtain⟨A',f⟩:=afz (I:=I) (x:=x) d;exact g B A' O w a f
  cases e with
  |exit q=>
   cases m:ζ q id with
   |true=>
    simp only[m,cond_true] at h1;refine⟨.normal,_,h1,λB A O w a d=>wpIn_block (wpIn_mono (body B A O w a d) ?_)⟩;rintro x' a' w' ⟨rfl,A',O',f⟩;show if q=id then _ else _;rw[if_pos (δ m)];obtain⟨A2,s⟩:=f.gc (sl:=I.L (1000001+id));exact⟨rfl,A2,O',s⟩
   |false=>
    simp only[m,cond_false] at h1;refine⟨.exit q,st1,h1,λB A O w a d=>wpIn_block (wpIn_mono (body B A O w a d) ?_)⟩;rintro x' a' w' ⟨rfl,A',O',f⟩;show if q=id then _ else _;rw[if_neg (λe=>by subst e;simp at m)];exact⟨rfl,A',O',f⟩
  |normal=>
   refine⟨.normal,st1,h1,λB A O w a d=>wpIn_block (wpIn_mono (body B A O w a d) ?_)⟩;rintro x' a' w' ⟨rfl,A',O',f⟩;exact⟨rfl,A',O',f⟩
  |ret=>
   refine⟨.ret,st1,h1,λB A O w a d=>wpIn_block (wpIn_mono (body B A O w a d) ?_)⟩;rintro x' a' w' ⟨rfl,A',O',f⟩;exact⟨rfl,A',O',f⟩
  |bD u=>
   refine⟨.bD u,st1,h1,λB A O w a d=>wpIn_block (wpIn_mono (body B A O w a d) ?_)⟩;rintro x' a' w' ⟨rfl,A',O',f⟩;exact⟨rfl,A',O',f⟩
 |scope x=>
  simp only[cq] at h;cases t:st.inr<;>rw[t] at h
  rotate_left
  ·cases h
  simp only[cond_false] at h;obtain⟨e,st1,h1,g⟩:=i _ _ _ _ _ (j.sub λ_ h=>.scope h) h;refine⟨e,st1,h1,λB A O w a d=>?_⟩;have E:=d.rr t;have:=g B A O w a d;rw[E] at this ⊢;rw[acX] at this ⊢;refine wpIn_wide.2 (wp_scope_straight (wpIn_wide.1 (wpIn_mono this ?_)));rintro x' a' w' ⟨rfl,A',O',f⟩;cases e<;>exact⟨rfl,A',O',f⟩
 |rangeFunc fo ps gv body=>
  simp only[cq] at h;obtain⟨e,st1,h1,g⟩:=ahn p i h;refine⟨e,st1,h1,λB A O w a d=>?_⟩;obtain⟨A',f⟩:=d.gc (sl:=I.L (2000001+dG body));exact g B A' O w a f
 |region id ops draw=>
  simp only[cq] at h;obtain⟨e,st1,h1,g⟩:=aa1 p.M p.K p.C (abn p i) (aj7 i) (id:=id) h;cases e with
  |go=>exact⟨.normal,st1,h1,g⟩
  |bD u=>exact⟨.bD u,st1,h1,g⟩
 |_=>simp only[cq] at h;cases h
theorem mP {G:bN S} (a:aR G P): ∀n,js G.K P (λ{_}=>cq G n)/\tp G.K P n (λ{_}=>cq G n)
 |0=>⟨λI c st k z _ h=>(by cases h),λI c st k z _ _ h=>(by cases h)⟩
 |n+1=>
  ⟨aiB a (mP a n).1 (Rv (mP a n).1 (mP a n).2),Rv (mP a n).1 (mP a n).2⟩
theorem Fp {G:bN S} (a:aR G P) (n:Nat):js G.K P (λ{_}=>cq G n):=(mP a n).1
theorem pb {G:bN S} (b:aR G P) {n f:Nat} {aka:List (aB S)} {h:AH S} {k:Rs S->AH S->Γ->Option R} (a:e1 G n f aka h k=some z): ∃r h' dt,k r h' dt=some z/\dk G.K P f aka h r h' dt:=by
 unfold e1 at a;split at a
 ·rename_i J c;split at a
  ·rename_i e d;cases hl:ξI aka.length J.fn.ntmps<;>rw[hl] at a
   ·cases a
   ·exact Nx b (Fp b n) c d hl a
  ·cases a
 ·cases a
end
section
variable {S:bm} {P:Program}
def il:Code->List Code
 | .loop x=>x::il x
 | .seq x y=>il x++il y
 | .cond _ x y=>il x++il y
 | .block _ x=>il x
 | .scope x=>il x
 |_=>[]
def iW (c:Code) (id:Nat):Code:=match(il c).filter (λx=>ζ (dG x) id) with|[x]=>x|_=>.skip
def xG (c:Code) (id:Nat):Bool:=match(il c).filter (λx=>ζ (dG x) id) with|[_]=>true|_=>false
theorem aiC {c d x:Code} (b:d= .loop x) (h:Vx.Sub c d):x∈il c:=by
 induction h with
 |refl c=>subst b;exact ν
 |seq1 _ a=>exact ξ9 _ (a b)
 |T7 _ a=>exact ξ7 _ (a b)
 |NS _ a=>exact ξ9 _ (a b)
 |NT _ a=>exact ξ7 _ (a b)
 |block _ a=>exact a b
 |loop _ a=>exact μ _ (a b)
 |scope _ a=>exact a b
theorem ad' {c x:Code} {id:Nat} (h:xG c id=true) (a:Vx.Sub c (.loop x)) (hi:dG x=id):x=iW c id:=by
 have hm:x∈(il c).filter (λx=>ζ (dG x) id):=ξk.2 ⟨aiC rfl a,by rw[hi];exact ξu id⟩;unfold xG at h;unfold iW;split at h
 ·rename_i y b;rw[b] at hm;simpa using hm
 ·cases h
def aO (K:Kit S) (P:Program) (J:k9) (x:Code) (lc:aX S):Prop:= ∀ {R:Type} (st:AS S) (k:AX->AS S->Option R) (z:R),lc.out st k=some z-> ∃e b,k e b=some z/\ ∀B A O w a,bp K P J.fn.ntmps B A O w st a->(Code.loop x).wpIn (fw B.rr) 0 P (hE K P J.fn.ntmps B e b) a w
theorem aF.cons {K:Kit S} {J:k9} {lc:aX S} {lcs:List (aX S)} {c:Code} (h:aF K P ⟨J,lcs⟩ c) (h1:xG c lc.id=true) (e:aO K P J (iW c lc.id) lc):aF K P ⟨J,lc::lcs⟩ c:=by
 intro x f d a;simp only[gb] at a;cases b:ζ lc.id (dG x) with
 |true=>
  rw[b] at a;simp only[cond_true,ι] at a;subst a;rw[ad' h1 d (δ b).symm];exact e
 |false=>
  rw[b] at a;exact h x f d a
def ry (P:Program) (L:Nat->Nat->Γ) (f:Nat):Option (dq S):=
 match P.funcs[f]? with
 |some fn=>(match fn.body with|some _=>some ⟨⟨fn,L f⟩,[]⟩|none=>none)
 |none=>none
def gV (T:Nat->Option (dq S)) (f:Nat) (J:dq S):Nat->Option (dq S):=λh=>bif ζ h f then some J else T h
def oJ (P:Program):Prop:= ∀(f:Nat) (fn:Func),P.funcs[f]? =some fn->fn.body.isSome=true->(fn.name== "runtime.NumGoroutine")=false
theorem c9 (h:oJ P) {f:Nat} {fn:Func} (d:P.funcs[f]? =some fn) (a:fn.body.isSome=true):eB P f:=by
 intro vs u;have h1:fn.name≠ "runtime.NumGoroutine" :=by simpa using h f fn d a
 cases b:fn.body with
 |none=>rw[b] at a;cases a
 |some c=>simp[callFunc,d,h1,b,mark]
structure ag (G:bN S) (P:Program):Prop where
 K:b6 G.K P
 C:j6 G P
 H: ∀f c,pV G.H f=some c-> ∀ {R:Type} (aka:List (aB S)) (h:AH S) (k:Rs S->AH S->Γ->Option R) (z:R),c.out aka h k=some z-> ∃r h' dt,k r h' dt=some z/\dk G.K P f aka h r h' dt
 D: ∀g a,pU G.D g=some a-> ∀ {R:Type} (cs:List (aB S)) (p:Option Value) (b:Nat->Option (Ob S)) (k:Option Value->Up S->Option R) (z:R),a.out cs p b k=some z-> ∃q up,k q up=some z/\mo G.K P g cs p b q up
 M:P.follows .mixedOrders=true
 N:oJ P
theorem ag.all {G:bN S} (h:ag G P) {L:Nat->Nat->Γ} (b:G.T=ry P L):aR G P where
 K:=h.K
 C:=h.C
 H:=h.H
 D:=h.D
 M:=h.M
 T f J a:=by
  rw[b] at a;unfold ry at a;split at a
  ·rename_i fn d;split at a
   ·cases a;exact d
   ·cases a
  ·cases a
 E f J a:=by
  rw[b] at a;unfold ry at a;split at a
  ·rename_i fn d;split at a
   ·rename_i c e;exact c9 h.N d (by rw[e];rfl)
   ·cases a
  ·cases a
 L f J c a e:=by
  rw[b] at a;unfold ry at a;split at a
  ·split at a
   ·cases a;exact aF.nil
   ·cases a
  ·cases a
theorem aR.fz {G:bN S} (h:aR G P) {f:Nat} {J:dq S} (i:P.funcs[f]? =some J.fn) (b:J.fn.body.isSome=true) (k:oJ P) (j: ∀c,J.fn.body=some c->aF G.K P J c):aR {G with T:=gV G.T f J} P where
 K:=h.K
 C:=⟨h.C.C⟩
 H:=h.H
 D:=h.D
 M:=h.M
 T g I a:=by
  simp only[gV] at a;cases b:ζ g f<;>rw[b] at a
  ·exact h.T g I a
  ·cases a;rw[δ b];exact i
 E g I a:=by
  simp only[gV] at a;cases d:ζ g f<;>rw[d] at a
  ·exact h.E g I a
  ·cases a;rw[δ d];exact c9 k i b
 L g I c a e:=by
  simp only[gV] at a;cases d:ζ g f<;>rw[d] at a
  ·exact h.L g I c a e
  ·cases a;exact j c e
def xN (K:Kit S) {R:Type} (k:Rs S->Option R) (r:Rs S) (h:AH S) (_:Γ):Option R:=
 match r with
 | .ret (.s a)=>(match jL K (aE h) a with|some (a',_)=>k (.ret (.s a'))|none=>none)
 | .ret (.bJ aka)=>(match iP K (aE h) aka with|some (b,_)=>k (.ret (.bJ b))|none=>none)
 | .bD u=>k (.bD u)
variable {A A':Pl} {O O':Γ} {w w':World}
theorem LV.q6 {l:LV S} {xs:Γb} (hp:l.pure=true) (b:Tr O w O' w') (h:l.rel A O w xs):l.rel A' O' w' xs:=by
 cases l with
 |v u=>exact h
 |aJ t d=>obtain⟨x,h1,a,c⟩:=h;exact⟨x,h1,a.tr b,c⟩
 |ptr t d o=>obtain⟨x,h1,a⟩:=h;exact⟨x,h1,Ty.is.tr a b⟩
 |bA k n gs=>exact h
 |cA n gs=>exact h
 |_=>cases hp
theorem Sw (a:Tr O w O' w'): ∀ {ls:List (LV S)} {xs:Γb},ls.all LV.pure=true->bF A O w ls xs->bF A' O' w' ls xs
 |[],_,_,h=>h
 |l::ls,_,hp,⟨y,ys,h,h1,b⟩=>by
  simp only[ξC,η] at hp;exact⟨y,ys,h,LV.q6 hp.1 a h1,Sw a hp.2 b⟩
theorem aB.q6 (b:Tr O w O' w') {a:aB S} {x:Value} (hp:a.pure=true) (h:a.rel A O w x):a.rel A' O' w' x:=by
 cases a with
 |one l=>exact LV.q6 hp b h
 |agg ls=>obtain⟨xs,h1,c⟩:=h;exact⟨xs,h1,Sw b hp c⟩
theorem I4 (a:Tr O w O' w'): ∀ {ls:List (aB S)} {xs:Γb},ls.all aB.pure=true->cI A O w ls xs->cI A' O' w' ls xs
 |[],_,_,h=>h
 |l::ls,_,hp,⟨y,ys,h,h1,b⟩=>by
  simp only[ξC,η] at hp;exact⟨y,ys,h,aB.q6 a hp.1 h1,I4 a hp.2 b⟩
theorem ej.IH {K:Kit S} (H:b6 K P) {f:Nat} {aka:List (aB S)} {r:Rs S} {h':AH S} {dt:Γ} (hp:aka.all aB.pure=true) (h:dk K P f aka [] r h' dt) {R:Type} {k:Rs S->Option R} {z:R} (c:xN K k r h' dt=some z): ∃L,k L=some z/\ej K P f aka L:=by
 obtain⟨B,Q⟩:=h;have key: ∀(A:Pl) (O:Γ) (w:World) (xs:Γb),cI A O w aka xs->OB O w->cN K O w->Calls P f xs.toArray w (λe w'=> ∃A' O',iC A' O' w' r e/\bW A' O' w' (aE h')/\(∀rs:Γ,(∀r∈rs,∃Z,aE h' r=some Z)->Tr (c' A' rs O') w' O w')/\Fr [] w w'):=by
  intro A O w xs m hO l;refine(Q ⟨λ_=>none,none⟩ O w xs (I4 (Tr.refl O w) hp m) ⟨λi X hi=>by simp[aE] at hi,λi j X Y p q b _ hi=>by simp[aE] at hi⟩ hO l (λ_ _=>rfl) (λi X hi=>by simp[aE] at hi)).mono ?_;rintro e w' ⟨A',O',d,g⟩;have U: ∀i,i∉dt:=λi hi=>by have:=g.lt i hi;simp at this
  have J: ∀b∈O,w'.heap[b]? =w.heap[b]? /\b∈O'/\ ∀i X p,aE h' i=some X->A'.pl i=some p-> ¬cD w' X p b:=λb o=>by
   obtain⟨c1,c2,t⟩:=g.cl b o λi hi=>absurd hi (U i);exact⟨c1,c2,λi X p=>t i X p (ξt _)⟩
  refine⟨A',O',d,g.rel,λrs aa=>Tr.less λb o=>?_,?_⟩
  ·obtain⟨c1,c2,t⟩:=J b o;refine hT.2 ⟨c2,λr d p W=>?_⟩;obtain⟨Z,T⟩:=aa r d;exact λV=>t r Z p T W (.inl V)
  ·refine⟨g.tr.os,g.tr.tape,g.tr.output,g.tr.size,λb o _=>?_⟩
   by_cases I:b∈O
   ·exact(J b I).1
   ·exact(g.tr.keep b o I).2
 cases r with
 |bD u=>
  refine⟨.bD u,c,B,λA O w xs m hO l=>(key A O w xs m hO l).mono ?_⟩;rintro e w' ⟨A',O',d,_,_,n⟩;exact⟨d,n⟩
 |ret M=>
  cases M with
  |s a=>
   simp only[xN] at c;split at c
   ·rename_i a' rs y;refine⟨_,c,B,λA O w xs m hO l=>(key A O w xs m hO l).mono ?_⟩;rintro e w' ⟨A',O',⟨v,h1,x⟩,C,D,n⟩;obtain⟨E,F,G⟩:=ON H C (all:=rs) y x (λr d=>d);exact⟨⟨v,h1,aB.q6 (D rs G) F E⟩,n⟩
   ·cases c
  |bJ bs=>
   simp only[xN] at c;split at c
   ·rename_i ab rs y;refine⟨_,c,B,λA O w xs m hO l=>(key A O w xs m hO l).mono ?_⟩;rintro e w' ⟨A',O',⟨v,h1,ys,x,N⟩,C,D,n⟩;obtain⟨E,F,G⟩:=lL H C (all:=rs) y N (λr d=>d);exact⟨⟨v,h1,ys,x,I4 (D rs G) F E⟩,n⟩
   ·cases c
def shape (a b:aB S):Bool:=match a,b with| .one _,.one _=>true| .agg _,.agg _=>true|_,_=>false
def x2 (K:Kit S) (t:Nat) (a:aB S):Option (S.El t):=match K.cls t a.cells with|some x=>bif shape a (K.bl t x) then some x else none|none=>none
theorem SK {K:Kit S} (f:b6 K P) {t:Nat} {a:aB S} {x:S.El t} {v:Value} (h:x2 K t a=some x) (d:a.rel A O w v):(K.bl t x).rel A O w v:=by
 unfold x2 at h;split at h
 ·rename_i y j;cases c:shape a (K.bl t y)<;>rw[c] at h
  ·cases h
  ·cases h;have h1:=f.bl A O w t x _ (f.cls A O w t _ x _ j (aB.rel.cells d));cases a with
   |one l=>
    have i:=R6 (LV.rel.one d v ν);rw[i] at h1;cases b:K.bl t x with
    |one l'=>
     rw[b] at h1;obtain⟨ys,zs,e,g,k⟩:=h1;rw[show zs=[] from k,ξA] at e;rw[<-e] at g;exact g
    |agg ls=>rw[b] at c;cases c
   |agg ls=>
    obtain⟨xs,rfl,q⟩:=d;cases b:K.bl t x with
    |one l'=>rw[b] at c;cases c
    |agg m=>
     rw[b] at h1;exact⟨xs,rfl,by simpa[ζP,aB.cells] using h1⟩
 ·cases h
inductive h5 (S:bm):Γ->Type
 |nil:h5 S []
 |cons {t a} (x:S.El t) (r:h5 S a):h5 S (t::a)
def q8 (K:Kit S):(b:Γ)->List (aB S)->Option (h5 S b)
 |[],[]=>some .nil
 |t::b,a::aka=>(match x2 K t a with|some x=>(match q8 K b aka with|some r=>some (.cons x r)|none=>none)|none=>none)
 |_,_=>none
def kM (K:Kit S): {a:Γ}->h5 S a->List (aB S)
 |_,.nil=>[]
 |_,.cons (t:=t) x r=>K.bl t x::kM K r
theorem x3 {K:Kit S} (d:b6 K P): ∀ {c:Γ} {aka:List (aB S)} {xs:h5 S c} {vs:Γb},q8 K c aka=some xs->cI A O w aka vs->cI A O w (kM K xs) vs
 |[],[],xs,vs,h,b=>by cases h;exact b
 |t::c,a::aka,xs,vs,h,⟨y,ys,e,h1,f⟩=>by
  simp only[q8] at h;split at h
  ·rename_i x g;split at h
   ·rename_i r b;cases h;exact⟨y,ys,e,SK d g h1,x3 d b f⟩
   ·cases h
  ·cases h
 |[],_::_,xs,vs,h,_=>by cases h
 |_::_,[],xs,vs,h,_=>by cases h
def fE (K:Kit S) (f:Nat) (a:Γ) (spec: {R:Type}->h5 S a->(Rs S->Option R)->Option R):eM S:=⟨f,λaka k=>match q8 K a aka with|some xs=>bif (kM K xs).all aB.pure then spec xs k else none|none=>none⟩
theorem ag.f_ {G:bN S} (h:ag G P) {c:eM S} (g: ∀ {R:Type} (aka:List (aB S)) (k:Rs S->Option R) (z:R),aka.all aB.pure=true->c.out aka k=some z-> ∃r,k r=some z/\ej G.K P c.f aka r):ag {G with C:=c::G.C} P where
 K:=h.K
 H:=h.H
 D:=h.D
 M:=h.M
 N:=h.N
 C:=⟨λf e a=>by
  simp only[vO] at a;cases d:ζ c.f f<;>rw[d] at a
  ·exact h.C.C f e a
  ·cases a;intro R aka k z hp i;obtain⟨r,h1,b⟩:=g aka k z hp i;rw[δ d] at b;exact⟨r,h1,b⟩⟩
theorem ag.hg {G:bN S} (h:ag G P) {c:eO S} (i: ∀ {R:Type} (aka:List (aB S)) (b:AH S) (k:Rs S->AH S->Γ->Option R) (z:R),c.out aka b k=some z-> ∃r h' dt,k r h' dt=some z/\dk G.K P c.f aka b r h' dt):ag {G with H:=c::G.H} P where
 K:=h.K
 C:=⟨h.C.C⟩
 D:=h.D
 M:=h.M
 N:=h.N
 H f g a:=by
  simp only[pV] at a;cases e:ζ c.f f<;>rw[e] at a
  ·exact h.H f g a
  ·cases a;intro R aka b k z j;obtain⟨r,h',dt,h1,d⟩:=i aka b k z j;rw[δ e] at d;exact⟨r,h',dt,h1,d⟩
theorem ag.NV {G:bN S} (h:ag G P) {c:mn S} (i: ∀ {R:Type} (cs:List (aB S)) (p:Option Value) (a:Nat->Option (Ob S)) (k:Option Value->Up S->Option R) (z:R),c.out cs p a k=some z-> ∃q up,k q up=some z/\mo G.K P c.g cs p a q up):ag {G with D:=c::G.D} P where
 K:=h.K
 C:=⟨h.C.C⟩
 H:=h.H
 M:=h.M
 N:=h.N
 D g f b:=by
  simp only[pU] at b;cases e:ζ c.g g<;>rw[e] at b
  ·exact h.D g f b
  ·cases b;intro R cs p a k z j;obtain⟨q,up,h1,d⟩:=i cs p a k z j;rw[δ e] at d;exact⟨q,up,h1,d⟩
end
def jw (k:IntKind) (n:Nat):Ty (Γa) where
 agg:=true
 n:=n
 rep _ _ cs xs:=xs.length=n/\cs=xs.map (ξ2 k)
 tr _ h:=h
 len h:=by rw[h.2,ξx];exact h.1
 one h u hu:=by
  rw[h.2] at hu;obtain⟨x,_,rfl⟩:=ζr.1 hu;rfl
 fy h:=by cases h
section
variable {S:bm} {α β γ:Type}
def dS (T:Ty α) (f:α->List (LV S)):Prop:= ∀(A:Pl) (O:Γ) (w:World) (x:α) (cs:Γb),T.rep O w cs x->bF A O w (f x) cs
theorem ec {k:IntKind}:dS (S:=S) (Ty.int k) λx=>[.v (.int k x)]:=λA O w x cs h=>by subst h;exact⟨_,[],rfl,⟨rfl,rfl⟩,rfl⟩
theorem Sd:dS (S:=S) Ty.bool λx=>[.v (.bool x)]:=λA O w x cs h=>by subst h;exact⟨_,[],rfl,⟨rfl,rfl⟩,rfl⟩
theorem ae4:dS (S:=S) Ty.str λx=>[.v (.string x)]:=λA O w x cs h=>by subst h;exact⟨_,[],rfl,⟨rfl,rfl⟩,rfl⟩
theorem e6 {t:Nat} (a:(S.ty t).agg=false):dS (S:=S) (S.ty t) λx=>[.aJ t x]:=λA O w x cs h=>by
 have hl:=(S.ty t).len h;rw[(S.ty t).fy a] at hl
 match cs,hl with
 |[c],_=>exact⟨[c],[],rfl,⟨c,rfl,⟨[c],h,by unfold Ty.mk';rw[a];rfl⟩,a⟩,rfl⟩
theorem xH {k:IntKind} {n:Nat}:dS (S:=S) (jw k n) λx=>[.bA k n x]:=λA O w x cs h=>⟨cs,[],(ξA _).symm,h,rfl⟩
theorem eJ {X:Ty α} {Y:Ty β} {f:α->List (LV S)} {g:β->List (LV S)} (b:dS X f) (c:dS Y g):dS (Ty.pair X Y) λx=>f x.1++g x.2:=λA O w x cs ⟨c1,c2,h,h1,a⟩=>by
 subst h;exact S3 (b A O w _ _ h1) (c A O w _ _ a)
theorem gN {X:Ty α} {f:α->List (LV S)} {e:β->α} (a:dS X f):dS (X.ft e) λx=>f (e x):=λA O w x cs h=>a A O w _ _ h
theorem ae3 {X:Ty α} {f:α->List (LV S)} (a:dS X f):dS (Ty.single X) f:=λA O w x cs h=>a A O w _ _ h
def dK (T:Ty α) (f:List (LV S)->Option (α×List (LV S))):Prop:= ∀(A:Pl) (O:Γ) (w:World) (ls:List (LV S)) (x:α) (r:List (LV S)) (cs:Γb),f ls=some (x,r)->bF A O w ls cs-> ∃c1 c2,cs=c1++c2/\T.rep O w c1 x/\bF A O w r c2
def dP (k:IntKind):List (LV S)->Option (Int×List (LV S))
 | .v (.int a x)::r=>bif sameKind k a then some (x,r) else none
 |_=>none
def x4:List (LV S)->Option (Bool×List (LV S))
 | .v (.bool x)::r=>some (x,r)
 |_=>none
def Jl:List (LV S)->Option (ByteArray×List (LV S))
 | .v (.string x)::r=>some (x,r)
 |_=>none
def kW (k:IntKind) (n:Nat) (ls:List (LV S)):Option (Γa×List (LV S)):=
 match ls with
 | .bA a b x::r=>bif sameKind k a&&ζ n b then some (x,r) else none
 |ls=>(match iU (ls.take n) with|some (a,gs)=>bif sameKind k a&&ζ gs.length n then some (gs,ls.drop n) else none|none=>none)
def eK (t:Nat) (nl:Option (S.El t)):List (LV S)->Option (S.El t×List (LV S))
 | .aJ t' x::r=>(match ζL t' t with| .isTrue p=>some (p▸x,r)| .isFalse _=>none)
 | .v (.slice none 0 0)::r=>(match nl with|some x=>some (x,r)|none=>none)
 |_=>none
def rdPair (f:List (LV S)->Option (α×List (LV S))) (g:List (LV S)->Option (β×List (LV S))) (ls:List (LV S)):Option ((α×β)×List (LV S)):=
 match f ls with|some (a,r)=>(match g r with|some (b,c)=>some ((a,b),c)|none=>none)|none=>none
def fT (f:List (LV S)->Option (α×List (LV S))) (m:α->β) (ls:List (LV S)):Option (β×List (LV S)):=match f ls with|some (a,r)=>some (m a,r)|none=>none
def cm:Option (α×List (LV S))->Option α
 |some (x,[])=>some x
 |_=>none
theorem ed {k:IntKind}:dK (S:=S) (Ty.int k) (dP k):=λA O w ls x r cs h c=>by
 unfold dP at h;split at h
 ·rename_i d y e;cases a:sameKind k d<;>rw[a] at h
  ·cases h
  ·simp only[cond_true,ι,ξl] at h;obtain⟨rfl,rfl⟩:=h;obtain⟨ys,zs,rfl,⟨h1,_⟩,b⟩:=c;refine⟨ys,zs,rfl,?_,b⟩;rw[eU a];exact h1
 ·cases h
theorem SY:dK (S:=S) Ty.bool x4:=λA O w ls x r cs h b=>by
 unfold x4 at h;split at h
 ·cases h;obtain⟨ys,zs,rfl,⟨h1,_⟩,a⟩:=b;exact⟨ys,zs,rfl,h1,a⟩
 ·cases h
theorem ahv:dK (S:=S) Ty.str Jl:=λA O w ls x r cs h b=>by
 unfold Jl at h;split at h
 ·cases h;obtain⟨ys,zs,rfl,⟨h1,_⟩,a⟩:=b;exact⟨ys,zs,rfl,h1,a⟩
 ·cases h
theorem S4 {A:Pl} {O:Γ} {w:World}: ∀ {b a:List (LV S)} {cs:Γb},bF A O w (b++a) cs-> ∃c1 c2,cs=c1++c2/\bF A O w b c1/\bF A O w a c2
 |[],a,cs,h=>⟨[],cs,rfl,rfl,h⟩
 |l::b,a,cs,⟨ys,zs,e,h1,c⟩=>by
  obtain⟨c1,c2,q,d,f⟩:=S4 c;subst q;exact⟨ys++c1,c2,by rw[e,ξj],⟨ys,c1,rfl,h1,d⟩,f⟩
theorem Pq {A:Pl} {O:Γ} {w:World} {k:IntKind}: ∀ {ls:List (LV S)} {gs:Γa} {cs:Γb},iU ls=some (k,gs)->bF A O w ls cs->cs=gs.map (ξ2 k)
 |[],gs,cs,h,_=>by simp[iU] at h
 |l::r,gs,cs,h,⟨ys,zs,e,h1,a⟩=>by
  unfold iU at h;split at h
  ·rename_i d x g heq;cases heq;split at h
   ·cases h;rw[e,show zs=[] from a,h1.1];rfl
   ·split at h
    ·rename_i f xs c;cases b:sameKind d f<;>rw[b] at h
     ·cases h
     ·simp only[cond_true,ι,ξl] at h;obtain⟨rfl,rfl⟩:=h;have:=eU b;subst this;rw[e,h1.1,Pq c a];rfl
    ·cases h
  ·cases h
theorem n4 {k:IntKind} {n:Nat}:dK (S:=S) (jw k n) (kW k n):=λA O w ls x r cs h c=>by
 unfold kW at h;split at h
 ·rename_i d j y o;cases a:(sameKind k d&&ζ n j)<;>rw[a] at h
  ·cases h
  ·simp only[cond_true,ι,ξl] at h;obtain⟨rfl,rfl⟩:=h;simp only[η] at a;obtain⟨ys,zs,rfl,h1,g⟩:=c;refine⟨ys,zs,rfl,?_,g⟩;have b:=eU a.1;have f:=δ a.2;subst b;subst f;exact h1
 ·split at h
  ·rename_i d gs i;cases a:(sameKind k d&&ζ gs.length n)<;>rw[a] at h
   ·cases h
   ·simp only[cond_true,ι,ξl] at h;obtain⟨rfl,rfl⟩:=h;simp only[η] at a;rw[<-ξ6 n ls] at c;obtain⟨c1,c2,e,l,m⟩:=S4 c;have b:=eU a.1;subst b;exact⟨c1,c2,e,⟨δ a.2,Pq i l⟩,m⟩
  ·cases h
theorem e8 {t:Nat} {nl:Option (S.El t)} (d: ∀x,nl=some x-> ∀O w,(S.ty t).rep O w [.slice none 0 0] x):dK (S:=S) (S.ty t) (eK t nl):=λA O w ls x r cs h b=>by
 unfold eK at h;split at h
 ·rename_i t' y e;split at h
  ·rename_i p hp;cases h;subst p;obtain⟨ys,zs,rfl,⟨v,rfl,h1,c⟩,a⟩:=b;exact⟨[v],zs,rfl,l3 c h1,a⟩
  ·cases h
 ·split at h
  ·rename_i y;cases h;obtain⟨ys,zs,rfl,⟨h1,_⟩,a⟩:=b;exact⟨ys,zs,rfl,by rw[h1];exact d _ rfl O w,a⟩
  ·cases h
 ·cases h
theorem e5 {T:Ty α} (O:Γ) (w:World):(Ty.slice T).rep O w [.slice none 0 0] []:=⟨none,0,rfl,⟨ξc _,ξt _⟩,λk x hk=>by simp at hk⟩
theorem eL {X:Ty α} {Y:Ty β} {f:List (LV S)->Option (α×List (LV S))} {g:List (LV S)->Option (β×List (LV S))} (j:dK X f) (k:dK Y g):dK (Ty.pair X Y) (rdPair f g):=λA O w ls x r cs h l=>by
 unfold rdPair at h;split at h
 ·rename_i a d h1;split at h
  ·rename_i b o i;cases h;obtain⟨c1,c2,rfl,p1,p2⟩:=j A O w ls a d cs h1 l;obtain⟨c,e,rfl,m,n⟩:=k A O w d b r c2 i p2;exact⟨c1++c,e,(ξj _ _ _).symm,⟨c1,c,rfl,p1,m⟩,n⟩
  ·cases h
 ·cases h
theorem gP {X:Ty α} {f:List (LV S)->Option (α×List (LV S))} {e:β->α} {m:α->β} (b:dK X f) (hm: ∀a,e (m a)=a):dK (X.ft e) (fT f m):=λA O w ls x r cs h c=>by
 unfold fT at h;split at h
 ·rename_i a d h1;cases h;obtain⟨c1,c2,rfl,p1,p2⟩:=b A O w ls a r cs h1 c;exact⟨c1,c2,rfl,by show X.rep O w c1 (e (m a));rw[hm];exact p1,p2⟩
 ·cases h
theorem ahu {X:Ty α} {f:List (LV S)->Option (α×List (LV S))} (a:dK X f):dK (Ty.single X) f:=a
theorem cv {X:Ty α} {f:List (LV S)->Option (α×List (LV S))} (a:dK X f) {A:Pl} {O:Γ} {w:World} {ls:List (LV S)} {x:α} {cs:Γb} (h:cm (f ls)=some x) (b:bF A O w ls cs):X.rep O w cs x:=by
 unfold cm at h;split at h
 ·rename_i y c;cases h;obtain⟨c1,c2,rfl,p1,p2⟩:=a A O w ls x [] cs c b;rw[show c2=[] from p2,ξA];exact p1
 ·cases h
end
theorem Nk: ∀(xs ys:Γa),xs.length=ys.length->((ξs xs.length).all λi=>xs.getD i 0==ys.getD i 0)=(xs==ys)
 |[],[],_=>rfl
 |x::xs,y::ys,h=>by
  have a:=Nk xs ys (by simpa using h);rw[ζ2,List.range_succ_eq_map,ξC,List.all_map];simp only[List.getD_cons_zero,Function.comp_def,List.getD_cons_succ,a];simp[List.cons_beq_cons]
 |[],_::_,h=>by simp at h
 |_::_,[],h=>by simp at h
section
variable {P:Program} (w:World)
theorem TB (d:Nat) (t e:TypeId) (n:Nat) (k b:IntKind) (g:P.underlying t=some (.array n e)) (he:P.underlying e=some (.int b)) (f: ∀w,(sizeOf e).run P w= .ok 1 w)
  (xs ys:Γa) (a:xs.length=n) (h:ys.length=n):
  (ζF (d+2) t (.agg (xs.map (ξ2 k)).toArray) (.agg (ys.map (ξ2 k)).toArray)).run P w= .ok (xs==ys) w:=by
 rw[<-Nk xs ys (a.trans h.symm),a,List.range_eq_range',ζF];simp only[ξ,run_underlying g,π,f,ζf,ζO,ζN,Nat.add_sub_cancel,Nat.div_one];have hl: ∀i∈ζQ 0 n 1,i<n:=λi hi=>by simpa using(List.mem_range'_1.1 hi).2
 generalize ζQ 0 n 1=l at hl ⊢
 induction l with
 |nil=>simp
 |cons i l m=>
  have hi:i<n:=hl i (by simp);have p:(part e (xs.map (ξ2 k)).toArray (i*1)).run P w= .ok (.int k (xs.getD i 0)) w:=by
   simp[part,isAgg,run_underlying he,List.getD,σ (show i<xs.length by omega)]
  have q:(part e (ys.map (ξ2 k)).toArray (i*1)).run P w= .ok (.int k (ys.getD i 0)) w:=by
   simp[part,isAgg,run_underlying he,List.getD,σ (show i<ys.length by omega)]
  have o:(ζF (d+1) e (.int k (xs.getD i 0)) (.int k (ys.getD i 0))).run P w= .ok (xs.getD i 0==ys.getD i 0) w:=run_equalIn_int w d e k b _ _ he;simp only[List.forIn_cons,ξ,p,q,o,π,ξC];cases r:(xs.getD i 0==ys.getD i 0)
  ·simp
  ·simp only[ξY,ζn,if_false,ξh,π,ξW];exact m λj c=>hl j (by simp[c])
theorem ah0 (t e:TypeId) (n:Nat) (k a:IntKind) (d:P.underlying t=some (.array n e)) (he:P.underlying e=some (.int a)) (c: ∀w,(sizeOf e).run P w= .ok 1 w) (b:P.eqGuardType P.depth t=false)
  (xs ys:Γa) (f:xs.length=n) (g:ys.length=n) (ox oy:Operand):
  (do eqGuard .eql t ox oy (.agg (xs.map (ξ2 k)).toArray) (.agg (ys.map (ξ2 k)).toArray);binOp .eql t (.agg (xs.map (ξ2 k)).toArray) (.agg (ys.map (ξ2 k)).toArray):Sem Value).run P w= .ok (.bool (xs==ys)) w/\
  (do eqGuard .neq t ox oy (.agg (xs.map (ξ2 k)).toArray) (.agg (ys.map (ξ2 k)).toArray);binOp .neq t (.agg (xs.map (ξ2 k)).toArray) (.agg (ys.map (ξ2 k)).toArray):Sem Value).run P w= .ok (.bool (!(xs==ys))) w:=by
 constructor
 ·simp only[ξ];rw[run_eqGuard_agg w .eql t ox oy _ _ b];simp only[π];rw[run_eql_struct,show(10000:Nat)=9998+2 from rfl,TB w 9998 t e n k a d he c xs ys f g];rfl
 ·simp only[ξ];rw[run_eqGuard_agg w .neq t ox oy _ _ b];simp only[π];rw[run_neq_struct,show(10000:Nat)=9998+2 from rfl,TB w 9998 t e n k a d he c xs ys f g];rfl
end
section
variable {S:bm} {K:Kit S} {P:Program} {A:Pl} {O:Γ} {w w1 w2:World} {g:Nat->Option (Ob S)}
theorem cf.two {i j:Nat} {X Y:Ob S} (F:bW A O w g) (m:i≠j) (h1:cf A O w g [(i,some X)] A O w1) (f:cf A O w1 (b9 g [(i,some X)]) [(j,some Y)] A O w2) (hO:OB O w):cf A O w g [(i,some X),(j,some Y)] A O w2:=by
 have N:=F.cg hO h1;have I:b9 g [(i,some X)] i=some X:=by simp[b9]
 have n: ∀ {k:Nat} {Z:Option (Ob S)},(k,Z)∈[(i,some X),(j,some Y)]->(k=i/\Z=some X)\/(k=j/\Z=some Y):=by
  intro k Z h;simp only[τ,ξl,List.not_mem_nil,or_false] at h;exact h
 have one: ∀ {k l:Nat} {Z W:Option (Ob S)},(k,Z)∈[(l,W)]->k=l/\Z=W:=by
  intro k l Z W h;simpa using h
 obtain⟨p,hp,ag,L⟩:=h1.al i X (by simp);obtain⟨q,x,aj,M⟩:=f.al j Y (by simp);obtain⟨Z,E⟩:=f.lv j (some Y) q (by simp) x;have G: ∀b,cD w1 X p b->w2.heap[b]? =w1.heap[b]? /\b∈O:=λb d=>f.keep b (L b d).1 λk V r hk a B=>by
  obtain⟨rfl,rfl⟩:=one hk;exact N.f' i k X Z p r b m I E hp a d (.inl B)
 have ae:dd A O w2 X p:=ag.keep f.tr (Pl.le.refl A) G;have K: ∀b,cD w2 X p b->cD w1 X p b:=λb=>ky λc z=>(G c (.inl z)).1;have ah: ∃Z,g j=some Z:=by
  have:b9 g [(i,some X)] j=g j:=ee λV o=>m (one o).1.symm;rw[this] at E;exact⟨Z,E⟩
 obtain⟨U,ak⟩:=ah;refine⟨Pl.le.refl A,h1.tr.trans f.tr,f.ob,λb d hn=>?_,λk V hk=>?_,λk l V W r s b P hk hl a C B=>?_,λk V W hk hl=>?_,λk V r hk a=>?_,λ_=>.inl rfl,λk V H hk J hn=>?_⟩
 ·obtain⟨u,a2⟩:=h1.keep b d λk V r hk a=>hn k V r (by obtain⟨rfl,rfl⟩:=one hk;simp) a;obtain⟨aa,ab⟩:=f.keep b a2 λk V r hk a=>hn k V r (by obtain⟨rfl,rfl⟩:=one hk;simp) a;exact⟨aa.trans u,ab⟩
 ·rcases n hk with⟨rfl,e⟩|⟨rfl,e⟩
  ·cases e;refine⟨p,hp,ae,λb d=>⟨(G b (K b d)).2,(L b (K b d)).2.imp id ?_⟩⟩;rintro ⟨y,T,D,t,u,a2,a3,a4⟩;obtain⟨rfl,rfl⟩:=one u;exact⟨y,some X,D,t,by simp,a2,a3,a4⟩
  ·cases e;refine⟨q,x,aj,λb d=>⟨(M b d).1,(M b d).2.elim (λh=>.inl (ζe h1.tr.size h)) ?_⟩⟩;rintro ⟨y,T,D,t,u,a2,a3,a4⟩;obtain⟨rfl,rfl⟩:=one u;rw[ee (λV o=>m (one o).1.symm)] at a2;refine .inr ⟨y,some Y,D,t,by simp,a2,a3,?_⟩;obtain⟨aq,Q,hR,hm⟩:=F.al y t a2;rw[a3] at Q;cases Q;refine ky (λc z=>?_) a4;refine(h1.keep c (hm c z) λk V r hk a ao=>?_).1;obtain⟨rfl,rfl⟩:=one hk;obtain⟨R,ad⟩:=h1.lv k (some X) r (by simp) a;exact F.dj k y R t r D c m ad a2 a a3 ao z
 ·have an:=N.cg h1.ob f;have ai:b9 (b9 g [(i,some X)]) [(j,some Y)] j=some Y:=by simp[b9]
  have af:b9 (b9 g [(i,some X)]) [(j,some Y)] i=some X:=by
   rw[ee (λV o=>m (one o).1)];exact I
  have key: ∀b,cD w2 X p b-> ¬cD w2 Y q b:=λb=>an.f' i j X Y p q b m af ai hp x;rcases n hk with⟨rfl,e⟩|⟨rfl,e⟩
  ·rcases n hl with⟨rfl,v⟩|⟨rfl,v⟩
   ·exact absurd rfl P
   ·cases e;cases v;rw[hp] at a;cases a;rw[x] at C;cases C;exact key b B
  ·rcases n hl with⟨rfl,v⟩|⟨rfl,v⟩
   ·cases e;cases v;rw[x] at a;cases a;rw[hp] at C;cases C;exact λh=>key b h B
   ·exact absurd rfl P
 ·rcases n hk with⟨rfl,rfl⟩|⟨rfl,rfl⟩
  ·rcases n hl with⟨e,rfl⟩|⟨e,rfl⟩
   ·rfl
   ·exact absurd e m
  ·rcases n hl with⟨e,rfl⟩|⟨e,rfl⟩
   ·exact absurd e.symm m
   ·rfl
 ·rcases n hk with⟨rfl,rfl⟩|⟨rfl,rfl⟩
  ·exact h1.lv k (some X) r (by simp) a
  ·exact⟨U,ak⟩
 ·rcases n hk with⟨rfl,e⟩|⟨rfl,e⟩
  ·cases e;exact h1.nt k X H (by simp) J hn
  ·cases e;refine f.nt k Y H (by simp) ?_ hn;rw[ee (λV o=>m (one o).1.symm)];exact J
theorem uV {i b t:Nat} {Z:Ob S} {cs:List (LV S)} {vs:Γb} (f:bW A O w g) (hO:OB O w) (hi:g i=some Z) (hp:A.pl i=some (.pointer (some ⟨b,0,none⟩))) (d:Fr [b] w w1) (c:bM w1 b t vs) (h:bF A O w1 cs vs):cf A O w g [(i,some (.box t cs))] A O w1:=by
 obtain⟨p,a,_,e⟩:=f.al i Z hi;rw[hp] at a;cases a;exact mW hO (e b rfl) hi hp rfl d ⟨b,vs,rfl,c,h⟩
theorem qX {i t:Nat} {cs:List (LV S)} (d:bW A O w g) (hi:g i=some (.box t cs)): ∃b vs,A.pl i=some (.pointer (some ⟨b,0,none⟩))/\bM w b t vs/\bF A O w cs vs/\b∈O:=by
 obtain⟨p,hp,⟨b,vs,rfl,h1,a⟩,c⟩:=d.al i _ hi;exact⟨b,vs,hp,h1,a,c b rfl⟩
theorem S7: ∀ {ls:List (LV S)} {vs:Γb},bF A O w ls vs-> ∀u∈vs,u.oneCell'=true
 |[],vs,h,u,hu=>by rw[show vs=[] from h] at hu;cases hu
 |l::ls,vs,⟨ys,zs,e,h1,a⟩,u,hu=>by
  subst e;rcases ψ.1 hu with h|h
  ·exact h1.one u h
  ·exact S7 a u h
theorem S9: ∀ {vs:Γb},(∀u∈vs,u.oneCell'=true)->bF (S:=S) A O w (vs.map .v) vs
 |[],_=>rfl
 |v::vs,h=>⟨[v],vs,rfl,⟨rfl,h v (by simp)⟩,S9 λu hu=>h u (by simp[hu])⟩
end
end Go.Vx
end
