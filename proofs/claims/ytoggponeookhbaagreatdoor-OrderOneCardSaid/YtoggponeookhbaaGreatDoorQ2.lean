/- A part of the proof that OrderOne returns true for every input: the machine of values, its soundness, the program as plain functions, the law. Conditions: those of the given rows. -/
import Derived.Test.YtoggponeookhbaaGreatDoorQ1
import Derived.Recover
import Derived.LoopNIn
import Derived.Stop.BytesEq
import Derived.KernelRfl
set_option linter.unusedVariables false
set_option linter.unusedSimpArgs false
noncomputable section
set_option maxRecDepth 1000000
set_option maxHeartbeats 12000000
open Array renaming getD_eq_getD_getElem?→θ,getElem?_eq_getElem→κ,getElem?_setIfInBounds_ne→ξ0,replicate→ξ8,getElem?_eq_some_iff→ξa,getElem?_toList→ξi,all_eq_true_iff_forall_mem→ξC,eq_empty_of_size_eq_zero→ξG,foldl_toList→ξQ,toList_map→ζv
open Bool renaming and_eq_true→η,or_true→ξv,not_eq_true'→ξE,or_eq_true→ξN,true_and→ξW,not_true→ξY,false_or→ξZ,true_or→ζb,false_eq_true→ζm,and_true→ζn,not_eq_true→ζx
open Go renaming Call→ζ8
open Go.Act renaming put→ζz
open Go.Builtin renaming copy_→ζi,firstCells→ζj,lenOf→ζI
open Go.Code renaming region→ζA
open Go.Deferred renaming ofValue→ζ0
open Go.Instr renaming fill→ζE
open Go.Lib renaming byteCells→ζH
open Go.Op renaming equalIn→ζF
open Go.Oper renaming semAt_eq→ζl
open Go.Region renaming wanted→ξ1,ready→ζc
open Go.Result renaming andThen_ok→π
open Go.RowKit.Below renaming heap_alloc→ζ4
open Go.Sem renaming run_bind→ξ,run_pure→ξh
open Go.StepsIn renaming of_steps→ζw,mono→ζM
open Go.Target.collected renaming injEq→ζJ
open Go.Value renaming int→ξ2,oneCell'→ξR,func→ζp,cells→ζP,bool→ζR
open Go.World renaming putObj_heap_other→ξl,putObj_heap_same→ζ6,alloc_heap_new→ζf
open List renaming getElem?_eq_some_iff→ε,mem_cons_of_mem→μ,mem_cons_self→ν,getElem?_eq_getElem→σ,mem_cons→υ,getElem?_append_left→φ,length_append→χ,mem_append→ω,length_take→ξ3,all_eq_true→ξ4,take_append_drop→ξ6,mem_append_right→ξ7,mem_append_left→ξ9,getElem?_append_right→ξb,length_set→ξf,getElem?_eq_none→ξg,append_assoc→ξj,mem_filter→ξk,length_drop→ξm,take_of_length_le→ξp,length_singleton→ξq,range→ξr,length_map→ξw,getElem?_cons_zero→ξy,append_nil→ξz,all_cons→ξB,getElem?_set→ξD,replicate→ξF,take_append_of_le_length→ξJ,mem_of_getElem?→ξL,getElem?_take→ξO,getElem?_eq_none_iff→ξS,drop→ξT,getElem?_take_of_lt→ξU,cons_append→ζ1,length_cons→ζ2,take_length→ζ3,drop_of_length_le→ζ5,length_replicate→ζ7,drop_drop→ζg,toList_toArray→ζh,getElem?_drop→ζk,nodup_append→ζo,mem_map→ζq,drop_append→ζt,any_eq_true→ζy,of_mem_zip→ζB,mapM_cons→ζC,map_cons→ζG,range'→ζQ
open Nat renaming eq_of_beq_eq_true→δ,beq→ζ,blt_eq→ο,blt→τ,lt_or_ge→ψ,le_of_ble_eq_true→ξ5,le_refl→ξc,lt_trichotomy→ξd,zero_add→ξe,zero_le→ξt,beq_refl→ξu,ble→ξH,le_add_right→ξI,mul_le_mul_right→ξK,min_eq_left→ξM,add_zero→ξP,add_sub_cancel_left→ξV,min→ζ9,succ_mul→ζa,le_of_lt→ζd,sub_self→ζr,le_trans→ζs,min_eq_right→ζu,ble_eq→ζD,le_total→ζK,decEq→ζL,sub_zero→ζN
open Option renaming bind_some→ξn,getD_some→ξo,map_some→ξx,bind_eq_some_iff→ξX
open Option.some renaming injEq→ι,inj→ξA
open Prod.mk renaming injEq→ξs
open Std.Legacy.Range renaming forIn_eq_forIn_range'→ζe,size→ζO
section
namespace Go.Vx
open Go.RowKit Go.Dc
section
variable {S:bL} {K:bG S} {P:Program} {rr:Option Nat} {o:Oper} {env:aW S} {g:Nat->Option (Ob S)} {nx:Nat} {R:Type} {z:R} {k:AV S->Up S->AH S->Option R}
def pE (a:Act):List Nat->Env
 |[]=>[]
 |s::r=>(s,a.tmps.getD s undef)::pE a r
theorem VP (a:Act) (l:List Nat):Has a.tmps.size (pE a l) a.defers a:=by
 refine⟨rfl,rfl,?_⟩
 induction l with
 |nil=>intro i v h;simp[pE,Env.get] at h
 |cons s r ih=>
  intro i v h;simp only[pE,Env.get] at h;cases hq:ζ s i with
  |true=>
   rw[hq] at h;have e1:=δ hq;subst e1;simp only[cond_true,ι] at h;exact h
  |false=>rw[hq] at h;exact ih i v h
theorem VO {a:Act} {s:Nat}: ∀ {l:List Nat},s∈l->(pE a l).get s=some (a.tmps.getD s undef)
 |t::r,h=>by
  simp only[pE,Env.get];cases hq:ζ t s with
  |true=>have e1:=δ hq;subst e1;rfl
  |false=>
   rcases υ.1 h with rfl|h
   ·simp at hq
   ·exact VO h
theorem VN {a:Act} {x:Operand} {l:List Nat} (h: ∀s∈slotsOf [x],s∈l):ev (pE a l) x=some (a.eval x):=by
 cases x with
 |tmp t=>exact VO (h t (by simp[slotsOf]))
 |const v=>rfl
 |global g=>rfl
 |func f=>rfl
theorem R6 {x:Operand}: ∀ {l:List Operand},x∈l-> ∀s∈slotsOf [x],s∈slotsOf l
 |y::r,h,s,hs=>by
  rcases υ.1 h with rfl|h
  ·cases x<;>simp[slotsOf] at hs ⊢;exact .inl hs
  ·have:=R6 h s hs;cases y<;>simp[slotsOf,this]
theorem YI: ∀ {ps:List (Nat×Operand)} {n:Nat} {xs:List Operand},Ht n ps=some xs-> ∀ {E:Env} {f:Operand->Value},(∀x∈xs,ev E x=some (f x))->qJ E n ps=some (xs.map f)
 |[],n,xs,h,E,f,hf=>by cases h;rfl
 |(i,x)::r,n,xs,h,E,f,hf=>by
  simp only[Ht] at h;cases hb:ζ i n<;>rw[hb] at h
  ·cases h
  simp only[cond_true] at h;split at h
  rotate_left
  ·cases h
  rename_i ys ej;cases h;simp only[qJ,hb,cond_true,hf x ν,YI ej (λy hy=>hf y (μ _ hy)),ζG]
theorem VI (hK:cI K P) {A:Pl} {O:List Nat} {w:World} {t:Nat}: ∀ {ava:List (aD S)} {ys:List (S.El t)} {vs:List Value},Fb K t ava=some ys->dO A O w ava vs->cz (S.ty t) O w (mz vs) ys/\vs.length=ys.length/\ ∀v∈vs,v.cells.size=(S.ty t).n
 |[],ys,vs,h,hr=>by cases h;rw[show vs=[] from hr];exact⟨rfl,rfl,λv h=>by cases h⟩
 |a::r,ys,vs,h,⟨v,Sp,hv,U,h2⟩=>by
  subst hv;simp only[Fb] at h;split at h
  rotate_left
  ·cases h
  rename_i y hy;split at h
  rotate_left
  ·cases h
  rename_i I7 ej;cases h;have fK:=hK.cls A O w t _ y _ hy U.cells;obtain⟨k1,k2,k3⟩:=VI hK ej h2;refine⟨⟨v.cells.toList,mz Sp,by simp[mz],fK,k1⟩,by simp[k2],λu hu=>?_⟩;rcases υ.1 hu with rfl|hu
  ·have:=(S.ty t).len fK;simpa using this
  ·exact k3 u hu
theorem amf (hK:cI K P) {t n:Nat} {ps:Array (Nat×Operand)} (ah:o.op= .buildSlice t n ps) (h:Qx K env g nx k t n ps.toList=some z):Good K P rr o env g nx k z:=by
 have hc: ∀c,o.op≠ .defer c:=λc=>by rw[ah];simp
 unfold Qx at h;split at h
 rotate_left
 ·cases h
 rename_i i hi;split at h
 rotate_left
 ·cases h
 rename_i ie xs dY eB;split at h
 rotate_left
 ·cases h
 rename_i ava has;split at h
 rotate_left
 ·cases h
 rename_i lz rs mm;split at h
 rotate_left
 ·cases h
 rename_i ys ej;cases hb:(ζ i.tag 5&&(ζ ys.length n&&(ζ (S.ty i.e).n ie.size&&(ζ ie.zero.cells.size ie.size&&(ξH (n*ie.size) 16777216&&ξH n 16777216)))))<;>rw[hb] at h
 ·cases h
 simp only[cond_true,η] at h hb;obtain⟨h5,hlen,bz,hz,ei,k_⟩:=hb;have bz:=δ bz;refine kV hc h λA O w a he hg hO hG hf=>?_;have bZ:A.pl nx=none:=hf 0 (by simp);obtain⟨q1,q2,q3⟩:=tI hK hg (all:=rs) mm (tf he hG has) (λr hr=>hr);obtain⟨r1,r2,r3⟩:=VI hK ej q1;have hk:=V1 (A:=A) hO q3;have hn:n=ys.length:=(δ hlen).symm;have tZ:n<=maxLen:=by have:=ξ5 k_;unfold maxLen;omega
 have fj:=qF hk.ob i.e (mz (xs.map a.eval));have hL:Dc.Lit (S.ty i.e) i.e (e9 A rs O) w w.heap.size n ys (w.alloc (.cells (mz (xs.map a.eval)).toArray i.e)):=⟨⟨mz (xs.map a.eval),fj,r1.tr fj.tr,by rw[r1.len,hn]⟩,hn.symm,tZ⟩;have gu:=hL.own (B:=0) (ξt _);have O8:nx∉rs:=λhr=>by
  obtain⟨Z,hZ⟩:=q3 nx hr;obtain⟨p,hp,_⟩:=hg.al nx Z hZ;rw[bZ] at hp;cases hp
 refine⟨.slice (some ⟨w.heap.size,0,none⟩) n n,_,_,_,?_,⟨_,Pl.js A nx (.slice (some ⟨w.heap.size,0,none⟩) n n),rfl,rfl⟩,
  hk.Vc (vX (p:= .slice (some ⟨w.heap.size,0,none⟩) n n) hk.ob bZ fj.fr fj.tr fj.ob fj.ge gu (λc hc=>by cases hc;rfl)) (λi X hi=>by obtain⟨rfl,_⟩:=er hi;exact O8)⟩
 simp only[execOp,ah,ξ];have qy:=YI eB (E:=pE a (slotsOf xs)) (f:=a.eval) λx hx=>VN (R6 hx);rw[RI hK.Θ (VP a _) hi (δ h5) dY (δ hz) qy (λv hv=>(r3 v hv).trans bz) (r2.trans hn.symm) (ξ5 ei)];rfl
theorem amv (hK:cI K P) {t:Nat} {x y:Operand} (ah:o.op= .makeSlice t x y) (h:QG K env nx k t x y=some z):Good K P rr o env g nx k z:=by
 have hc: ∀c,o.op≠ .defer c:=λc=>by rw[ah];simp
 unfold QG at h;split at h
 rotate_left
 ·cases h
 rename_i i hi;split at h
 rotate_left
 ·cases h
 rename_i ie dY;split at h
 rotate_left
 ·cases h
 rename_i n c y0 hx hy bN;cases hb:(ζ i.tag 5&&(ζ (S.ty i.e).n ie.size&&(ζ ie.zero.cells.size ie.size&&ie.zero.cells.toList.all ξR)))<;>rw[hb] at h
 ·cases h
 simp only[cond_true,η] at h hb;obtain⟨h5,bz,hz,U⟩:=hb;have hn:=δ bz;have hz:=δ hz;obtain⟨zs,hm,h3⟩:=bind_some h;refine kV hc h3 λA O w a he hg hO hG hf=>?_;have bZ:A.pl nx=none:=hf 0 (by simp);have mv:=hK.Θ.fits dY;obtain⟨x',jK,hs,pX,sk⟩:=mv.info;have hr:(S.ty i.e).rep O w ie.zero.cells.toList y0:=hK.cls A O w i.e _ y0 _ bN (Bq U);unfold nR at hm;split at hm
 rotate_left
 ·cases hm
 rename_i pZ;obtain⟨h0,nE,h2,h3'⟩:=pZ;simp only[ι] at hm;subst hm;obtain⟨kn,qn⟩:=nO he hG hx;obtain⟨kc,mV⟩:=nO he hG hy;have hu:=(hK.Θ.fits hi).slice (δ h5);have aX:=run_make (P:=P) w t i.e x' ie.zero hu jK sk kn kc n c h0 nE (by rw[pX];exact h2) (by omega);rw[hs] at aX;have fj:=qF hO i.e (madeCells ie.zero.cells (c.toNat*ie.size)).toList;have gu:Dc.Own (S.ty i.e) i.e 0 (w.heap.size::O) (w.alloc (.cells (madeCells ie.zero.cells (c.toNat*ie.size)).toList.toArray i.e)) (.slice (some ⟨w.heap.size,0,none⟩) n.toNat c.toNat) (ξF n.toNat y0):=by
  have tS:c.toNat<=maxLen:=by unfold maxLen;omega
  have cP:=(arp hr n.toNat).tr fj.tr;have Hh:=cP.len;simp only[ζ7] at Hh;have hle:n.toNat*ie.size<=c.toNat*ie.size:=ξK _ (by omega);refine⟨⟨_,⟨by rw[Hh];simp,.inr ⟨w.heap.size,c.toNat,madeCells ie.zero.cells (c.toNat*ie.size),by simp,ξt _,?_,by simp;omega,tS,by simp[madeCells,hn],?_⟩⟩,cP⟩,λg hg=>by cases hg;exact ν⟩
  ·have:=fj.cf;unfold ck at this;simpa using this
  ·apply List.ext_getElem?;intro j;simp only[ξO,ζ7,hn]
   by_cases hj:j<n.toNat*ie.size
   ·rw[if_pos hj,Z_ _ _ _ (by omega) hz,al2 (by simpa using hz) _ _ hj]
   ·rw[if_neg hj]
    symm
    rw[ξS,Hh,hn];omega
 refine⟨.slice (some ⟨w.heap.size,0,none⟩) n.toNat c.toNat,_,_,_,?_,⟨_,Pl.js A nx (.slice (some ⟨w.heap.size,0,none⟩) n.toNat c.toNat),rfl,rfl⟩,
  vX (p:= .slice (some ⟨w.heap.size,0,none⟩) n.toNat c.toNat) hO bZ fj.fr fj.tr fj.ob fj.ge gu (λc hc=>by cases hc;rfl)⟩
 simp only[execOp,ah,ξ,qn,mV,aX];simp
theorem pI (hK:cI K P) {A:Pl} {O:List Nat} {w:World} (hg:cv A O w g) {e:Nat} {l:LV S} {xs:List (S.El e)} {u:Value} (h:gr K g e l=some xs) (hr:l.rel A O w [u]):(S.ty e).slice.is (e9 A (qL l) O) w u xs:=by
 have less:Tr O w (e9 A (qL l) O) w:=Tr.less hQ;unfold gr at h;split at h
 ·rename_i r;split at h
  rotate_left
  ·cases h
  rename_i e' ys hy;split at h
  rotate_left
  ·cases h
  rename_i p _;subst p;cases h;obtain⟨v,U,h2,h3⟩:=hr;have h2:u=v:=by simpa using h2
  subst h2;obtain⟨p,hp,hB,hm⟩:=hg.al r _ hy;rw[U] at hp;cases hp;exact Dc.Own.share hB hQ λb hb cY=>(m9.1 cY).2 r (by simp[qL]) u U (lB hb)
 ·rename_i t y;split at h
  rotate_left
  ·cases h
  rename_i I hI;split at h
  rotate_left
  ·cases h
  rename_i p _;subst p;cases h;obtain⟨v,U,h2,h3⟩:=hr;have U:u=v:=by simpa using U
  subst U;exact((hK.sl t I hI).2.1 O w u y h2).tr less
 ·cases h;have:=gD hr;subst this;exact lX _ _ _
 ·cases h
theorem arC {c:ζ8} {x y:Operand} {ty:Nat} {a:Act} {w w':World} {u v r:Value} (ah:o.op= .call c) (dr:c.callee= .builtin .append) (gL:c.args.toList=[x,y]) (gw:c.argTypes.toList=[ty,ty]) (hx:a.eval x=u) (hy:a.eval y=v)
  (h:(Builtin.append_ #[ty,ty] o.type #[u,v]).run P w= .ok r w'):(execOp a.eval o).run P w= .ok (.value r) w':=by
 refine BB ah dr λcs=>?_;rw[kd gL,kd gw];simp only[builtin,ξ];have e:(#[x,y].map a.eval)= #[u,v]:=by simp[hx,hy]
 rw[show([x,y]:List Operand).toArray.map a.eval= #[u,v] from e,show([ty,ty]:List Nat).toArray= #[ty,ty] from rfl,h];rfl
theorem amb (hK:cI K P) {ty:Nat} {c:ζ8} {x y:Operand} (ah:o.op= .call c) (dr:c.callee= .builtin .append) (gL:c.args.toList=[x,y]) (gw:c.argTypes.toList=[ty,ty]) (h:Qu K env g nx k ty x y=some z):Good K P rr o env g nx k z:=by
 have hc: ∀c,o.op≠ .defer c:=λc=>by rw[ah];simp
 unfold Qu at h;split at h
 rotate_left
 ·cases h
 rename_i i hi;split at h
 rotate_left
 ·cases h
 rename_i ie dY;split at h
 rotate_left
 ·cases h
 rename_i lx ly hx hy;have key: ∀ {l:LV S} {xs ys:List (S.El i.e)} {kl:List Nat},cQ K env x=some l->(∀r∈kl,∃Z,g r=some Z)->(∀(A:Pl) (O:List Nat) (w:World) (u:Value),cv A O w g->l.rel A O w [u]->Dc.Own (S.ty i.e) i.e 0 (e9 A kl O) w u xs/\u.oneCell'=true)->
   (∀(A:Pl) (O:List Nat) (w:World) (u:Value),cv A O w g->ly.rel A O w [u]->(S.ty i.e).slice.is (e9 A kl O) w u ys)->
   ∀ {ef0:Up S},(∀(A:Pl) (O:List Nat) (w:World) (u:Value),cv A O w g->l.rel A O w [u]->(∀i X,(i,X)∈ef0->X=none/\A.pl i=some u/\ ∃Z,g i=some Z)/\((∃i,(i,none)∈ef0)\/u.ownBlock=none))->(∀i X,(i,X)∈ef0->i∉kl)->
   (ζ i.tag 5&&(ζ (S.ty i.e).n ie.size&&(ζ ie.zero.cells.size ie.size&&(τ 0 ie.size&&τ 0 ie.bytes))))=true->
   ∀ {up:Up S},up=jN kl++ef0->((app ie.bytes xs ys).bind λzs=>k (.s (.one (.own nx))) up [some (.row i.e zs)])=some z->Good K P rr o env g nx k z:=by
  intro l xs ys kl hx j7 gu ej ef0 gS GY hb up hup h;simp only[η] at hb;obtain⟨h5,bz,hz,kZ,GQ⟩:=hb;obtain⟨zs,gU,h3⟩:=bind_some h;obtain⟨hlen,rfl⟩:=E4 gU;subst hup;refine kV hc h3 λA O w a he hg hO hG hf=>?_;have bZ:A.pl nx=none:=hf 0 (by simp);have hk:=V1 (A:=A) (w:=w) hO j7;obtain⟨o1,o2⟩:=gu A O w _ hg (cR he hG hx);have o3:=ej A O w _ hg (cR he hG hy);obtain⟨v',w',O',aX,jB⟩:=RH (P:=P) (ty:=o.type) hK.Θ hi (δ h5) dY (δ bz) (ο.mp kZ) (δ hz) (ξt _) hk.ob o1 o3 hlen (ο.mp GQ);obtain⟨e1,e2⟩:=gS A O w _ hg (cR he hG hx);have Pp:v'.oneCell'=true:=by
   rcases mD jB.own with⟨rfl,_⟩|⟨_,_,rfl⟩<;>rfl
  have gX:=hk.Vc (alk (g:=g) hk.ob bZ e1 e2 jB) (λi X hi=>by
   rcases ω.1 hi with hi|hi
   ·exact GY i X hi
   ·obtain⟨rfl,_⟩:=er hi;intro hr;obtain⟨Z,hZ⟩:=j7 _ hr;obtain⟨p,hp,_⟩:=hg.al _ Z hZ;rw[bZ] at hp;cases hp)
  refine⟨v',w',_,O',arC ah dr gL gw rfl rfl aX,⟨v',Pl.js A nx v',rfl,Pp⟩,?_⟩;rw[<-ξj] at gX;exact gX
 have aaQ: ∀ {r:Nat} {xs:List (S.El i.e)} {kl:List Nat},gr K g i.e (.own r)=some xs->r∉kl->(∀q∈kl,∃Z,g q=some Z)-> ∀(A:Pl) (O:List Nat) (w:World) (u:Value),cv A O w g->(LV.own r:LV S).rel A O w [u]->Dc.Own (S.ty i.e) i.e 0 (e9 A kl O) w u xs/\u.oneCell'=true:=by
  intro r xs kl eB hr j7 A O w u hg jH;unfold gr at eB;simp only at eB;split at eB
  rotate_left
  ·cases eB
  rename_i e' ys hy;split at eB
  rotate_left
  ·cases eB
  rename_i p _;subst p;cases eB;obtain⟨v,U,h2,h3⟩:=jH;have h2:u=v:=by simpa using h2
  subst h2;obtain⟨p,hp,hB,hm⟩:=hg.al r _ hy;rw[U] at hp;cases hp;refine⟨Dc.Own.keep hB (Tr.less hQ) λb hb=>⟨rfl,m9.2 ⟨hB.mem b hb,λq hq p hp bM=>?_⟩⟩,h3⟩;obtain⟨Z,hZ⟩:=j7 q hq;exact hg.dj r q _ Z u p b (λe=>hr (e▸hq)) hy hZ U hp (lB hb) bM
 have live: ∀ {r:Nat} {xs:List (S.El i.e)},gr K g i.e (.own r)=some xs-> ∃Z,g r=some Z:=by
  intro r xs h;unfold gr at h;simp only at h;split at h
  ·rename_i e ys hy;exact⟨_,hy⟩
  ·cases h
 have V4: ∀ {r:Nat} {xs:List (S.El i.e)},gr K g i.e (.own r)=some xs-> ∀(A:Pl) (O:List Nat) (w:World) (u:Value),cv A O w g->(LV.own r:LV S).rel A O w [u]->(∀j X,(j,X)∈([(r,none)]:Up S)->X=none/\A.pl j=some u/\ ∃Z,g j=some Z)/\((∃j,(j,none)∈([(r,none)]:Up S))\/u.ownBlock=none):=by
  intro r xs eB A O w u hg ⟨v,U,h2,h3⟩;have h2:u=v:=by simpa using h2
  subst h2;refine⟨λj X hj=>?_,.inl ⟨r,ν⟩⟩;obtain⟨rfl,rfl⟩:=er hj;exact⟨rfl,U,live eB⟩
 split at h
 ·rename_i r;split at h
  ·rename_i r';cases hq:ζ r r'<;>rw[hq] at h
   ·simp only[cond_false] at h;have aN:r≠r':=λe=>by subst e;simp at hq
    split at h
    rotate_left
    ·cases h
    rename_i xs ys eB ej;cases hb:(ζ i.tag 5&&(ζ (S.ty i.e).n ie.size&&(ζ ie.zero.cells.size ie.size&&(τ 0 ie.size&&τ 0 ie.bytes))))<;>rw[hb] at h
    ·cases h
    refine key (kl:=[r']) hx (λq hq=>by simp at hq;subst hq;exact live ej) (aaQ eB (by simpa using aN) (λq hq=>by simp at hq;subst hq;exact live ej)) (λA O w u hg hr=>?_) (V4 eB) (λj X hj=>by obtain⟨rfl,_⟩:=er hj;simpa using aN) hb rfl h;exact pI hK hg ej hr
   ·cases h
  ·rename_i j8;split at h
   rotate_left
   ·cases h
   rename_i xs ys eB ej;cases hb:(ζ i.tag 5&&(ζ (S.ty i.e).n ie.size&&(ζ ie.zero.cells.size ie.size&&(τ 0 ie.size&&τ 0 ie.bytes))))<;>rw[hb] at h
   ·cases h
   have nK:qL ly=[]:=by cases ly<;>first|rfl|exact absurd rfl (j8 _)
   refine key (kl:=[]) hx (λq hq=>by cases hq) (aaQ eB (by simp) (λq hq=>by cases hq)) (λA O w u hg hr=>?_) (V4 eB) (λj X hj=>by simp) hb rfl h;have:=pI hK hg ej hr;rw[nK] at this;exact this
 ·split at h
  rotate_left
  ·cases h
  rename_i ys ej;cases hb:(ζ i.tag 5&&(ζ (S.ty i.e).n ie.size&&(ζ ie.zero.cells.size ie.size&&(τ 0 ie.size&&τ 0 ie.bytes))))<;>rw[hb] at h
  ·cases h
  have hl: ∀q∈qL ly,∃Z,g q=some Z:=by
   intro q hq;cases ly<;>simp[qL] at hq;subst hq;exact live ej
  refine key (kl:=qL ly) (xs:=[]) (ef0:=[]) hx hl (λA O w u hg hr=>?_) (λA O w u hg hr=>pI hK hg ej hr) (λA O w u hg hr=>⟨(λi X h=>nomatch h),.inr ?_⟩) (λj X hj=>nomatch hj) hb (by simp) h
  ·rw[gD hr];exact⟨Dc.Own.oT,rfl⟩
  ·rw[gD hr];rfl
 ·cases h
end
section
variable {S:bL} {K:bG S} {P:Program} {rr:Option Nat} {o:Oper} {env:aW S} {g:Nat->Option (Ob S)} {nx:Nat} {R:Type} {z:R} {k:AV S->Up S->AH S->Option R}
theorem PL (hK:cI K P) {O:List Nat} {w:World} {e:Nat} {kk:IntKind}: ∀ {ys:List (S.El e)} {zs:List Int} {cs:List Value},oO K e kk ys=some zs->cz (S.ty e) O w cs ys->cs=zs.map (ξ2 kk)
 |[],zs,cs,h,hr=>by cases h;exact hr
 |y::ys,zs,cs,h,⟨c,r,e1,U,h2⟩=>by
  simp only[oO] at h;split at h
  ·rename_i k x hx;cases hb:sameKind kk k<;>rw[hb] at h
   ·cases h
   simp only[cond_true] at h;split at h
   ·rename_i zs' hz;cases h;have q:=hK.bA ⟨λ_=>none,none⟩ O w e y c U;rw[hx] at q;obtain⟨y1,z1,q1,q2,q3⟩:=q;rw[e1,q1,q2.1,show z1=[] from q3,PL hK hz h2,<-iI hb];rfl
   ·cases h
  ·cases h
theorem apZ {vs us:List Value} {off n:Nat} (U:us.length<=n) (h2:off+n<=vs.length):putAt vs off (us++((vs.drop off).take n).drop us.length)=putAt vs off us:=by
 unfold putAt;rw[ξj,ξj,ξj]
 congr 2
 have hl:(us++ξT us.length (List.take n (ξT off vs))).length=n:=by
  rw[χ,ξm,ξ3,ξm];omega
 rw[hl];have e:ξT (off+us.length) vs=ξT us.length (ξT off vs):=by rw[ζg]
 rw[e,<-ζg]
 conv=>rhs;rw[<-ξ6 n (ξT off vs)]
 rw[ζt,ξ3,ξm];have:us.length-min n (vs.length-off)=0:=by omega
 rw[this,List.drop_zero]
theorem amh (hK:cI K P) {ty jb:Nat} {c:ζ8} {x y:Operand} (ah:o.op= .call c) (dr:c.callee= .builtin .copy) (gL:c.args.toList=[x,y]) (gw:c.argTypes.toList=[ty,jb]) {i ie:TI} (hi:K.Θ.get ty=some i) (dY:K.Θ.get i.e=some ie) {b off n:Nat} {ly:LV S} (hx:cQ K env x=some (.jZ b off n)) (hy:cQ K env y=some ly)
  (h:Qz K g k i ie b off n ly=some z):Good K P rr o env g nx k z:=by
 have hc: ∀c,o.op≠ .defer c:=λc=>by rw[ah];simp
 unfold Qz at h;split at h
 rotate_left
 ·cases h
 rename_i tb cs hb;split at h
 rotate_left
 ·cases h
 rename_i ls fm;split at h
 rotate_left
 ·cases h
 rename_i kk gs ml;split at h
 rotate_left
 ·cases h
 rename_i zs gU;split at h
 rotate_left
 ·cases h
 rename_i cD tT;cases hq:(ζ i.tag 5&&(ζ (S.ty i.e).n ie.size&&(ζ ie.size 1&&ζ gs.length n)))<;>rw[hq] at h
 ·cases h
 simp only[cond_true,η] at h hq;have h5:=δ hq.1;have hn:=δ hq.2.1;have U:=δ hq.2.2.1;have qd:=δ hq.2.2.2;refine kV hc h λA O w a he hg hO hG hf=>?_;obtain⟨cf,q1,q2⟩:=cR he hG hx;have q2:a.eval x= .slice (some ⟨cf,off,none⟩) n n:=by simpa using q2
 obtain⟨p,hp,⟨ahm,vs,p1,p2,p3⟩,hm⟩:=hg.al b _ hb;rw[q1] at hp;cases hp;cases p1;obtain⟨r1,r2⟩:=ma fm p3;have hold:=yI ml r1;have jI:=(hK.Θ.fits hi).slice h5;have ct:=hK.Θ.fits dY;obtain⟨us,fp⟩: ∃us,us=(zs.take n).map (ξ2 kk):=⟨_,rfl⟩;have j_:us.length=ζ9 zs.length n:=by rw[fp,ξw,ξ3];exact Nat.min_comm _ _
 have anQ:us.length<=n:=by rw[j_];exact Nat.min_le_right _ _
 have anT: ∀u∈us,u.oneCell'=true:=λu hu=>by
  rw[fp] at hu;obtain⟨x,_,rfl⟩:=ζq.1 hu;rfl
 have gv:=run_storeCells_at (P:=P) cf off tb us 0 vs.toArray w p2 (by simp;omega) anT;have anN:(vs.toArray.toList.take (off+0)++us++vs.toArray.toList.drop (off+0+us.length)).toArray=(putAt vs off us).toArray:=by simp[putAt]
 rw[anN] at gv;have aX:(ζi #[ty,jb] o.type #[.slice (some ⟨cf,off,none⟩) n n,a.eval y]).run P w= .ok (goInt (ζ9 zs.length n)) (w.setRow cf (putAt vs off us).toArray):=by
  have YD:=cR he hG hy;unfold IJ at gU;split at gU
  ·rename_i s;cases hk:(sameKind kk .u8&&ξH s.size n)<;>rw[hk] at gU
   ·cases gU
   simp only[cond_true,ι] at gU;simp only[η] at hk;have lK:=iI hk.1;have eY:=ξ5 hk.2;have nN:a.eval y= .string s:=gD (S:=S) (A:=A) (O:=O) (w:=w) YD;have iV:zs.length=s.size:=by rw[<-gU];simp
   obtain⟨xi,hxi,bz,_,_⟩:=ct.info;have aX:=Lib.run_copy_row_string (P:=P) w ty jb o.type i.e cf off n n s vs.toArray tb jI (by rw[hxi,ξx,bz,U]) p2 eY (by simp;omega);have anS:us=ζH s.data.toList:=by
    rw[fp,<-gU,ξp (by simp;exact eY),lK];simp[ζH]
   rw[nN,aX,iV,show ζ9 s.size n=s.size from ξM eY]
   congr 2
   have mu:us.length=s.size:=by rw[j_,iV];exact ξM eY
   simp[putAt,<-anS,mu]
  ·split at gU
   rotate_left
   ·cases gU
   rename_i ys ej;have hu:=pI hK hg ej YD;obtain⟨A',c',hv,hyc,_⟩:=iJ hu;rw[hv];rcases A' with _|ad
   ·have nK:ys=[]:=II (by rw[hv] at hu;exact hu);subst nK;cases gU;have Hl:us=[]:=by rw[fp];simp
    rw[Hl] at gv ⊢;have:putAt vs off []=vs:=by simp[putAt]
    rw[this];have anK:w.setRow cf vs.toArray=w:=setRow_self w cf vs.toArray tb (0,0) p2;rw[anK];simp[ζi,run_underlying jI,ζI,ζj,gf ct,storeCells]
   ·rw[hv] at hu;obtain⟨_,ds,jk,mT⟩:=BE hu;have aY:=PL hK gU jk;have iV:zs.length=ys.length:=by
     have nE:=jk.len;rw[hn,U,Nat.mul_one,aY,ξw] at nE;exact nE
    obtain⟨m,hm⟩: ∃m,m=ζ9 ys.length n:=⟨_,rfl⟩;have anU:us=ds.take m:=by
     rw[fp,aY,<-List.map_take]
     congr 1
     rw[hm,<-iV];rcases ζK zs.length n with h|h
     ·rw[show ζ9 zs.length n=zs.length from ξM h,ξp h,ξp (ξc _)]
     ·rw[show ζ9 zs.length n=n from ζu h]
    have pY: ∀j v,us[j]? =some v->w.cell? (ad.add j)=some v:=λj v hj=>by
     rw[anU,ξO] at hj;split at hj
     ·exact mT j v hj
     ·cases hj
    have nJ:=run_loadCells_list (P:=P) w ad _ pY;have hum:us.length=m:=by rw[j_,hm,iV]
    rw[hum] at nJ;simp only[ζi,ξ,List.getElem?_toArray,ξy,List.getElem?_cons_succ,run_underlying jI,π,ζI,ξh,<-hm,gf ct,ζj];rw[U,Nat.mul_one,nJ];simp only[π,gv,ξ,ξh];rw[iV,<-hm]
 have am3:ck (w.setRow cf (putAt vs off us).toArray) cf tb (putAt vs off us):=by
  unfold ck;rw[setRow_heap w cf _ _ _ _ p2]
 have hF:Fr [cf] w (w.setRow cf (putAt vs off us).toArray):=qS p2;have jH:bV A O (w.setRow cf (putAt vs off us).toArray) cD (putAt vs off us):=by
  have hcp:((ez gs zs).length=n):=by
   simp only[ez,χ,ξ3,ξm];omega
  have nE:=(oY tT p3 ⟨(ez gs zs).map (ξ2 kk),[],(ξz _).symm,⟨hcp,rfl⟩,rfl⟩).1;have e:(ez gs zs).map (ξ2 kk)=us++((vs.drop off).take n).drop us.length:=by
   rw[hold];show _=us++ξT us.length (gs.map (ξ2 kk));rw[j_,ez,List.map_append,qd,fp,<-List.map_drop]
   congr 2
   rcases ζK zs.length n with h|h
   ·rw[show ζ9 zs.length n=zs.length from ξM h]
   ·rw[show ζ9 zs.length n=n from ζu h,ζ5 (by omega),ζ5 (by omega)]
  rw[e,apZ anQ r2] at nE;exact qN (hF.tr (lS (hm cf rfl))) (Pl.le.refl A) nE
 refine⟨_,_,A,O,?_,⟨rfl,rfl⟩,by simpa[news] using vY (X:= .box tb cD) hO (hm cf rfl) hb q1 rfl hF ⟨cf,putAt vs off us,rfl,am3,jH⟩⟩;refine BB ah dr λku=>?_;rw[kd gL,kd gw];simp only[builtin,ξ];have e:(([x,y]:List Operand).toArray.map a.eval)= #[.slice (some ⟨cf,off,none⟩) n n,a.eval y]:=by simp[q2]
 rw[e,show([ty,jb]:List Nat).toArray= #[ty,jb] from rfl,aX];rfl
theorem ami (hK:cI K P) {ty jb:Nat} {c:ζ8} {x y:Operand} (ah:o.op= .call c) (dr:c.callee= .builtin .copy) (gL:c.args.toList=[x,y]) (gw:c.argTypes.toList=[ty,jb]) {i ie:TI} (hi:K.Θ.get ty=some i) (dY:K.Θ.get i.e=some ie) {r r':Nat} (hx:cQ K env x=some (.own r)) (hy:cQ K env y=some (.own r'))
  {xs ys:List (S.El i.e)} (hr:g r=some (.row i.e xs)) (ej:gr K g i.e (.own r')=some ys) (hb:ζ i.tag 5=true/\ζ (S.ty i.e).n ie.size=true) (h:k (.s (.one (.v (goInt (ζ9 ys.length xs.length))))) [(r,some (.row i.e (ez xs ys)))] []=some z):Good K P rr o env g nx k z:=by
 have hc: ∀c,o.op≠ .defer c:=λc=>by rw[ah];simp
 refine kV hc h λA O w a he hg hO hG hf=>?_;obtain⟨v,U,h2,h3⟩:=cR he hG hx;have h2:a.eval x=v:=by simpa using h2
 obtain⟨p,hp,hB,hm⟩:=hg.al r _ hr;rw[U] at hp;cases hp;have anM:Dc.Src (S.ty i.e) O w (a.eval y) ys:=by
  obtain⟨u,u1,u2,u3⟩:=cR he hG hy;have u2:a.eval y=u:=by simpa using u2
  rw[u2];simp only[gr] at ej;split at ej
  rotate_left
  ·cases ej
  rename_i e' I7 cP;split at ej
  rotate_left
  ·cases ej
  rename_i q _;subst q;cases ej;obtain⟨p',cH,mQ,_⟩:=hg.al r' _ cP;rw[u1] at cH;cases cH;have mQ:Dc.Own (S.ty i.e) i.e 0 O w u I7:=mQ;rcases mD mQ with⟨e1,e2⟩|⟨b,cc,e1⟩
  ·subst e1;subst e2;exact .inl ⟨0,rfl,rfl⟩
  ·subst e1;obtain⟨cs,cur,q1,q2,q3,_,_,_,_,_⟩:=Bi mQ;refine .inr ⟨⟨b,0,none⟩,cc,cs,rfl,q3,λj v hj=>?_⟩;have qi:cur.toList[j]? =some v:=by
    rw[<-q2,ξO] at hj;split at hj
    ·exact hj
    ·cases hj
   have ead:(⟨b,0,none⟩:Addr).add j=⟨b,j,none⟩:=by unfold Addr.add;split<;>simp_all
   rw[ead];have wG:ck w b i.e cur.toList:=by unfold ck;simpa using q1
   rw[wG.cell];exact qi
 obtain⟨w',aX,jB⟩:=abS (P:=P) (t':=jb) (ty:=o.type) hK.Θ hi (δ hb.1) dY (δ hb.2) hO hB anM;refine⟨_,w',A,O,?_,⟨rfl,rfl⟩,V3 hO hr U jB.tr jB.ob (λq hq aN=>jB.fr q hq λe=>aN (lB e)) jB.own hm⟩;refine BB ah dr λcs=>?_;rw[kd gL,kd gw];simp only[builtin,ξ];have e:(([x,y]:List Operand).toArray.map a.eval)= #[v,a.eval y]:=by simp[h2]
 rw[e,show([ty,jb]:List Nat).toArray= #[ty,jb] from rfl,aX];rfl
theorem amg (hK:cI K P) {ty jb:Nat} {c:ζ8} {x y:Operand} (ah:o.op= .call c) (dr:c.callee= .builtin .copy) (gL:c.args.toList=[x,y]) (gw:c.argTypes.toList=[ty,jb]) (h:Qy K env g k ty x y=some z):Good K P rr o env g nx k z:=by
 have hc: ∀c,o.op≠ .defer c:=λc=>by rw[ah];simp
 unfold Qy at h;split at h
 rotate_left
 ·cases h
 rename_i i hi;split at h
 rotate_left
 ·cases h
 rename_i ie dY;split at h
 ·rename_i b off n ly hx hy;exact amh hK ah dr gL gw hi dY hx hy h
 rotate_left
 ·rename_i r r' hx hy;cases aN:ζ r r'<;>rw[aN] at h
  rotate_left
  ·cases h
  simp only[cond_false] at h;split at h
  rotate_left
  ·cases h
  rename_i e xs ys hr ej;split at h
  rotate_left
  ·cases h
  rename_i p _;subst p;cases hb:(ζ i.tag 5&&ζ (S.ty i.e).n ie.size)<;>rw[hb] at h
  ·cases h
  simp only[cond_true,η] at h hb;exact ami hK ah dr gL gw hi dY hx hy hr ej hb h
 ·cases h
 rename_i r t ys hx hy;split at h
 rotate_left
 ·cases h
 rename_i e xs I7 hr ej;split at h
 rotate_left
 ·cases h
 rename_i p _;subst p;cases hb:(ζ i.tag 5&&ζ (S.ty i.e).n ie.size)<;>rw[hb] at h
 ·cases h
 simp only[cond_true,η] at h hb;refine kV hc h λA O w a he hg hO hG hf=>?_;obtain⟨v,U,h2,h3⟩:=cR he hG hx;have h2:a.eval x=v:=by simpa using h2
 obtain⟨p,hp,hB,hm⟩:=hg.al r _ hr;rw[U] at hp;cases hp;have hu:=pI hK hg ej (cR he hG hy);have hu:(S.ty i.e).slice.is O w (a.eval y) I7:=hu.tr ⟨rfl,rfl,rfl,ξc _,λk hk ho=>⟨λcY=>ho (m9.2 ⟨cY,λr hr=>by cases hr⟩),rfl⟩⟩;obtain⟨w',aX,jB⟩:=arF (P:=P) (t':=jb) (ty:=o.type) hK.Θ hi (δ hb.1) dY (δ hb.2) hO hB hu;refine⟨_,w',A,O,?_,⟨rfl,rfl⟩,V3 hO hr U jB.tr jB.ob (λq hq aN=>jB.fr q hq λe=>aN (lB e)) jB.own hm⟩;refine BB ah dr λcs=>?_;rw[kd gL,kd gw];simp only[builtin,ξ];have e:(([x,y]:List Operand).toArray.map a.eval)= #[v,a.eval y]:=by simp[h2]
 rw[e,show([ty,jb]:List Nat).toArray= #[ty,jb] from rfl,aX];rfl
theorem WU (hK:cI K P) {t:Nat} {x y q:Operand} (ah:o.op= .mapUpdate t x y q\/o.op= .insert t x y q) (h:HW K env g k t x y q=some z):Good K P rr o env g nx k z:=by
 have hc: ∀c,o.op≠ .defer c:=λc=>by rcases ah with ah|ah<;>rw[ah]<;>simp
 unfold HW at h;split at h
 rotate_left
 ·cases h
 rename_i i b ky j kz u hi hx hy hq;split at h
 rotate_left
 ·cases h
 rename_i ik kk kv m Aj hb;cases m4:(ζ i.tag 7&&(ζ ik.tag 2&&(sameKind (Dc.noKind ik.k) kk&&(sameKind ky kk&&sameKind kz kv))))<;>rw[m4] at h
 ·cases h
 simp only[cond_true] at h;simp only[η] at m4;obtain⟨h7,h2,h3,h4,h5⟩:=m4;have e4:=iI h4;have e5:=iI h5;subst e4;subst e5;refine F4 hc h λA O w a he hg hO hG=>?_;obtain⟨m',hA,hv⟩:=cR he hG hx;obtain⟨p,hp,⟨m2,rfl,hM⟩,hm⟩:=hg.al b _ hb;rw[hA] at hp;cases hp;have hv:a.eval x= .map (some m'):=by simpa using hv
 have iU:a.eval y= .int ky j:=gD (S:=S) (A:=A) (O:=O) (w:=w) (fR he hG hy);have m4:a.eval q= .int kz u:=gD (S:=S) (A:=A) (O:=O) (w:=w) (fR he hG hq);obtain⟨w',aX,hM',hF⟩:=arU (P:=P) hK.Θ hi (δ h7) Aj (δ h2) (iI h3) hM j u;refine⟨w',A,O,?_,vY hO (hm m' rfl) hb hA rfl hF ⟨m',rfl,hM'⟩⟩;unfold execOp;rcases ah with ah|ah<;>rw[ah]<;>simp only[ξ,hv,iU,m4,aX]<;>rfl
theorem RL {t:Nat} {x y:Operand} {i:TI} {a:Act} {w:World} {b off tb:Nat} {cs:List Value} (ah:o.op= .store t x y) (h:i.fits P t) (hx:a.eval x= .pointer (some ⟨b,off,none⟩)) (hb:ck w b tb cs) (hv:(a.eval y).cells.size=i.size) (U: ∀u∈(a.eval y).cells.toList,u.oneCell'=true) (hl:off+i.size<=cs.length):
  ∃w',(execOp a.eval o).run P w= .ok .skip w'/\ck w' b tb (putAt cs off (a.eval y).cells.toList)/\Fr [b] w w':=by
 obtain⟨w',h2,h3,h4⟩:=ab2 h hb hv U hl;refine⟨w',?_,h3,h4⟩;unfold execOp;rw[ah];simp only[ξ,hx,h2];rfl
theorem abD {α:Type} {T:Ty α} {O:List Nat} {w:World}: ∀ {xs:List α} {cs:List Value} {j:Nat} {x y:α} {us:List Value} {off:Nat},cz T O w cs xs->xs[j]? =some x->off+us.length<=T.n->
  (∀c,T.rep O w c x->(cs.drop (j*T.n)).take T.n=c->T.rep O w (putAt c off us) y)->cz T O w (putAt cs (j*T.n+off) us) (xs.set j y)
 |[],cs,j,x,y,us,off,h,hj,hl,hp=>by simp at hj
 |q::xs,cs,0,x,y,us,off,⟨c,r,hc,U,h2⟩,hj,hl,hp=>by
  subst hc;simp at hj;subst hj;have hlen:=T.len U;rw[Nat.zero_mul,ξe,Bm (by omega)];exact⟨_,r,rfl,hp c U (by simp[<-hlen]),h2⟩
 |q::xs,cs,j+1,x,y,us,off,⟨c,r,hc,U,h2⟩,hj,hl,hp=>by
  subst hc;have hlen:=T.len U;have ih:=abD (j:=j) h2 (by simpa using hj) hl (λc' mi e=>hp c' mi (by
   rw[<-e,ζa,ζt,List.drop_eq_nil_of_le (by omega),hlen];simp))
  rw[xB hlen (by rw[ζa];omega)];refine⟨c,_,rfl,U,?_⟩;have e:(j+1)*T.n+off-T.n=j*T.n+off:=by rw[ζa];omega
  rw[e];exact ih
theorem Ic {vs us:List Value} {q:Nat} (h:q+us.length<=vs.length):(putAt vs q us).length=vs.length:=by
 unfold putAt;simp;omega
theorem apX {x y c us:List Value} {jj:Nat} (h2:jj+us.length<=y.length):putAt (x++(y++c)) x.length (putAt y jj us)=putAt (x++(y++c)) (x.length+jj) us:=by
 have hl:=Ic h2;rw[xB rfl (ξc _),xB rfl (ξI _ _),ζr,ξV,Bm h2];have:=Ib (ys:=y) (zs:=c) (us:=putAt y jj us) (vs:=[]) hl;rw[ξz] at this;rw[this,Ie]
theorem aa3 {vs us:List Value} {q n jj:Nat} (h:q+n<=vs.length) (h2:jj+us.length<=n):putAt vs q (putAt ((vs.drop q).take n) jj us)=putAt vs (q+jj) us:=by
 have e:vs=vs.take q++((vs.drop q).take n++vs.drop (q+n)):=by
  rw[<-ζg,ξ6,ξ6]
 have l1:(vs.take q).length=q:=by rw[ξ3];omega
 have l2:((vs.drop q).take n).length=n:=by rw[ξ3,ξm];omega
 have:=apX (x:=vs.take q) (y:=(vs.drop q).take n) (c:=vs.drop (q+n)) (us:=us) (jj:=jj) (by omega);rw[<-e,l1] at this;exact this
theorem ap0 {cur us:List Value} {p L:Nat} (h:p+us.length<=L) (hL:L<=cur.length):(putAt cur p us).take L=putAt (cur.take L) p us:=by
 have l1:(cur.take L).length=L:=by rw[ξ3];omega
 conv=>lhs;rw[<-ξ6 L cur]
 rw[Bm (by omega),ξJ (by rw[Ic (by omega)];omega),ξp (by rw[Ic (by omega)];omega)]
theorem WY (hK:cI K P) {t:Nat} {x y:Operand} (ah:o.op= .store t x y) (h:HX K env g k t x y=some z):Good K P rr o env g nx k z:=by
 have hc: ∀c,o.op≠ .defer c:=λc=>by rw[ah];simp
 unfold HX at h;split at h
 rotate_left
 ·cases h
 rename_i i l b hi hx hy;cases bz:ζ (fW b.cells) i.size<;>rw[bz] at h
 ·cases h
 simp only[cond_true] at h;have bz:=δ bz;have val: ∀ {A:Pl} {O:List Nat} {w:World} {a:Act},dV A O w env a->dR K O w->bV A O w b.cells (a.eval y).cells.toList/\(a.eval y).cells.size=i.size/\ ∀u∈(a.eval y).cells.toList,u.oneCell'=true:=by
  intro A O w a he hG;have U:=aD.rel.cells (fR he hG hy);have h2:=lV U;exact⟨U,by rw[<-bz,<-h2];simp,abz U⟩
 have box: ∀ {j q:Nat} {cs cD ns:List (LV S)} {tb:Nat},g j=some (.box tb cs)->cL cs q ns=some cD->k (.bD []) [(j,some (.box tb cD))] []=some z->
   (∀(A:Pl) (O:List Nat) (w:World) (a:Act),dV A O w env a->dR K O w-> ∃m off,A.pl j=some (.pointer (some ⟨m,0,none⟩))/\a.eval x= .pointer (some ⟨m,off,none⟩)/\ ∀vs,bV A O w cs vs-> ∃us,bV A O w ns us/\putAt vs q us=putAt vs off (a.eval y).cells.toList/\(q+us.length<=vs.length->off+i.size<=vs.length))->Good K P rr o env g nx k z:=by
  intro j q cs cD ns tb hj fJ hk anb;refine F4 hc hk λA O w a he hg hO hG=>?_;obtain⟨m,off,U,h2,h3⟩:=anb A O w a he hG;obtain⟨p,hp,⟨m2,vs,rfl,hB,hr⟩,hm⟩:=hg.al j _ hj;rw[U] at hp;cases hp;obtain⟨us,h4,h5,h6⟩:=h3 vs hr;obtain⟨r1,r2⟩:=oY fJ hr h4;obtain⟨v1,v2,v3⟩:=val he hG;obtain⟨w',aX,mQ,hF⟩:=RL ah (hK.Θ.fits hi) h2 hB v2 v3 (h6 r2);refine⟨w',A,O,aX,vY hO (hm m rfl) hj U rfl hF ⟨m,_,rfl,mQ,?_⟩⟩;rw[<-h5];exact qN (hF.tr (lS (hm m rfl))) (Pl.le.refl A) r1
 split at h
 ·rename_i j q;split at h
  rotate_left
  ·cases h
  rename_i tb cs hj;split at h
  rotate_left
  ·cases h
  rename_i cD fJ;refine box hj fJ h λA O w a he hG=>?_;obtain⟨m,U,h2⟩:=cR he hG hx;obtain⟨v1,v2,v3⟩:=val he hG;refine⟨m,q,U,by simpa using h2,λvs fc=>⟨_,v1,rfl,λhl=>?_⟩⟩;rw[<-v2];simpa using hl
 ·rename_i j q n jj;split at h
  rotate_left
  ·cases h
  rename_i tb cs hj;split at h
  rotate_left
  ·cases h
  rename_i ls fm;split at h
  ·rename_i kk gs k' v ml _;split at h
   rotate_left
   ·cases h
   rename_i cD fJ;cases hq:(sameKind kk k'&&ζ gs.length n)<;>rw[hq] at h
   ·cases h
   simp only[cond_true,η] at h hq;have ek:=iI hq.1;subst ek;have hl:=δ hq.2;refine box hj fJ h λA O w a he hG=>?_;obtain⟨m,U,h2,XZ⟩:=cR he hG hx;have nN:a.eval y= .int kk v:=gD (S:=S) (A:=A) (O:=O) (w:=w) (fR he hG hy);refine⟨m,q+jj,U,by simpa using h2,λvs fc=>⟨(gs.set jj v).map (ξ2 kk),⟨_,[],by simp,⟨by simp[hl],rfl⟩,rfl⟩,?_,λhle=>?_⟩⟩
   ·obtain⟨c1,c2⟩:=ma fm fc;have aX:=yI ml c1;rw[nN,<-xL _ _ _ _ (by omega),show(gs.map (ξ2 kk))=n5.cells (.i kk gs) from rfl,<-aX];exact aa3 c2 (by simp;omega)
   ·have ei:i.size=1:=by rw[<-bz];rfl
    simp at hle;omega
  ·rename_i gs v ml _;split at h
   rotate_left
   ·cases h
   rename_i cD fJ;cases hq:(ζ gs.length n)<;>rw[hq] at h
   ·cases h
   simp only[cond_true] at h;have hl:=δ hq;refine box hj fJ h λA O w a he hG=>?_;obtain⟨m,U,h2,XZ⟩:=cR he hG hx;have nN:a.eval y= .bool v:=gD (S:=S) (A:=A) (O:=O) (w:=w) (fR he hG hy);refine⟨m,q+jj,U,by simpa using h2,λvs fc=>⟨(gs.set jj v).map (ζR),⟨_,[],by simp,⟨by simp[hl],rfl⟩,rfl⟩,?_,λhle=>?_⟩⟩
   ·obtain⟨c1,c2⟩:=ma fm fc;have aX:=yI ml c1;rw[nN,<-xL _ _ _ _ (by omega),show(gs.map (ζR))=n5.cells (.b gs) from rfl,<-aX];exact aa3 c2 (by simp;omega)
   ·have ei:i.size=1:=by rw[<-bz];rfl
    simp at hle;omega
  ·cases h
 ·rename_i e r j q;split at h
  rotate_left
  ·cases h
  rename_i e' xs hr;cases tU:ζ e e'<;>rw[tU] at h
  ·cases h
  simp only[cond_true] at h;have Ot:=δ tU;subst Ot;obtain⟨y0,Pw,h⟩:=bind_some h;split at h
  rotate_left
  ·cases h
  rename_i cD fJ;split at h
  rotate_left
  ·cases h
  rename_i z' bN;cases nM:b.pure<;>rw[nM] at h
  ·cases h
  simp only[cond_true] at h;refine F4 hc h λA O w a he hg hO hG=>?_;obtain⟨m,n,c,U,h2⟩:=cR he hG hx;have h2:a.eval x= .pointer (some ⟨m,j*(S.ty e).n+q,none⟩):=by simpa using h2
  obtain⟨p,hp,hB,hm⟩:=hg.al r _ hr;rw[U] at hp;cases hp;obtain⟨v1,v2,v3⟩:=val he hG;obtain⟨cs,cur,e1,e2,e3,e4,e5,e6,e7,e8⟩:=Bi hB;have zw:ck w m e cur.toList:=by unfold ck;simpa using e1
  have iy:=(ε.1 Pw).1;have XS:=e3.at_ Pw;have Oe:=(S.ty e).len XS;obtain⟨p1,p2⟩:=oY fJ (hK.bA A O w e y0 _ XS) v1;rw[Oe] at p2;have Od:cs.length=n*(S.ty e).n:=by rw[e4];exact e3.len
  have fp:(a.eval y).cells.toList.length=i.size:=by simpa using v2
  have hmul:(j+1)*(S.ty e).n<=n*(S.ty e).n:=ξK _ (by omega);have auS:n*(S.ty e).n<=c*(S.ty e).n:=ξK _ e5;rw[ζa] at hmul;have mj:cur.toList.length=c*(S.ty e).n:=by simpa using e7
  obtain⟨w',aX,mQ,hF⟩:=RL ah (hK.Θ.fits hi) h2 zw v2 v3 (by omega);have OV:=hm m rfl;refine⟨w',A,O,aX,vY hO OV hr U rfl hF ?_⟩;have ht:=hF.tr (lS OV);have fK:cz (S.ty e) O w' (putAt cs (j*(S.ty e).n+q) (a.eval y).cells.toList) (xs.set j z'):=by
   refine cz.tr ht (abD e3 Pw (by omega) λc' mi ec=>?_);rw[<-ec];exact hK.cls A O w e cD z' _ bN p1
  have anG:(putAt cur.toList (j*(S.ty e).n+q) (a.eval y).cells.toList).take (n*(S.ty e).n)=putAt cs (j*(S.ty e).n+q) (a.eval y).cells.toList:=by
   have e2':cur.toList.take (n*(S.ty e).n)=cs:=by rw[<-Od];exact e2
   rw[ap0 (by omega) (by omega),e2']
  refine⟨⟨_,⟨by rw[fK.len],.inr ⟨m,c,(putAt cur.toList (j*(S.ty e).n+q) (a.eval y).cells.toList).toArray,by simp[e4],ξt _,mQ,by simp;omega,e6,?_,?_⟩⟩,fK⟩,λg hg=>by cases hg;exact OV⟩
  ·have:=Ic (vs:=cur.toList) (us:=(a.eval y).cells.toList) (q:=j*(S.ty e).n+q) (by omega);simp only[List.size_toArray,this];exact mj
  ·simp only[ξf,<-e4];exact anG
 ·cases h
end
section
variable {S:bL} {K:bG S} {P:Program} {rr:Option Nat} {o:Oper} {env:aW S} {g:Nat->Option (Ob S)} {nx:Nat} {R:Type} {z:R} {k:AV S->Up S->AH S->Option R}
theorem ac8 {l:LV S} {T:s' S} (h:xM g l=some T):l= .fl T.t T.r T.j 0/\g T.r=some (.dH T.t T.e T.cm):=by
 unfold xM at h;split at h
 ·rename_i t r j;unfold ac9 at h;split at h
  ·rename_i t' e cm hg;cases hb:ζ t t'<;>rw[hb] at h
   ·cases h
   ·cases h;have:=δ hb;subst this;exact⟨rfl,hg⟩
  ·cases h
 ·cases h
theorem aaO {x:Operand} {q:Nat} (h:xw K env x=some q):cQ K env x=some (.own q):=by
 unfold xw at h;split at h
 ·rename_i q' hq;cases h;exact hq
 ·cases h
theorem atz {α:Type} {cm:List (Option (List α))} {j:Nat} {xs:List α} (h:qU cm j=some xs):cm[j]? =some (some xs):=by
 unfold qU at h;split at h
 ·rename_i z hz;subst h;exact hz
 ·cases h
theorem ahn {A:Pl} {O:List Nat} {w:World} {e d:Nat} {xs:List (S.El e)} {v:Value} (h:Dc.Own (S.ty e) e 0 O w v xs) (hd:cG v=some d):v.ownBlock=some d:=by
 rcases mD h with⟨e1,_⟩|⟨b',c,e1⟩
 ·rw[e1] at hd;cases hd
 ·rw[e1] at hd ⊢;cases hd;rfl
theorem ao1 {i:TI} (h:i.tag=5):i.isAgg=false:=by
 show(ζ i.tag 8||ζ i.tag 6)=false;rw[h];rfl
theorem amo (hK:cI K P) {t:Nat} {x y:Operand} (ah:o.op= .indexAddr t x y) (h:QC K env g k t x y=some z):Good K P rr o env g nx k z:=by
 have hc: ∀c,o.op≠ .defer c:=λc=>by rw[ah];simp
 unfold QC at h;split at h
 rotate_left
 ·cases h
 rename_i i j r hi hy hx;have hx:=aaO hx;split at h
 rotate_left
 ·cases h
 rename_i t' e' cm ie hr dY;cases hb:(ζ i.tag 5&&(ζ (S.ty t').n 1&&ζ ie.size 1))<;>rw[hb] at h
 ·cases h
 simp only[cond_true,η] at h hb;obtain⟨y',iU,h⟩:=bind_some h;obtain⟨h0,hj⟩:=so iU;have aB:=(ε.1 hj).1;refine dX hc h λA O w a he hg hO hG=>?_;obtain⟨v,hA,hv,_⟩:=cR he hG hx;obtain⟨kk,hk⟩:=nO he hG hy;obtain⟨p,hp,⟨b,c,cur,rfl,_⟩,_⟩:=hg.al r _ hr;rw[hA] at hp;cases hp;have hv:a.eval x= .slice (some ⟨b,0,none⟩) cm.length c:=by simpa using hv
 have:=ID (P:=P) (w:=w) (ad:=⟨b,0,none⟩) (n:=cm.length) (c:=c) (k:=kk) hK.Θ hi (δ hb.1) dY h0 aB;refine⟨.pointer (some ((⟨b,0,none⟩:Addr).add (j.toNat*ie.size))),?_,b,_,c,hA,?_⟩
 ·unfold execOp;rw[ah];simp only[hv,hk,ξ,this,π];rfl
 ·rw[mH,δ hb.2.1,δ hb.2.2];simp
theorem amq (hK:cI K P) {t:Nat} {x:Operand} {l:LV S} {T:s' S} (ah:o.op= .load t x) (hx:cQ K env x=some l) (hT:xM g l=some T) (h:QE K nx k t T=some z):Good K P rr o env g nx k z:=by
 have hc: ∀c,o.op≠ .defer c:=λc=>by rw[ah];simp
 obtain⟨rfl,hr⟩:=ac8 hT;obtain⟨r,j,t',e,cm⟩:=T;simp only at hr hx;unfold QE at h;split at h
 rotate_left
 ·cases h
 rename_i i hi;cases hb:(ζ i.tag 5&&ζ i.size 1)<;>rw[hb] at h
 ·cases h
 simp only[cond_true,η] at h hb;obtain⟨xs,eB,h⟩:=bind_some h;have eB:=atz eB;have kF:=ao1 (δ hb.1);have hs:=δ hb.2;refine kV hc h λA O w a he hg hO hG hf=>?_;have bZ:A.pl nx=none:=hf 0 (by simp);obtain⟨b,n,c,U,h2⟩:=cR he hG hx;obtain⟨p,hp,hR,hm⟩:=hg.al r _ hr;rw[U] at hp;cases hp;have hR0:=hR;obtain⟨b',c',cur,e1,q1,q2,q3,q4,q5,q6,q7,q8⟩:=hR;cases e1;have iy:=(ε.1 eB).1;obtain⟨u,hu⟩: ∃u,cur[j]? =some u:=⟨cur[j]'(by omega),κ (by omega)⟩;obtain⟨gu,wS⟩:=q7 j u xs hu eB;have AF:u.oneCell'=true:=q6 u (by rw[<-ξi] at hu;exact ξL hu);have Pf:r≠nx:=λe=>by subst e;rw[U] at bZ;cases bZ
 have zw:ck w b t' cur.toList:=by unfold ck;simpa using q1
 have tQ:fP w ⟨b,j,none⟩ [u]:=λi' u' eh=>by
  match i',eh with
  |0,eh=>simp at eh;subst eh;rw[mH,zw.cell];simpa using hu
  |i'+1,eh=>simp at eh
 have Pv:a.eval x= .pointer (some ⟨b,j,none⟩):=by
  have:a.eval x= .pointer (some ⟨b,j*(S.ty t').n+0,none⟩):=by simpa using h2
  rw[this,q5];simp
 have ga: ∀ {j':Nat} {ys:List (S.El e)},(cm.set j none)[j']? =some (some ys)->j'≠j/\cm[j']? =some (some ys):=by
  intro j' ys hy;rw[ξD] at hy;split at hy
  ·simp at hy
  ·rename_i he;exact⟨λe=>he e.symm,hy⟩
 have cY: ∀d,lN w (.dH t' e (cm.set j none):Ob S) (.slice (some ⟨b,0,none⟩) cm.length c) d->lN w (.dH t' e cm:Ob S) (.slice (some ⟨b,0,none⟩) cm.length c) d/\u.ownBlock≠some d:=by
  rintro d ⟨b2,c2,t2,Mq,j2,u2,ys,f1,f2,f3,f4,f5⟩;rw[ξf] at f1;cases f1;rw[q1] at f2;cases f2;obtain⟨g1,g2⟩:=ga f4;exact⟨⟨b,c,t',cur,j2,u2,ys,rfl,q1,f3,g2,f5⟩,q8 j2 j u2 u ys xs d g1 f3 hu g2 eB f5⟩
 have XY: ∀d,dJ w (.row e xs:Ob S) u d->u.ownBlock=some d/\lN w (.dH t' e cm:Ob S) (.slice (some ⟨b,0,none⟩) cm.length c) d:=λd hd=>by
  have:=ahn (A:=A) gu (iR rfl hd);exact⟨this,b,c,t',cur,j,u,xs,rfl,q1,hu,eB,this⟩
 have cP:(A.put nx u).pl r=some (.slice (some ⟨b,0,none⟩) cm.length c):=by rw[Pl.sF λe=>Pf e.symm];exact U
 have e_: ∀ {i':Nat} {X:Option (Ob S)},(i',X)∈[(r,some (.dH t' e (cm.set j none)))]++news nx [some (.row e xs)]->(i'=r/\X=some (.dH t' e (cm.set j none)))\/(i'=nx/\X=some (.row e xs)):=by
  intro i' X eh;simpa[news] using eh
 have m1:(r,some (.dH t' e (cm.set j none)))∈([(r,some (.dH t' e (cm.set j none)))]++news nx [some (.row e xs)]:Up S):=by simp
 refine⟨u,w,A.put nx u,O,?_,⟨u,Pl.js A nx u,rfl,AF⟩,⟨Pl.sE bZ,Tr.refl O w,hO,λ_ fH _=>⟨rfl,fH⟩,?_,?_,?_,?_,?_,?_⟩⟩
 ·rw[RJ (cs:=[u]) ah (hK.Θ.fits hi) Pv hs.symm tQ (λ_=>hs),kF];rfl
 ·intro i' X eh;rcases e_ eh with⟨rfl,e1⟩|⟨rfl,e1⟩
  ·cases e1;refine⟨_,cP,⟨b,c,cur,by rw[ξf],q1,by rw[ξf];exact q2,q3,q4,q5,q6,λj' u' ys m6 hy=>q7 j' u' ys m6 (ga hy).2,λi1 j1 u1 v1 SM SQ d cC a1 a2 a3 a4=>q8 i1 j1 u1 v1 SM SQ d cC a1 a2 (ga a3).2 (ga a4).2⟩,λd hd=>?_⟩;have hd:dJ w (.dH t' e cm:Ob S) (.slice (some ⟨b,0,none⟩) cm.length c) d:=hd.imp id λhd=>(cY d hd).1;exact⟨hg.lF hr U hd,.inr ⟨i',_,_,_,m1,hr,U,hd⟩⟩
  ·cases e1;refine⟨u,Pl.js A _ u,gu,λd hd=>?_⟩;have hd:=(XY d hd).2;exact⟨hg.lF hr U (.inr hd),.inr ⟨r,_,_,_,m1,hr,U,.inr hd⟩⟩
 ·have key: ∀d,dJ w (.dH t' e (cm.set j none):Ob S) (.slice (some ⟨b,0,none⟩) cm.length c) d-> ¬dJ w (.row e xs:Ob S) u d:=by
   intro d hd Ok;have h3:=(XY d Ok).1;rcases hd with hd|hd
   ·cases hd;exact wS h3
   ·exact(cY d hd).2 h3
  intro i1 j1 X Y p q d cC k1 k2 k3 k4 k5 k6;rcases e_ k1 with⟨rfl,e1⟩|⟨rfl,e1⟩<;>cases e1<;>rcases e_ k2 with⟨rfl,e2⟩|⟨rfl,e2⟩<;>cases e2
  ·exact cC rfl
  ·rw[cP] at k3;cases k3;rw[Pl.js] at k4;cases k4;exact key d k5 k6
  ·rw[cP] at k4;cases k4;rw[Pl.js] at k3;cases k3;exact key d k6 k5
  ·exact cC rfl
 ·intro i1 X Y k1 k2;rcases e_ k1 with⟨rfl,rfl⟩|⟨rfl,rfl⟩<;>rcases e_ k2 with⟨e2,rfl⟩|⟨e2,rfl⟩
  ·rfl
  ·exact absurd e2 Pf
  ·exact absurd e2.symm Pf
  ·rfl
 ·intro i1 X p k1 k2;rcases e_ k1 with⟨rfl,rfl⟩|⟨rfl,rfl⟩
  ·exact⟨_,hr⟩
  ·rw[bZ] at k2;cases k2
 ·intro i1;rcases ζL nx i1 with aN|rfl
  ·exact .inl (Pl.sF aN)
  ·exact .inr ⟨bZ,some (.row e xs),by simp[news]⟩
 ·intro i1 X Z k1 k2 k3;rcases e_ k1 with⟨rfl,e1⟩|⟨rfl,e1⟩
  ·rw[hr] at k2;cases k2;cases k3
  ·cases e1;rfl
theorem aml (hK:cI K P) {t q:Nat} {x y:Operand} {l:LV S} {T:s' S} (ah:o.op= .store t x y) (hx:cQ K env x=some l) (hT:xM g l=some T) (hy:xw K env y=some q) (h:QA K g k t q T=some z):Good K P rr o env g nx k z:=by
 have hc: ∀c,o.op≠ .defer c:=λc=>by rw[ah];simp
 obtain⟨rfl,hr⟩:=ac8 hT;have hy:=aaO hy;obtain⟨r,j,t',e,cm⟩:=T;simp only at hr hx;unfold QA at h;split at h
 rotate_left
 ·cases h
 rename_i i e0 xs hi hq;split at h
 rotate_left
 ·cases h
 rename_i p0 _;simp only at p0;subst p0;simp only[pB] at h;cases hb:(ζ i.tag 5&&(ζ i.size 1&&!(ζ q r)))<;>rw[hb] at h
 ·cases h
 simp only[cond_true,η,ξE] at h hb;obtain⟨h5,hs,ub⟩:=hb;have hs:=δ hs;have ub:q≠r:=λe=>by subst e;rw[ξu] at ub;cases ub
 obtain⟨_,cC,h⟩:=bind_some h;refine F4 hc h λA O w a he hg hO hG=>?_;obtain⟨b,n,c,U,h2⟩:=cR he hG hx;obtain⟨u,hu,nN,AF⟩:=cR he hG hy;have nN:a.eval y=u:=by simpa using nN
 obtain⟨p,hp,hR,hm⟩:=hg.al r _ hr;rw[U] at hp;cases hp;obtain⟨b',c',cur,e1,q1,q2,q3,q4,q5,q6,q7,q8⟩:=hR;cases e1;obtain⟨pu,nM,gu,hmu⟩:=hg.al q _ hq;rw[hu] at nM;cases nM;have gu:Dc.Own (S.ty e0) e0 0 O w u xs:=gu;have iy:j<cm.length:=by
  have:=(ε.1 (so cC).2).1;simpa using this
 have GS:=hm b rfl;have zw:ck w b t' cur.toList:=by unfold ck;simpa using q1
 have fi:u.cells.toList=[u]:=aav AF;have Pv:a.eval x= .pointer (some ⟨b,j,none⟩):=by
  have:a.eval x= .pointer (some ⟨b,j*(S.ty t').n+0,none⟩):=by simpa using h2
  rw[this,q5];simp
 obtain⟨w',aX,mQ,hF⟩:=RL ah (hK.Θ.fits hi) Pv zw (by rw[nN];have:=congrArg List.length fi;simp at this;omega) (by rw[nN,fi];intro u' m6;simp at m6;subst m6;exact AF) (by simp;omega);rw[nN,fi] at mQ;have bN:cur.toList.length=c:=by simpa using q4
 have hpa:putAt cur.toList j [u]=cur.toList.set j u:=by
  have qi:j<cur.toList.length:=by omega
  rw[List.set_eq_take_append_cons_drop,if_pos qi];unfold putAt;simp
 rw[hpa] at mQ;obtain⟨rB,GW⟩: ∃rB:Array Value,rB=(cur.toList.set j u).toArray:=⟨_,rfl⟩;have XN:w'.heap[b]? =some (.cells rB t' (0,0)):=by rw[GW];exact mQ
 have ane: ∀m,rB[m]? =if m=j then some u else cur[m]? :=λm=>by
  rw[GW,<-ξi,ζh,ξD,<-ξi]
  by_cases OX:m=j
  ·subst OX;rw[if_pos rfl,if_pos rfl,if_pos (by omega)]
  ·rw[if_neg λe=>OX e.symm,if_neg OX]
 have ga: ∀ {j':Nat} {ys:List (S.El e0)} {v:Value},rB[j']? =some v->(cm.set j (some xs))[j']? =some (some ys)->(j'=j/\v=u/\ys=xs)\/(j'≠j/\cur[j']? =some v/\cm[j']? =some (some ys)):=by
  intro j' ys v hv iU;rw[ane] at hv;rw[ξD] at iU
  by_cases G':j'=j
  ·subst G';rw[if_pos rfl] at hv;rw[if_pos rfl,if_pos iy] at iU;simp at hv iU;exact .inl ⟨rfl,hv.symm,iU.symm⟩
  ·rw[if_neg G'] at hv;rw[if_neg λe=>G' e.symm] at iU;exact .inr ⟨G',hv,iU⟩
 have eK:=hF.tr (lS GS);have wS:u.ownBlock≠some b:=λhd=>hg.lE q r _ _ _ _ b ub hq hr hu U (.inl (lB hd)) (.inl rfl);have Yb: ∀ {d:Nat} {v:Value} {ys:List (S.El e0)},Dc.Own (S.ty e0) e0 0 O w v ys->v.ownBlock≠some b->Dc.Own (S.ty e0) e0 0 O w' v ys:=λ{d v ys} hv gM=>hv.keep eK λg' j6=>⟨hF.block g' (hv.lt g' j6).2 (by simp;rintro rfl;exact gM j6),hv.mem g' j6⟩;have GY: ∀ {j':Nat} {v:Value} {ys:List (S.El e0)} {d:Nat},cur[j']? =some v->cm[j']? =some (some ys)->v.ownBlock=some d->u.ownBlock≠some d:=λ{j' v ys d} a1 a2 a3 a4=>
  hg.lE q r _ _ _ _ d ub hq hr hu U (.inl (lB a4)) (.inr ⟨b,c,t',cur,j',v,ys,rfl,q1,a1,a2,a3⟩)
 have cY: ∀d,lN w' (.dH t' e0 (cm.set j (some xs)):Ob S) (.slice (some ⟨b,0,none⟩) cm.length c) d->lN w (.dH t' e0 cm:Ob S) (.slice (some ⟨b,0,none⟩) cm.length c) d\/u.ownBlock=some d:=by
  rintro d ⟨b2,c2,t2,Mq,j2,u2,ys,f1,f2,f3,f4,f5⟩;rw[ξf] at f1;cases f1;rw[XN] at f2;cases f2;rcases ga f3 f4 with⟨_,rfl,_⟩|⟨_,g1,g2⟩
  ·exact .inr f5
  ·exact .inl ⟨b,c,t',cur,j2,u2,ys,rfl,q1,g1,g2,f5⟩
 have e_: ∀ {i':Nat} {X:Option (Ob S)},(i',X)∈([(q,none),(r,some (.dH t' e0 (cm.set j (some xs))))]:Up S)->(i'=q/\X=none)\/(i'=r/\X=some (.dH t' e0 (cm.set j (some xs)))):=by
  intro i' X eh;simpa using eh
 have m1:(r,some (.dH t' e0 (cm.set j (some xs))))∈([(q,none),(r,some (.dH t' e0 (cm.set j (some xs))))]:Up S):=by simp
 have m2:(q,none)∈([(q,none),(r,some (.dH t' e0 (cm.set j (some xs))))]:Up S):=by simp
 refine⟨w',A,O,aX,⟨Pl.le.refl A,eK,hF.ob hO,λd hd hn=>⟨hF.block d (hO d hd) ?_,hd⟩,?_,?_,?_,?_,λ_=> .inl rfl,?_⟩⟩
 ·have:=hn r _ _ m1 U;simp;rintro rfl;exact this rfl
 ·intro i' X eh;rcases e_ eh with⟨_,e1⟩|⟨rfl,e1⟩
  ·cases e1
  cases e1;refine⟨_,U,⟨b,c,rB,by rw[ξf],XN,by rw[ξf];exact q2,q3,by rw[GW];simpa using q4,q5,?_,?_,?_⟩,λd hd=>?_⟩
  ·intro v hv;rw[GW,ζh] at hv;rcases List.mem_or_eq_of_mem_set hv with hv|rfl
   ·exact q6 v hv
   ·exact AF
  ·intro j' v ys hv iU;rcases ga hv iU with⟨_,rfl,rfl⟩|⟨_,g1,g2⟩
   ·exact⟨Yb (d:=0) gu wS,wS⟩
   ·obtain⟨k1,k2⟩:=q7 j' v ys g1 g2;exact⟨Yb (d:=0) k1 k2,k2⟩
  ·intro i1 j1 u1 v1 SM SQ d G_ a1 a2 a3 a4 a5 a6;rcases ga a1 a3 with⟨f1,rfl,_⟩|⟨f1,f2,f3⟩
   ·rcases ga a2 a4 with⟨f4,_,_⟩|⟨_,f5,f6⟩
    ·exact G_ (f1.trans f4.symm)
    ·exact GY f5 f6 a6 a5
   ·rcases ga a2 a4 with⟨_,rfl,_⟩|⟨_,f5,f6⟩
    ·exact GY f2 f3 a5 a6
    ·exact q8 i1 j1 u1 v1 SM SQ d G_ f2 f5 f3 f6 a5 a6
  ·rcases hd with hd|hd
   ·cases hd;exact⟨GS,.inr ⟨i',_,_,_,m1,hr,U,.inl rfl⟩⟩
   ·rcases cY d hd with hd|hd
    ·exact⟨hg.lF hr U (.inr hd),.inr ⟨i',_,_,_,m1,hr,U,.inr hd⟩⟩
    ·exact⟨gu.mem d hd,.inr ⟨q,none,_,_,m2,hq,hu,.inl (lB hd)⟩⟩
 ·intro i1 j1 X Y p q' d G_ k1 k2;rcases e_ k1 with⟨_,e1⟩|⟨rfl,_⟩
  ·cases e1
  rcases e_ k2 with⟨_,e2⟩|⟨rfl,_⟩
  ·cases e2
  exact absurd rfl G_
 ·intro i1 X Y k1 k2;rcases e_ k1 with⟨rfl,rfl⟩|⟨rfl,rfl⟩<;>rcases e_ k2 with⟨e2,rfl⟩|⟨e2,rfl⟩
  ·rfl
  ·exact absurd e2 ub
  ·exact absurd e2.symm ub
  ·rfl
 ·intro i1 X p k1 k2;rcases e_ k1 with⟨rfl,rfl⟩|⟨rfl,rfl⟩
  ·exact⟨_,hq⟩
  ·exact⟨_,hr⟩
 ·intro i1 X Z k1 k2 k3;rcases e_ k1 with⟨_,e1⟩|⟨rfl,_⟩
  ·cases e1
  ·rw[hr] at k2;cases k2;cases k3
theorem amw (hK:cI K P) {t:Nat} {x y:Operand} (ah:o.op= .makeSlice t x y) (h:QH K env nx k t x y=some z):Good K P rr o env g nx k z:=by
 have hc: ∀c,o.op≠ .defer c:=λc=>by rw[ah];simp
 unfold QH at h;split at h
 rotate_left
 ·cases h
 rename_i i hi;split at h
 rotate_left
 ·cases h
 rename_i ie dY;split at h
 rotate_left
 ·cases h
 rename_i n c hx hy hzero;cases hb:(ζ i.tag 5&&(ζ (S.ty i.e).n 1&&ζ ie.size 1))<;>rw[hb] at h
 ·cases h
 simp only[cond_true,η] at h hb;obtain⟨h5,bz,ei⟩:=hb;have bz:=δ bz;have ei:=δ ei;obtain⟨zs,hm,h3⟩:=bind_some h;refine kV hc h3 λA O w a he hg hO hG hf=>?_;have bZ:A.pl nx=none:=hf 0 (by simp);have mv:=hK.Θ.fits dY;obtain⟨x',jK,hs,pX,sk⟩:=mv.info;unfold nR at hm;split at hm
 rotate_left
 ·cases hm
 rename_i pZ;obtain⟨h0,nE,h2,h3'⟩:=pZ;simp only[ι] at hm;subst hm;obtain⟨kn,qn⟩:=nO he hG hx;obtain⟨kc,mV⟩:=nO he hG hy;have hu:=(hK.Θ.fits hi).slice (δ h5);have aX:=run_make (P:=P) w t i.e x' ie.zero hu jK sk kn kc n c h0 nE (by rw[pX];exact h2) (by omega);rw[hs,hzero,ei] at aX;obtain⟨cur,Oi⟩: ∃cur,cur=madeCells (Value.slice none 0 0).cells (c.toNat*1):=⟨_,rfl⟩;rw[<-Oi] at aX;have fj:=qF hO i.e cur.toList;have hlen:cur.size=c.toNat:=by rw[Oi];simp[madeCells]
 have eX: ∀(j:Nat) (u:Value),cur[j]? =some u->u= .slice none 0 0:=by
  intro j u m6;have hj:j<c.toNat*1:=by have:=(ξa.1 m6).1;omega
  rw[<-ξi,Oi,Z_ 1 c.toNat j hj rfl,Nat.mod_one] at m6;simpa[ζP] using m6.symm
 have wG:(w.alloc (.cells cur.toList.toArray i.e)).heap[w.heap.size]? =some (.cells cur i.e (0,0)):=by
  have:=fj.cf;unfold ck at this;simpa using this
 have tS:c.toNat<=maxLen:=by unfold maxLen;omega
 have AB: ∀ {j:Nat} {xs:List (S.El ie.e)},(ξF n.toNat (some ([]:List (S.El ie.e))))[j]? =some (some xs)->xs=[]:=by
  intro j xs hj;rw[List.getElem?_replicate] at hj;split at hj
  ·simpa using hj.symm
  ·cases hj
 have e_: ∀ {i':Nat} {X:Option (Ob S)},(i',X)∈([]++news nx [some (.dH i.e ie.e (ξF n.toNat (some [])))]:Up S)->i'=nx/\X=some (.dH i.e ie.e (ξF n.toNat (some []))):=by
  intro i' X eh;simpa[news] using eh
 refine⟨.slice (some ⟨w.heap.size,0,none⟩) n.toNat c.toNat,_,A.put nx (.slice (some ⟨w.heap.size,0,none⟩) n.toNat c.toNat),w.heap.size::O,?_,⟨_,Pl.js A nx _,rfl,rfl⟩,⟨Pl.sE bZ,fj.tr,fj.ob,λd hd _=>⟨fj.fr.block d (hO d hd) (by simp),μ _ hd⟩,?_,?_,?_,?_,?_,?_⟩⟩
 ·simp only[execOp,ah,ξ,qn,mV,aX];simp
 ·intro i' X eh;obtain⟨rfl,e⟩:=e_ eh;cases e;refine⟨_,Pl.js A _ _,⟨w.heap.size,c.toNat,cur,by simp,wG,by simp;omega,tS,hlen,bz,?_,?_,?_⟩,?_⟩
  ·intro u m6;obtain⟨j,hj⟩:=List.getElem?_of_mem m6;rw[eX j u (by rw[<-ξi];exact hj)];rfl
  ·intro j u xs m6 jK;rw[eX j u m6,AB jK];exact⟨Own.oT,by simp[Value.ownBlock]⟩
  ·intro i1 j1 u v xs ys d _ a1 _ _ _ a5;rw[eX i1 u a1] at a5;cases a5
  ·rintro d (hd|⟨b2,c2,t2,Mq,j2,u2,ys,f1,f2,f3,f4,f5⟩)
   ·cases hd;exact⟨ν,.inl (ξc _)⟩
   ·have e1:b2=w.heap.size:=by simp at f1;exact f1.1.symm
    subst e1;rw[wG] at f2;cases f2;rw[eX j2 u2 f3] at f5;cases f5
 ·intro i1 j1 X Y p q d cC k1 k2;obtain⟨rfl,_⟩:=e_ k1;obtain⟨rfl,_⟩:=e_ k2;exact absurd rfl cC
 ·intro i1 X Y k1 k2;exact(e_ k1).2.trans (e_ k2).2.symm
 ·intro i1 X p k1 k2;obtain⟨rfl,_⟩:=e_ k1;rw[bZ] at k2;cases k2
 ·intro i1;rcases ζL nx i1 with aN|rfl
  ·exact .inl (Pl.sF aN)
  ·exact .inr ⟨bZ,some (.dH i.e ie.e (ξF n.toNat (some []))),by simp[news]⟩
 ·intro i1 X Z k1 k2 k3;obtain⟨rfl,_⟩:=e_ k1;obtain⟨p,hp,_⟩:=hg.al _ Z k2;rw[bZ] at hp;cases hp
end
section
variable {S:bL} {K:bG S} {P:Program} {rr:Option Nat} {o:Oper} {env:aW S} {g:Nat->Option (Ob S)} {nx:Nat} {R:Type} {z:R} {k:AV S->Up S->AH S->Option R}
theorem Wj {A:Pl} {O:List Nat} {w:World} {a:Act} {E:Env} {fs:List (Nat×Nat)} (he:dV A O w env a) (hG:dR K O w): ∀ {ps:List (Nat×Operand)} {cs cD:List (LV S)} {xs:Array Value},(∀p∈ps,ev E p.2=some (a.eval p.2))->FW K env fs ps cs=some cD->bV A O w cs xs.toList-> ∃ki,rH fs K.Θ E ps xs=some ki/\bV A O w cD ki.toList
 |[],cs,cD,xs,hE,h,hr=>by cases h;exact⟨xs,rfl,hr⟩
 |(i,x)::r,cs,cD,xs,hE,h,hr=>by
  simp only[FW] at h;split at h
  rotate_left
  ·cases h
  rename_i t off Ag;split at h
  rotate_left
  ·cases h
  rename_i b hb;split at h
  rotate_left
  ·cases h
  rename_i ti hti;cases bz:ζ (fW b.cells) ti.size<;>rw[bz] at h
  ·cases h
  simp only[cond_true] at h;split at h
  rotate_left
  ·cases h
  rename_i kS fJ;have hv:=aD.rel.cells (fR he hG hb);obtain⟨r1,r2⟩:=oY fJ hr hv;have hlen:(a.eval x).cells.size=ti.size:=by rw[<-δ bz,<-lV hv];simp
  have hle:off+(a.eval x).cells.size<=xs.size:=by simpa using r2
  have rU:=Nc (a.eval x).cells.toList 0 off xs (by simpa using hle);have e:((a.eval x).cells.zipIdx.foldl (λcs (c,j)=>cs.setIfInBounds (off+j) c) xs).toList=putAt xs.toList off (a.eval x).cells.toList:=by
   rw[ξP] at rU;rw[<-rU]
   congr 1
   rw[<-ξQ];simp
  simp only[rH,Ag,hE (i,x) ν,hti,hlen,ξu,ξW];rw[hlen] at hle;rw[ζD.mpr hle];simp only[cond_true];refine Wj he hG (λp hp=>hE p (μ _ hp)) h ?_;rw[e];exact r1
theorem Wi {A:Pl} {O:List Nat} {w:World} {a:Act} {size:Nat} (he:dV A O w env a) (hG:dR K O w): ∀ {ps:List (Nat×Operand)} {cs cD:List (LV S)} {xs:Array Value},FV K env size ps cs=some cD->bV A O w cs xs.toList-> ∃ki,ζE (λi=>some (i*size,size)) xs (ps.map λp=>(p.1,a.eval p.2))=some ki/\bV A O w cD ki.toList
 |[],cs,cD,xs,h,hr=>by cases h;exact⟨xs,rfl,hr⟩
 |(i,x)::r,cs,cD,xs,h,hr=>by
  simp only[FV] at h;split at h
  rotate_left
  ·cases h
  rename_i b hb;cases bz:ζ (fW b.cells) size<;>rw[bz] at h
  ·cases h
  simp only[cond_true] at h;split at h
  rotate_left
  ·cases h
  rename_i kS fJ;have hv:=aD.rel.cells (fR he hG hb);obtain⟨r1,r2⟩:=oY fJ hr hv;have hlen:(a.eval x).cells.size=size:=by rw[<-δ bz,<-lV hv];simp
  have hle:i*size+(a.eval x).cells.size<=xs.size:=by simpa using r2
  have rU:=Nc (a.eval x).cells.toList 0 (i*size) xs (by simpa using hle);have e:((a.eval x).cells.zipIdx.foldl (λcs (c,j)=>cs.setIfInBounds (i*size+j) c) xs).toList=putAt xs.toList (i*size) (a.eval x).cells.toList:=by
   rw[ξP] at rU;rw[<-rU]
   congr 1
   rw[<-ξQ];simp
  simp only[ζG,ζE];have j8: ¬((a.eval x).cells.size≠size\/i*size+(a.eval x).cells.size>xs.size):=by omega
  rw[if_neg (by simpa using j8)];refine Wi he hG h ?_;rw[e];exact r1
theorem ame (hK:cI K P) {t:Nat} {ps:Array (Nat×Operand)} (ah:o.op= .build t ps) (h:Qw K env k t ps.toList=some z):Good K P rr o env g nx k z:=by
 have hc: ∀c,o.op≠ .defer c:=λc=>by rw[ah];simp
 unfold Qw at h;split at h
 rotate_left
 ·cases h
 rename_i i hi;cases h8:ζ i.tag 8<;>rw[h8] at h
 ·cases h6:ζ i.tag 6<;>rw[h6] at h
  ·cases h
  simp only[cond_true,cond_false] at h;split at h
  rotate_left
  ·cases h
  rename_i ie dY;split at h
  rotate_left
  ·cases h
  rename_i cs OA;cases hg:(i.zero.cells.toList.all ξR)<;>rw[hg] at h
  ·cases h
  simp only[cond_true] at h;refine dX hc h λA O w a he j6 hO hG=>?_;obtain⟨ki,U,h2⟩:=Wi (xs:=i.zero.cells) he hG OA (Bq hg);refine⟨.agg ki,?_,ki.toList,by simp,h2⟩;unfold execOp;rw[ah];simp only[Instr.build,ξ,vf (hK.Θ.fits hi),π,run_underlying ((hK.Θ.fits hi).array (δ h6)),gf (hK.Θ.fits dY)];rw[ζv];have nE:ζE (λi=>some (i*ie.size,ie.size)) i.zero.cells (ps.toList.map λx=>(x.1,a.eval x.2))=some ki:=U;rw[nE];rfl
 simp only[cond_true] at h;split at h
 rotate_left
 ·cases h
 rename_i cs OA;cases hg:(nD K.Θ (.build t ps.toList.toArray)&&i.zero.cells.toList.all ξR)<;>rw[hg] at h
 ·cases h
 simp only[cond_true,η] at h hg;refine dX hc h λA O w a he j6 hO hG=>?_;obtain⟨ki,U,h2⟩:=Wj (E:=pE a (slotsOf (ps.toList.map (·.2)))) (xs:=i.zero.cells) he hG (λp hp=>VN (R6 (ζq.2 ⟨p,hp,rfl⟩))) OA (Bq hg.2);refine⟨.agg ki,IC hK.Θ (VP a (slotsOf (ps.toList.map (·.2)))) (by rw[ah];simpa using hg.1) ?_,ki.toList,by simp,h2⟩;rw[ah];simp only[ou,hi,h8,cond_true,U]
theorem WR (hK:cI K P) {t t2:Nat} {x:Operand} {l:LV S} (ah:o.op= .convert t t2 x) (hx:cQ K env x=some l) (h:HU K g k t t2 l=some z):Good K P rr o env g nx k z:=by
 have hc: ∀c,o.op≠ .defer c:=λc=>by rw[ah];simp
 unfold HU at h;split at h
 rotate_left
 ·cases h
 rename_i i i2 hi iw;split at h
 rotate_left
 ·cases h
 rename_i ie dY;cases hq:(ζ i.tag 5&&(ζ i2.tag 3&&(ζ ie.tag 2&&sameKind (Dc.noKind ie.k) .u8)))<;>rw[hq] at h
 ·cases h
 simp only[cond_true] at h;simp only[η] at hq;obtain⟨h5,h3,h2,hk⟩:=hq;split at h
 rotate_left
 ·cases h
 rename_i ys ej;split at h
 rotate_left
 ·cases h
 rename_i zs gU;refine dX hc h λA O w a he hg hO hG=>?_;have hv:=pI hK hg ej (cR he hG hx);refine⟨.string (strOf zs),?_,rfl,rfl⟩;obtain⟨B,c,sf,_,_⟩:=iJ hv;have Yz:=(hK.Θ.fits dY).int (δ h2);rw[iI hk] at Yz;unfold execOp;rw[ah];simp only[ξ,sf];rw[run_convert_bytes_string w t t2 i.e B ys.length c ((hK.Θ.fits hi).slice (δ h5)) Yz ((hK.Θ.fits iw).string (δ h3))];rw[sf] at hv;rcases B with _|ad
 ·have nK:=II hv;subst nK;cases gU;simp[Conv.bytesToString,strOf,ξh]
 ·obtain⟨_,cs,hr,hcc⟩:=BE hv;have fi:=PL hK gU hr;have hlen:zs.length=ys.length:=by
   have: ∀ {ys:List (S.El i.e)} {zs:List Int},oO K i.e .u8 ys=some zs->zs.length=ys.length:=by
    intro ys
    induction ys with
    |nil=>intro zs h;cases h;rfl
    |cons y ys ih=>
     intro zs h;simp only[oO] at h;split at h
     ·rename_i k' x' jK;cases hb:sameKind .u8 k'<;>rw[hb] at h
      ·cases h
      simp only[cond_true] at h;split at h
      ·rename_i zs' uk;cases h;simp[ih uk]
      ·cases h
     ·cases h
   exact this gU
  subst fi;have hl:=run_loadCells_list (P:=P) w ad (zs.map (ξ2 .u8)) hcc;rw[ξw] at hl;rw[<-hlen,run_bytesToString w ad zs.length c zs hl];rfl
theorem ao6 (hK:cI K P) (h:Ba K env g nx k o.type o.op=some z):Good K P rr o env g nx k z:=by
 unfold Ba at h;split at h
 ·rename_i x ah;split at h
  ·rename_i av tO;exact WV hK (.inl ah) tO h
  ·cases h
 ·rename_i x ah;split at h
  ·split at h
   rotate_left
   ·cases h
   rename_i i hi;cases h5:ζ i.tag 5<;>rw[h5] at h
   ·cases h
   ·exact amy ah rfl h
  ·split at h
   ·rename_i av tO;exact WV hK (.inr ah) tO h
   ·cases h
 ·rename_i x i ah;split at h
  ·rename_i ava hx;split at h
   ·rename_i b hb;exact amj ah hx hb h
   ·cases h
  ·cases h
 ·rename_i x ah;split at h
  ·rename_i hx;exact F3 ah hx rfl h
  ·rename_i hx;exact F3 ah hx rfl h
  ·rename_i hx;exact F3 ah hx rfl h
  ·rename_i hx;exact F3 ah hx rfl h
  ·cases h
 ·rename_i c x y ah;split at h
  ·rename_i t hx;cases t with
   |true=>
    simp only[cond_true] at h;split at h
    ·rename_i av tO;exact WX ah hx tO h
    ·cases h
   |false=>
    simp only[cond_false] at h;split at h
    ·rename_i av tO;exact WX ah hx tO h
    ·cases h
  ·cases h
 ·rename_i t x f ah;split at h
  ·rename_i ls hx;split at h
   ·rename_i off n ag hf;split at h
    ·rename_i cZ hl;split at h
     ·rename_i b hb;exact amk hK ah hx hf hl hb h
     ·cases h
    ·cases h
   ·cases h
  ·cases h
 ·rename_i t x f ah;split at h
  ·rename_i off n ag hf;cases hn:ζ n 0<;>rw[hn] at h
   ·simp only[cond_false] at h;split at h
    ·rename_i b q hx;refine Nk hK ah hx hf hn (λA O w x hr=>?_) h;obtain⟨m,U,h2⟩:=hr;exact⟨⟨m,q,none⟩,by simpa using h2,m,U,by rw[mH]⟩
    ·rename_i e r j q hx;refine Nk hK ah hx hf hn (λA O w x hr=>?_) h;obtain⟨m,n',c,U,h2⟩:=hr;exact⟨⟨m,j*(S.ty e).n+q,none⟩,by simpa using h2,m,n',c,U,by rw[mH,Nat.add_assoc]⟩
    ·rename_i t' x' q hx;refine Nk hK ah hx hf hn (λA O w x hr=>?_) h;obtain⟨ad,U,h2⟩:=hr;exact⟨ad.add q,by simpa using U,ad,by rw[add_add],h2⟩
    ·cases h
   ·cases h
  ·cases h
 ·rename_i t x ah;split at h
  ·rename_i i hi;split at h
   ·rename_i l hx;split at h
    ·rename_i T hT;exact amq hK ah hx hT h
    ·exact amr hK ah hi hx h
   ·cases h
  ·cases h
 ·rename_i t ah;split at h
  ·rename_i i hi;cases hz:i.zero.cells.toList.all ξR<;>rw[hz] at h
   ·cases h
   ·exact ama hK ah hi hz h
  ·cases h
 ·rename_i t x ah;split at h
  ·rename_i b hb;exact amd ah hb h
  ·cases h
 ·rename_i t ps ah;exact ame hK ah h
 ·rename_i f fs cs ah;split at h
  ·rename_i zl cD U h2;exact amt ah U h2 h
  ·cases h
 ·rename_i t ah;split at h
  ·rename_i i hi;split at h
   ·rename_i p q hp hq;cases hb:(ζ i.tag 7&&(ζ p.tag 2&&ζ q.tag 2))<;>rw[hb] at h
    ·cases h
    ·exact amu ah h
   ·cases h
  ·cases h
 ·rename_i t n c ah;cases hb:ac_ K t<;>rw[hb] at h
  ·exact amv hK ah h
  ·exact amw hK ah h
 ·rename_i t n ps ah;exact amf hK ah h
 ·rename_i t x y ah;split at h
  ·rename_i r hr;cases hb:YM g r<;>rw[hb] at h
   ·exact WS hK ah h
   ·exact amo hK ah h
  ·exact WS hK ah h
 ·rename_i t x y ah;exact amn hK ah h
 ·rename_i t x lo hi mx ah;exact amB hK ah h
 ·rename_i t x y ok ah;exact ams hK ah h
 ·rename_i b t x y t' ah;exact amc hK ah h
 ·rename_i t x ah;split at h
  ·rename_i i u hi hx;cases h2:ζ i.tag 2<;>rw[h2] at h
   ·cases h
   ·exact amm hK ah hi (δ h2) hx h
  ·cases h
 ·rename_i t x ah;split at h
  ·rename_i i s hi hx;cases h3:ζ i.tag 3<;>rw[h3] at h
   ·cases h
   ·exact amz hK ah hi (δ h3) hx h
  ·cases h
 ·rename_i x ah;split at h
  ·rename_i i hx;split at h
   ·rename_i s pos hi;exact amx ah hx hi h
   ·cases h
  ·cases h
 ·rename_i t x y ah;split at h
  ·rename_i l hx;split at h
   ·rename_i T q hT hq;exact aml hK ah hx hT hq h
   ·exact WY hK ah h
  ·exact WY hK ah h
 ·rename_i t x y q ah;exact WU hK (.inl ah) h
 ·rename_i t x y q ah;exact WU hK (.inr ah) h
 ·rename_i c ah;split at h
  ·rename_i dr;split at h
   ·rename_i x ty gL gw;exact amp hK ah dr gL gw h
   ·cases h
  ·rename_i dr;split at h
   ·rename_i x y ty jb gL gw;cases hb:ζ ty jb<;>rw[hb] at h
    ·cases h
    ·have e:=δ hb;subst e;exact amb hK ah dr gL gw h
   ·cases h
  ·rename_i dr;split at h
   ·rename_i x y ty jb gL gw;exact amg hK ah dr gL gw h
   ·cases h
  ·exact zo hK (λc=>by rw[ah];simp) (by rw[ah];exact h)
 ·rename_i t t2 x ah;split at h
  ·rename_i r hx;exact WR hK ah hx h
  ·rename_i t' d hx;exact WR hK ah hx h
  ·exact zo hK (λc=>by rw[ah];simp) (by rw[ah];exact h)
 ·refine zo hK (λc hc=>?_) h;rw[hc] at h;simp[plain,nD,ou] at h
end
inductive AX|normal|exit (id:Nat)|ret|bU (u:Value)
structure s6 where
 fn:Func
 L:Nat->List Nat
structure mF (S:bL) where
 J:s6
 ps:List Nat
 lA:Code
 body:Code
 env:aW S
 jr:Option AX
structure AS (S:bL) where
 env:aW S
 h:AH S
 nb:Nat
 lp:Option (mF S)
 inr:Bool
 df:List (LV S)
 dt:List Nat
structure bH (S:bL) where
 id:Nat
 out: {R:Type}->AS S->(AX->AS S->Option R)->Option R
structure ff (S:bL) extends s6 where
 lc:List (bH S)
structure bO (S:bL) where
 f:Nat
 out: {R:Type}->List (aD S)->(Rs S->Option R)->Option R
structure iM (S:bL) where
 f:Nat
 out: {R:Type}->List (aD S)->AH S->(Rs S->AH S->List Nat->Option R)->Option R
structure vh (S:bL) where
 g:Nat
 out: {R:Type}->List (aD S)->Option Value->(Nat->Option (Ob S))->(Option Value->Up S->Option R)->Option R
structure ay (S:bL) where
 K:bG S
 C:List (bO S)
 H:List (iM S)
 D:List (vh S)
 T:Nat->Option (ff S)
 F:List Nat:=[]
def FY {S:bL}:List (bO S)->Nat->Option (bO S)
 |[],_=>none
 |c::r,f=>bif ζ c.f f then some c else FY r f
def zi {S:bL}:List (iM S)->Nat->Option (iM S)
 |[],_=>none
 |c::r,f=>bif ζ c.f f then some c else zi r f
def zg {S:bL}:List (vh S)->Nat->Option (vh S)
 |[],_=>none
 |c::r,f=>bif ζ c.g f then some c else zg r f
def kU {S:bL}:List (bH S)->Nat->Option (bH S)
 |[],_=>none
 |c::r,f=>bif ζ c.id f then some c else kU r f
section
variable {S:bL}
def gP:AH S->Up S->AH S
 |h,[]=>h
 |h,(i,X)::r=>gP (h.set i X) r
def keys:Up S->List Nat
 |[]=>[]
 |(i,_)::r=>i::keys r
def iQ (nb:Nat):List Nat->List Nat->List Nat
 |dt,[]=>dt
 |dt,i::r=>iQ nb (bif τ i nb&&!(fu i dt) then dt++[i] else dt) r
def AS.cX (st:AS S) (up:Up S) (nw:AH S):AS S:= { st with h:=gP st.h up++nw,dt:=iQ st.nb st.dt (keys up) }
def iN (g:Nat->Option (Ob S)) (up:Up S):Bool:=(keys up).all λi=>(g i).isSome
def kept (g:Nat->Option (Ob S)) (nb:Nat) (roots:List Nat):List Nat:=ξr nb++reach g nb 1000 roots []
def gc (sl:List Nat) (st:AS S):AS S:=
 let env:=iE st.env sl
 let kp:=kept (aH st.h) st.nb (xD (st.h.take st.nb)++(Rv env++xE st.df))
 match sK (λi=>posOf i kp 0) st.df with
 |some df=> { st with env:=xF (λi=>posOf i kp 0) env,h:=iF (λi=>posOf i kp 0) (kI (aH st.h) kp),df:=df }
 |none=>st
def qV (rs:List Nat) (ρ:Nat->Option Nat) (h:AH S):List Nat->Up S
 |[]=>[]
 |j::r=>(match rs[j]? with|some i=>(i,uL ρ (aH h j))::qV rs ρ h r|none=>qV rs ρ h r)
section
variable (G:ay S) {R:Type}
def E8 (c_:Nat->List (aD S)->AH S->(Rs S->AH S->List Nat->Option R)->Option R) (f:Nat) (ava:List (aD S)) (g:Nat->Option (Ob S)) (nx:Nat) (kp:Value->Up S->AH S->Option R) (k:AV S->Up S->AH S->Option R):Option R:=
 let rs:=reach g 0 1000 (qM ava) []
 match uJ (λi=>posOf i rs 0) ava with
 |none=>none
 |some lz=>c_ f lz (iF (λi=>posOf i rs 0) (kI (xq g) rs)) λr h' dt=>
  let ρ:=λj=>bif τ j rs.length then rs[j]? else some (nx+(j-rs.length))
  match r with
  | .ret a=>(match a.di ρ with|some a'=>k a' (qV rs ρ h' dt) (iF ρ (h'.drop rs.length))|none=>none)
  | .bU u=>bif u.oneCell' then kp u (qV rs ρ h' dt) (iF ρ (h'.drop rs.length)) else none
def tH (g:Nat->Option (Ob S)) (rs:List Nat):LV S->LV S
 | .own r=>bif fu r rs then(match oD G.K g (.own r) with|some (l,_)=>l|none=> .own r) else .own r
 |l=>l
def Xw (rs:List Nat) (cs:List (LV S)):Bool:=cs.any λl=>match l with| .own r=>fu r rs|_=>false
def oB (g:Nat->Option (Ob S)) (rs:List Nat):List Nat->Up S
 |[]=>[]
 |j::t=>match g j with
  |some (.box tb cs)=>bif Xw rs cs then(j,some (.box tb (cs.map (tH G g rs))))::oB g rs t else oB g rs t
  |_=>oB g rs t
def L9 (c_:Nat->List (aD S)->AH S->(Rs S->AH S->List Nat->Option R)->Option R) (f:Nat) (ava:List (aD S)) (g:Nat->Option (Ob S)) (nx:Nat) (kp:Value->Up S->AH S->Option R) (k:AV S->Up S->AH S->Option R):Option R:=
 match FY G.C f with
 |some cn=>(match oC G.K g ava with
  |some (lz,rs)=>cn.out lz λr=>(match r with
   | .ret a=>bif a.pure then(bif a.flat then k a [] [] else k a (bif fu f G.F then oB G g rs (ξr nx)++jN rs else jN rs) []) else none
   | .bU u=>bif u.oneCell' then kp u [] [] else none)
  |none=>E8 c_ f ava g nx kp k)
 |none=>E8 c_ f ava g nx kp k
def VA (env:aW S) (g:Nat->Option (Ob S)) (c:ζ8):Option (Nat×List (aD S)):=
 match c.callee with
 | .value x=>
  (match cQ G.K env x with
  |some (.bI i)=>(match g i with
   |some (.bI f fs cs)=>(match l7 G.K env c.args.toList with|some ava=>some (f,fs++ava++cs)|none=>none)
   |_=>none)
  |some (.v u)=>(match u with
   | .func (.func f) fs cs=>bif ζ fs.size 0&&ζ cs.size 0 then(match l7 G.K env c.args.toList with|some ava=>some (f,ava)|none=>none) else none
   |_=>none)
  |_=>none)
 |_=>none
def xu (c_:Nat->List (aD S)->AH S->(Rs S->AH S->List Nat->Option R)->Option R) (env:aW S) (g:Nat->Option (Ob S)) (nx:Nat) (o:Oper) (kp:Value->Up S->AH S->Option R) (k:AV S->Up S->AH S->Option R):Option R:=
 match o.op with
 | .call c=>
  (match c.callee with
  | .value _=>(match VA G env g c with|some (f,ava)=>L9 G c_ f ava g nx kp k|none=>none)
  |_=>Ba G.K env g nx k o.type o.op)
 | .panic _=>none
 |_=>Ba G.K env g nx k o.type o.op
def nT (N:Nat) (o:Oper) (st:AS S) (a:AV S) (k:AS S->Option R):Option R:=
 match o.dst with
 |some d=>bif τ d N then k { st with env:=(d,a)::st.env } else none
 |none=>k st
def vQ (N:Nat) (ops:Array Oper) (g:Option (Nat×Bool)) (st:AS S) (yes no:AS S->Option R):Option R:=
 match g with
 |none=>yes st
 |some (j,b)=>
  match ops[j]? with
  |some o=>
   match o.dst with
   |some d=>
    bif τ d N then
     match aW.get st.env d with
     |some (.s (.one (.v (.bool c))))=>
      bif c then(match b with|true=>yes|false=>no) { st with env:=(d,.s (.one (.v (.bool true))))::st.env }
      else(match b with|true=>no|false=>yes) { st with env:=(d,.s (.one (.v (.bool false))))::st.env }
     |some (.bD [])=>no st
     |_=>none
    else none
   |none=>none
  |none=>none
def SO (env:aW S) (c:ζ8):Bool:=
 match c.callee with
 | .value x=>(match cQ G.K env x with|some .eL=>true|_=>false)
 |_=>false
def LS (c_:Nat->List (aD S)->AH S->(Rs S->AH S->List Nat->Option R)->Option R) (jc:List (aD S)->AS S->(Bool->AS S->Option R)->Option R) (N:Nat) (o:Oper) (st:AS S) (kp:Value->AS S->Option R) (k:AS S->Option R):Option R:=
 match o.op with
 | .defer c=>(match c.callee with
  | .value x=>(match c.args.toList,cQ G.K st.env x,st.inr,st.lp,o.dst with
   |[],some (.bI i),false,none,none=>k { st with df:= .bI i::st.df }
   |_,_,_,_,_=>none)
  |_=>none)
 | .panic x=>(match cQ G.K st.env x with|some (.v (.iface t u))=>kp (.iface t u) st|_=>none)
 | .call c=>
  bif SO G st.env c then(match l7 G.K st.env c.args.toList with
   |some ava=>jc ava st λb bu=>nT N o bu (.s (.one (.v (.bool b)))) k
   |none=>none)
  else xu G c_ st.env (aH st.h) st.h.length o (λu up nw=>bif iN (aH st.h) up then kp u (st.cX up nw) else none) λa up nw=>bif iN (aH st.h) up then nT N o (st.cX up nw) a k else none
 |_=>xu G c_ st.env (aH st.h) st.h.length o (λu up nw=>bif iN (aH st.h) up then kp u (st.cX up nw) else none) λa up nw=>bif iN (aH st.h) up then nT N o (st.cX up nw) a k else none
def yD (c_:Nat->List (aD S)->AH S->(Rs S->AH S->List Nat->Option R)->Option R) (jc:List (aD S)->AS S->(Bool->AS S->Option R)->Option R) (N:Nat) (ops:Array Oper) (kp:Value->AS S->Option R):List Nat->AS S->(AS S->Option R)->Option R
 |[],st,k=>k st
 |i::l,st,k=>
  match ops[i]? with
  |some o=>vQ N ops o.guard st (λst=>LS G c_ jc N o st kp λst=>yD c_ jc N ops kp l st k) (λst=>nT N o st (.bD []) λst=>yD c_ jc N ops kp l st k)
  |none=>none
structure dw (S:bL) where
 rd:List Nat
 up:Up S
 nx:Nat
 nw:AH S
def eT (ops:Array Oper) (j:Nat):Option Nat:=match ops[j]? with|some o=>o.dst|none=>none
def W0 (ops:Array Oper) (g:Option (Nat×Bool)):List Nat:=match g with|some (j,_)=>(match eT ops j with|some d=>[d]|none=>[])|none=>[]
def jv (ops:Array Oper) (o:Oper):List Nat:=slotsOf o.op.operands.toList++W0 ops o.guard
def gR (ops:Array Oper) (i:Nat):List Nat:=match ops[i]? with|some o=>tg ops 12 (d_ o)|none=>[]
def Rm (env:aW S) (g:Nat->Option (Ob S)) (o:Oper):List Nat:=
 match o.op with
 | .load _ x=>(match cQ G.K env x with|some l=>l.refs|none=>[])
 | .store _ x _=>(match cQ G.K env x with|some l=>l.refs|none=>[])
 | .indexAddr _ x _=>(match cQ G.K env x with|some (.own r)=>[r]|_=>[])
 | .lookup _ x _ _=>(match cQ G.K env x with|some l=>l.refs|none=>[])
 | .mapUpdate _ x _ _=>(match cQ G.K env x with|some l=>l.refs|none=>[])
 | .insert _ x _ _=>(match cQ G.K env x with|some l=>l.refs|none=>[])
 | .next x _=>(match cQ G.K env x with|some l=>l.refs|none=>[])
 | .convert _ _ x=>(match cQ G.K env x with|some l=>l.refs|none=>[])
 | .buildSlice _ _ ps=>(match l7 G.K env (ps.toList.map (·.2)) with|some ava=>qM ava|none=>[])
 | .call c=>
  (match l7 G.K env c.args.toList with
  |some ava=>(match c.callee with
   | .value x=>(match cQ G.K env x with|some l=>l.refs++reach g 0 1000 (l.refs++qM ava) []|none=>[])
   |_=>qM ava)
  |none=>[])
 |_=>[]
def pd (rd:List Nat) (g:Nat->Option (Ob S)):Nat->Option (Ob S):=λi=>bif fu i rd then g i else none
def HR (l m:List Nat):Bool:=l.all λi=>!(fu i m)
def Qp (l:List Nat) (nx n:Nat):Bool:=l.all λi=>!(ξH nx i&&τ i (nx+n))
def rz (cl rd:List Nat) (up:Up S):List (dw S)->Nat->Bool
 |[],_=>true
 |r::rs,k=>(fu k cl||(HR rd (keys r.up)&&(Qp rd r.nx r.nw.length&&HR (keys up) r.rd)))&&rz cl rd up rs (k+1)
def idle (cl:List Nat):List (dw S)->Nat->Bool
 |[],_=>true
 |r::rs,k=>(fu k cl||(match r.up,r.nw with|[],[]=>true|_,_=>false))&&idle cl rs (k+1)
def RZ (ops:Array Oper) (i:Nat) (o:Oper) (s:Nat):Bool:=
 ((d_ o).any λj=>match eT ops j with|some d=>ζ d s|none=>false)||
 (ξr ops.size).all λk=>match eT ops k with|some d=>!(ζ d s)||(ζ k i||fu i (gR ops k))|none=>true
def aay (N:Nat) (ops:Array Oper) (i:Nat):Bool:=
 match ops[i]? with
 |some o=>mJ i (d_ o)&&(mJ i (gR ops i)&&((match o.dst with
  |some d=>τ d N&&(ξr ops.size).all λk=>ζ k i||(match eT ops k with|some e=>!(ζ d e)|none=>true)
  |none=>true)&&(jv ops o).all (RZ ops i o)))
 |none=>false
def Ir (N:Nat) (ops:Array Oper):Bool:=(ξr ops.size).all (aay N ops)
def Si (ops:Array Oper) (env:aW S):aW S:=env.filter λp=>(ξr ops.size).all λk=>match eT ops k with|some d=>!(ζ d p.1)|none=>true
def Sj (up:Up S) (nw:AH S):Bool:=match up,nw with|[],[]=>true|_,_=>false
def Fi (pn:Option (List Nat×Value×AS S)) (cl:List Nat):Bool:=match pn with|some (dead,_,_)=>dead.any λj=>fu j cl|none=>false
def apR (pn:Option (List Nat×Value×AS S)) (i:Nat):Option (List Nat×Value×AS S):=match pn with|some (dead,u,st)=>some (i::dead,u,st)|none=>none
def rn (c_:Nat->List (aD S)->AH S->(Rs S->AH S->List Nat->Option R)->Option R) (N:Nat) (ops:Array Oper) (kp:Value->AS S->Option R) (k:AS S->Option R):Nat->List (dw S)->Option (List Nat×Value×AS S)->AS S->Option R
 |0,_,pn,st=>(match pn with|none=>k st|some (_,u,dT)=>kp u dT)
 |c+1,acc,pn,st=>
  match ops[acc.length]? with
  |none=>none
  |some o=>
   bif Fi pn (gR ops acc.length) then rn c_ N ops kp k c (acc++[⟨[],[],st.h.length,[]⟩]) (apR pn acc.length) st
   else vQ N ops o.guard st
    (λst=>
     let rd:=Rm G (iE st.env (jv ops o)) (aH st.h) o
     bif rd.all λi=>τ i st.h.length then
      xu G c_ (iE st.env (jv ops o)) (pd rd (aH st.h)) st.h.length o
       (λu up nw=>match pn with
        |some _=>none
        |none=>bif iN (aH st.h) up&&((keys up).all (λi=>fu i rd)&&(rz (gR ops acc.length) rd up acc 0&&idle (gR ops acc.length) acc 0)) then
          rn c_ N ops kp k c (acc++[⟨rd,up,st.h.length,nw⟩]) (some ([acc.length],u,{ st.cX up nw with env:=Si ops st.env })) (st.cX up nw) else none)
       (λa up nw=>
        bif iN (aH st.h) up&&((keys up).all (λi=>fu i rd)&&(rz (gR ops acc.length) rd up acc 0&&(pn.isNone||Sj up nw))) then
         nT N o (st.cX up nw) a λbu=>rn c_ N ops kp k c (acc++[⟨rd,up,st.h.length,nw⟩]) pn bu
        else none)
     else none)
    (λst=>nT N o st (.bD []) λbu=>rn c_ N ops kp k c (acc++[⟨[],[],st.h.length,[]⟩]) pn bu)
def LW (c_:Nat->List (aD S)->AH S->(Rs S->AH S->List Nat->Option R)->Option R) (jc:List (aD S)->AS S->(Bool->AS S->Option R)->Option R) (N:Nat) (ops:Array Oper) (draw:Bool) (st:AS S) (kp:Value->AS S->Option R) (k:AS S->Option R):Option R:=
 match draw with
 |false=>yD G c_ jc N ops kp (ξr ops.size) st k
 |true=>bif Ir N ops then rn G c_ N ops kp k ops.size [] none st else none
def fG:Code->Nat
 | .region id _ _=>id+1
 | .seq x y=>(match fG x with|0=>fG y|n=>n)
 | .block _ x=>fG x
 | .loop x=>fG x
 | .scope x=>fG x
 |_=>0
def apS (I:ff S) (body:Code) (st:AS S):AS S:=gc (I.L (2000001+fG body)) st
def aaZ (I:ff S):Code->AS S->AS S
 | .loop x,st=>gc (I.L (fG x)) st
 |_,st=>st
def oh:Nat->List (aD S)->aW S
 |_,[]=>[]
 |i,a::l=>(i,.s a)::oh (i+1) l
def BL:List (aD S)->AV S
 |[a]=> .s a
 |ava=> .bD ava
def qO (K:bG S) (env:aW S) (h:AH S):List ResultVar->Option (List (aD S))
 |[]=>some []
 | .tmp t::r=>(match aW.get env t with|some (.s a)=>(match qO K env h r with|some ava=>some (a::ava)|none=>none)|_=>none)
 | .cell x t::r=>
  (match aW.get env x with
  |some (.s (.one (.bp b 0)))=>(match K.Θ.get t,aH h b with
   |some i,some (.box _ cs)=>bif ζ (fW cs) i.size then
     (match pC (TI.lh i) cs with
     |some a=>(match qO K env h r with|some ava=>some (a::ava)|none=>none)
     |none=>none)
    else none
   |_,_=>none)
  |_=>none)
def qX:List Nat->List (aD S)->Option (aW S)
 |[],[]=>some []
 |p::ps,a::ava=>(match qX ps ava with|some e=>some ((p,.s a)::e)|none=>none)
 |_,_=>none
def LV.kH:LV S->Bool
 | .eL=>false
 |_=>true
def sw:List (LV S)->Bool
 |[]=>true
 |l::r=>l.kH&&sw r
def uA:List (aD S)->Bool
 |[]=>true
 |a::r=>sw a.cells&&uA r
def AV.kH:AV S->Bool
 | .s a=>sw a.cells
 | .bD ava=>uA ava
def Ob.kH:Ob S->Bool
 | .box _ cs=>sw cs
 | .bI _ fs cs=>uA fs&&uA cs
 | .dH .. =>false
 |_=>true
def xo:aW S->Bool
 |[]=>true
 |(_,a)::r=>a.kH&&xo r
def na:AH S->Bool
 |[]=>true
 |some X::r=>X.kH&&na r
 |none::r=>na r
def Bv (fn:Func) (e:AX) (st:AS S) (k:Rs S->AS S->Option R):Option R:=
 match st.df with
 |[]=>(match e with
  | .exit _=>none
  | .bU u=>k (.bU u) st
  |_=>(match qO G.K st.env st.h fn.results.toList with|some ava=>k (.ret (BL ava)) st|none=>none))
 |[.bI i]=>(match aH st.h i with
  |some (.bI g [] cs)=>(match zg G.D g with
   |some dc=>
    let fin:Option Value->Up S->Option R:=λp up=>bif !(iN (aH st.h) up) then none else(match p with
     |some u=>k (.bU u) { st.cX up [] with df:=[] }
     |none=>(match qO G.K st.env (gP st.h up) fn.results.toList with|some ava=>k (.ret (BL ava)) { st.cX up [] with df:=[] }|none=>none))
    (match e with
    | .exit _=>none
    | .bU u=>dc.out cs (some u) (aH st.h) fin
    |_=>dc.out cs none (aH st.h) fin)
   |none=>none)
  |_=>none)
 |_=>none
def Bh (r:Rs S) (st:AS S) (k:Rs S->AH S->List Nat->Option R):Option R:=
 let kp:=kept (aH st.h) st.nb (xD (st.h.take st.nb)++(match r with| .ret a=>a.refs| .bU _=>[]))
 let h:=iF (λi=>posOf i kp 0) (kI (aH st.h) kp)
 let dt:=st.dt.filter λi=>τ i st.nb
 match r with
 | .ret a=>(match a.di (λi=>posOf i kp 0) with|some a'=>k (.ret a') h dt|none=>none)
 | .bU u=>k (.bU u) h dt
def xA (N:Nat):List Nat->Bool
 |[]=>true
 |p::r=>τ p N&&(!(fu p r)&&xA N r)
def qG:AH S->Bool
 |[]=>true
 |some X::r=>X.nt&&qG r
 |none::r=>qG r
def SN (run:ff S->Code->AS S->(AX->AS S->Option R)->Option R) (ava:List (aD S)) (st:AS S) (k:Bool->AS S->Option R):Option R:=
 match st.lp with
 |some lf=>(match lf.jr,qX lf.ps ava with
  |none,some pe=>bif xA lf.J.fn.ntmps lf.ps&&qG st.h then
   run ⟨lf.J,[]⟩ lf.lA ⟨pe++lf.env,st.h,st.h.length,none,true,[],[]⟩ λe st1=>(match e,st1.inr with
   | .normal,true=>bif qG st1.h then run ⟨lf.J,[]⟩ lf.body ⟨st1.env,st1.h,st1.h.length,none,true,[],[]⟩ λe st2=>(match e with
    | .normal=>k true { st with h:=st2.h,dt:=iQ st.nb st.dt (st1.dt++st2.dt) }
    | .bU _=>none
    | .ret=>k false { st with h:=st2.h,dt:=iQ st.nb st.dt (st1.dt++st2.dt),lp:=some { lf with jr:=some .ret } }
    | .exit id=>k false { st with h:=st2.h,dt:=iQ st.nb st.dt (st1.dt++st2.dt),lp:=some { lf with jr:=some (.exit id) } }) else none
   |_,_=>none) else none
  |_,_=>none)
 |none=>none
def Ih (st bu:AS S) (k:AX->AS S->Option R):Option R:=
 match bu.df,bu.lp with
 |[],some lf=>bif na bu.h then(match lf.jr with
  |none=>k .normal { st with h:=bu.h,dt:=iQ st.nb st.dt bu.dt }
  |some .ret=>k .ret { st with h:=bu.h,dt:=iQ st.nb st.dt bu.dt }
  |some (.exit id)=>k (.exit id) { st with h:=bu.h,dt:=iQ st.nb st.dt bu.dt }
  |_=>none) else none
 |_,_=>none
def Rd (run:ff S->Code->AS S->(AX->AS S->Option R)->Option R) (I:ff S) (fo:Operand) (ps:Array Nat) (lA body:Code) (st:AS S) (k:AX->AS S->Option R):Option R:=
 match st.lp,st.inr with
 |none,false=>(match eR G.K st.env fo with
  |some (.s (.one (.bI i)))=>(match aH st.h i with
   |some (.bI g [] cs)=>(match G.T g with
    |some J=>(match J.fn.body,J.fn.results.toList with
     |some cb,[]=>bif ξH (1+cs.length) J.fn.ntmps&&(xo st.env&&na st.h) then
       run J cb ⟨oh 0 (.one .eL::cs),st.h,st.h.length,some ⟨I.tos6,ps.toList,lA,body,st.env,none⟩,false,[],[]⟩ λe bu=>
        (match e with
        | .normal=>Ih st bu k
        | .ret=>Ih st bu k
        |_=>none)
      else none
     |_,_=>none)
    |none=>none)
   |_=>none)
  |_=>none)
 |_,_=>none
def L8 (run:ff S->Code->AS S->(AX->AS S->Option R)->Option R) (f:Nat) (ava:List (aD S)) (h:AH S) (k:Rs S->AH S->List Nat->Option R):Option R:=
 match zi G.H f with
 |some hc=>hc.out ava h k
 |none=>(match G.T f with
  |some J=>(match J.fn.body with
   |some c=>bif ξH ava.length J.fn.ntmps then run J c ⟨oh 0 ava,h,h.length,none,false,[],[]⟩ λe bu=>Bv G J.fn e bu λr BH=>Bh r BH k else none
   |none=>none)
  |none=>none)
def dm:Nat->ff S->Code->AS S->(AX->AS S->Option R)->Option R
 |0,_,_,_,_=>none
 |n+1,I,c,st,k=>
  let c_:Nat->List (aD S)->AH S->(Rs S->AH S->List Nat->Option R)->Option R:=L8 G (dm n)
  let jc:List (aD S)->AS S->(Bool->AS S->Option R)->Option R:=SN (dm n)
  match c with
  | .skip=>k .normal st
  | .label _=>k .normal st
  | .scope x=>bif st.inr then none else dm n I x st k
  | .region _ ops draw=>LW G c_ jc I.fn.ntmps ops draw st (λu st=>k (.bU u) st) λst=>k .normal st
  | .seq x y=>dm n I x st λe st=>(match e with| .normal=>dm n I y st k|e=>k e st)
  | .cond o x y=>
   (match eR G.K st.env o with
   |some (.s (.one (.v (.bool b))))=>bif b then dm n I x st k else dm n I y st k
   |_=>none)
  | .block id x=>dm n I x (aaZ I x st) λe st=>(match e with| .exit uq=>bif ζ uq id then k .normal (gc (I.L (1000001+id)) st) else k (.exit uq) st|e=>k e st)
  | .loop x=>(match kU I.lc (fG x) with
   |some lc=>lc.out st k
   |none=>dm n I x st λe bu=>(match e with| .normal=>dm n I (.loop x) (gc (I.L (fG x)) bu) k|e=>k e bu))
  | .rangeFunc fo ps lA body=>Rd G (dm n) I fo ps lA body (apS I body st) k
  | .exit id=>k (.exit id) st
  | .ret=>k .ret (gc (I.L 1000000) st)
  |_=>none
def kQ (n f:Nat) (ava:List (aD S)) (h:AH S) (k:Rs S->AH S->List Nat->Option R):Option R:=
 match G.T f with
 |some J=>(match J.fn.body with
  |some c=>bif ξH ava.length J.fn.ntmps then dm G n J c ⟨oh 0 ava,h,h.length,none,false,[],[]⟩ λe bu=>Bv G J.fn e bu λr BH=>Bh r BH k else none
  |none=>none)
 |none=>none
end
end
section
variable {S:bL} {A A':Pl} {O:List Nat} {w:World} {ρ:Nat->Option Nat}
structure kP (ρ:Nat->Option Nat) (A A':Pl):Prop where
 pl: ∀i j p,ρ i=some j->A.pl i=some p->A'.pl j=some p
 ls:A'.ls=A.ls
theorem LV.nj (h:kP ρ A A') {l l':LV S} {xs:List Value} (hr:l.di ρ=some l') (hl:l.rel A O w xs):l'.rel A' O w xs:=by
 cases l with
 |v u=>cases hr;exact hl
 |aU t d=>cases hr;exact hl
 |ptr t d q=>cases hr;exact hl
 |bp i q=>simp only[LV.di] at hr;split at hr<;>cases hr;rename_i j hj;obtain⟨m,U,h2⟩:=hl;exact⟨m,h.pl _ _ _ hj U,h2⟩
 |jg i q n y=>simp only[LV.di] at hr;split at hr<;>cases hr;rename_i j hj;obtain⟨m,U,h2⟩:=hl;exact⟨m,h.pl _ _ _ hj U,h2⟩
 |own i=>simp only[LV.di] at hr;split at hr<;>cases hr;rename_i j hj;obtain⟨m,U,h2⟩:=hl;exact⟨m,h.pl _ _ _ hj U,h2⟩
 |fl e i y q=>simp only[LV.di] at hr;split at hr<;>cases hr;rename_i j hj;obtain⟨b,n,c,U,h2⟩:=hl;exact⟨b,n,c,h.pl _ _ _ hj U,h2⟩
 |jZ i q n=>simp only[LV.di] at hr;split at hr<;>cases hr;rename_i j hj;obtain⟨m,U,h2⟩:=hl;exact⟨m,h.pl _ _ _ hj U,h2⟩
 |mp i=>simp only[LV.di] at hr;split at hr<;>cases hr;rename_i j hj;obtain⟨m,U,h2⟩:=hl;exact⟨m,h.pl _ _ _ hj U,h2⟩
 |bI i=>simp only[LV.di] at hr;split at hr<;>cases hr;rename_i j hj;obtain⟨f,u,c,U,h2⟩:=hl;exact⟨f,u,c,h.pl _ _ _ hj U,h2⟩
 |eL=>cases hr;obtain⟨m,U,h2⟩:=hl;exact⟨m,h.ls.trans U,h2⟩
 |ep i=>simp only[LV.di] at hr;split at hr<;>cases hr;rename_i j hj;obtain⟨m,U,h2⟩:=hl;exact⟨m,h.pl _ _ _ hj U,h2⟩
 |cd k n gs=>cases hr;exact hl
 |dW n bs=>cases hr;exact hl
theorem Rz (h:kP ρ A A'): ∀ {ls cZ:List (LV S)} {xs:List Value},sK ρ ls=some cZ->bV A O w ls xs->bV A' O w cZ xs
 |[],_,_,hr,hl=>by cases hr;exact hl
 |l::r,_,_,hr,⟨y,ys,e,U,h2⟩=>by
  simp only[sK] at hr;split at hr
  ·rename_i x hx;split at hr
   ·rename_i z hz;cases hr;exact⟨y,ys,e,LV.nj h hx U,Rz h hz h2⟩
   ·cases hr
  ·cases hr
theorem aD.nj (h:kP ρ A A') {a a':aD S} {x:Value} (hr:a.di ρ=some a') (hl:a.rel A O w x):a'.rel A' O w x:=by
 cases a with
 |one l=>
  simp only[aD.di] at hr;split at hr<;>cases hr;rename_i y hy;exact LV.nj h hy hl
 |agg ls=>
  simp only[aD.di] at hr;split at hr<;>cases hr;rename_i y hy;obtain⟨xs,U,h2⟩:=hl;exact⟨xs,U,Rz h hy h2⟩
theorem Br (h:kP ρ A A'): ∀ {ls cZ:List (aD S)} {xs:List Value},uJ ρ ls=some cZ->dO A O w ls xs->dO A' O w cZ xs
 |[],_,_,hr,hl=>by cases hr;exact hl
 |l::r,_,_,hr,⟨y,ys,e,U,h2⟩=>by
  simp only[uJ] at hr;split at hr
  ·rename_i x hx;split at hr
   ·rename_i z hz;cases hr;exact⟨y,ys,e,aD.nj h hx U,Br h hz h2⟩
   ·cases hr
  ·cases hr
theorem AV.nj (h:kP ρ A A') {a a':AV S} {x:Value} (hr:a.di ρ=some a') (hl:a.rel A O w x):a'.rel A' O w x:=by
 cases a with
 |s l=>
  simp only[AV.di] at hr;split at hr<;>cases hr;rename_i y hy;exact aD.nj h hy hl
 |bD ls=>
  simp only[AV.di] at hr;split at hr<;>cases hr;rename_i y hy;obtain⟨xs,U,h2⟩:=hl;exact⟨xs,U,Br h hy h2⟩
theorem Ob.nj (h:kP ρ A A') {X X':Ob S} {p:Value} (hr:X.di ρ=some X') (hl:fC A O w X p):fC A' O w X' p:=by
 cases X with
 |box t cs=>
  simp only[Ob.di] at hr;split at hr<;>cases hr;rename_i y hy;obtain⟨b,vs,U,h2,h3⟩:=hl;exact⟨b,vs,U,h2,Rz h hy h3⟩
 |row e xs=>cases hr;exact hl
 |map kk kv m=>cases hr;exact hl
 |bI f fs cs=>
  simp only[Ob.di] at hr;split at hr<;>cases hr;rename_i y y' hy iU;obtain⟨us,vs,U,h2,h3⟩:=hl;exact⟨us,vs,U,Br h hy h2,Br h iU h3⟩
 |ep s pos=>cases hr;exact hl
 |dH t e cm=>cases hr;exact hl
theorem Ob.uM {X X':Ob S} {w:World} {p:Value} {b:Nat} (hr:X.di ρ=some X') (h:dJ w X' p b):dJ w X p b:=by
 refine h.imp id λhi=>?_;cases X with
 |dH t e cm=>cases hr;exact hi
 |box t cs=>simp only[Ob.di] at hr;split at hr<;>cases hr;cases hi
 |bI f fs cs=>simp only[Ob.di] at hr;split at hr<;>cases hr;cases hi
 |row e xs=>cases hr;cases hi
 |map kk kv m=>cases hr;cases hi
 |ep s pos=>cases hr;cases hi
theorem Ob.It {X X':Ob S} (hr:X.di ρ=some X'):X'.nt=X.nt:=by
 cases X with
 |box t cs=>simp only[Ob.di] at hr;split at hr<;>cases hr;rfl
 |bI f fs cs=>simp only[Ob.di] at hr;split at hr<;>cases hr;rfl
 |_=>cases hr;rfl
theorem aaq {g:Nat->Option (Ob S)} {i:Nat} {X:Ob S} (h:xq g i=some X):g i=some X/\X.nt=true:=by
 unfold xq at h;split at h
 ·rename_i Y hY;cases hn:Y.nt<;>rw[hn] at h
  ·cases h
  ·cases h;exact⟨hY,hn⟩
 ·cases h
theorem get_mem {l:aW S} {s:Nat} {a:AV S}:aW.get l s=some a->(s,a)∈l:=by
 induction l with
 |nil=>intro h;cases h
 |cons p l ih=>
  intro h;obtain⟨t,b⟩:=p;simp only[aW.get] at h;cases hb:ζ t s with
  |true=>
   rw[hb] at h;simp only[cond_true,ι] at h;have:=δ hb;subst this;subst h;exact ν
  |false=>rw[hb] at h;exact μ _ (ih h)
theorem Hz {env:aW S} {s:Nat} {a:AV S}: ∀ {l:List Nat},(s,a)∈iE env l->s∈l/\aW.get env s=some a
 |[],h=>by cases h
 |t::r,h=>by
  simp only[iE] at h;split at h
  ·rename_i b hb;rcases υ.1 h with e|h
   ·cases e;exact⟨ν,hb⟩
   ·obtain⟨U,h2⟩:=Hz h;exact⟨μ _ U,h2⟩
  ·obtain⟨U,h2⟩:=Hz h;exact⟨μ _ U,h2⟩
theorem Rx {s:Nat} {a':AV S}: ∀ {l:aW S},(s,a')∈xF ρ l-> ∃a,(s,a)∈l/\a.di ρ=some a'
 |[],h=>by cases h
 |(t,b)::r,h=>by
  simp only[xF] at h;split at h
  ·rename_i x hx;rcases υ.1 h with e|h
   ·cases e;exact⟨b,ν,hx⟩
   ·obtain⟨a,U,h2⟩:=Rx h;exact⟨a,μ _ U,h2⟩
  ·obtain⟨a,U,h2⟩:=Rx h;exact⟨a,μ _ U,h2⟩
theorem arl (h:kP ρ A A') {a:Act} {env:aW S} {sl:List Nat} (he:dV A O w env a):dV A' O w (xF ρ (iE env sl)) a:=λs av hs=>by
 obtain⟨b,U,h2⟩:=Rx (get_mem hs);exact AV.nj h h2 (he s b (Hz U).2)
theorem cv.di {g g':Nat->Option (Ob S)} {idx:Nat->Option Nat} (h:cv A O w g) (hA: ∀j,A'.pl j=(idx j).bind A.pl) (fm:A'.ls=A.ls) (inj: ∀i j j',idx j=some i->idx j'=some i->j=j') (hρ: ∀i j,ρ i=some j->idx j=some i)
  (hg: ∀j X',g' j=some X'-> ∃i X,idx j=some i/\g i=some X/\X.di ρ=some X'):cv A' O w g':=by
 have hR:kP ρ A A':=⟨λi j p hi hp=>by rw[hA,hρ i j hi];exact hp,fm⟩;have back: ∀j X' p,g' j=some X'->A'.pl j=some p-> ∃i X,idx j=some i/\g i=some X/\A.pl i=some p/\X.di ρ=some X':=by
  intro j X' p hj hp;obtain⟨i,X,U,h2,h3⟩:=hg j X' hj;rw[hA,U] at hp;exact⟨i,X,U,h2,hp,h3⟩
 constructor
 ·intro j X' hj;obtain⟨i,X,U,h2,h3⟩:=hg j X' hj;obtain⟨p,q1,q2,q3⟩:=h.al i X h2;exact⟨p,by rw[hA,U];exact q1,Ob.nj hR h3 q2,q3⟩
 ·intro j j' X Y p q b aN U h2 hp hq;obtain⟨i,X',a1,a2,a3,a4⟩:=back j X p U hp;obtain⟨i',Y',b1,b2,b3,b4⟩:=back j' Y q h2 hq;exact λu v=>h.lE i i' X' Y' p q b (λe=>aN (by subst e;exact inj i j j' a1 b1)) a2 b2 a3 b3 (Ob.uM a4 u) (Ob.uM b4 v)
theorem lR {i:Nat}: ∀ {l:List Nat},fu i l=true↔i∈l
 |[]=>by simp[fu]
 |j::r=>by
  simp only[fu,υ];cases hb:ζ i j with
  |true=>have:=δ hb;simp[this]
  |false=>
   have aN:i≠j:=λe=>by subst e;simp at hb
   simp[aN,lR]
theorem aaX {i j:Nat}: ∀ {l:List Nat} {n:Nat},posOf i l n=some j->n<=j/\l[j-n]? =some i
 |[],n,h=>by cases h
 |t::r,n,h=>by
  simp only[posOf] at h;cases hb:ζ i t with
  |true=>
   rw[hb] at h;have:=δ hb;simp only[cond_true,ι] at h;subst h;subst this;simp
  |false=>
   rw[hb] at h;obtain⟨U,h2⟩:=aaX (n:=n+1) h;refine⟨by omega,?_⟩;rw[show j-n=(j-(n+1))+1 by omega];simpa using h2
theorem xz {i j:Nat} {l:List Nat} (h:posOf i l 0=some j):l[j]? =some i:=by simpa using(aaX h).2
structure Reach (g:Nat->Option (Ob S)) (nb:Nat) (l:List Nat):Prop where
 nd:l.Nodup
 ge: ∀i∈l,nb<=i
 al: ∀i∈l,∃X,g i=some X
theorem uF {g:Nat->Option (Ob S)} {nb:Nat}: ∀ {n:Nat} {t seen:List Nat},Reach g nb seen->Reach g nb (reach g nb n t seen)
 |0,t,seen,h=>h
 |n+1,[],seen,h=>h
 |n+1,i::t,seen,h=>by
  simp only[reach];cases hb:τ i nb with
  |true=>exact uF h
  |false=>
   simp only[cond_false];cases hm:fu i seen with
   |true=>exact uF h
   |false=>
    simp only[cond_false];split
    ·rename_i X hX;have hni:i∉seen:=λcY=>by rw[lR.2 cY] at hm;cases hm
     have dp:nb<=i:=by
      rcases ψ i nb with U|U
      ·rw[ο.mpr U] at hb;cases hb
      ·exact U
     refine uF ⟨?_,?_,?_⟩
     ·rw[ζo];exact⟨h.nd,by simp,λa ha b fH=>by simp at fH;subst fH;exact λe=>hni (e▸ha)⟩
     ·intro j hj;rcases ω.1 hj with hj|hj
      ·exact h.ge j hj
      ·simp at hj;subst hj;exact dp
     ·intro j hj;rcases ω.1 hj with hj|hj
      ·exact h.al j hj
      ·simp at hj;subst hj;exact⟨X,hX⟩
    ·exact uF h
theorem Ru {g:Nat->Option (Ob S)} {nb:Nat}:Reach g nb []:=⟨List.nodup_nil,(λi h=>nomatch h),(λi h=>nomatch h)⟩
theorem HP {l:List Nat} (h:l.Nodup) {i j j':Nat} (U:l[j]? =some i) (h2:l[j']? =some i):j=j':=by
 obtain⟨a1,a2⟩:=ε.1 U;obtain⟨b1,b2⟩:=ε.1 h2;have hp:=List.pairwise_iff_getElem.1 h;rcases ξd j j' with aB|he|Ah
 ·exact absurd (a2.trans b2.symm) (hp j j' a1 b1 aB)
 ·exact he
 ·exact absurd (b2.trans a2.symm) (hp j' j b1 a1 Ah)
theorem YT {g:Nat->Option (Ob S)} {nb:Nat} {roots:List Nat}:(kept g nb roots).Nodup:=by
 have:=uF (g:=g) (nb:=nb) (n:=1000) (t:=roots) Ru;unfold kept;rw[ζo];exact⟨List.nodup_range,this.nd,λa ha b hb e=>by have:=this.ge b hb;simp at ha;omega⟩
theorem YS {g:Nat->Option (Ob S)} {nb i:Nat} {roots:List Nat} (h:i<nb):(kept g nb roots)[i]? =some i:=by
 unfold kept;rw[φ (by simpa using h)];simp[h]
theorem YQ {g:Nat->Option (Ob S)} {nb i j:Nat} {roots:List Nat} (h:nb<=j) (hj:(kept g nb roots)[j]? =some i):nb<=i:=by
 unfold kept at hj;rw[ξb (by simpa using h)] at hj;exact(uF (g:=g) (nb:=nb) (n:=1000) (t:=roots) Ru).ge i (ξL hj)
theorem YR {g:Nat->Option (Ob S)} {nb:Nat} {roots:List Nat}:nb<=(kept g nb roots).length:=by unfold kept;simp
theorem aaV {g:Nat->Option (Ob S)}: ∀ {l:List Nat} {j:Nat},(kI g l)[j]? =(l[j]?).map g
 |[],j=>by simp[kI]
 |i::r,0=>by simp[kI]
 |i::r,j+1=>by simp[kI,aaV]
theorem Ry: ∀ {h:AH S} {j:Nat},(iF ρ h)[j]? =(h[j]?).map (uL ρ)
 |[],j=>by simp[iF]
 |i::r,0=>by simp[iF]
 |i::r,j+1=>by simp[iF,Ry]
theorem uK: ∀ {h:AH S},(iF ρ h).length=h.length
 |[]=>rfl
 |i::r=>by simp[iF,uK]
theorem xx {g:Nat->Option (Ob S)}: ∀ {l:List Nat},(kI g l).length=l.length
 |[]=>rfl
 |i::r=>by simp[kI,xx]
theorem oU {h:AH S} {i:Nat} {X:Ob S}:aH h i=some X↔h[i]? =some (some X):=by
 unfold aH;split
 ·rename_i Y hY;rw[hY];simp
 ·rename_i hn;constructor
  ·intro h;cases h
  ·intro h;exact absurd h (hn X)
theorem Bs {X:Option (Ob S)} {X':Ob S} (h:uL ρ X=some X'): ∃Y,X=some Y/\Y.di ρ=some X':=by
 cases X with
 |none=>cases h
 |some Y=>exact⟨Y,rfl,h⟩
theorem qK {g:Nat->Option (Ob S)} {l:List Nat} {j:Nat} {X':Ob S} (h:aH (iF ρ (kI g l)) j=some X'): ∃i X,l[j]? =some i/\g i=some X/\X.di ρ=some X':=by
 rw[oU,Ry,aaV] at h;cases hl:l[j]? with
 |none=>rw[hl] at h;cases h
 |some i=>
  rw[hl] at h;simp only[ξx,ι] at h;obtain⟨Y,U,h2⟩:=Bs h;exact⟨i,Y,rfl,U,h2⟩
theorem jo {h:AH S} {i:Nat} {X:Ob S} (hi:aH h i=some X):i<h.length:=(ε.1 (oU.1 hi)).1
end
section
variable {S:bL} {K:bG S} {P:Program} {R:Type} {z:R}
def gQ (P:Program) (f:Nat):Prop:= ∀(vs:Array Value) (u:World),(callFunc f vs).run P u= .ok (.enter f vs) u
def oe (A:Pl) (O:List Nat) (w:World):Rs S->Ending->Prop
 | .ret a,e=> ∃v,e= .returned v/\a.rel A O w v
 | .bU u,e=>e= .panicked [{ v:=u,recovered:=false }]
structure Jp (A:Pl) (O:List Nat) (w:World) (n:Nat) (h':AH S) (dt:List Nat) (A':Pl) (O':List Nat) (w':World):Prop where
 rel:cv A' O' w' (aH h')
 ob:OB O' w'
 tr:Tr O w O' w'
 pl: ∀i,i<n->A'.pl i=A.pl i
 lt: ∀j∈dt,j<n
 ls:A'.ls=A.ls
 len:n<=h'.length
 free: ∀i,h'.length<=i->A'.pl i=none
 cl: ∀b,b∈O->(∀i∈dt,∀p,A.pl i=some p->cG p≠some b)->w'.heap[b]? =w.heap[b]? /\b∈O'/\ ∀i X p,n<=i->aH h' i=some X->A'.pl i=some p-> ¬dJ w' X p b
 nt: ∀i X,i<n->aH h' i=some X->X.nt=true
def ic (K:bG S) (P:Program) (f:Nat) (ava:List (aD S)) (h:AH S) (r:Rs S) (h':AH S) (dt:List Nat):Prop:=
 gQ P f/\ ∀(A:Pl) (O:List Nat) (w:World) (xs:List Value),dO A O w ava xs->cv A O w (aH h)->OB O w->dR K O w->(∀i,h.length<=i->A.pl i=none)->(∀i X,aH h i=some X->X.nt=true)->
  Calls P f xs.toArray w (λe w'=> ∃A' O',oe A' O' w' r e/\Jp A O w h.length h' dt A' O' w')
def qY (K:bG S) (P:Program) (c_:Nat->List (aD S)->AH S->(Rs S->AH S->List Nat->Option R)->Option R):Prop:=
 ∀(f:Nat) (ava:List (aD S)) (h:AH S) (k:Rs S->AH S->List Nat->Option R) (z:R),c_ f ava h k=some z-> ∃r h' dt,k r h' dt=some z/\ic K P f ava h r h' dt
def SY (K:bG S) (P:Program) (f:Nat) (ava:List (aD S)) (g:Nat->Option (Ob S)) (nx:Nat) (r:Rs S) (up:Up S) (nw:AH S):Prop:=
 gQ P f/\ ∀(A:Pl) (O:List Nat) (w:World) (xs:List Value),dO A O w ava xs->cv A O w g->OB O w->dR K O w->(∀j,j<nw.length->A.pl (nx+j)=none)->
  Calls P f xs.toArray w (λe w'=> ∃A' O',oe A' O' w' r e/\cW A O w g (up++news nx nw) A' O' w')
def qP (kp:Value->Up S->AH S->Option R) (k:AV S->Up S->AH S->Option R):Rs S->Up S->AH S->Option R
 | .ret a,up,nw=>k a up nw
 | .bU u,up,nw=>bif u.oneCell' then kp u up nw else none
theorem oS {i n:Nat} {X:Option (Ob S)}: ∀ {nw:AH S},(i,X)∈news n nw↔ ∃j,nw[j]? =some X/\i=n+j:=by
 intro nw
 induction nw generalizing n with
 |nil=>simp[news]
 |cons Y r ih=>
  simp only[news,υ,ξs,ih];constructor
  ·rintro (⟨rfl,rfl⟩|⟨j,U,rfl⟩)
   ·exact⟨0,rfl,rfl⟩
   ·exact⟨j+1,by simpa using U,by omega⟩
  ·rintro ⟨j,U,rfl⟩;cases j with
   |zero=>simp at U;exact .inl ⟨rfl,U.symm⟩
   |succ j=>exact .inr ⟨j,by simpa using U,by omega⟩
theorem Sk {rs:List Nat} {ρ:Nat->Option Nat} {h:AH S} {i:Nat} {X:Option (Ob S)}: ∀ {dt:List Nat},(i,X)∈qV rs ρ h dt↔ ∃j∈dt,rs[j]? =some i/\X=uL ρ (aH h j):=by
 intro dt
 induction dt with
 |nil=>simp[qV]
 |cons j r ih=>
  simp only[qV];split
  ·rename_i i' eh;simp only[υ,ξs,ih,exists_eq_or_imp,eh,ι];constructor
   ·rintro (⟨rfl,rfl⟩|h)
    ·exact .inl ⟨rfl,rfl⟩
    ·exact .inr h
   ·rintro (⟨rfl,rfl⟩|h)
    ·exact .inl ⟨rfl,rfl⟩
    ·exact .inr h
  ·rename_i hn;rw[ih];constructor
   ·rintro ⟨j',U,h2⟩;exact⟨j',μ _ U,h2⟩
   ·rintro ⟨j',U,h2⟩;rcases υ.1 U with rfl|U
    ·rw[hn] at h2;cases h2.1
    ·exact⟨j',U,h2⟩
theorem arn {ρ:Nat->Option Nat} {h:AH S} {m j:Nat} {X:Option (Ob S)} (hj:(iF ρ (h.drop m))[j]? =some X):m+j<h.length/\X=uL ρ (aH h (m+j)):=by
 rw[Ry,ζk] at hj;cases hq:h[m+j]? with
 |none=>rw[hq] at hj;cases hj
 |some Y=>
  rw[hq] at hj;simp only[ξx,ι] at hj;refine⟨(ε.1 hq).1,?_⟩;subst hj;unfold aH;rw[hq];cases Y<;>rfl
theorem Vy {c_:Nat->List (aD S)->AH S->(Rs S->AH S->List Nat->Option R)->Option R} (dr:qY K P c_) {f nx:Nat} {ava:List (aD S)} {g:Nat->Option (Ob S)} {kp:Value->Up S->AH S->Option R} {k:AV S->Up S->AH S->Option R}
  (h:E8 c_ f ava g nx kp k=some z): ∃r up nw,qP kp k r up nw=some z/\SY K P f ava g nx r up nw:=by
 unfold E8 at h;obtain⟨rs,wQ⟩: ∃rs,rs=reach g 0 1000 (qM ava) []:=⟨_,rfl⟩;have hR:Reach g 0 rs:=by rw[wQ];exact uF Ru
 simp only[<-wQ] at h;split at h
 ·cases h
 rename_i lz has;obtain⟨r,h',dt,hk,gY,hS⟩:=dr _ _ _ _ _ h;obtain⟨nq,Ho⟩: ∃nq:Nat->Option Nat,nq=λj=>bif τ j rs.length then rs[j]? else some (nx+(j-rs.length)):=⟨_,rfl⟩;simp only[<-Ho] at hk;obtain⟨r',mn,m5⟩: ∃r',qP kp k r' (qV rs nq h' dt) (iF nq (h'.drop rs.length))=some z/\(∀(A1 A':Pl) (O':List Nat) (w':World) (e:Ending),kP nq A1 A'->oe A1 O' w' r e->oe A' O' w' r' e):=by
  cases r with
  |ret a=>
   simp only at hk;split at hk
   ·rename_i a' ee;exact⟨.ret a',hk,λA1 A' O' w' e hR ⟨v,U,h2⟩=>⟨v,U,AV.nj hR ee h2⟩⟩
   ·cases hk
  |bU u=>exact⟨.bU u,hk,λA1 A' O' w' e hR h=>h⟩
 refine⟨r',_,_,mn,gY,λA O w xs ha hg hO hG bZ=>?_⟩;obtain⟨Ac,pS⟩: ∃Ac:Pl,Ac=⟨λj=>(rs[j]?).bind A.pl,A.ls⟩:=⟨_,rfl⟩;have hRc:kP (λi=>posOf i rs 0) A Ac:=⟨λi j p hi hp=>by
  have:=xz hi;rw[pS];simp only[this,ξn];exact hp,by rw[pS]⟩
 have hlen:(iF (λi=>posOf i rs 0) (kI (xq g) rs)).length=rs.length:=by rw[uK,xx]
 have iA: ∀j X',aH (iF (λi=>posOf i rs 0) (kI (xq g) rs)) j=some X'->X'.nt=true:=λj X' hj=>by
  obtain⟨i,X,_,h2,h3⟩:=qK hj;rw[Ob.It h3];exact(aaq h2).2
 have hgc:cv Ac O w (aH (iF (λi=>posOf i rs 0) (kI (xq g) rs))):=
  hg.di (idx:=λj=>rs[j]?) (ρ:=λi=>posOf i rs 0) (λj=>by rw[pS]) (by rw[pS]) (λi j j' U h2=>HP hR.nd U h2) (λi j hi=>xz hi) (λj X' hj=>by
   obtain⟨i,X,U,h2,h3⟩:=qK hj;exact⟨i,X,U,(aaq h2).1,h3⟩)
 refine(hS Ac O w xs (Br hRc has ha) hgc hO hG (λi hi=>by rw[hlen] at hi;rw[pS];simp[ξg hi]) iA).mono ?_;rintro e w' ⟨A1,O1,hr,hp⟩;rw[hlen] at hp;obtain⟨nw,O6⟩: ∃nw,nw=iF nq (h'.drop rs.length):=⟨_,rfl⟩;rw[<-O6] at bZ ⊢;have auU:nw.length=h'.length-rs.length:=by rw[O6,uK,ξm]
 obtain⟨A',dF⟩: ∃A':Pl,A'=⟨λi=>match A.pl i with|some p=>some p|none=>bif ξH nx i&&τ i (nx+nw.length) then A1.pl (rs.length+(i-nx)) else none,A.ls⟩:=⟨_,rfl⟩;have hold: ∀i p,A.pl i=some p->A'.pl i=some p:=λi p hp=>by rw[dF];simp[hp]
 have amP: ∀j,j<rs.length->A1.pl j=(rs[j]?).bind A.pl:=λj hj=>by rw[hp.pl j hj,pS]
 have fj: ∀c p,rs.length<=c->A1.pl c=some p->A'.pl (nx+(c-rs.length))=some p:=by
  intro c p hc mr;have aB:c<h'.length:=by
   rcases ψ c h'.length with U|U
   ·exact U
   ·rw[hp.free c U] at mr;cases mr
  have hf:=bZ (c-rs.length) (by omega);rw[dF];simp only[hf];rw[ζD.mpr (ξI _ _),ο.mpr (show nx+(c-rs.length)<nx+nw.length by omega)];simp only[Bool.and_self,cond_true];rw[show rs.length+(nx+(c-rs.length)-nx)=c by omega];exact mr
 have zE:kP nq A1 A':=⟨λc i p hc mr=>by
  rw[Ho] at hc;simp only at hc;cases hb:τ c rs.length with
  |true=>
   rw[hb] at hc;simp only[cond_true] at hc;rw[amP c (ο.mp hb),hc] at mr;exact hold i p mr
  |false=>
   rw[hb] at hc;simp only[cond_false,ι] at hc;subst hc;refine fj c p ?_ mr;rcases ψ c rs.length with U|U
   ·rw[ο.mpr U] at hb;cases hb
   ·exact U,by rw[dF];rw[hp.ls,pS]⟩
 have e_: ∀i X,(i,X)∈qV rs nq h' dt++news nx nw-> ∃c,nq c=some i/\X=uL nq (aH h' c)/\((c<rs.length/\c∈dt/\rs[c]? =some i)\/(rs.length<=c/\i=nx+(c-rs.length)/\c-rs.length<nw.length)):=by
  intro i X hi;rcases ω.1 hi with hi|hi
  ·obtain⟨c,U,h2,h3⟩:=Sk.1 hi;have aB:=(ε.1 h2).1;exact⟨c,by rw[Ho];simp only[ο.mpr aB,cond_true];exact h2,h3,.inl ⟨aB,U,h2⟩⟩
  ·obtain⟨j,U,rfl⟩:=oS.1 hi;have iy:=(ε.1 U).1;rw[O6] at U;obtain⟨h2,h3⟩:=arn U;refine⟨rs.length+j,?_,h3,.inr ⟨by omega,by omega,by omega⟩⟩;rw[Ho];have:τ (rs.length+j) rs.length=false:=by
    cases hb:τ (rs.length+j) rs.length with
    |false=>rfl
    |true=>have:=ο.mp hb;omega
   simp only[this,cond_false]
   congr 1;omega
 have live: ∀c i:Nat,rs[c]? =some i-> ∃Z p,g i=some Z/\A.pl i=some p:=by
  intro c i hc;obtain⟨Z,hZ⟩:=hR.al i (ξL hc);obtain⟨p,hp,_⟩:=hg.al i Z hZ;exact⟨Z,p,hZ,hp⟩
 have inj: ∀c c' i:Nat,nq c=some i->nq c'=some i->((c<rs.length/\rs[c]? =some i)\/(rs.length<=c/\i=nx+(c-rs.length)/\c-rs.length<nw.length))->((c'<rs.length/\rs[c']? =some i)\/(rs.length<=c'/\i=nx+(c'-rs.length)/\c'-rs.length<nw.length))->c=c':=by
  rintro c c' i _ _ (⟨U,h2⟩|⟨U,h2,h3⟩) (⟨k1,k2⟩|⟨k1,k2,k3⟩)
  ·exact HP hR.nd h2 k2
  ·obtain⟨Z,p,_,hp⟩:=live c i h2;rw[k2,bZ _ k3] at hp;cases hp
  ·obtain⟨Z,p,_,hp⟩:=live c' i k2;rw[h2,bZ _ h3] at hp;cases hp
  ·omega
 have src: ∀ {c i:Nat},((c<rs.length/\c∈dt/\rs[c]? =some i)\/(rs.length<=c/\i=nx+(c-rs.length)/\c-rs.length<nw.length))->((c<rs.length/\rs[c]? =some i)\/(rs.length<=c/\i=nx+(c-rs.length)/\c-rs.length<nw.length)):=
  λh=>h.imp (λ⟨a,_,b⟩=>⟨a,b⟩) id
 refine⟨A',O1,m5 A1 A' O1 w' e zE hr,⟨⟨hold,by rw[dF]⟩,hp.tr,hp.ob,?_,?_,?_,?_,?_,?_,?_⟩⟩
 ·intro b hb hk;obtain⟨q1,q2,_⟩:=hp.cl b hb λc hc p mr=>by
   have aB:=hp.lt c hc;rw[pS] at mr;obtain⟨i,hi,He⟩:=ξX.1 mr;exact hk i _ p (ξ9 _ (Sk.2 ⟨c,hc,hi,rfl⟩)) He
  exact⟨q1,q2⟩
 ·intro i X hi;obtain⟨c,U,h2,h3⟩:=e_ i _ hi;obtain⟨Y,h4,h5⟩:=Bs h2.symm;obtain⟨p,q1,q2,q3⟩:=hp.rel.al c Y h4;refine⟨p,zE.pl c i p U q1,Ob.nj zE h5 q2,λb hb=>?_⟩;have hb:=Ob.uM h5 hb;have XB:=hp.rel.lF h4 q1 hb;refine⟨XB,?_⟩;rcases ψ b w.heap.size with aB|dp
  rotate_left
  ·exact .inl dp
  right;have GS:b∈O:=by
   rcases Decidable.em (b∈O) with h|h
   ·exact h
   ·exact absurd XB (hp.tr.keep b aB h).1
  rcases Classical.em (∀i∈dt,∀p,Ac.pl i=some p->cG p≠some b) with bN|bN
  ·obtain⟨_,_,h6⟩:=hp.cl b GS bN;rcases h3 with⟨k1,k2,k3⟩|⟨k1,k2,k3⟩
   ·exact absurd (iR (hp.nt c Y k1 h4) hb) (bN c k2 p (by rw[<-hp.pl c k1];exact q1))
   ·exact absurd hb (h6 c Y p k1 h4 q1)
  ·simp only[Classical.not_forall,Decidable.not_not] at bN;obtain⟨c',mi,q,hq,eE⟩:=bN;rw[pS] at hq;obtain⟨i',eh,anD⟩:=ξX.1 hq;obtain⟨V,_,hV,_⟩:=live c' i' eh;exact⟨i',_,q,V,ξ9 _ (Sk.2 ⟨c',mi,eh,rfl⟩),hV,anD,.inl eE⟩
 ·intro i j X Y p q b aN hi hj sb Pe;obtain⟨c,U,h2,h3⟩:=e_ i _ hi;obtain⟨c',k1,k2,k3⟩:=e_ j _ hj;obtain⟨X0,h4,h5⟩:=Bs h2.symm;obtain⟨Y0,k4,k5⟩:=Bs k2.symm;obtain⟨p',q1,_⟩:=hp.rel.al c X0 h4;obtain⟨q',r1,_⟩:=hp.rel.al c' Y0 k4;have e1:=zE.pl c i p' U q1;have e2:=zE.pl c' j q' k1 r1;rw[sb] at e1;rw[Pe] at e2;cases e1;cases e2;exact λu v=>hp.rel.lE c c' X0 Y0 p q b (λe=>aN (by subst e;rw[U] at k1;exact ξA k1)) h4 k4 q1 r1 (Ob.uM h5 u) (Ob.uM k5 v)
 ·intro i X Y hi hj;obtain⟨c,U,h2,h3⟩:=e_ i _ hi;obtain⟨c',k1,k2,k3⟩:=e_ i _ hj;have:=inj c c' i U k1 (src h3) (src k3);subst this;rw[h2,k2]
 ·intro i X p hi He;obtain⟨c,U,h2,h3⟩:=e_ i _ hi;rcases h3 with⟨k1,k2,k3⟩|⟨k1,k2,k3⟩
  ·obtain⟨Z,_,hZ,_⟩:=live c i k3;exact⟨Z,hZ⟩
  ·rw[k2,bZ _ k3] at He;cases He
 ·intro i;rw[dF];cases hi:A.pl i with
  |some p=>left;simp[hi]
  |none=>
   simp only[hi];cases hb:(ξH nx i&&τ i (nx+nw.length)) with
   |false=>left;rfl
   |true=>
    simp only[η] at hb;have U:=ξ5 hb.1;have h2:=ο.mp hb.2;have aB:i-nx<nw.length:=by omega
    exact .inr ⟨trivial,nw[i-nx],ξ7 _ (oS.2 ⟨i-nx,σ aB,by omega⟩)⟩
 ·intro i X Z hi hZ hn;obtain⟨c,U,h2,h3⟩:=e_ i _ hi;obtain⟨Y,h4,h5⟩:=Bs h2.symm;rw[Ob.It h5];rcases h3 with⟨k1,k2,k3⟩|⟨k1,k2,k3⟩
  ·exact hp.nt c Y k1 h4
  ·obtain⟨p,cH,_⟩:=hg.al i Z hZ;rw[k2,bZ _ k3] at cH;cases cH
def gH (K:bG S) (P:Program) (f:Nat) (ava:List (aD S)) (r:Rs S):Prop:=
 gQ P f/\ ∀(A:Pl) (O:List Nat) (w:World) (xs:List Value),dO A O w ava xs->OB O w->dR K O w->Calls P f xs.toArray w (λe w'=>oe A O w' r e/\Fr [] w w')
theorem LV.tF {A A':Pl} {O O':List Nat} {w w':World} {l:LV S} {xs:List Value} (hf:l.flat=true) (h:l.rel A O w xs):l.rel A' O' w' xs:=by
 cases l<;>first|exact h|cases hf
theorem Wp {A A':Pl} {O O':List Nat} {w w':World}: ∀ {ls:List (LV S)} {xs:List Value},ls.all LV.flat=true->bV A O w ls xs->bV A' O' w' ls xs
 |[],_,_,h=>h
 |l::ls,_,hp,⟨y,ys,h,U,h2⟩=>by
  simp only[ξB,η] at hp;exact⟨y,ys,h,LV.tF hp.1 U,Wp hp.2 h2⟩
theorem aD.tF {A A':Pl} {O O':List Nat} {w w':World} {a:aD S} {x:Value} (hf:a.flat=true) (h:a.rel A O w x):a.rel A' O' w' x:=by
 cases a with
 |one l=>exact LV.tF hf h
 |agg ls=>obtain⟨xs,U,h2⟩:=h;exact⟨xs,U,Wp hf h2⟩
theorem Wo {A A':Pl} {O O':List Nat} {w w':World}: ∀ {ls:List (aD S)} {xs:List Value},ls.all aD.flat=true->dO A O w ls xs->dO A' O' w' ls xs
 |[],_,_,h=>h
 |l::ls,_,hp,⟨y,ys,h,U,h2⟩=>by
  simp only[ξB,η] at hp;exact⟨y,ys,h,aD.tF hp.1 U,Wo hp.2 h2⟩
theorem AV.tF {A A':Pl} {O O':List Nat} {w w':World} {a:AV S} {x:Value} (hf:a.flat=true) (h:a.rel A O w x):a.rel A' O' w' x:=by
 cases a with
 |s l=>exact aD.tF hf h
 |bD ls=>obtain⟨xs,U,h2⟩:=h;exact⟨xs,U,Wo hf h2⟩
theorem alo {A:Pl} {O:List Nat} {w w':World} {g:Nat->Option (Ob S)} {rs:List Nat} (hO:OB O w) (hl: ∀r∈rs,∃Z,g r=some Z) (hF:Fr [] w w'):cW A O w g (jN rs) A (e9 A rs O) w' where
 le:=Pl.le.refl A
 tr:=(Tr.less hQ).trans hF.gj
 ob:=hF.ob λb hb=>hO b (hQ b hb)
 keep c hc h:=⟨hF.block c (hO c hc) (by simp),m9.2 ⟨hc,λr hr p hp=>h r none p (gy.2 ⟨hr,rfl⟩) hp⟩⟩
 al i Y h:=by have:=(gy.1 h).2;cases this
 dj i j Y Z q r c _ h:=by have:=(gy.1 h).2;cases this
 nd i Y Z U h2:=(gy.1 U).2.trans (gy.1 h2).2.symm
 lv i Y q h _:=hl i (gy.1 h).1
 pl _:= .inl rfl
 nt i X Z h _ _:=by have:=(gy.1 h).2;cases this
theorem My {A:Pl} {O:List Nat} {w w':World} {g:Nat->Option (Ob S)} (hO:OB O w) (hF:Fr [] w w'):cW A O w g [] A O w':=
 ⟨Pl.le.refl A,hF.gj,hF.ob hO,λb hb _=>⟨hF.block b (hO b hb) (by simp),hb⟩,(λ_ _ h=>nomatch h),(λ_ _ _ _ _ _ _ _ h=>nomatch h),(λ_ _ _ h=>nomatch h),(λ_ _ _ h=>nomatch h),(λ_=> .inl rfl),(λ_ _ _ h=>nomatch h)⟩
theorem WJ {g:Nat->Option (Ob S)} {l l':LV S} {rs:List Nat} (h:oD K g l=some (l',rs)): ∀r∈rs,∃e xs,g r=some (.row e xs):=by
 intro r hr;cases l with
 |own r0=>
  simp only[oD] at h;split at h
  rotate_left
  ·cases h
  rename_i e ys hy;split at h
  ·cases h;simp at hr;subst hr;exact⟨e,ys,hy⟩
  ·cases h
 |v u=>cases h;cases hr
 |aU t x=>cases h;cases hr
 |ptr t x q=>cases h;cases hr
 |cd k n gs=>cases h;cases hr
 |dW n gs=>cases h;cases hr
 |_=>cases h
theorem WM {g:Nat->Option (Ob S)}: ∀ {ls cZ:List (LV S)} {rs:List Nat},rL K g ls=some (cZ,rs)-> ∀r∈rs,∃e xs,g r=some (.row e xs)
 |[],_,_,h,r,hr=>by cases h;cases hr
 |l::ls,_,_,h,r,hr=>by
  simp only[rL] at h;split at h
  ·rename_i l' a ha;split at h
   ·rename_i r' b hb;cases h;rcases ω.1 hr with hr|hr
    ·exact WJ ha r hr
    ·exact WM hb r hr
   ·cases h
  ·cases h
theorem WH {g:Nat->Option (Ob S)}: ∀ {ls cZ:List (aD S)} {rs:List Nat},oC K g ls=some (cZ,rs)-> ∀r∈rs,∃e xs,g r=some (.row e xs)
 |[],_,_,h,r,hr=>by cases h;cases hr
 |l::ls,_,_,h,r,hr=>by
  simp only[oC] at h;split at h
  ·rename_i l' a ha;split at h
   ·rename_i r' b hb;cases h;rcases ω.1 hr with hr|hr
    ·cases l with
     |one l0=>
      simp only[pQ] at ha;split at ha
      ·rename_i x y hx;cases ha;exact WJ hx r hr
      ·cases ha
     |agg ls0=>
      simp only[pQ] at ha;split at ha
      ·rename_i x y hx;cases ha;exact WM hx r hr
      ·cases ha
    ·exact WH hb r hr
   ·cases h
  ·cases h
section
variable {G:ay S} {A:Pl} {O:List Nat} {w w':World} {g:Nat->Option (Ob S)} {rs:List Nat}
theorem al6 (hK:cI G.K P) (hg:cv A O w g) {l:LV S} {xs:List Value} (h:l.rel A O w xs):(tH G g rs l).rel A (e9 A rs O) w xs:=by
 have same:l.rel A (e9 A rs O) w xs:=h.tr (Tr.less hQ) (Pl.le.refl A);unfold tH;split
 ·rename_i r;cases hm:fu r rs
  ·exact same
  ·simp only[cond_true];split
   ·rename_i l' a hl;refine(Ni hK hg (all:=rs) hl h λr' cP=>?_).1;have e:a=[r]:=by
     simp only[oD] at hl;split at hl
     rotate_left
     ·cases hl
     split at hl<;>cases hl;rfl
    subst e;simp at cP;subst cP;exact lR.1 hm
   ·exact same
 ·exact same
theorem Wy (hK:cI G.K P) (hg:cv A O w g): ∀ {ls:List (LV S)} {xs:List Value},bV A O w ls xs->bV A (e9 A rs O) w (ls.map (tH G g rs)) xs
 |[],_,h=>h
 |_::_,_,⟨y,ys,h,U,h2⟩=>⟨y,ys,h,al6 hK hg U,Wy hK hg h2⟩
theorem wu {i:Nat} {X:Option (Ob S)}: ∀ {l:List Nat},(i,X)∈oB G g rs l-> ∃tb cs,g i=some (.box tb cs)/\X=some (.box tb (cs.map (tH G g rs)))
 |[],h=>by cases h
 |j::t,h=>by
  simp only[oB] at h;split at h
  ·rename_i tb cs hj;cases hb:Xw rs cs<;>rw[hb] at h
   ·exact wu h
   ·rcases υ.1 h with e|h
    ·cases e;exact⟨tb,cs,hj,rfl⟩
    ·exact wu h
  ·exact wu h
theorem aln (hK:cI G.K P) (hg:cv A O w g) (hO:OB O w) (AB: ∀r∈rs,∃e xs,g r=some (.row e xs)) (hF:Fr [] w w') {l:List Nat}:cW A O w g (oB G g rs l++jN rs) A (e9 A rs O) w':=by
 have eK:Tr (e9 A rs O) w (e9 A rs O) w':=hF.gj;have bx: ∀ {i:Nat} {X:Ob S},(i,some X)∈oB G g rs l++jN rs-> ∃tb cs b vs,g i=some (.box tb cs)/\X= .box tb (cs.map (tH G g rs))/\A.pl i=some (.pointer (some ⟨b,0,none⟩))/\ck w b tb vs/\bV A O w cs vs/\b∈O:=by
  intro i X hi;rcases ω.1 hi with hi|hi
  ·obtain⟨tb,cs,U,h2⟩:=wu hi;cases h2;obtain⟨p,hp,⟨b,vs,rfl,h3,h4⟩,hb⟩:=hg.al i _ U;exact⟨tb,cs,b,vs,U,rfl,hp,h3,h4,hb b rfl⟩
  ·have:=(gy.1 hi).2;cases this
 refine⟨Pl.le.refl A,(Tr.less hQ).trans eK,λb hb=>Nat.lt_of_lt_of_le (hO b (hQ b hb)) hF.size,λc hc h=>⟨hF.block c (hO c hc) (by simp),m9.2 ⟨hc,λr hr p hp=>h r none p (ξ7 _ (gy.2 ⟨hr,rfl⟩)) hp⟩⟩,?_,?_,?_,?_,λ_=> .inl rfl,?_⟩
 ·intro i X hi;obtain⟨tb,cs,b,vs,U,rfl,h3,h4,h5,h6⟩:=bx hi;have zV:b∈e9 A rs O:=m9.2 ⟨h6,λr hr p hp bM=>by
   obtain⟨e,xs,cP⟩:=AB r hr;exact hg.dj i r _ _ _ _ b (λe1=>by subst e1;rw[U] at cP;cases cP) U cP h3 hp rfl bM⟩
  refine⟨_,h3,⟨b,vs,rfl,(hF.block b (hO b h6) (by simp)).trans h4,qN eK (Pl.le.refl A) (Wy hK hg h5)⟩,λc hc=>?_⟩;have hc:=iR rfl hc;cases hc;exact⟨zV,.inr ⟨i,_,_,_,hi,U,h3,.inl rfl⟩⟩
 ·intro i j X Y p q b cC U h2 h3 h4 h5 h6;obtain⟨_,_,_,_,a1,rfl,a3,_⟩:=bx U;obtain⟨_,_,_,_,b1,rfl,b3,_⟩:=bx h2;exact hg.dj i j _ _ p q b cC a1 b1 h3 h4 (iR rfl h5) (iR rfl h6)
 ·intro i X Y U h2;have rw': ∀ {X:Option (Ob S)},(i,X)∈oB G g rs l++jN rs->(∃tb cs,g i=some (.box tb cs)/\X=some (.box tb (cs.map (tH G g rs))))\/((∃e xs,g i=some (.row e xs))/\X=none):=λ{X} h=>by
   rcases ω.1 h with h|h
   ·exact .inl (wu h)
   ·exact .inr ⟨AB i (gy.1 h).1,(gy.1 h).2⟩
  rcases rw' U with⟨tb,cs,a1,rfl⟩|⟨⟨e,xs,a1⟩,rfl⟩<;>rcases rw' h2 with⟨tb',cD,b1,rfl⟩|⟨⟨e',ki,b1⟩,rfl⟩
  ·rw[a1] at b1;cases b1;rfl
  ·rw[a1] at b1;cases b1
  ·rw[a1] at b1;cases b1
  ·rfl
 ·intro i X p U _;rcases ω.1 U with U|U
  ·obtain⟨tb,cs,a1,_⟩:=wu U;exact⟨_,a1⟩
  ·obtain⟨e,xs,a1⟩:=AB i (gy.1 U).1;exact⟨_,a1⟩
 ·intro i X Z U _ _;obtain⟨_,_,_,_,_,rfl,_⟩:=bx U;rfl
end
structure qZ (G:ay S) (P:Program):Prop where
 C: ∀f cn,FY G.C f=some cn-> ∀ {R:Type} (ava:List (aD S)) (k:Rs S->Option R) (z:R),ava.all aD.pure=true->cn.out ava k=some z-> ∃r,k r=some z/\gH G.K P f ava r
theorem ahw {G:ay S} (hK:cI G.K P) (hC:qZ G P) {c_:Nat->List (aD S)->AH S->(Rs S->AH S->List Nat->Option R)->Option R} (dr:qY G.K P c_) {f nx:Nat} {ava:List (aD S)} {g:Nat->Option (Ob S)} {kp:Value->Up S->AH S->Option R} {k:AV S->Up S->AH S->Option R}
  (h:L9 G c_ f ava g nx kp k=some z): ∃r up nw,qP kp k r up nw=some z/\SY G.K P f ava g nx r up nw:=by
 unfold L9 at h;split at h
 ·rename_i cn tS;split at h
  ·rename_i lz rs mm;have anF:lz.all aD.pure=true:=by
    exact WG mm
   obtain⟨r,hk,gY,hS⟩:=hC.C f cn tS lz _ z anF h;cases r with
   |ret a=>
    simp only at hk;cases hp:a.pure<;>rw[hp] at hk
    ·cases hk
    simp only[cond_true] at hk;cases G7:a.flat<;>rw[G7] at hk
    ·simp only[cond_false] at hk;cases jE:fu f G.F<;>rw[jE] at hk
     ·refine⟨.ret a,jN rs,[],hk,gY,λA O w xs ha hg hO hG bZ=>?_⟩;obtain⟨q1,q2,q3⟩:=tI hK hg (all:=rs) mm ha (λr hr=>hr);refine(hS A (e9 A rs O) w xs q1 (λb hb=>hO b (hQ b hb)) (hG.tr (Tr.less hQ))).mono ?_;rintro e w' ⟨⟨v,U,h2⟩,hF⟩;exact⟨A,e9 A rs O,⟨v,U,h2⟩,by simpa[news] using alo hO q3 hF⟩
     ·refine⟨.ret a,oB G g rs (ξr nx)++jN rs,[],hk,gY,λA O w xs ha hg hO hG bZ=>?_⟩;obtain⟨q1,q2,q3⟩:=tI hK hg (all:=rs) mm ha (λr hr=>hr);refine(hS A (e9 A rs O) w xs q1 (λb hb=>hO b (hQ b hb)) (hG.tr (Tr.less hQ))).mono ?_;rintro e w' ⟨⟨v,U,h2⟩,hF⟩;exact⟨A,e9 A rs O,⟨v,U,h2⟩,by simpa[news] using aln hK hg hO (WH mm) hF⟩
    ·refine⟨.ret a,[],[],hk,gY,λA O w xs ha hg hO hG bZ=>?_⟩;obtain⟨q1,q2,q3⟩:=tI hK hg (all:=rs) mm ha (λr hr=>hr);refine(hS A (e9 A rs O) w xs q1 (λb hb=>hO b (hQ b hb)) (hG.tr (Tr.less hQ))).mono ?_;rintro e w' ⟨⟨v,U,h2⟩,hF⟩;exact⟨A,O,⟨v,U,AV.tF G7 h2⟩,My hO hF⟩
   |bU u=>
    refine⟨.bU u,[],[],hk,gY,λA O w xs ha hg hO hG bZ=>?_⟩;obtain⟨q1,q2,q3⟩:=tI hK hg (all:=rs) mm ha (λr hr=>hr);refine(hS A (e9 A rs O) w xs q1 (λb hb=>hO b (hQ b hb)) (hG.tr (Tr.less hQ))).mono ?_;rintro e w' ⟨U,hF⟩;exact⟨A,O,U,My hO hF⟩
  ·exact Vy dr h
 ·exact Vy dr h
theorem ahy {rr:Option Nat} {n f:Nat} {args:Array Value} {w:World} {Q Q':Ending->World->Prop} (h:Calls P f args w Q) (hq: ∀e w',Q e w'->Q' e w'):CallsIn (fw rr) n P f args w Q':=by
 refine⟨trivial,λcs _=>?_⟩;obtain⟨e,cU,fr,hr,hs,hf,hl⟩:=h cs;refine⟨e,cU,fr,hq e cU hr,?_,hf,hl⟩;cases e with
 |outgrown=>exact hs
 |returned v=>
  refine ζM (λm _=>?_) (ζw hs);intro g _;exact⟨λh=>by simp[fw] at h,Or.inl trivial,λ_ _=>trivial,λ_ h=>by simp[fw] at h⟩
 |panicked ch=>
  refine ζM (λm _=>?_) (ζw hs);intro g _;exact⟨λh=>by simp[fw] at h,Or.inl trivial,λ_ _=>trivial,λ_ h=>by simp[fw] at h⟩
theorem apE {rr:Option Nat} {o:Oper} {a:Act} {w:World} {f:Nat} {args:Array Value} {post bU:Value->World->Prop} {Q:Ending->World->Prop} (hc: ∀c,o.op≠ .defer c) (aX:(execOp a.eval o).run P w= .ok (.enter f args) w) (iv:Calls P f args w Q)
  (h: ∀e w',Q e w'->(∃v,e= .returned v/\post v w')\/(∃u,e= .panicked [{ v:=u,recovered:=false }]/\bU u w')):od P rr o a w post bU:=by
 refine⟨λ_ _=>trivial,?_⟩;rw[ζl _ _ _ hc,aX,Oper.uponIn_enter];refine⟨λh=>by simp[fw] at h,ahy iv λe w' hq=>?_⟩;rcases h e w' hq with⟨v,rfl,U⟩|⟨u,rfl,U⟩
 ·exact⟨v,rfl,U⟩
 ·exact⟨u,rfl,rfl,U⟩
theorem arE {o:Oper} {c:ζ8} {x:Operand} {a:Act} {w:World} {f:Nat} {fs cs:List Value} (ah:o.op= .call c) (dr:c.callee= .value x) (hx:a.eval x= .func (.func f) fs.toArray cs.toArray) (he:gQ P f):
  (execOp a.eval o).run P w= .ok (.enter f (fs++c.args.toList.map a.eval++cs).toArray) w:=by
 unfold execOp;rw[ah];have e1:fs.toArray++c.args.map a.eval++cs.toArray=(fs++c.args.toList.map a.eval++cs).toArray:=by
  rw[<-ζv];simp
 simp only[ξ,resolve,dr,hx,ζ0,ξh,π,invoke];rw[e1];exact he _ w
theorem sU {F:Fence} {n:Nat} {o:Oper} {a:Act} {w:World} {X X':Act->World->Prop} {Q Q':Exit->Act->World->Prop} (h: ∀a w,X a w->X' a w) (hq: ∀e a w,Q e a w->Q' e a w) (hh:o.wpIn F n P a w X Q):o.wpIn F n P a w X' Q':=by
 obtain⟨U,h2⟩:=hh;refine⟨U,?_⟩;unfold Oper.uponIn at h2 ⊢;split at h2
 ·exact h _ _ h2
 ·exact h _ _ h2
 ·exact h _ _ h2
 ·refine⟨h2.1,h2.2.1,λcs hr=>?_⟩;obtain⟨e,w',fr,q1,q2⟩:=h2.2.2 cs hr;refine⟨e,w',fr,?_,q2⟩;cases e with
  |returned v=>exact h _ _ q1
  |panicked ch=>exact hq _ _ _ q1
  |outgrown=>obtain⟨a',w',q⟩:=q1;exact⟨a',w',hq _ _ _ q⟩
 ·exact⟨h2.1,h2.2.mono λv w' q=>h _ _ q⟩
 ·refine⟨h2.1,h2.2.mono λe w' q=>?_⟩;cases e with
  |returned v=>exact h _ _ q
  |panicked ch=>exact hq _ _ _ q
  |outgrown=>obtain⟨a',w',q⟩:=q;exact⟨a',w',hq _ _ _ q⟩
 ·exact hq _ _ _ h2
 ·exact h2
theorem od.mono {rr:Option Nat} {o:Oper} {a:Act} {w:World} {post aaY bU aaR:Value->World->Prop} (h:od P rr o a w post bU) (U: ∀v w',post v w'->aaY v w') (h2: ∀v w',bU v w'->aaR v w'):od P rr o a w aaY aaR:=
 sU (λa' w' ⟨v,e,hv⟩=>⟨v,e,U v w' hv⟩) (λe a' w' hq=>by
  cases e with
  |panic ch=>obtain⟨u,e1,e2,e3⟩:=hq;exact⟨u,e1,e2,h2 u w' e3⟩
  |_=>exact hq.elim) h
def DT (K:bG S) (P:Program) (o:Oper) (env:aW S) (g:Nat->Option (Ob S)) (nx:Nat) (r:Rs S) (up:Up S) (nw:AH S):Prop:=
 ∀(rr:Option Nat) (A:Pl) (O:List Nat) (w:World) (a:Act),dV A O w env a->cv A O w g->OB O w->dR K O w->(∀j,j<nw.length->A.pl (nx+j)=none)->
  od P rr o a w (λv w'=> ∃av,r= .ret av/\ ∃A' O',av.rel A' O' w' v/\cW A O w g (up++news nx nw) A' O' w') (λu w'=>r= .bU u/\ ∃A' O',cW A O w g (up++news nx nw) A' O' w')
theorem Sound.r {rr:Option Nat} {o:Oper} {env:aW S} {g:Nat->Option (Ob S)} {nx:Nat} {av:AV S} {up:Up S} {nw:AH S} (h:Sound K P rr o env g nx av up nw):DT K P o env g nx (.ret av) up nw:=λrr A O w a U h2 h3 h4 h5=>by
 exact(h rr A O w a U h2 h3 h4 h5).mono (λv w' hv=>⟨av,rfl,hv⟩) (λu w' hu=>hu.elim)
theorem aax {G:ay S} (hK:cI G.K P) (hC:qZ G P) {c_:Nat->List (aD S)->AH S->(Rs S->AH S->List Nat->Option R)->Option R} (dr:qY G.K P c_) {o:Oper} {env:aW S} {g:Nat->Option (Ob S)} {nx:Nat} {kp:Value->Up S->AH S->Option R} {k:AV S->Up S->AH S->Option R}
  (h:xu G c_ env g nx o kp k=some z): ∃r up nw,qP kp k r up nw=some z/\DT G.K P o env g nx r up nw:=by
 have aaW:Ba G.K env g nx k o.type o.op=some z-> ∃r up nw,qP kp k r up nw=some z/\DT G.K P o env g nx r up nw:=λh=>by
  obtain⟨av,up,nw,U,h2⟩:=ao6 (rr:=none) hK h;exact⟨.ret av,up,nw,U,h2.r⟩
 unfold xu at h;split at h
 ·rename_i c ah;split at h
  ·rename_i x hx;split at h
   rotate_left
   ·cases h
   rename_i f ava jD;obtain⟨r,up,nw,U,gY,h2⟩:=ahw hK hC dr h;refine⟨r,up,nw,U,λrr A O w a he hg hO hG bZ=>?_⟩;have hc: ∀c,o.op≠ .defer c:=λc=>by rw[ah];simp
   have key: ∀(fs cs:List Value),a.eval x= .func (.func f) fs.toArray cs.toArray->dO A O w ava (fs++c.args.toList.map a.eval++cs)->od P rr o a w (λv w'=> ∃av,r= .ret av/\ ∃A' O',av.rel A' O' w' v/\cW A O w g (up++news nx nw) A' O' w') (λu w'=>r= .bU u/\ ∃A' O',cW A O w g (up++news nx nw) A' O' w'):=by
    intro fs cs Oz jH;refine apE hc (arE ah hx Oz gY) (h2 A O w _ jH hg hO hG bZ) ?_;rintro e w' ⟨A',O',hr,gX⟩;cases r with
    |ret av=>
     obtain⟨v,rfl,hv⟩:=hr;exact .inl ⟨v,rfl,av,rfl,A',O',hv,gX⟩
    |bU u=>exact .inr ⟨u,hr,rfl,A',O',gX⟩
   unfold VA at jD;rw[hx] at jD;simp only at jD;split at jD
   ·rename_i i hi;split at jD
    rotate_left
    ·cases jD
    rename_i f' fs cs qc;split at jD
    rotate_left
    ·cases jD
    rename_i as1 has;cases jD;obtain⟨f1,u1,c1,hA,hv⟩:=cR he hG hi;obtain⟨p,hp,⟨us,vs,rfl,q1,q2⟩,_⟩:=hg.al i _ qc;rw[hA] at hp;cases hp;exact key us vs (by simpa using hv) (Rw (Rw q1 (tf he hG has)) q2)
   ·rename_i u wJ;split at jD
    rotate_left
    ·cases jD
    rename_i f' fs cs;cases hz:(ζ fs.size 0&&ζ cs.size 0)<;>rw[hz] at jD
    ·cases jD
    simp only[cond_true] at jD;split at jD
    rotate_left
    ·cases jD
    rename_i as1 has;cases jD;simp only[η] at hz;have z1:=ξG (δ hz.1);have z2:=ξG (δ hz.2);subst z1;subst z2;have hv:=gD (cR he hG wJ);refine key [] [] hv ?_;simpa using tf he hG has
   ·cases jD
  ·exact aaW h
 ·cases h
 ·exact aaW h
end
structure dZ where
 A0:Pl
 O0:List Nat
 w0:World
 nb:Nat
 live:Nat->Prop
 ex:Option Nat
 rr:Option Nat
def AX.code:AX->Option Code
 | .exit id=>some (.exit id)
 | .ret=>some .ret
 |_=>none
def PQ:Obj->Bool
 | .loop _=>true
 | .deferred _=>true
 |_=>false
section
variable {S:bL} {K:bG S} {P:Program} {N:Nat} {A A':Pl} {O O':List Nat} {w w':World}
def gG (O:List Nat) (w:World) (l:Nat) (o:Obj):Prop:=Rec w l o/\PQ o=true/\l∈O
theorem fC.HS {X:Ob S} {p:Value} {l:Nat} {o:Obj} (h:fC A O w X p) (hl:w.heap[l]? =some o) (hb:PQ o=true):cG p≠some l:=by
 intro hp;cases X with
 |box t cs=>
  obtain⟨b,vs,rfl,U,_⟩:=h;cases hp;unfold ck at U;rw[hl] at U;cases U;cases hb
 |row e xs=>
  rcases mD h with⟨rfl,_⟩|⟨b,c,rfl⟩
  ·cases hp
  ·cases hp;obtain⟨cs,cur,U,_⟩:=Bi h;rw[hl] at U;cases U;cases hb
 |map kk kv m=>
  obtain⟨b,rfl,es,c,U,_⟩:=h;cases hp;rw[hl] at U;cases U;cases hb
 |bI f fs cs=>obtain⟨us,vs,rfl,_⟩:=h;cases hp
 |ep s pos=>
  obtain⟨b,rfl,U⟩:=h;cases hp;rw[hl] at U;cases U;cases hb
 |dH t e cm=>
  obtain⟨b,c,cur,rfl,U,_⟩:=h;cases hp;rw[hl] at U;cases U;cases hb
theorem fC.ao2 {X:Ob S} {p:Value} {l:Nat} {o:Obj} (h:fC A O w X p) (hl:w.heap[l]? =some o) (hb:PQ o=true): ¬dJ w X p l:=by
 rintro (hp|hp)
 ·exact h.HS hl hb hp
 ·cases X with
  |dH t e cm=>
   obtain⟨b,c,cur,rfl,U,_,_,_,_,_,h2,_⟩:=h;obtain⟨b',c',t',rB,j,u,xs,e1,e2,e3,e4,e5⟩:=hp;cases e1;rw[U] at e2;cases e2;have hu:=(h2 j u xs e3 e4).1;rcases mD hu with⟨rfl,_⟩|⟨d,cc,rfl⟩
   ·cases e5
   ·cases e5;obtain⟨cs,Mq,q1,_⟩:=Bi hu;rw[hl] at q1;cases q1;cases hb
  |_=>cases hp
theorem gG.cX {g:Nat->Option (Ob S)} {ef:Up S} {l:Nat} {o:Obj} (h:gG O w l o) (hg:cv A O w g) (e:cW A O w g ef A' O' w'):gG O' w' l o:=by
 obtain⟨U,h2,h3⟩:=h;obtain⟨k1,k2⟩:=e.keep l h3 λi X p hi hp=>by
  obtain⟨Z,hZ⟩:=e.lv i X p hi hp;obtain⟨p',cH,hR,_⟩:=hg.al i Z hZ;rw[hp] at cH;cases cH;exact hR.HS U.1 h2
 exact⟨⟨k1.trans U.1,U.2⟩,h2,k2⟩
def eG (n0:Nat) (A:Pl) (O:List Nat) (w:World):List (LV S)->List Deferred->Prop
 |df,[]=>df=[]
 |df,d::ds=>(∃D,d=Dc.mark D/\(n0<=D/\Dc.mark D∉ds)/\gG O w D (.deferred (some []))/\eG n0 A O w df ds)\/
  (∃i r f u c,df= .bI i::r/\A.pl i=some (.func f u c)/\d= { target:= .fn f c,args:=u }/\eG n0 A O w r ds)
def gO (lf:mF S) (fn:Nat) (tm:Array Value) (D:Nat):Loop:=
 { state:=(match lf.jr with|none=> .ready|some _=> .done),pending:=lf.jr.bind AX.code,fn:=fn,tmps:=tm,params:=lf.ps.toArray,assign:=lf.lA,body:=lf.body,defers:=D }
def po (P:Program) (B:dZ) (O:List Nat) (w:World):Option (mF S)->Prop
 |none=>True
 |some lf=> ∃l fn tm D,B.A0.ls=some l/\B.ex=some l/\gG O w l (.loop (gO lf fn tm D))/\gG O w D (.deferred (some []))/\dV B.A0 O w lf.env { tmps:=tm,defers:=[] }/\tm.size=lf.J.fn.ntmps
structure bF (K:bG S) (P:Program) (N:Nat) (B:dZ) (A:Pl) (O:List Nat) (w:World) (st:AS S) (a:Act):Prop where
 size:a.tmps.size=N
 env:dV A O w st.env a
 rel:cv A O w (aH st.h)
 ob:OB O w
 eJ:dR K O w
 free: ∀i,st.h.length<=i->A.pl i=none
 nb:st.nb=B.nb
 le:B.nb<=st.h.length
 tr:Tr B.O0 B.w0 O w
 pl: ∀i,i<B.nb->A.pl i=B.A0.pl i
 ls:A.ls=B.A0.ls
 lv: ∀i X,i<B.nb->aH st.h i=some X->B.live i
 cl: ∀b,b∈B.O0->B.ex≠some b->(∀i∈st.dt,B.live i-> ∀p,B.A0.pl i=some p->cG p≠some b)->w.heap[b]? =B.w0.heap[b]? /\b∈O/\ ∀i X p,B.nb<=i->aH st.h i=some X->A.pl i=some p-> ¬dJ w X p b
 df:eG B.w0.heap.size A O w st.df a.defers
 lp:po P B O w st.lp
 dl:(st.lp.isSome||st.inr)=true->a.defers=[]
 hi: ∀i,B.nb<=i->B.A0.pl i=none
 o0:OB B.O0 B.w0
 rr:st.inr=false->B.rr=none
 nt: ∀i X,i<B.nb->aH st.h i=some X->X.nt=true
theorem eG.cX {n0:Nat} {g:Nat->Option (Ob S)} {ef:Up S} (hg:cv A O w g) (e:cW A O w g ef A' O' w'): ∀ {ds:List Deferred} {df:List (LV S)},eG n0 A O w df ds->eG n0 A' O' w' df ds
 |[],df,h=>h
 |d::ds,df,h=>by
  rcases h with⟨D,U,h0,h2,h3⟩|⟨i,r,f,u,c,U,h2,h3,h4⟩
  ·exact .inl ⟨D,U,h0,h2.cX hg e,eG.cX hg e h3⟩
  ·exact .inr ⟨i,r,f,u,c,U,e.le.at_ _ _ h2,h3,eG.cX hg e h4⟩
theorem po.cX {B:dZ} {g:Nat->Option (Ob S)} {ef:Up S} (hg:cv A O w g) (e:cW A O w g ef A' O' w'): ∀ {lp:Option (mF S)},po P B O w lp->po P B O' w' lp
 |none,h=>h
 |some lf,⟨l,fn,tm,D,U,h0,h2,h3,h4,h5⟩=>⟨l,fn,tm,D,U,h0,h2.cX hg e,h3.cX hg e,h4.tr e.tr (Pl.le.refl _),h5⟩
theorem pG {nb x:Nat}: ∀ {l dt:List Nat},x∈dt->x∈iQ nb dt l
 |[],dt,h=>h
 |i::r,dt,h=>by
  simp only[iQ];refine pG ?_;cases (τ i nb&&!(fu i dt)) with
  |true=>exact ξ9 _ h
  |false=>exact h
theorem rC {nb x:Nat} (hx:x<nb): ∀ {l dt:List Nat},x∈l->x∈iQ nb dt l
 |i::r,dt,h=>by
  simp only[iQ];rcases υ.1 h with e|h
  ·subst e;refine pG ?_;rw[ο.mpr hx,ξW];cases hm:fu x dt with
   |true=>exact lR.1 hm
   |false=>exact ξ7 _ ν
  ·exact rC hx h
theorem o9: ∀ {up:Up S} {h:AH S},(gP h up).length=h.length
 |[],h=>rfl
 |(i,X)::r,h=>by simp[gP,o9]
theorem acR: ∀ {up:Up S} {h:AH S} {i:Nat},(∀j∈keys up,j<h.length)->i<h.length->aH (gP h up) i=cK (aH h) up i
 |[],h,i,_,_=>rfl
 |(j,X)::r,h,i,hk,hi=>by
  have hj:=hk j (by simp[keys]);rw[gP,acR (λq hq=>by rw[ξf];exact hk q (by simp[keys,hq])) (by rw[ξf];exact hi)];simp only[cK]
  congr 1
  funext q
  unfold aH;rw[ξD]
  by_cases hq:j=q
  ·subst hq;simp[hj];cases X<;>rfl
  ·have aN:ζ j q=false:=by
    cases hb:ζ j q with
    |false=>rfl
    |true=>exact absurd (δ hb) hq
   simp[hq,aN]
theorem xb {i:Nat}: ∀ {up:Up S},i∈keys up↔ ∃X,(i,X)∈up
 |[]=>by simp[keys]
 |(j,X)::r=>by
  simp only[keys,υ,xb,ξs];constructor
  ·rintro (rfl|⟨Y,h⟩)
   ·exact⟨X,.inl ⟨rfl,rfl⟩⟩
   ·exact⟨Y,.inr h⟩
  ·rintro ⟨Y,⟨rfl,rfl⟩|h⟩
   ·exact .inl rfl
   ·exact .inr ⟨Y,h⟩
theorem adh {g:Nat->Option (Ob S)}: ∀ {u v:Up S},cK g (u++v)=cK (cK g u) v
 |[],v=>rfl
 |(j,X)::r,v=>by
  funext i
  simp only[ζ1,cK];rw[adh]
theorem aoV {n:Nat} {nw:AH S} {i:Nat} {X Y:Option (Ob S)} (U:(i,X)∈news n nw) (h2:(i,Y)∈news n nw):X=Y:=by
 obtain⟨j,a1,a2⟩:=oS.1 U;obtain⟨j',b1,b2⟩:=oS.1 h2;have:j=j':=by omega
 subst this;rw[a1] at b1;exact ξA b1
theorem Fo {h:AH S} {up:Up S} {nw:AH S} (hk: ∀j∈keys up,j<h.length):aH (gP h up++nw)=cK (aH h) (up++news h.length nw):=by
 funext i
 rw[adh]
 by_cases hi: ∃X,(i,X)∈news h.length nw
 ·obtain⟨X,hX⟩:=hi;rw[uY hX λY hY=>aoV hY hX];obtain⟨j,U,rfl⟩:=oS.1 hX;unfold aH;rw[ξb (by rw[o9];omega),o9,ξV,U];cases X<;>rfl
 ·rw[gC (λX hX=>hi ⟨X,hX⟩)];rcases ψ i h.length with aB|dp
  ·rw[<-acR hk aB];unfold aH;rw[φ (by rw[o9];exact aB)]
  ·have hn:(gP h up++nw)[i]? =none:=by
    rw[ξb (by rw[o9];omega),o9,ξS];rcases ψ (i-h.length) nw.length with U|U
    ·exact absurd ⟨nw[i-h.length],oS.2 ⟨i-h.length,σ U,by omega⟩⟩ hi
    ·exact U
   have h0:aH h i=none:=by unfold aH;rw[ξg dp]
   rw[gC (λX hX=>by have:=hk i (xb.2 ⟨X,hX⟩);omega),h0];unfold aH;rw[hn]
theorem ta {h:AH S} {up:Up S} (ha:iN (aH h) up=true): ∀j∈keys up,∃X,aH h j=some X:=by
 intro j hj;unfold iN at ha;rw[ξ4] at ha;have:=ha j hj;cases hq:aH h j with
 |none=>rw[hq] at this;cases this
 |some X=>exact⟨X,rfl⟩
variable {B:dZ} {st:AS S} {a:Act}
theorem bF.cX {up:Up S} {nw:AH S} (h:bF K P N B A O w st a) (ha:iN (aH st.h) up=true) (e:cW A O w (aH st.h) (up++news st.h.length nw) A' O' w'):bF K P N B A' O' w' (st.cX up nw) a:=by
 have hk: ∀j∈keys up,j<st.h.length:=λj hj=>by
  obtain⟨X,hX⟩:=ta ha j hj;exact jo hX
 have g_:=Fo (nw:=nw) hk;have hlen:(gP st.h up++nw).length=st.h.length+nw.length:=by rw[χ,o9]
 have Hu: ∀i X,(i,X)∈up++news st.h.length nw->i∈keys up\/st.h.length<=i:=by
  intro i X hi;rcases ω.1 hi with hi|hi
  ·exact .inl (xb.2 ⟨X,hi⟩)
  ·obtain⟨j,_,rfl⟩:=oS.1 hi;exact .inr (ξI _ _)
 have low: ∀i,i<st.h.length->A'.pl i=A.pl i:=by
  intro i hi;rcases e.pl i with U|⟨U,X,hX⟩
  ·exact U
  ·rcases Hu i X hX with h2|h2
   ·obtain⟨Y,hY⟩:=ta ha i h2;obtain⟨p,hp,_⟩:=h.rel.al i Y hY;rw[U] at hp;cases hp
   ·omega
 have jH:=h.rel.cX h.ob e;rw[<-g_] at jH;refine⟨h.size,h.env.tr e.tr e.le,jH,e.ob,h.eJ.tr e.tr,?_,h.nb,?_,h.tr.trans e.tr,?_,e.le.ls.trans h.ls,?_,?_,eG.cX h.rel e h.df,po.cX h.rel e h.lp,h.dl,h.hi,h.o0,h.rr,?_⟩
 ·intro i hi;have hi:st.h.length+nw.length<=i:=by rw[<-hlen];exact hi
  rcases e.pl i with U|⟨U,X,hX⟩
  ·rw[U];exact h.free i (by omega)
  ·rcases ω.1 hX with hX|hX
   ·have:=hk i (xb.2 ⟨X,hX⟩);omega
   ·obtain⟨j,h2,rfl⟩:=oS.1 hX;have:=(ε.1 h2).1;omega
 ·show B.nb<=(gP st.h up++nw).length;rw[hlen];have:=h.le;omega
 ·intro i hi;have:=h.le;rw[low i (by omega)];exact h.pl i hi
 ·intro i X hi hX;rw[show aH (st.cX up nw).h=cK (aH st.h) (up++news st.h.length nw) from g_] at hX;have:=h.le
  by_cases gS: ∃Y,(i,Y)∈up++news st.h.length nw
  ·obtain⟨Y,hY⟩:=gS;rcases Hu i Y hY with U|U
   ·obtain⟨Z,hZ⟩:=ta ha i U;exact h.lv i Z hi hZ
   ·omega
  ·rw[gC λY hY=>gS ⟨Y,hY⟩] at hX;exact h.lv i X hi hX
 ·intro b hb fm bN;have Od: ∀i∈st.dt,B.live i-> ∀p,B.A0.pl i=some p->cG p≠some b:=λi hi=>bN i (pG hi);obtain⟨c1,c2,c3⟩:=h.cl b hb fm Od;have fM: ∀i X p,(i,X)∈up++news st.h.length nw->A.pl i=some p->cG p≠some b:=by
   intro i X p hi hp;rcases Hu i X hi with U|U
   ·rcases ψ i B.nb with aB|dp
    ·obtain⟨Y,hY⟩:=ta ha i U;exact bN i (rC (by rw[h.nb];exact aB) U) (h.lv i Y aB hY) p (by rw[<-h.pl i aB];exact hp)
    ·obtain⟨Y,hY⟩:=ta ha i U;exact λbM=>c3 i Y p dp hY hp (.inl bM)
   ·rw[h.free i U] at hp;cases hp
  obtain⟨k1,k2⟩:=e.keep b c2 fM;have QO: ∀i X p Z,(i,X)∈up++news st.h.length nw->aH st.h i=some Z->A.pl i=some p-> ¬dJ w Z p b:=by
   intro i X p Z hi hZ hp bM;rcases ψ i B.nb with aB|dp
   ·exact fM i X p hi hp (iR (h.nt i Z aB hZ) bM)
   ·exact c3 i Z p dp hZ hp bM
  refine⟨k1.trans c1,k2,?_⟩;intro i X p hi hX hp bM;rw[show aH (st.cX up nw).h=cK (aH st.h) (up++news st.h.length nw) from g_] at hX
  by_cases gS: ∃Y,(i,Y)∈up++news st.h.length nw
  ·obtain⟨Y,hY⟩:=gS;rw[uY hY λZ hZ=>e.nd i Z Y hZ hY] at hX;subst hX;obtain⟨p',cH,_,fa⟩:=e.al i X hY;rw[hp] at cH;cases cH;rcases(fa b bM).2 with dp|⟨j,Z,q,V,hj,hV,hq,eE⟩
   ·have:=h.ob b c2;omega
   ·exact QO j Z q V hj hV hq eE
  ·have Ab: ∀Y,(i,Y)∉up++news st.h.length nw:=λY hY=>gS ⟨Y,hY⟩;rw[gC Ab] at hX;rw[low i (jo hX)] at hp;refine c3 i X p hi hX hp (rI (λc hc=>?_) bM);refine(e.keep c (h.rel.lF hX hp (.inl hc)) λj Y q hj hq=>?_).1;obtain⟨Z,hZ⟩:=e.lv j Y q hj hq;exact h.rel.dj i j X Z p q c (λe1=>by subst e1;exact Ab Y hj) hX hZ hp hq hc
 ·intro i X hi hX;rw[show aH (st.cX up nw).h=cK (aH st.h) (up++news st.h.length nw) from g_] at hX;have:=h.le
  by_cases gS: ∃Y,(i,Y)∈up++news st.h.length nw
  ·obtain⟨Y,hY⟩:=gS;rcases Hu i Y hY with U|U
   ·obtain⟨Z,hZ⟩:=ta ha i U;rw[uY hY λZ hZ=>e.nd i Z Y hZ hY] at hX;subst hX;exact e.nt i X Z hY hZ (h.nt i Z hi hZ)
   ·omega
  ·rw[gC λY hY=>gS ⟨Y,hY⟩] at hX;exact h.nt i X hi hX
theorem bF.put {d:Nat} {av:AV S} {v:Value} (h:bF K P N B A O w st a) (hd:τ d N=true) (hv:av.rel A O w v):bF K P N B A O w { st with env:=(d,av)::st.env } (a.put (some d) v):=by
 have fT:d<a.tmps.size:=by rw[h.size];exact ο.mp hd
 refine⟨by simp[ζz,h.size],?_,h.rel,h.ob,h.eJ,h.free,h.nb,h.le,h.tr,h.pl,h.ls,h.lv,h.cl,h.df,h.lp,h.dl,h.hi,h.o0,h.rr,h.nt⟩;intro s b hs;simp only[aW.get] at hs;cases hq:ζ d s with
 |true=>
  rw[hq] at hs;have e1:=δ hq;subst e1;simp only[cond_true,ι] at hs;subst hs;simpa[ζz,θ,fT] using hv
 |false=>
  rw[hq] at hs;have aN:d≠s:=λe=>by subst e;simp at hq
  have:=h.env s b hs;simp only[ζz,θ,ξ0 aN] at this ⊢;exact this
end
section
variable {S:bL} {P:Program} {R:Type} {z:R} {N:Nat}
def AX.of:AX->Exit
 | .normal=> .normal
 | .exit id=> .exit id
 | .ret=> .ret
 | .bU u=> .panic [{ v:=u,recovered:=false }]
def mG (K:bG S) (P:Program) (N:Nat) (B:dZ) (e:AX) (st:AS S) (x:Exit) (a:Act) (w:World):Prop:=x=e.of/\ ∃A O,bF K P N B A O w st a
inductive NP|go|bU (u:Value)
def NP.x:NP->AX
 | .go=> .normal
 | .bU u=> .bU u
def A9 (kp:Value->AS S->Option R) (k:AS S->Option R):NP->AS S->Option R
 | .go,st=>k st
 | .bU u,st=>kp u st
def EW (K:bG S) (P:Program) (jc:List (aD S)->AS S->(Bool->AS S->Option R)->Option R):Prop:=
 ∀(ava:List (aD S)) (st:AS S) (k:Bool->AS S->Option R) (z:R),jc ava st k=some z-> ∃b bu,k b bu=some z/\ ∀(N:Nat) (B:dZ) (o:Oper) (c:ζ8) (x:Operand) (A:Pl) (O:List Nat) (w:World) (a:Act) (l:Nat),
  o.op= .call c->c.callee= .value x->a.eval x= .func (.yield l) #[] #[]->A.ls=some l->dO A O w ava (c.args.toList.map a.eval)->bF K P N B A O w st a->od P B.rr o a w (λv w'=>v= .bool b/\ ∃A' O',bF K P N B A' O' w' bu a) (λ_ _=>False)
theorem adv {ops:Array Oper} {o:Oper} {a:Act} {j d:Nat} {b c:Bool} {oj:Oper} (hg:o.guard=some (j,b)) (hj:ops[j]? =some oj) (hd:oj.dst=some d) (hN:τ d a.tmps.size=true) (hv:a.tmps.getD d undef= .bool c):ξ1 o (yielded ops a.tmps)=(c==b):=by
 have aB:d<a.tmps.size:=ο.mp hN;rw[θ,κ aB] at hv;simp only[ξo] at hv;unfold ξ1;rw[hg];simp[yielded,hj,hd,aB,hv]
theorem adg {ops:Array Oper} {o:Oper} {a:Act} {j d:Nat} {b:Bool} {oj:Oper} {xs:Array Value} (hg:o.guard=some (j,b)) (hj:ops[j]? =some oj) (hd:oj.dst=some d) (hN:τ d a.tmps.size=true) (hv:a.tmps.getD d undef= .tuple xs):ξ1 o (yielded ops a.tmps)=false:=by
 have aB:d<a.tmps.size:=ο.mp hN;rw[θ,κ aB] at hv;simp only[ξo] at hv;unfold ξ1;rw[hg];simp[yielded,hj,hd,aB,hv]
theorem bF.aor {K:bG S} {B:dZ} {A:Pl} {O:List Nat} {w:World} {st:AS S} {a:Act} {d:Nat} {c:Bool} (h:bF K P N B A O w st a) (hd:aW.get st.env d=some (.s (.one (.v (.bool c))))):bF K P N B A O w { st with env:=(d,.s (.one (.v (.bool c))))::st.env } a:=by
 refine⟨h.size,?_,h.rel,h.ob,h.eJ,h.free,h.nb,h.le,h.tr,h.pl,h.ls,h.lv,h.cl,h.df,h.lp,h.dl,h.hi,h.o0,h.rr,h.nt⟩;intro s b hs;simp only[aW.get] at hs;cases hq:ζ d s with
 |true=>
  rw[hq] at hs;have e1:=δ hq;subst e1;simp only[cond_true,ι] at hs;subst hs;exact h.env _ _ hd
 |false=>rw[hq] at hs;exact h.env s b hs
theorem ag8 {K:bG S} {ops:Array Oper} {o:Oper} {st:AS S} {yes no:AS S->Option R} (h:vQ N ops o.guard st yes no=some z):
  ∃bu,bu.h=st.h/\(∀B A O w a,bF K P N B A O w st a->bF K P N B A O w bu a)/\
   ((yes bu=some z/\ ∀B A O w a,bF K P N B A O w st a->ξ1 o (yielded ops a.tmps)=true)\/(no bu=some z/\ ∀B A O w a,bF K P N B A O w st a->ξ1 o (yielded ops a.tmps)=false)):=by
 unfold vQ at h;split at h
 ·rename_i hg;exact⟨st,rfl,λ_ _ _ _ _ h=>h,.inl ⟨h,λB A O w a _=>by unfold ξ1;rw[hg]⟩⟩
 ·rename_i j b hg;split at h
  rotate_left
  ·cases h
  rename_i oj hj;split at h
  rotate_left
  ·cases h
  rename_i d hd;cases hN:τ d N<;>rw[hN] at h
  ·cases h
  simp only[cond_true] at h;have Xl: ∀ {B A O w a},bF K P N B A O w st a->τ d a.tmps.size=true:=λh=>by rw[h.size];exact hN
  split at h
  ·rename_i c hc;have hv: ∀ {B A O w a},bF K P N B A O w st a->a.tmps.getD d undef= .bool c:=λ{B A O w a} h=>gD (S:=S) (A:=A) (O:=O) (w:=w) (h.env d _ hc);refine⟨{ st with env:=(d,.s (.one (.v (.bool c))))::st.env },rfl,λB A O w a h=>h.aor hc,?_⟩;have w1: ∀ {B A O w a},bF K P N B A O w st a->ξ1 o (yielded ops a.tmps)=(c==b):=λh=>adv hg hj hd (Xl h) (hv h);cases c<;>cases b<;>simp only[cond_true,cond_false] at h
   ·exact .inl ⟨h,λB A O w a hr=>by rw[w1 hr];rfl⟩
   ·exact .inr ⟨h,λB A O w a hr=>by rw[w1 hr];rfl⟩
   ·exact .inr ⟨h,λB A O w a hr=>by rw[w1 hr];rfl⟩
   ·exact .inl ⟨h,λB A O w a hr=>by rw[w1 hr];rfl⟩
  ·rename_i hc;refine⟨st,rfl,λB A O w a h=>h,.inr ⟨h,λB A O w a hr=>?_⟩⟩;obtain⟨xs,hx,_⟩:=hr.env d _ hc;exact adg hg hj hd (Xl hr) hx
  ·cases h
theorem Q7 {K:bG S} {o:Oper} {st:AS S} {av:AV S} {k:AS S->Option R} (h:nT N o st av k=some z): ∃bu,k bu=some z/\bu.h=st.h/\bu.dt=st.dt/\ ∀B A O w a v,bF K P N B A O w st a->av.rel A O w v->bF K P N B A O w bu (a.put o.dst v):=by
 unfold nT at h;split at h
 ·rename_i d hd;cases hN:τ d N<;>rw[hN] at h
  ·cases h
  ·exact⟨_,h,rfl,rfl,λB A O w a v hr hv=>by rw[hd];exact hr.put hN hv⟩
 ·rename_i hd;exact⟨st,h,rfl,rfl,λB A O w a v hr hv=>by rw[hd];exact hr⟩
theorem ag5 {G:ay S} (hK:cI G.K P) (hC:qZ G P) {c_:Nat->List (aD S)->AH S->(Rs S->AH S->List Nat->Option R)->Option R} (dr:qY G.K P c_) {jc:List (aD S)->AS S->(Bool->AS S->Option R)->Option R} (uj:EW G.K P jc) {o:Oper} {st:AS S} {kp:Value->AS S->Option R} {k:AS S->Option R}
  (h:LS G c_ jc N o st kp k=some z): ∃e bu,A9 kp k e bu=some z/\ ∀B A O w a,bF G.K P N B A O w st a->
   o.wpIn (fw B.rr) 0 P a w (λa' w'=>e= .go/\ ∃A' O',bF G.K P N B A' O' w' bu a') (λx a' w'=> ∃u,e= .bU u/\x=(AX.bU u).of/\ ∃A' O',bF G.K P N B A' O' w' bu a'):=by
 have plain:xu G c_ st.env (aH st.h) st.h.length o (λu up nw=>bif iN (aH st.h) up then kp u (st.cX up nw) else none) (λa up nw=>bif iN (aH st.h) up then nT N o (st.cX up nw) a k else none)=some z-> ∃e bu,A9 kp k e bu=some z/\ ∀B A O w a,bF G.K P N B A O w st a->
   o.wpIn (fw B.rr) 0 P a w (λa' w'=>e= .go/\ ∃A' O',bF G.K P N B A' O' w' bu a') (λx a' w'=> ∃u,e= .bU u/\x=(AX.bU u).of/\ ∃A' O',bF G.K P N B A' O' w' bu a'):=by
  intro h;obtain⟨r,up,nw,U,h2⟩:=aax hK hC dr h;have go: ∀B A O w a,bF G.K P N B A O w st a->_:=λB A O w a hr=>h2 B.rr A O w a hr.env hr.rel hr.ob hr.eJ (λj _=>hr.free _ (ξI _ _));cases r with
  |ret av=>
   simp only[qP] at U;cases gK:iN (aH st.h) up<;>rw[gK] at U
   ·cases U
   simp only[cond_true] at U;obtain⟨bu,hk,_,_,fJ⟩:=Q7 (K:=G.K) (P:=P) U;refine⟨.go,bu,hk,λB A O w a hr=>sU ?_ ?_ (go B A O w a hr)⟩
   ·rintro a' w' ⟨v,rfl,jw,e,A',O',hv,gX⟩;cases e;exact⟨rfl,A',O',fJ B A' O' w' a v (hr.cX gK gX) hv⟩
   ·intro x a' w' hq;cases x with
    |panic ch=>obtain⟨u,_,_,e,_⟩:=hq;cases e
    |_=>exact hq.elim
  |bU u=>
   simp only[qP] at U;cases Nn:u.oneCell'<;>rw[Nn] at U
   ·cases U
   simp only[cond_true] at U;cases gK:iN (aH st.h) up<;>rw[gK] at U
   ·cases U
   simp only[cond_true] at U;refine⟨.bU u,_,U,λB A O w a hr=>sU ?_ ?_ (go B A O w a hr)⟩
   ·rintro a' w' ⟨v,rfl,jw,e,_⟩;cases e
   ·intro x a' w' hq;cases x with
    |panic ch=>
     obtain⟨u',rfl,rfl,e,A',O',gX⟩:=hq;cases e;exact⟨u,rfl,rfl,A',O',hr.cX gK gX⟩
    |_=>exact hq.elim
 unfold LS at h;split at h
 ·
  rename_i c ah;split at h
  rotate_left
  ·cases h
  rename_i x hx;split at h
  rotate_left
  ·cases h
  rename_i i gL hl tX jG hd;refine⟨.go,_,h,λB A O w a hr=>⟨λ_ _=>trivial,?_⟩⟩;have m5:=hr.rr tX;rw[m5];obtain⟨f,u,cc,hA,hv⟩:=cR hr.env hr.eJ hl;have hv:a.eval x= .func f u cc:=by simpa using hv
  have aX:(o.semAt (fw none).round a.eval).run P w= .ok (.defer { target:= .fn f cc,args:=u }) w:=by
   show(o.semAt none a.eval).run P w=_;unfold Oper.semAt execOp;rw[ah];have:c.args= #[]:=kd gL;simp[resolve,hx,hv,ζ0,this]
  rw[aX,Oper.uponIn_defer];refine⟨rfl,A,O,?_⟩;rw[hd];exact⟨hr.size,hr.env,hr.rel,hr.ob,hr.eJ,hr.free,hr.nb,hr.le,hr.tr,hr.pl,hr.ls,hr.lv,hr.cl,.inr ⟨i,st.df,f,u,cc,rfl,hA,rfl,hr.df⟩,hr.lp,(λh=>by rw[show((st.lp.isSome||st.inr)=true)=(((none:Option (mF S)).isSome||false)=true) by rw[jG,tX]] at h;cases h),hr.hi,hr.o0,hr.rr,hr.nt⟩
 ·
  rename_i x ah;split at h
  rotate_left
  ·cases h
  rename_i t u hl;refine⟨.bU (.iface t u),_,h,λB A O w a hr=>⟨λ_ _=>trivial,?_⟩⟩;have hv:=gD (cR hr.env hr.eJ hl);rw[ζl _ _ _ (by rw[ah];simp)];have aX:(execOp a.eval o).run P w= .halt (.panic (.iface t u)) w:=by
   unfold execOp;rw[ah];simp only[ξ,hv,Instr.panic];rfl
  rw[aX,Oper.uponIn_panic];exact⟨_,rfl,rfl,A,O,hr⟩
 ·rename_i c ah;cases hy:SO G st.env c<;>rw[hy] at h
  ·exact plain h
  ·simp only[cond_true] at h;unfold SO at hy;split at hy
   rotate_left
   ·cases hy
   rename_i x hx;split at hy
   rotate_left
   ·cases hy
   rename_i hl;split at h
   rotate_left
   ·cases h
   rename_i ava has;obtain⟨b,st1,U,h2⟩:=uj _ _ _ _ h;obtain⟨bu,hk,_,_,fJ⟩:=Q7 (K:=G.K) (P:=P) U;refine⟨.go,bu,hk,λB A O w a hr=>?_⟩;obtain⟨l,fm,hv⟩:=cR hr.env hr.eJ hl;refine sU ?_ ?_ (h2 N B o c x A O w a l ah hx (by simpa using hv) fm (tf hr.env hr.eJ has) hr)
   ·rintro a' w' ⟨v,rfl,rfl,A',O',cP⟩;exact⟨rfl,A',O',fJ B A' O' w' a _ cP ⟨rfl,rfl⟩⟩
   ·intro x a' w' hq;cases x with
    |panic ch=>obtain⟨u,_,_,e⟩:=hq;exact e.elim
    |_=>exact hq.elim
 ·exact plain h
theorem LU {G:ay S} (hK:cI G.K P) (hC:qZ G P) {c_:Nat->List (aD S)->AH S->(Rs S->AH S->List Nat->Option R)->Option R} (dr:qY G.K P c_) {jc:List (aD S)->AS S->(Bool->AS S->Option R)->Option R} (uj:EW G.K P jc) {ops:Array Oper} {kp:Value->AS S->Option R}:
  ∀ {l:List Nat} {st:AS S} {k:AS S->Option R},yD G c_ jc N ops kp l st k=some z-> ∃e bu,A9 kp k e bu=some z/\ ∀B A O w a,bF G.K P N B A O w st a->wpOpsIn (fw B.rr) 0 P ops (mG G.K P N B e.x bu) l a w
 |[],st,k,h=>⟨.go,st,h,λB A O w a hr=>⟨rfl,A,O,hr⟩⟩
 |i::l,st,k,h=>by
  simp only[yD] at h;split at h
  rotate_left
  ·cases h
  rename_i o ho;obtain⟨st1,hh1,Pm,zY⟩:=ag8 (K:=G.K) (P:=P) h;rcases zY with⟨hy,hw⟩|⟨hn,hw⟩
  ·obtain⟨e,st2,hk,hs⟩:=ag5 hK hC dr uj hy;cases e with
   |bU u=>
    refine⟨.bU u,st2,hk,λB A O w a hr=>?_⟩;simp only[wpOpsIn,ho];rw[if_pos (hw B A O w a hr)];refine sU ?_ ?_ (hs B A O w a (Pm B A O w a hr))
    ·rintro a' w' ⟨e,_⟩;cases e
    ·rintro x a' w' ⟨u',e,hx,A',O',cP⟩;cases e;exact⟨hx,A',O',cP⟩
   |go=>
    obtain⟨e3,R',qk,AE⟩:=LU hK hC dr uj hk;refine⟨e3,R',qk,λB A O w a hr=>?_⟩;simp only[wpOpsIn,ho];rw[if_pos (hw B A O w a hr)];refine sU ?_ ?_ (hs B A O w a (Pm B A O w a hr))
    ·rintro a' w' ⟨_,A',O',cP⟩;exact AE B A' O' w' a' cP
    ·rintro x a' w' ⟨u',e,_⟩;cases e
  ·obtain⟨st2,eY,_,_,fJ⟩:=Q7 (K:=G.K) (P:=P) hn;obtain⟨e3,R',qk,AE⟩:=LU hK hC dr uj eY;refine⟨e3,R',qk,λB A O w a hr=>?_⟩;simp only[wpOpsIn,ho];rw[if_neg (by rw[hw B A O w a hr];simp)];exact⟨λ_ _=>trivial,AE B A O w _ (fJ B A O w a undef (Pm B A O w a hr) ⟨[],rfl,rfl⟩)⟩
end
section
variable {S:bL} {K:bG S} {P:Program} {N:Nat} {A A':Pl} {O O':List Nat} {w w':World} {B:dZ}
structure kO (K:bG S) (P:Program) (N:Nat) (B:dZ) (A:Pl) (O:List Nat) (w:World) (g:Nat->Option (Ob S)) (free dt:Nat->Prop) (ZU:Option (mF S)) (inr:Bool) (df:List (LV S)) (a:Act):Prop where
 size:a.tmps.size=N
 rel:cv A O w g
 ob:OB O w
 eJ:dR K O w
 oA: ∀i,free i->A.pl i=none
 low: ∀i,i<B.nb-> ¬free i
 tr:Tr B.O0 B.w0 O w
 pl: ∀i,i<B.nb->A.pl i=B.A0.pl i
 ls:A.ls=B.A0.ls
 lv: ∀i X,i<B.nb->g i=some X->B.live i
 cl: ∀b,b∈B.O0->B.ex≠some b->(∀i,dt i->B.live i-> ∀p,B.A0.pl i=some p->cG p≠some b)->w.heap[b]? =B.w0.heap[b]? /\b∈O/\ ∀i X p,B.nb<=i->g i=some X->A.pl i=some p-> ¬dJ w X p b
 df:eG B.w0.heap.size A O w df a.defers
 lp:po P B O w ZU
 dl:(ZU.isSome||inr)=true->a.defers=[]
 hi: ∀i,B.nb<=i->B.A0.pl i=none
 o0:OB B.O0 B.w0
 rr:inr=false->B.rr=none
 nt: ∀i X,i<B.nb->g i=some X->X.nt=true
variable {st:AS S} {a:Act}
theorem bF.toC (h:bF K P N B A O w st a):kO K P N B A O w (aH st.h) (λi=>st.h.length<=i) (λi=>i∈st.dt) st.lp st.inr st.df a:=
 ⟨h.size,h.rel,h.ob,h.eJ,h.free,λi hi U=>absurd U (by have:=h.le;omega),h.tr,h.pl,h.ls,h.lv,h.cl,h.df,h.lp,h.dl,h.hi,h.o0,h.rr,h.nt⟩
theorem kO.toS {g:Nat->Option (Ob S)} {free dt:Nat->Prop} (h:kO K P N B A O w g free dt st.lp st.inr st.df a) (hg: ∀i,aH st.h i=g i) (hf: ∀i,st.h.length<=i->free i) (hd: ∀i,i<B.nb->dt i->i∈st.dt) (hn:st.nb=B.nb) (hle:B.nb<=st.h.length) (he:dV A O w st.env a):bF K P N B A O w st a:=by
 have e:aH st.h=g:=funext hg;exact⟨h.size,he,by rw[e];exact h.rel,h.ob,h.eJ,λi hi=>h.oA i (hf i hi),hn,hle,h.tr,h.pl,h.ls,by rw[e];exact h.lv,λb hb fm bN=>by
  rw[e];exact h.cl b hb fm λi hi hlv p hp=>(by
   rcases ψ i B.nb with U|U
   ·exact bN i (hd i U hi) hlv p hp
   ·rw[h.hi i U] at hp;cases hp),h.df,h.lp,h.dl,h.hi,h.o0,h.rr,by rw[e];exact h.nt⟩
theorem kO.cX {g:Nat->Option (Ob S)} {free dt:Nat->Prop} {lp:Option (mF S)} {inr:Bool} {df:List (LV S)} {ef:Up S} (h:kO K P N B A O w g free dt lp inr df a) (gK: ∀i X,(i,X)∈ef->(∃Z,g i=some Z)\/free i) (e:cW A O w g ef A' O' w'):
  kO K P N B A' O' w' (cK g ef) (λi=>free i/\ ∀X,(i,X)∉ef) (λi=>dt i\/((∃Z,g i=some Z)/\ ∃X,(i,X)∈ef)) lp inr df a:=by
 have ao3: ∀i Z,g i=some Z-> ¬free i:=λi Z hZ hf=>by
  obtain⟨p,hp,_⟩:=h.rel.al i Z hZ;rw[h.oA i hf] at hp;cases hp
 have low: ∀i,¬free i->A'.pl i=A.pl i:=by
  intro i hi;rcases e.pl i with U|⟨U,X,hX⟩
  ·exact U
  ·rcases gK i X hX with⟨Z,hZ⟩|hf
   ·obtain⟨p,hp,_⟩:=h.rel.al i Z hZ;rw[U] at hp;cases hp
   ·exact absurd hf hi
 refine⟨h.size,h.rel.cX h.ob e,e.ob,h.eJ.tr e.tr,?_,λi hi hf=>h.low i hi hf.1,h.tr.trans e.tr,λi hi=>(low i (h.low i hi)).trans (h.pl i hi),e.le.ls.trans h.ls,?_,?_,eG.cX h.rel e h.df,po.cX h.rel e h.lp,h.dl,h.hi,h.o0,h.rr,?_⟩
 ·rintro i ⟨U,h2⟩;rcases e.pl i with h3|⟨_,X,hX⟩
  ·rw[h3];exact h.oA i U
  ·exact absurd hX (h2 X)
 ·intro i X hi hX
  by_cases gS: ∃Y,(i,Y)∈ef
  ·obtain⟨Y,hY⟩:=gS;rcases gK i Y hY with⟨Z,hZ⟩|hf
   ·exact h.lv i Z hi hZ
   ·exact absurd hf (h.low i hi)
  ·rw[gC λY hY=>gS ⟨Y,hY⟩] at hX;exact h.lv i X hi hX
 ·intro b hb fm bN;obtain⟨c1,c2,c3⟩:=h.cl b hb fm λi hi=>bN i (.inl hi);have fM: ∀i X p,(i,X)∈ef->A.pl i=some p->cG p≠some b:=by
   intro i X p hi hp;rcases gK i X hi with⟨Z,hZ⟩|hf
   ·rcases ψ i B.nb with aB|dp
    ·exact bN i (.inr ⟨⟨Z,hZ⟩,X,hi⟩) (h.lv i Z aB hZ) p (by rw[<-h.pl i aB];exact hp)
    ·exact λbM=>c3 i Z p dp hZ hp (.inl bM)
   ·rw[h.oA i hf] at hp;cases hp
  obtain⟨k1,k2⟩:=e.keep b c2 fM;have QO: ∀i X p Z,(i,X)∈ef->g i=some Z->A.pl i=some p-> ¬dJ w Z p b:=by
   intro i X p Z hi hZ hp bM;rcases ψ i B.nb with aB|dp
   ·exact fM i X p hi hp (iR (h.nt i Z aB hZ) bM)
   ·exact c3 i Z p dp hZ hp bM
  refine⟨k1.trans c1,k2,?_⟩;intro i X p hi hX hp bM
  by_cases gS: ∃Y,(i,Y)∈ef
  ·obtain⟨Y,hY⟩:=gS;rw[uY hY λZ hZ=>e.nd i Z Y hZ hY] at hX;subst hX;obtain⟨p',cH,_,fa⟩:=e.al i X hY;rw[hp] at cH;cases cH;rcases(fa b bM).2 with dp|⟨j,Z,q,V,hj,hV,hq,eE⟩
   ·have:=h.ob b c2;omega
   ·exact QO j Z q V hj hV hq eE
  ·have Ab: ∀Y,(i,Y)∉ef:=λY hY=>gS ⟨Y,hY⟩;rw[gC Ab] at hX;rw[low i (ao3 i X hX)] at hp;refine c3 i X p hi hX hp (rI (λc hc=>?_) bM);refine(e.keep c (h.rel.lF hX hp (.inl hc)) λj Y q hj hq=>?_).1;obtain⟨Z,hZ⟩:=e.lv j Y q hj hq;exact h.rel.dj i j X Z p q c (λe1=>by subst e1;exact Ab Y hj) hX hZ hp hq hc
 ·intro i X hi hX
  by_cases gS: ∃Y,(i,Y)∈ef
  ·obtain⟨Y,hY⟩:=gS;rw[uY hY λZ hZ=>e.nd i Z Y hZ hY] at hX;subst hX;rcases gK i _ hY with⟨Z,hZ⟩|hf
   ·exact e.nt i X Z hY hZ (h.nt i Z hi hZ)
   ·exact absurd hf (h.low i hi)
  ·rw[gC λY hY=>gS ⟨Y,hY⟩] at hX;exact h.nt i X hi hX
theorem kO.weaken {g:Nat->Option (Ob S)} {free Wv dt dt':Nat->Prop} {lp:Option (mF S)} {inr:Bool} {df:List (LV S)} (h:kO K P N B A O w g free dt lp inr df a) (hf: ∀i,Wv i->free i) (hd: ∀i,dt i->dt' i):kO K P N B A O w g Wv dt' lp inr df a:=
 ⟨h.size,h.rel,h.ob,h.eJ,λi hi=>h.oA i (hf i hi),λi hi U=>h.low i hi (hf i U),h.tr,h.pl,h.ls,h.lv,λb hb fm bN=>h.cl b hb fm λi hi=>bN i (hd i hi),h.df,h.lp,h.dl,h.hi,h.o0,h.rr,h.nt⟩
theorem kO.act {g:Nat->Option (Ob S)} {free dt:Nat->Prop} {lp:Option (mF S)} {inr:Bool} {df:List (LV S)} {a':Act} (h:kO K P N B A O w g free dt lp inr df a) (U:a'.tmps.size=a.tmps.size) (h2:a'.defers=a.defers):kO K P N B A O w g free dt lp inr df a':=
 ⟨U.trans h.size,h.rel,h.ob,h.eJ,h.oA,h.low,h.tr,h.pl,h.ls,h.lv,h.cl,by rw[h2];exact h.df,h.lp,by rw[h2];exact h.dl,h.hi,h.o0,h.rr,h.nt⟩
def dw.ef (r:dw S):Up S:=r.up++news r.nx r.nw
def dL (L:Nat->Bool):Nat->List (dw S)->(Nat->Option (Ob S))->Nat->Option (Ob S)
 |_,[],g=>g
 |k,r::rs,g=>dL L (k+1) rs (bif L k then cK g r.ef else g)
theorem BN {o:Nat}: ∀ {ef:Up S} {g g':Nat->Option (Ob S)},(∃X,(o,X)∈ef)->cK g ef o=cK g' ef o
 |[],g,g',⟨X,h⟩=>by cases h
 |(j,Y)::r,g,g',⟨X,h⟩=>by
  simp only[cK]
  by_cases hr: ∃Z,(o,Z)∈r
  ·exact BN hr
  ·rw[gC (λZ hZ=>hr ⟨Z,hZ⟩),gC (λZ hZ=>hr ⟨Z,hZ⟩)];rcases υ.1 h with e|e
   ·cases e;simp
   ·exact absurd ⟨X,e⟩ hr
theorem adi {o:Nat} {ef:Up S} {g g':Nat->Option (Ob S)} (h:g o=g' o):cK g ef o=cK g' ef o:=by
 by_cases ht: ∃X,(o,X)∈ef
 ·exact BN ht
 ·rw[gC (λZ hZ=>ht ⟨Z,hZ⟩),gC (λZ hZ=>ht ⟨Z,hZ⟩),h]
theorem ue {L L':Nat->Bool} {o:Nat}: ∀ {rs:List (dw S)} {k:Nat} {g g':Nat->Option (Ob S)},(∀j r,rs[j]? =some r->(∃X,(o,X)∈r.ef)->L (k+j)=L' (k+j))->g o=g' o->dL L k rs g o=dL L' k rs g' o
 |[],k,g,g',_,h=>h
 |r::rs,k,g,g',hl,h=>by
  simp only[dL];refine ue (λj r' hj ht=>by have:=hl (j+1) r' (by simpa using hj) ht;rwa [show k+(j+1)=k+1+j by omega] at this) ?_
  by_cases ht: ∃X,(o,X)∈r.ef
  ·have:=hl 0 r rfl ht;rw[ξP] at this;rw[this];cases L' k with
   |true=>exact BN ht
   |false=>exact h
  ·have out: ∀(c:Bool) (f:Nat->Option (Ob S)),(bif c then cK f r.ef else f) o=f o:=λc f=>by
    cases c with
    |true=>exact gC (λZ hZ=>ht ⟨Z,hZ⟩)
    |false=>rfl
   rw[out,out,h]
theorem Hi {L:Nat->Bool}: ∀ {rs uR:List (dw S)} {k:Nat} {g:Nat->Option (Ob S)},dL L k (rs++uR) g=dL L (k+rs.length) uR (dL L k rs g)
 |[],uR,k,g=>rfl
 |r::rs,uR,k,g=>by
  simp only[ζ1,dL,ζ2];rw[Hi,show k+1+rs.length=k+(rs.length+1) by omega]
theorem Ph {o:Nat} {L:Nat->Bool} {rs:List (dw S)} {k:Nat} {g:Nat->Option (Ob S)} (h: ∀j r,rs[j]? =some r->(∃X,(o,X)∈r.ef)->L (k+j)=false):dL L k rs g o=g o:=by
 have U:dL L k rs g o=dL (λ_=>false) k rs g o:=ue (λj r hj ht=>h j r hj ht) rfl;rw[U];clear h U
 induction rs generalizing k with
 |nil=>rfl
 |cons r rs ih=>simp only[dL,cond_false];exact ih
theorem Yu {L:Nat->Bool} {i o:Nat} {acc:List (dw S)} {r:dw S} {g:Nat->Option (Ob S)} (hr:acc[i]? =some r) (hL:L i=false) (anl:(∃X,(o,X)∈r.ef)-> ∀k r',i<k->acc[k]? =some r'->(∃X,(o,X)∈r'.ef)->L k=false):
  dL (λk=>ζ k i||L k) 0 acc g o=cK (dL L 0 acc g) r.ef o:=by
 by_cases ht: ∃X,(o,X)∈r.ef
 ·obtain⟨hi,he⟩:=ε.1 hr;have Pk:acc=acc.take i++r::acc.drop (i+1):=by
   rw[<-he,<-List.drop_eq_getElem_cons hi,ξ6]
  have hlen:(acc.take i).length=i:=by rw[ξ3];omega
  have lhs:dL (λk=>ζ k i||L k) 0 acc g o=cK (dL (λk=>ζ k i||L k) 0 (acc.take i) g) r.ef o:=by
   conv=>lhs;rw[Pk]
   rw[Hi,hlen,ξe];simp only[dL,ξu,ζb,cond_true];refine Ph λj r' hj Po=>?_;have hk:acc[i+1+j]? =some r':=by rw[<-ζk];exact hj
   have U:=anl ht (i+1+j) r' (by omega) hk Po;have h2:ζ (i+1+j) i=false:=by
    cases hb:ζ (i+1+j) i with
    |false=>rfl
    |true=>have:=δ hb;omega
   simp only[U,h2,Bool.or_self]
  rw[lhs];exact BN ht
 ·rw[gC (λZ hZ=>ht ⟨Z,hZ⟩)];refine ue (λj r' hj Po=>?_) rfl;rw[ξe]
  by_cases nI:j=i
  ·subst nI;rw[hr] at hj;cases hj;exact absurd Po ht
  ·have h2:ζ j i=false:=by
    cases hb:ζ j i with
    |false=>rfl
    |true=>exact absurd (δ hb) nI
   simp[h2]
theorem aak {l m:List Nat}:HR l m=true↔ ∀i∈l,i∉m:=by
 unfold HR;rw[ξ4];exact forall_congr' λi=>forall_congr' λ_=>by rw[ξE,<-ζx,lR]
theorem aoZ {l:List Nat} {nx n:Nat}:Qp l nx n=true↔ ∀i∈l,¬(nx<=i/\i<nx+n):=by
 unfold Qp;rw[ξ4];refine forall_congr' λi=>forall_congr' λ_=>?_;rw[ξE,<-ζx,η];constructor
 ·rintro h ⟨U,h2⟩;exact h ⟨ζD.mpr U,ο.mpr h2⟩
 ·rintro h ⟨U,h2⟩;exact h ⟨ξ5 U,ο.mp h2⟩
theorem VG {cl rd:List Nat} {up:Up S}: ∀ {rs:List (dw S)} {k j:Nat} {r:dw S},rz cl rd up rs k=true->rs[j]? =some r->k+j∈cl\/((∀i∈rd,i∉keys r.up)/\(∀i∈rd,¬(r.nx<=i/\i<r.nx+r.nw.length))/\ ∀i∈keys up,i∉r.rd)
 |[],k,j,r,_,hj=>by simp at hj
 |q::rs,k,j,r,h,hj=>by
  simp only[rz,η,ξN] at h;cases j with
  |zero=>
   simp at hj;subst hj;rw[ξP];rcases h.1 with U|U
   ·exact .inl (lR.1 U)
   ·exact .inr ⟨aak.1 U.1,aoZ.1 U.2.1,aak.1 U.2.2⟩
  |succ j=>
   have:=VG (j:=j) h.2 (by simpa using hj)
   rwa [show k+1+j=k+(j+1) by omega] at this
theorem YG {cl:List Nat}: ∀ {rs:List (dw S)} {k j:Nat} {r:dw S},idle cl rs k=true->rs[j]? =some r->k+j∈cl\/(r.up=[]/\r.nw=[])
 |[],k,j,r,_,hj=>by simp at hj
 |q::rs,k,j,r,h,hj=>by
  simp only[idle,η,ξN] at h;cases j with
  |zero=>
   simp at hj;subst hj;rw[ξP];rcases h.1 with U|U
   ·exact .inl (lR.1 U)
   ·right;split at U
    ·rename_i e1 e2;exact⟨e1,e2⟩
    ·cases U
  |succ j=>
   have:=YG (j:=j) h.2 (by simpa using hj)
   rwa [show k+1+j=k+(j+1) by omega] at this
theorem pH {r:dw S} {o:Nat}:(∃X,(o,X)∈r.ef)↔o∈keys r.up\/(r.nx<=o/\o<r.nx+r.nw.length):=by
 unfold dw.ef;constructor
 ·rintro ⟨X,h⟩;rcases ω.1 h with h|h
  ·exact .inl (xb.2 ⟨X,h⟩)
  ·obtain⟨j,U,rfl⟩:=oS.1 h;have:=(ε.1 U).1;exact .inr ⟨by omega,by omega⟩
 ·rintro (h|⟨U,h2⟩)
  ·obtain⟨X,h⟩:=xb.1 h;exact⟨X,ξ9 _ h⟩
  ·have aB:o-r.nx<r.nw.length:=by omega
   exact⟨r.nw[o-r.nx],ξ7 _ (oS.2 ⟨o-r.nx,σ aB,by omega⟩)⟩
end
section
variable {S:bL} {P:Program} {N:Nat} {ops:Array Oper}
theorem ari {id:Nat} {rr:Option Nat} {Q:Exit->Act->World->Prop} {I:Array Bool->Act->World->Prop} (hm:P.follows .mixedOrders=true) (lI: ∀i o,ops[i]? =some o-> ∀x∈d_ o,x<i)
  (ug: ∀(listed:Array Bool) (a:Act) (w:World) (i:Nat) (o:Oper),listed.size=ops.size->(∀(k:Nat) (o:Oper),ops[k]? =some o->listed.getD k true=true-> ∀x∈d_ o,listed.getD x true=true)->I listed a w->ops[i]? =some o->listed.getD i true=false->(∀x∈d_ o,listed.getD x true=true)->
   wpOpIn (fw rr) 0 P ops Q i (λa' w'=>I (listed.setIfInBounds i true) a' w') a w)
  (p_: ∀(listed:Array Bool) (a:Act) (w:World),listed.size=ops.size->(∀i,i<ops.size->listed.getD i true=true)->I listed a w->Q .normal a w) {a:Act} {w:World} (h0:I (ξ8 ops.size false) a w.drew):(ζA id ops true).wpIn (fw rr) 0 P Q a w:=by
 refine wpIn_region_draw λt=>?_;simp only[Region.schedule,hm,ζb,if_true];refine wpAnyIn_sound ops.size t _ a _ ?_;have key: ∀(fuel:Nat) (listed:Array Bool) (a:Act) (w':World),listed.size=ops.size->gN listed ops.size=fuel->(∀(k:Nat) (o:Oper),ops[k]? =some o->listed.getD k true=true-> ∀x∈d_ o,listed.getD x true=true)->I listed a w'->
   wpAnyIn (fw rr) 0 P .any ops Q fuel listed a w':=by
  intro fuel
  induction fuel with
  |zero=>
   intro listed a w' hs hl bN hI;have eX:=xf _ hl;refine⟨?_,p_ listed a w' hs eX hI⟩;unfold ζc;rw[List.filter_eq_nil_iff];intro i hi;have:=eX i (by simpa using hi);simp[this]
  |succ fuel ih=>
   intro listed a w' hs hl bN hI;refine⟨λud=>?_,λi hi=>?_⟩
   ·exfalso;obtain⟨i,U,h2,h3⟩:=A4 ops.size (by rw[hl];omega:gN listed ops.size≠0);have ho:=κ U;have hb:=lI i _ ho;have:i∈ζc .any ops listed:=by
     unfold ζc;rw[ξk];refine⟨by simpa using U,?_⟩;rw[h2,ho];simp only[Bool.not_false,ξW,ξx,ξo,ξC];intro e he;cases ji:Region.binds .any e with
     |false=>simp
     |true=>
      have aB:=hb e.on (oR.2 ⟨e,he,ji,rfl⟩);have:=h3 e.on aB;have bz:e.on<listed.size:=by omega
      simp only[θ,κ bz,ξo] at this ⊢;simp[this]
    rw[ud] at this;cases this
   ·unfold ζc at hi;rw[ξk] at hi;obtain⟨Ai,iw⟩:=hi;have cY:i<ops.size:=by simpa using Ai
    have ho:=κ cY;rw[ho] at iw;simp only[η,ξE,ξx,ξo,ξC] at iw;obtain⟨gT,qx⟩:=iw;have rQ: ∀x∈d_ ops[i],listed.getD x true=true:=by
     intro x hx;obtain⟨e,he,ji,rfl⟩:=oR.1 hx;have U:=qx e he;rw[ji] at U;simp only[ξY,ξZ] at U;have aB:=lI i _ ho e.on hx;have bz:e.on<listed.size:=by omega
     simp only[θ,κ bz,ξo] at U ⊢;exact U
    have mu:i<listed.size:=by omega
    have ga: ∀k,(listed.setIfInBounds i true).getD k true=true↔k=i\/listed.getD k true=true:=by
     intro k
     by_cases hk:i=k
     ·subst hk;simp[θ,mu]
     ·simp only[θ,ξ0 hk];constructor
      ·exact λh=> .inr h
      ·rintro (h|h)
       ·exact absurd h.symm hk
       ·exact h
    have qp:=Qi mu gT ops.size;simp only[cY,if_true] at qp;refine wpOpIn_mono (λa' cU zA=>?_) (ug listed a w' i _ hs bN hI ho gT rQ);refine ih _ a' cU (by simpa using hs) (by omega) ?_ zA;intro k o' eA hk x hx;rw[ga] at hk ⊢;right;rcases hk with rfl|hk
    ·rw[ho] at eA;cases eA;exact rQ x hx
    ·exact bN k o' eA hk x hx
 refine key ops.size _ a _ (by simp) ?_ ?_ h0
 ·have: ∀n,n<=ops.size->gN (ξ8 ops.size false) n=n:=by
   intro n
   induction n with
   |zero=>intro _;rfl
   |succ n ih=>
    intro hn;simp only[gN,ih (by omega)];have:(ξ8 ops.size false).getD n true=false:=by simp[θ,show n<ops.size by omega]
    simp[this]
  exact this _ (ξc _)
 ·intro k o ho hk;have aB:=(ξa.1 ho).1;simp[θ,aB] at hk
inductive Gh (S:bL)|done (av:AV S)|bU (u:Value)|never
def q9 (ops:Array Oper) (bw:AS S) (gp:List (Gh S)) (s:Nat) (av:AV S):Prop:=
 (∃k,eT ops k=some s/\gp[k]? =some (.done av))\/(aW.get bw.env s=some av/\ ∀k jw,eT ops k=some s->gp[k]? ≠some (.done jw))
structure Want (K:bG S) (P:Program) (N:Nat) (ops:Array Oper) (bw:AS S) (pre:List (dw S)) (gp:List (Gh S)) (i:Nat) (o:Oper) (r:dw S) (res:Rs S) (env:aW S) (gc:Nat->Option (Ob S)):Prop where
 snd:DT K P o env (pd r.rd gc) r.nx res r.up r.nw
 ev: ∀s av,aW.get env s=some av->s∈jv ops o/\q9 ops bw gp s av
 wnt: ∀A O w a,a.tmps.size=N->dV A O w env a->ξ1 o (yielded ops a.tmps)=true
 gh: ∀x,gc x=dL (λ_=>true) 0 pre (aH bw.h) x
 al: ∀k∈keys r.up,∃Z,gc k=some Z
 sub: ∀k∈keys r.up,k∈r.rd
 lt: ∀x∈r.rd,x<r.nx
 Fa: ∀k r',pre[k]? =some r'->k∈gR ops i\/((∀i∈r.rd,i∉keys r'.up)/\(∀i∈r.rd,¬(r'.nx<=i/\i<r'.nx+r'.nw.length))/\ ∀i∈keys r.up,i∉r'.rd)
def Unw (N:Nat) (ops:Array Oper) (bw:AS S) (gp:List (Gh S)) (o:Oper) (r:dw S) (av:AV S) (env:aW S):Prop:=
 (∀s av,aW.get env s=some av->s∈jv ops o/\q9 ops bw gp s av)/\(∀A O w a,a.tmps.size=N->dV A O w env a->ξ1 o (yielded ops a.tmps)=false)/\av= .bD []/\r.up=[]/\r.nw=[]
def yB (K:bG S) (P:Program) (N:Nat) (ops:Array Oper) (bw:AS S) (pre:List (dw S)) (gp:List (Gh S)) (i:Nat) (o:Oper) (r:dw S):Gh S->Prop
 | .done av=>(∃env gc,Want K P N ops bw pre gp i o r (.ret av) env gc)\/ ∃env,Unw N ops bw gp o r av env
 | .bU u=> ∃env gc,Want K P N ops bw pre gp i o r (.bU u) env gc
 | .never=>(r.up=[]/\r.nw=[])/\ ∃k∈gR ops i,∀av,gp[k]? ≠some (.done av)
structure Dm (ops:Array Oper) (bw:AS S) (acc:List (dw S)) (gs:List (Gh S)) (i:Nat) (r:dw S) (dT:AS S):Prop where
 hp: ∀x,aH dT.h x=cK (dL (λ_=>true) 0 (acc.take i) (aH bw.h)) r.ef x
 hl:dT.h.length=r.nx+r.nw.length
 env: ∀s av,aW.get dT.env s=some av->(∀k,eT ops k≠some s)/\aW.get bw.env s=some av
 sA:dT.nb=bw.nb/\dT.lp=bw.lp/\dT.inr=bw.inr/\dT.df=bw.df
 vW: ∀x∈bw.dt,x∈dT.dt
 dt: ∀k r' x,k<=i->acc[k]? =some r'->x∈keys r'.up->x<bw.nb->x∈dT.dt
 pre: ∀k r',k<i->acc[k]? =some r'->k∈gR ops i\/(r'.up=[]/\r'.nw=[])
 post: ∀k r',i<k->acc[k]? =some r'->r'.up=[]/\r'.nw=[]
structure jX (K:bG S) (P:Program) (N:Nat) (ops:Array Oper) (bw:AS S) (acc:List (dw S)) (gs:List (Gh S)) (pn:Option (List Nat×Value×AS S)) (st:AS S):Prop where
 lg:gs.length=acc.length
 hp: ∀x,aH st.h x=dL (λ_=>true) 0 acc (aH bw.h) x
 hl:bw.h.length<=st.h.length
 pos: ∀(i k:Nat) r r',i<k->acc[i]? =some r->acc[k]? =some r'->r.nx+r.nw.length<=r'.nx
 top: ∀(i:Nat) r,acc[i]? =some r->bw.h.length<=r.nx/\r.nx+r.nw.length<=st.h.length
 env: ∀s av,aW.get st.env s=some av->q9 ops bw gs s av
 sA:st.nb=bw.nb/\st.lp=bw.lp/\st.inr=bw.inr/\st.df=bw.df
 vW: ∀x∈bw.dt,x∈st.dt
 dt: ∀(i:Nat) r x,acc[i]? =some r->x∈keys r.up->x<bw.nb->x∈st.dt
 step: ∀i o r gh,ops[i]? =some o->acc[i]? =some r->gs[i]? =some gh->yB K P N ops bw (acc.take i) (gs.take i) i o r gh
 uD:pn=none-> ∀(k:Nat) (gh:Gh S),gs[k]? =some gh-> ∃av,gh=Gh.done av
 sC: ∀dead u dT,pn=some (dead,u,dT)-> ∃i r,gs[i]? =some (.bU u)/\acc[i]? =some r/\Dm ops bw acc gs i r dT/\(∀k u',gs[k]? =some (.bU u')->k=i)/\(∀(k:Nat) (gh:Gh S),gs[k]? =some gh->((∃av,gh=Gh.done av)\/k∈dead)/\(k∈dead-> ∀av,gh≠Gh.done av))/\ ∀k∈dead,k<acc.length
structure vy (K:bG S) (P:Program) (N:Nat) (ops:Array Oper) (bw:AS S) (acc:List (dw S)) (gs:List (Gh S)) (B:dZ) (L:Nat->Bool) (A:Pl) (O:List Nat) (w:World) (a:Act):Prop where
 c:kO K P N B A O w (dL L 0 acc (aH bw.h)) (λx=>bw.h.length<=x/\ ∀(k:Nat) r,acc[k]? =some r->L k=true-> ¬(r.nx<=x/\x<r.nx+r.nw.length)) (λx=>x∈bw.dt\/ ∃(k:Nat) (r:dw S),acc[k]? =some r/\L k=true/\x∈keys r.up) bw.lp bw.inr bw.df a
 base: ∀s av,aW.get bw.env s=some av->(∀k,eT ops k=some s->L k=false)->av.rel A O w (a.tmps.getD s undef)
 done: ∀k s av,L k=true->eT ops k=some s->gs[k]? =some (.done av)->av.rel A O w (a.tmps.getD s undef)
 all: ∀k,L k=true-> ∃av,gs[k]? =some (.done av)
structure vB (N:Nat) (ops:Array Oper):Prop where
 below: ∀(i:Nat) o,ops[i]? =some o-> ∀x∈d_ o,x<i
 cl: ∀i,i<ops.size-> ∀k∈gR ops i,k<i
 dN: ∀i s,eT ops i=some s->s<N
 un: ∀i k s,eT ops i=some s->eT ops k=some s->i=k
 slot: ∀(i:Nat) o s,ops[i]? =some o->s∈jv ops o->(∃j∈d_ o,eT ops j=some s)\/ ∀k,eT ops k=some s->k=i\/i∈gR ops k
theorem vV {k s:Nat} (h:eT ops k=some s):k<ops.size:=by
 unfold eT at h;split at h
 ·rename_i o ho;exact(ξa.1 ho).1
 ·cases h
theorem Vd {k:Nat}: ∀ {l:List Nat},mJ k l=true-> ∀x∈l,x<k:=Dc.L1
theorem abt (h:Ir N ops=true):vB N ops:=by
 unfold Ir at h;rw[ξ4] at h;have at_: ∀i o,ops[i]? =some o->mJ i (d_ o)=true/\mJ i (gR ops i)=true/\(match o.dst with
   |some d=>τ d N&&(ξr ops.size).all λk=>ζ k i||(match eT ops k with|some e=>!(ζ d e)|none=>true)
   |none=>true)=true/\(jv ops o).all (RZ ops i o)=true:=by
  intro i o ho;have hi:=(ξa.1 ho).1;have:=h i (by simpa using hi);unfold aay at this;rw[ho] at this;simp only[η] at this;exact this
 have VV: ∀ {i s},eT ops i=some s-> ∃o,ops[i]? =some o/\o.dst=some s:=by
  intro i s hs;unfold eT at hs;split at hs
  ·rename_i o ho;exact⟨o,ho,hs⟩
  ·cases hs
 constructor
 ·exact λi o ho=>Vd (at_ i o ho).1
 ·intro i hi;exact Vd (at_ i _ (κ hi)).2.1
 ·intro i s hs;obtain⟨o,ho,hd⟩:=VV hs;have:=(at_ i o ho).2.2.1;rw[hd] at this;simp only[η] at this;exact ο.mp this.1
 ·intro i k s hi hk;obtain⟨o,ho,hd⟩:=VV hi;have:=(at_ i o ho).2.2.1;rw[hd] at this;simp only[η,ξ4] at this;have h2:=this.2 k (by simpa using vV hk);rw[hk] at h2;simp at h2;exact h2.symm
 ·intro i o s ho hs;have:=(at_ i o ho).2.2.2;rw[ξ4] at this;have h2:=this s hs;unfold RZ at h2;simp only[ξN,ζy,ξ4] at h2;rcases h2 with⟨j,h3,h4⟩|h2
  ·left;refine⟨j,h3,?_⟩;split at h4
   ·rename_i d hd;rw[hd,δ h4]
   ·cases h4
  ·right;intro k hk;have h3:=h2 k (by simpa using vV hk);rw[hk] at h3;simp only[ξN,ξu,ξY,ζm,false_or] at h3;rcases h3 with h3|h3
   ·exact .inl (δ h3)
   ·exact .inr (lR.1 h3)
end
section
variable {S:bL} {K:bG S} {P:Program} {N:Nat} {ops:Array Oper} {bw:AS S}
theorem yV {r:dw S} (h:r.up=[]/\r.nw=[]) {x:Nat}: ¬ ∃X,(x,X)∈r.ef:=by
 rintro ⟨X,hX⟩;unfold dw.ef at hX;rw[h.1,h.2] at hX;cases hX
theorem Yv {acc:List (dw S)} {i x:Nat} {g:Nat->Option (Ob S)} (hi:i<=acc.length):dL (λ_=>true) 0 (acc.take i) g x=dL (λk=>τ k i) 0 acc g x:=by
 have hlen:(acc.take i).length=i:=by rw[ξ3];omega
 have U:dL (λk=>τ k i) 0 acc g x=dL (λk=>τ k i) 0 (acc.take i) g x:=by
  conv=>lhs;rw[<-ξ6 i acc]
  rw[Hi,hlen,ξe];refine Ph λj r hj _=>?_;cases hb:τ (i+j) i with
  |false=>rfl
  |true=>have:=ο.mp hb;omega
 rw[U];refine ue (λj r hj _=>?_) rfl;have:j<i:=by
  have:=(ε.1 hj).1;omega
 rw[ξe];exact(ο.mpr this).symm
theorem yB.cl {pre:List (dw S)} {gp:List (Gh S)} {i:Nat} {o:Oper} {r:dw S} {gh:Gh S} (h:yB K P N ops bw pre gp i o r gh):
  (r.up=[]/\r.nw=[])\/((∀k∈keys r.up,k∈r.rd)/\(∀x∈r.rd,x<r.nx)/\ ∀(k:Nat) (r':dw S),pre[k]? =some r'->k∈gR ops i\/((∀i∈r.rd,i∉keys r'.up)/\(∀i∈r.rd,¬(r'.nx<=i/\i<r'.nx+r'.nw.length))/\ ∀i∈keys r.up,i∉r'.rd)):=by
 cases gh with
 |done av=>
  rcases h with⟨env,gc,hw⟩|⟨env,hw⟩
  ·exact .inr ⟨hw.sub,hw.lt,hw.Fa⟩
  ·exact .inl hw.2.2.2
 |bU u=>obtain⟨env,gc,hw⟩:=h;exact .inr ⟨hw.sub,hw.lt,hw.Fa⟩
 |never=>exact .inl h.1
structure s_ (ops:Array Oper) (L:Nat->Bool) (i:Nat) (o:Oper):Prop where
 oi:ops[i]? =some o
 up: ∀k,L k=true->k<ops.size/\ ∀j∈gR ops k,L j=true
 cl: ∀j∈gR ops i,L j=true
 no:L i=false
 af: ∀j∈d_ o,L j=true
variable {acc:List (dw S)} {gs:List (Gh S)} {pn:Option (List Nat×Value×AS S)} {st:AS S} {L:Nat->Bool} {i:Nat} {o:Oper} {r:dw S}
theorem jX.acZ (hF:jX K P N ops bw acc gs pn st) (bz:acc.length=ops.size) {k:Nat} {r':dw S} (hk:acc[k]? =some r'): ∃o' gh,ops[k]? =some o'/\gs[k]? =some gh/\yB K P N ops bw (acc.take k) (gs.take k) k o' r' gh:=by
 have U:=(ε.1 hk).1;have h2:k<ops.size:=by omega
 have h3:k<gs.length:=by rw[hF.lg];exact U
 exact⟨_,_,κ h2,σ h3,hF.step k _ _ _ (κ h2) hk (σ h3)⟩
theorem zn {α:Type} {l:List α} {i k:Nat} {x:α} (h:l[k]? =some x) (hk:k<i):(l.take i)[k]? =some x:=by
 rw[ξU hk];exact h
theorem agree (hF:jX K P N ops bw acc gs pn st) (bz:acc.length=ops.size) (hs:s_ ops L i o) (hr:acc[i]? =some r) (aB: ∀x∈r.rd,x<r.nx)
  (bN: ∀(k:Nat) (r':dw S),(acc.take i)[k]? =some r'->k∈gR ops i\/((∀i∈r.rd,i∉keys r'.up)/\(∀i∈r.rd,¬(r'.nx<=i/\i<r'.nx+r'.nw.length))/\ ∀i∈keys r.up,i∉r'.rd)):
  ∀x∈r.rd,dL L 0 acc (aH bw.h) x=dL (λ_=>true) 0 (acc.take i) (aH bw.h) x:=by
 intro x hx;rw[Yv (ζd (ε.1 hr).1)];refine ue (λk r' hk ht=>?_) rfl;rw[ξe];rcases ξd k i with h|h|h
 ·rw[show τ k i=true from ο.mpr h];rcases bN k r' (zn hk h) with U|⟨U,h2,_⟩
  ·exact hs.cl k U
  ·rcases pH.1 ht with h3|h3
   ·exact absurd h3 (U x hx)
   ·exact absurd h3 (h2 x hx)
 ·subst h;rw[hs.no];cases hb:τ k k with
  |false=>rfl
  |true=>have:=ο.mp hb;omega
 ·rw[show τ k i=false by
   cases hb:τ k i with
   |false=>rfl
   |true=>have:=ο.mp hb;omega]
  have hp:=hF.pos i k r r' h hr hk;have oN:=aB x hx;obtain⟨o',gh,eA,_,gv⟩:=hF.acZ bz hk;rcases gv.cl with h0|⟨U,h2,h3⟩
  ·exact absurd ht (yV h0)
  ·rcases pH.1 ht with h4|h4
   ·rcases h3 i r (zn hr h) with h5|⟨_,_,h5⟩
    ·cases iu:L k with
     |false=>rfl
     |true=>have:=(hs.up k iu).2 i h5;rw[hs.no] at this;cases this
    ·exact absurd hx (h5 x h4)
   ·omega
theorem late (hF:jX K P N ops bw acc gs pn st) (bz:acc.length=ops.size) (hs:s_ ops L i o) (hr:acc[i]? =some r) (aB: ∀x∈r.rd,x<r.nx) (j9: ∀k∈keys r.up,k∈r.rd) {x:Nat} (hx: ∃X,(x,X)∈r.ef):
  ∀k r',i<k->acc[k]? =some r'->(∃X,(x,X)∈r'.ef)->L k=false:=by
 intro k r' h hk ht;have hp:=hF.pos i k r r' h hr hk;obtain⟨o',gh,eA,_,gv⟩:=hF.acZ bz hk;rcases gv.cl with h0|⟨U,h2,h3⟩
 ·exact absurd ht (yV h0)
 ·rcases h3 i r (zn hr h) with h5|⟨h5,h6,h7⟩
  ·cases iu:L k with
   |false=>rfl
   |true=>have:=(hs.up k iu).2 i h5;rw[hs.no] at this;cases this
  ·exfalso;rcases pH.1 hx with a1|a1
   ·have oN:=aB x (j9 x a1);rcases pH.1 ht with h4|h4
    ·exact h5 x (U x h4) a1
    ·omega
   ·rcases pH.1 ht with h4|h4
    ·exact h6 x (U x h4) a1
    ·omega
variable {B:dZ} {A:Pl} {O:List Nat} {w:World} {a:Act}
theorem ME (hR:vB N ops) (hs:s_ ops L i o) (hI:vy K P N ops bw acc gs B L A O w a) {env:aW S} (Oz: ∀s av,aW.get env s=some av->s∈jv ops o/\q9 ops bw (gs.take i) s av):dV A O w env a:=by
 intro s av h;obtain⟨mu,he⟩:=Oz s av h;rcases he with⟨k,hk,hg⟩|⟨h0,j8⟩
 ·have qm:k<i:=by
   have:=(ε.1 hg).1;rw[ξ3] at this;omega
  have j6:gs[k]? =some (.done av):=by rw[ξU qm] at hg;exact hg
  refine hI.done k s av ?_ hk j6;rcases hR.slot i o s hs.oi mu with⟨j,hj,wN⟩|U
  ·rw[<-hR.un j k s wN hk];exact hs.af j hj
  ·rcases U k hk with rfl|h2
   ·omega
   ·have:=hR.cl k (vV hk) i h2;omega
 ·refine hI.base s av h0 λk hk=>?_;cases hL:L k with
  |false=>rfl
  |true=>
   exfalso;rcases hR.slot i o s hs.oi mu with⟨j,hj,wN⟩|U
   ·have:=hR.un j k s wN hk;subst this;obtain⟨jw,hg⟩:=hI.all j hL;exact j8 j jw hk (zn hg (hR.below i o hs.oi j hj))
   ·rcases U k hk with rfl|h2
    ·rw[hs.no] at hL;cases hL
    ·have:=(hs.up k hL).2 i h2;rw[hs.no] at this;cases this
theorem cv.view {rd:List Nat} {g gc:Nat->Option (Ob S)} (h:cv A O w g) (hv: ∀x∈rd,g x=gc x):cv A O w (pd rd gc):=by
 refine h.less λx X hx=>?_;unfold pd at hx;cases hm:fu x rd<;>rw[hm] at hx
 ·cases hx
 ·rw[hv x (lR.1 hm)];exact hx
theorem cW.view {A':Pl} {O':List Nat} {w':World} {rd:List Nat} {ef:Up S} {g gc:Nat->Option (Ob S)} (h:cW A O w (pd rd gc) ef A' O' w') (hv: ∀x∈rd,g x=gc x) (gS: ∀x X,(x,X)∈ef->x∈rd\/g x=Option.none):cW A O w g ef A' O' w':=by
 have at_: ∀x Z,pd rd gc x=some Z->g x=some Z:=λx Z hZ=>by
  unfold pd at hZ;cases hm:fu x rd<;>rw[hm] at hZ
  ·cases hZ
  ·rw[hv x (lR.1 hm)];exact hZ
 refine⟨h.le,h.tr,h.ob,h.keep,λi X hi=>?_,h.dj,h.nd,λx X p hx hp=>?_,h.pl,λi X Z hi hZ hn=>?_⟩
 ·obtain⟨p,U,h2,h3⟩:=h.al i X hi;exact⟨p,U,h2,λb hb=>⟨(h3 b hb).1,(h3 b hb).2.imp id λ⟨j,Y,q,V,a1,a2,a3⟩=>⟨j,Y,q,V,a1,at_ _ _ a2,a3⟩⟩⟩
 ·obtain⟨Z,hZ⟩:=h.lv x X p hx hp;exact⟨Z,at_ _ _ hZ⟩
 ·rcases gS i _ hi with U|U
  ·refine h.nt i X Z hi ?_ hn;unfold pd;rw[lR.2 U,cond_true,<-hv i U];exact hZ
  ·rw[hZ] at U;cases U
theorem ac0 (hF:jX K P N ops bw acc gs pn st) (bz:acc.length=ops.size) (hs:s_ ops L i o) (hr:acc[i]? =some r) (aB: ∀x∈r.rd,x<r.nx) (j9: ∀k∈keys r.up,k∈r.rd)
  {gc:Nat->Option (Ob S)} (hv: ∀x∈r.rd,dL L 0 acc (aH bw.h) x=gc x) (gK: ∀k∈keys r.up,∃Z,gc k=some Z) (hI:vy K P N ops bw acc gs B L A O w a) {A':Pl} {O':List Nat} {w':World} (he:cW A O w (pd r.rd gc) r.ef A' O' w'):
  kO K P N B A' O' w' (cK (dL L 0 acc (aH bw.h)) r.ef) (λx=>bw.h.length<=x/\ ∀(k:Nat) r,acc[k]? =some r->(ζ k i||L k)=true-> ¬(r.nx<=x/\x<r.nx+r.nw.length)) (λx=>x∈bw.dt\/ ∃(k:Nat) (r:dw S),acc[k]? =some r/\(ζ k i||L k)=true/\x∈keys r.up) bw.lp bw.inr bw.df a:=by
 have bZ: ∀x,r.nx<=x->x<r.nx+r.nw.length->bw.h.length<=x/\ ∀(k:Nat) r,acc[k]? =some r->L k=true-> ¬(r.nx<=x/\x<r.nx+r.nw.length):=by
  intro x U h2;refine⟨by have:=(hF.top i r hr).1;omega,λk r' hk iu h3=>?_⟩;rcases ξd k i with h|h|h
  ·have:=hF.pos k i r' r h hk hr;omega
  ·subst h;rw[hs.no] at iu;cases iu
  ·have:=hF.pos i k r r' h hr hk;omega
 have gS: ∀x X,(x,X)∈r.ef->x∈r.rd\/dL L 0 acc (aH bw.h) x=none:=λx X hx=>by
  rcases pH.1 ⟨X,hx⟩ with h|h
  ·exact .inl (j9 x h)
  ·right;cases hZ:dL L 0 acc (aH bw.h) x with
   |none=>rfl
   |some Z=>
    obtain⟨p,hp,_⟩:=hI.c.rel.al x Z hZ;rw[hI.c.oA x (bZ x h.1 h.2)] at hp;cases hp
 refine(hI.c.cX (λx X hx=>?_) (he.view hv gS)).weaken ?_ ?_
 ·rcases pH.1 ⟨X,hx⟩ with h|h
  ·obtain⟨Z,hZ⟩:=gK x h;exact .inl ⟨Z,by rw[hv x (j9 x h)];exact hZ⟩
  ·exact .inr (bZ x h.1 h.2)
 ·rintro x ⟨U,h2⟩;refine⟨⟨U,λk r' hk iu=>h2 k r' hk (by rw[iu,ξv])⟩,λX hx=>?_⟩;rcases pH.1 ⟨X,hx⟩ with h|h
  ·have:=aB x (j9 x h);obtain⟨Z,hZ⟩:=gK x h;have hg:dL L 0 acc (aH bw.h) x=some Z:=by rw[hv x (j9 x h)];exact hZ
   obtain⟨p,hp,_⟩:=hI.c.rel.al x Z hg;rw[hI.c.oA x ⟨U,λk r' hk iu=>h2 k r' hk (by rw[iu,ξv])⟩] at hp;cases hp
  ·exact h2 i r hr (by rw[ξu,ζb]) h
 ·rintro x (⟨h|⟨k,r',hk,iu,hx⟩⟩|⟨⟨Z,hZ⟩,X,hx⟩)
  ·exact .inl h
  ·exact .inr ⟨k,r',hk,by rw[iu,ξv],hx⟩
  ·rcases pH.1 ⟨X,hx⟩ with h|h
   ·exact .inr ⟨i,r,hr,by rw[ξu,ζb],h⟩
   ·have hf:=bZ x h.1 h.2;obtain⟨p,hp,_⟩:=hI.c.rel.al x Z hZ;rw[hI.c.oA x hf] at hp;cases hp
theorem ap4 {a:Act} {d s:Nat} {v:Value} (hd:d<a.tmps.size):(a.put (some d) v).tmps.getD s undef=bif ζ d s then v else a.tmps.getD s undef:=by
 cases hq:ζ d s with
 |true=>
  have:=δ hq;subst this;simp[ζz,θ,hd]
 |false=>
  have aN:d≠s:=λe=>by subst e;simp at hq
  simp[ζz,θ,ξ0 aN]
theorem ac1 (hR:vB N ops) (hs:s_ ops L i o) (hI:vy K P N ops bw acc gs B L A O w a) {A':Pl} {O':List Nat} {w':World} (eK:Tr O w O' w') (hle:A.le A') {av:AV S} {v:Value} (hg:gs[i]? =some (.done av)) (hv:av.rel A' O' w' v)
  (hc:kO K P N B A' O' w' (dL (λk=>ζ k i||L k) 0 acc (aH bw.h)) (λx=>bw.h.length<=x/\ ∀(k:Nat) r,acc[k]? =some r->(ζ k i||L k)=true-> ¬(r.nx<=x/\x<r.nx+r.nw.length)) (λx=>x∈bw.dt\/ ∃(k:Nat) (r:dw S),acc[k]? =some r/\(ζ k i||L k)=true/\x∈keys r.up) bw.lp bw.inr bw.df a):
  vy K P N ops bw acc gs B (λk=>ζ k i||L k) A' O' w' (a.put o.dst v):=by
 have fJ: ∀s,(a.put o.dst v).tmps.getD s undef=(match o.dst with|some d=>bif ζ d s then v else a.tmps.getD s undef|none=>a.tmps.getD s undef):=by
  intro s;cases hd:o.dst with
  |none=>rfl
  |some d=>
   have hdi:eT ops i=some d:=by unfold eT;rw[hs.oi];exact hd
   exact ap4 (by rw[hI.c.size];exact hR.dN i d hdi)
 have qa: ∀d,o.dst=some d->eT ops i=some d:=λd hd=>by unfold eT;rw[hs.oi];exact hd
 refine⟨hc.act ?_ ?_,?_,?_,?_⟩
 ·cases o.dst<;>simp[ζz]
 ·cases o.dst<;>rfl
 ·intro s b hb j8;rw[fJ s];have fH:=(hI.base s b hb λk hk=>by have:=j8 k hk;simp only[Bool.or_eq_false_iff] at this;exact this.2).tr eK hle;split
  ·rename_i d hd;cases hq:ζ d s with
   |true=>
    have:=δ hq;subst this;have:=j8 i (qa d hd);simp at this
   |false=>exact fH
  ·exact fH
 ·intro k s b hk mW OG;rw[fJ s];cases qm:ζ k i with
  |true=>
   have:=δ qm;subst this;rw[hg] at OG;cases OG;have aY:o.dst=some s:=by unfold eT at mW;rw[hs.oi] at mW;exact mW
   rw[aY];simpa using hv
  |false=>
   simp only[qm,ξZ] at hk;have fH:=(hI.done k s b hk mW OG).tr eK hle;split
   ·rename_i d hd;cases hq:ζ d s with
    |true=>
     have:=δ hq;subst this;have:=hR.un k i d mW (qa d hd);subst this;simp at qm
    |false=>exact fH
   ·exact fH
 ·intro k hk;cases qm:ζ k i with
  |true=>
   have:=δ qm;subst this;exact⟨av,hg⟩
  |false=>
   simp only[qm,ξZ] at hk;exact hI.all k hk
end
section
variable {S:bL} {K:bG S} {P:Program} {N:Nat} {ops:Array Oper} {bw:AS S}
variable {acc:List (dw S)} {gs:List (Gh S)} {pn:Option (List Nat×Value×AS S)} {st:AS S} {L:Nat->Bool} {i:Nat} {o:Oper} {r:dw S}
variable {B:dZ} {A:Pl} {O:List Nat} {w:World} {a:Act}
def iW (n:Nat) (listed:Array Bool):Nat->Bool:=λk=>τ k n&&listed.getD k true
theorem aoz {n:Nat} {listed:Array Bool} (hs:listed.size=n) {i:Nat} (hi:i<n):iW n (listed.setIfInBounds i true)=λk=>ζ k i||iW n listed k:=by
 funext k
 unfold iW;cases hq:ζ k i with
 |true=>
  have:=δ hq;subst this;have U:τ k n=true:=ο.mpr hi;rw[U];simp[θ,hs,hi]
 |false=>
  have aN:i≠k:=λe=>by subst e;simp at hq
  simp[θ,ξ0 aN]
theorem apM (hF:jX K P N ops bw acc gs pn st) (bz:acc.length=ops.size) (hR:vB N ops) (hs:s_ ops L i o) (hr:acc[i]? =some r) (aB: ∀x∈r.rd,x<r.nx) (j9: ∀k∈keys r.up,k∈r.rd)
  {gc:Nat->Option (Ob S)} (hv: ∀x∈r.rd,dL L 0 acc (aH bw.h) x=gc x) (gK: ∀k∈keys r.up,∃Z,gc k=some Z) (hI:vy K P N ops bw acc gs B L A O w a) {A':Pl} {O':List Nat} {w':World} (he:cW A O w (pd r.rd gc) r.ef A' O' w')
  {dT:AS S} (hp:Dm ops bw acc gs i r dT) (hle:B.nb<=bw.h.length) (As:bw.nb=B.nb):bF K P N B A' O' w' dT a:=by
 have hC:=ac0 hF bz hs hr aB j9 hv gK hI he;obtain⟨o1,o2,o3,o4⟩:=hp.sA;rw[<-o2,<-o3,<-o4] at hC;refine hC.toS (λx=>?_) (λx hx=>?_) (λx ld hx=>?_) (o1.trans As) (by rw[hp.hl];have:=(hF.top i r hr).1;omega) (λs av Pn=>?_)
 ·rw[hp.hp x]
  by_cases ht: ∃X,(x,X)∈r.ef
  ·exact BN ht
  ·rw[gC (λX hX=>ht ⟨X,hX⟩),gC (λX hX=>ht ⟨X,hX⟩),Yv (ζd (ε.1 hr).1)]
   symm
   refine ue (λk r' hk uh=>?_) rfl;rw[ξe];rcases ξd k i with h|h|h
   ·rw[show τ k i=true from ο.mpr h];rcases hp.pre k r' h hk with U|U
    ·exact hs.cl k U
    ·exact absurd uh (yV U)
   ·subst h;rw[hr] at hk;cases hk;exact absurd uh ht
   ·exact absurd uh (yV (hp.post k r' h hk))
 ·rw[hp.hl] at hx;refine⟨by have:=(hF.top i r hr).1;omega,λk r' hk iu h3=>?_⟩;rcases ξd k i with h|h|h
  ·have:=hF.pos k i r' r h hk hr;omega
  ·subst h;rw[hr] at hk;cases hk;omega
  ·rw[(hp.post k r' h hk).2] at h3;simp at h3;omega
 ·rcases hx with h|⟨k,r',hk,iu,hx⟩
  ·exact hp.vW x h
  ·rcases ψ i k with h|h
   ·rw[(hp.post k r' h hk).1] at hx;cases hx
   ·exact hp.dt k r' x h hk hx (by rw[As];exact ld)
 ·obtain⟨U,h2⟩:=hp.env s av Pn;exact(hI.base s av h2 λk hk=>absurd hk (U k)).tr he.tr he.le
theorem ahi (hm:P.follows .mixedOrders=true) (hR:vB N ops) (hF:jX K P N ops bw acc gs pn st) (bz:acc.length=ops.size) {e:NP} {bu:AS S} (he:(pn=none/\e= .go/\bu=st)\/ ∃dead u dT,pn=some (dead,u,dT)/\e= .bU u/\bu=dT) {id:Nat} (h:bF K P N B A O w bw a):
  (ζA id ops true).wpIn (fw B.rr) 0 P (mG K P N B e.x bu) a w:=by
 refine ari (I:=λlisted a w=> ∃A O,vy K P N ops bw acc gs B (iW ops.size listed) A O w a) hm hR.below ?_ ?_ ?_
 ·rintro listed a w i o fm bN ⟨A,O,hI⟩ ho gT Xv;have cY:i<ops.size:=(ξa.1 ho).1;have OT: ∀k,k<ops.size->listed.getD k true=true->iW ops.size listed k=true:=λk U h2=>by
   unfold iW;rw[h2,ζn];exact ο.mpr U
  have hS:s_ ops (iW ops.size listed) i o:=by
   refine⟨ho,?_,?_,?_,?_⟩
   ·intro k hk;unfold iW at hk;rw[η] at hk;have mW:=ο.mp hk.1;refine⟨mW,λj hj=>?_⟩;have hjk:=hR.cl k mW j hj;refine OT j (by omega) ?_;unfold gR at hj;rw[κ mW] at hj;exact th bN 12 _ (λx hx=>bN k _ (κ mW) hk.2 x hx) j hj
   ·intro j hj;have hjk:=hR.cl i cY j hj;refine OT j (by omega) ?_;unfold gR at hj;rw[ho] at hj;exact th bN 12 _ Xv j hj
   ·unfold iW;rw[gT,Bool.and_false]
   ·intro j hj;exact OT j (by have:=hR.below i o ho j hj;omega) (Xv j hj)
  have wM:i<acc.length:=by omega
  have hr:acc[i]? =some acc[i]:=σ wM;have XW:i<gs.length:=by rw[hF.lg];exact wM
  have gv:=hF.step i o acc[i] gs[i] ho hr (σ XW);have qc:gs[i]? =some gs[i]:=σ XW;have XV: ∀j,j<acc[i].nw.length->A.pl (acc[i].nx+j)=none:=by
   intro j hj;refine hI.c.oA _ ⟨by have:=(hF.top i _ hr).1;omega,λk r' hk iu h3=>?_⟩;rcases ξd k i with h|h|h
   ·have:=hF.pos k i r' _ h hk hr;omega
   ·subst h;rw[hS.no] at iu;cases iu
   ·have:=hF.pos i k _ r' h hr hk;omega
  simp only[wpOpIn,ho];rw[aoz fm cY];generalize hgg:gs[i]=gg at gv qc;cases gg with
  |done av=>
   rcases gv with⟨env,gc,hw⟩|⟨env,kG,mw,sg,Pq⟩
   ·have hE:=ME hR hS hI hw.ev;rw[if_pos (hw.wnt A O w a hI.c.size hE)];have hv: ∀x∈acc[i].rd,dL (iW ops.size listed) 0 acc (aH bw.h) x=gc x:=λx hx=>(agree hF bz hS hr hw.lt hw.Fa x hx).trans (hw.gh x).symm;refine sU ?_ ?_ (hw.snd B.rr A O w a hE (hI.c.rel.view hv) hI.c.ob hI.c.eJ XV)
    ·rintro a' w' ⟨v,rfl,jw,e',A',O',hva,gX⟩;cases e';refine⟨A',O',ac1 hR hS hI gX.tr gX.le qc hva ?_⟩;have hC:=ac0 hF bz hS hr hw.lt hw.sub hv hw.al hI gX;rw[show dL (λk=>ζ k i||iW ops.size listed k) 0 acc (aH bw.h)=cK (dL (iW ops.size listed) 0 acc (aH bw.h)) acc[i].ef from funext λx=>Yu hr hS.no λhx=>late hF bz hS hr hw.lt hw.sub hx];exact hC
    ·intro x a' w' hq;cases x with
     |panic ch=>obtain⟨u,_,_,e',_⟩:=hq;cases e'
     |_=>exact hq.elim
   ·have hE:=ME hR hS hI kG;rw[if_neg (by rw[mw A O w a hI.c.size hE];simp)];refine⟨λ_ _=>trivial,A,O,?_⟩;subst sg;refine ac1 hR hS hI (Tr.refl O w) (Pl.le.refl A) qc ⟨[],rfl,rfl⟩ ?_;have ana:acc[i].ef=[]:=by unfold dw.ef;rw[Pq.1,Pq.2];rfl
    rw[show dL (λk=>ζ k i||iW ops.size listed k) 0 acc (aH bw.h)=dL (iW ops.size listed) 0 acc (aH bw.h) from funext λx=>by
     rw[Yu hr hS.no λhx=>absurd hx (yV Pq),ana];rfl]
    refine hI.c.weaken ?_ ?_
    ·rintro x ⟨U,h2⟩;exact⟨U,λk r' hk iu=>h2 k r' hk (by rw[iu,ξv])⟩
    ·rintro x (U|⟨k,r',hk,iu,hx⟩)
     ·exact .inl U
     ·exact .inr ⟨k,r',hk,by rw[iu,ξv],hx⟩
  |bU u=>
   obtain⟨env,gc,hw⟩:=gv;have hE:=ME hR hS hI hw.ev;rw[if_pos (hw.wnt A O w a hI.c.size hE)];have hv: ∀x∈acc[i].rd,dL (iW ops.size listed) 0 acc (aH bw.h) x=gc x:=λx hx=>(agree hF bz hS hr hw.lt hw.Fa x hx).trans (hw.gh x).symm;refine sU ?_ ?_ (hw.snd B.rr A O w a hE (hI.c.rel.view hv) hI.c.ob hI.c.eJ XV)
   ·rintro a' w' ⟨v,rfl,jw,e',_⟩;cases e'
   ·intro x a' w' hq;cases x with
    |panic ch=>
     obtain⟨u',rfl,rfl,e',A',O',gX⟩:=hq;cases e';rcases he with⟨U,_⟩|⟨dead,u0,dT,U,rfl,rfl⟩
     ·obtain⟨av,h2⟩:=hF.uD U i _ qc;cases h2
     ·obtain⟨i0,r0,q1,q2,q3,q4,_⟩:=hF.sC dead u0 _ U;have:=q4 i u qc;subst this;rw[qc] at q1;cases q1;rw[hr] at q2;cases q2;exact⟨rfl,A',O',apM hF bz hR hS hr hw.lt hw.sub hv hw.al hI gX q3 h.le h.nb⟩
    |_=>exact hq.elim
  |never=>
   obtain⟨_,k,hk,j8⟩:=gv;exfalso;obtain⟨av,hg⟩:=hI.all k (hS.cl k hk);exact j8 av (zn hg (hR.cl i cY k hk))
 ·rintro listed a w fm eX ⟨A,O,hI⟩;have hL: ∀k,k<ops.size->iW ops.size listed k=true:=λk hk=>by unfold iW;rw[eX k hk,ζn];exact ο.mpr hk
  rcases he with⟨U,rfl,rfl⟩|⟨dead,u,dT,U,rfl,rfl⟩
  ·refine⟨rfl,A,O,?_⟩;obtain⟨o1,o2,o3,o4⟩:=hF.sA;have hC:=hI.c;rw[<-o2,<-o3,<-o4] at hC;have aB: ∀ {k:Nat} {r':dw S},acc[k]? =some r'->k<ops.size:=λhk=>by have:=(ε.1 hk).1;omega
   refine hC.toS (λx=>?_) (λx hx=>?_) (λx ld hx=>?_) (o1.trans h.nb) (ζs h.le hF.hl) (λs av Pn=>?_)
   ·rw[hF.hp x];refine ue (λk r' hk _=>?_) rfl;rw[ξe];exact(hL k (aB hk)).symm
   ·exact⟨ζs hF.hl hx,λk r' hk _ h3=>by have:=(hF.top k r' hk).2;omega⟩
   ·rcases hx with hx|⟨k,r',hk,_,hx⟩
    ·exact hF.vW x hx
    ·exact hF.dt k r' x hk hx (by rw[h.nb];exact ld)
   ·rcases hF.env s av Pn with⟨k,hk,hg⟩|⟨h2,h3⟩
    ·exact hI.done k s av (hL k (vV hk)) hk hg
    ·refine hI.base s av h2 λk hk=>?_;exfalso;obtain⟨jw,hg⟩:=hI.all k (hL k (vV hk));exact h3 k jw hk hg
  ·exfalso;obtain⟨i0,r0,q1,q2,_⟩:=hF.sC dead u _ U;have G9:i0<ops.size:=by have:=(ε.1 q2).1;omega
   obtain⟨av,hg⟩:=hI.all i0 (hL i0 G9);rw[q1] at hg;cases hg
 ·have gX:cW A O w (aH bw.h) [] A O w.drew:=My h.ob (Fr.drew [] w);have hL: ∀k,iW ops.size (ξ8 ops.size false) k=false:=λk=>by
   unfold iW;cases hb:τ k ops.size with
   |false=>rfl
   |true=>
    have:=ο.mp hb;simp[θ,this]
  refine⟨A,O,?_,?_,?_,?_⟩
  ·rw[show dL (iW ops.size (ξ8 ops.size false)) 0 acc (aH bw.h)=aH bw.h from funext λx=>Ph λj r' _ _=>by rw[ξe];exact hL j];refine(h.toC.cX (ef:=[]) (λx X hx=>by cases hx) gX).weaken ?_ ?_
   ·rintro x ⟨U,_⟩;exact⟨U,λX hx=>by cases hx⟩
   ·rintro x (U|⟨_,X,hx⟩)
    ·exact .inl U
    ·cases hx
  ·intro s av hs _;exact(h.env s av hs).tr gX.tr gX.le
  ·intro k s av hk;rw[hL k] at hk;cases hk
  ·intro k hk;rw[hL k] at hk;cases hk
end
section
variable {S:bL} {P:Program} {N:Nat} {ops:Array Oper} {bw:AS S} {R:Type} {z:R}
theorem PU {env:aW S} {s:Nat} {av:AV S} {l:List Nat} (h:aW.get (iE env l) s=some av):s∈l/\aW.get env s=some av:=Hz (get_mem h)
theorem AR {env:aW S} {s:Nat}: ∀ {l:List Nat},s∈l->aW.get (iE env l) s=aW.get env s
 |t::r,h=>by
  simp only[iE]
  by_cases gw:t=s
  ·subst gw;cases hg:aW.get env t with
   |some a=>simp[aW.get]
   |none=>
    simp only
    by_cases hr:t∈r
    ·rw[AR hr,hg]
    ·cases hk:aW.get (iE env r) t with
     |none=>rfl
     |some a=>exact absurd (PU hk).1 hr
  ·have hr:s∈r:=by
    rcases υ.1 h with h|h
    ·exact absurd h.symm gw
    ·exact h
   cases hg:aW.get env t with
   |some a=>
    have aN:ζ t s=false:=by
     cases hb:ζ t s with
     |false=>rfl
     |true=>exact absurd (δ hb) gw
    simp only[aW.get,aN,cond_false];exact AR hr
   |none=>exact AR hr
theorem atG {env:aW S} {s:Nat} {av:AV S} (h:aW.get (Si ops env) s=some av):(∀k,eT ops k≠some s)/\aW.get env s=some av:=by
 constructor
 ·have:=(ξk.1 (get_mem h)).2;rw[ξ4] at this;intro k hk;have U:=this k (by simpa using vV hk);rw[hk] at U;simp at U
 ·unfold Si at h
  induction env with
  |nil=>cases h
  |cons p r ih=>
   obtain⟨t,b⟩:=p;rw[List.filter_cons] at h;simp only[aW.get];split at h
   ·simp only[aW.get] at h;cases hq:ζ t s with
    |true=>rw[hq] at h;exact h
    |false=>rw[hq] at h;exact ih h
   ·rename_i hf;cases hq:ζ t s with
    |true=>
     exfalso;have gw:=δ hq;subst gw;have U:=(ξk.1 (get_mem h)).2;exact hf U
    |false=>exact ih h
theorem ag7 {o:Oper} {st:AS S} {yes no:AS S->Option R} (h:vQ N ops o.guard st yes no=some z):
  ∃rD,(∀s,aW.get rD s=aW.get st.env s)/\
   ((yes { st with env:=rD }=some z/\ ∀A O w a,a.tmps.size=N->dV A O w (iE rD (jv ops o)) a->ξ1 o (yielded ops a.tmps)=true)\/(no { st with env:=rD }=some z/\ ∀A O w a,a.tmps.size=N->dV A O w (iE rD (jv ops o)) a->ξ1 o (yielded ops a.tmps)=false)):=by
 unfold vQ at h;split at h
 ·rename_i hg;exact⟨st.env,λ_=>rfl,.inl ⟨h,λA O w a _ _=>by unfold ξ1;rw[hg]⟩⟩
 ·rename_i j b hg;split at h
  rotate_left
  ·cases h
  rename_i oj hj;split at h
  rotate_left
  ·cases h
  rename_i d hd;cases hN:τ d N<;>rw[hN] at h
  ·cases h
  simp only[cond_true] at h;have cY:d∈jv ops o:=by
   unfold jv W0 eT;rw[hg];simp[hj,hd]
  split at h
  ·rename_i c hc;have same: ∀s,aW.get ((d,AV.s (.one (.v (.bool c))))::st.env) s=aW.get st.env s:=λs=>by
    simp only[aW.get];cases hq:ζ d s with
    |true=>
     have:=δ hq;subst this;exact hc.symm
    |false=>rfl
   refine⟨(d,AV.s (.one (.v (.bool c))))::st.env,same,?_⟩;have w1: ∀(A:Pl) (O:List Nat) (w:World) (a:Act),a.tmps.size=N->dV A O w (iE ((d,AV.s (.one (.v (.bool c))))::st.env) (jv ops o)) a->ξ1 o (yielded ops a.tmps)=(c==b):=λA O w a bz hr=>
    adv hg hj hd (by rw[bz];exact hN) (gD (S:=S) (A:=A) (O:=O) (w:=w) (hr d (.s (.one (.v (.bool c)))) (by rw[AR cY,same d];exact hc)))
   cases c<;>cases b<;>simp only[cond_true,cond_false] at h
   ·exact .inl ⟨h,λA O w a bz hr=>by rw[w1 A O w a bz hr];rfl⟩
   ·exact .inr ⟨h,λA O w a bz hr=>by rw[w1 A O w a bz hr];rfl⟩
   ·exact .inr ⟨h,λA O w a bz hr=>by rw[w1 A O w a bz hr];rfl⟩
   ·exact .inl ⟨h,λA O w a bz hr=>by rw[w1 A O w a bz hr];rfl⟩
  ·rename_i hc;refine⟨st.env,λ_=>rfl,.inr ⟨h,λA O w a bz hr=>?_⟩⟩;obtain⟨xs,hx,_⟩:=hr d _ (by rw[AR cY];exact hc);exact adg hg hj hd (by rw[bz];exact hN) hx
  ·cases h
variable {K:bG S} {acc:List (dw S)} {gs:List (Gh S)} {pn:Option (List Nat×Value×AS S)} {st st1:AS S} {r:dw S} {gh:Gh S}
theorem q9.snoc {s:Nat} {av:AV S} (h:q9 ops bw gs s av) (hn: ∀jw,gh= .done jw->eT ops gs.length≠some s):q9 ops bw (gs++[gh]) s av:=by
 rcases h with⟨k,U,h2⟩|⟨U,h2⟩
 ·exact .inl ⟨k,U,by rw[φ (ε.1 h2).1];exact h2⟩
 ·refine .inr ⟨U,λk jw hk hg=>?_⟩;rcases ξd k gs.length with aB|heq|Ah
  ·rw[φ aB] at hg;exact h2 k jw hk hg
  ·subst heq;simp at hg;exact hn jw hg hk
  ·rw[ξg (by simp;omega)] at hg;cases hg
theorem jz {α:Type} {l:List α} {x y:α} {k:Nat} (h:(l++[x])[k]? =some y):l[k]? =some y\/(k=l.length/\y=x):=by
 rcases ξd k l.length with aB|heq|Ah
 ·rw[φ aB] at h;exact .inl h
 ·subst heq;simp at h;exact .inr ⟨rfl,h.symm⟩
 ·rw[ξg (by simp;omega)] at h;cases h
theorem xN {α:Type} {l:List α} {x:α} {k:Nat} (h:k<=l.length):(l++[x]).take k=l.take k:=ξJ h
theorem jX.snoc (hF:jX K P N ops bw acc gs pn st) (hx: ∀x,aH st1.h x=cK (aH st.h) r.ef x) (O8:r.nx=st.h.length) (hl:st1.h.length=st.h.length+r.nw.length)
  (Ow: ∀s av,aW.get st1.env s=some av->(gh= .done av/\eT ops acc.length=some s)\/(aW.get st.env s=some av/\ ∀jw,gh= .done jw->eT ops acc.length≠some s))
  (anx:st1.nb=st.nb/\st1.lp=st.lp/\st1.inr=st.inr/\st1.df=st.df) (wI: ∀x∈st.dt,x∈st1.dt) (hdu: ∀x∈keys r.up,x<st.nb->x∈st1.dt) (gv: ∀o,ops[acc.length]? =some o->yB K P N ops bw acc gs acc.length o r gh)
  {sC:Option (List Nat×Value×AS S)} (kZ:sC=none->pn=none/\ ∃av,gh= .done av)
  (sb: ∀dead u dT,sC=some (dead,u,dT)-> ∃i r',(gs++[gh])[i]? =some (.bU u)/\(acc++[r])[i]? =some r'/\Dm ops bw (acc++[r]) (gs++[gh]) i r' dT/\(∀k u',(gs++[gh])[k]? =some (.bU u')->k=i)/\(∀(k:Nat) (g:Gh S),(gs++[gh])[k]? =some g->((∃av,g=Gh.done av)\/k∈dead)/\(k∈dead-> ∀av,g≠Gh.done av))/\ ∀k∈dead,k<(acc++[r]).length):
  jX K P N ops bw (acc++[r]) (gs++[gh]) sC st1:=by
 have mX:=hF.lg;refine⟨by simp[mX],?_,?_,?_,?_,?_,?_,?_,?_,?_,?_,sb⟩
 ·intro x;rw[Hi,ξe,hx x];simp only[dL,cond_true];exact adi (hF.hp x)
 ·have:=hF.hl;omega
 ·intro i k a b Aj ha hb;rcases jz hb with fH|⟨rfl,rfl⟩
  ·rcases jz ha with ee|⟨rfl,rfl⟩
   ·exact hF.pos i k a b Aj ee fH
   ·have:=(ε.1 fH).1;omega
  ·rcases jz ha with ee|⟨rfl,rfl⟩
   ·rw[O8];exact(hF.top i a ee).2
   ·omega
 ·intro i a ha;rcases jz ha with ee|⟨rfl,rfl⟩
  ·have:=hF.top i a ee;omega
  ·have:=hF.hl;omega
 ·intro s av hs;rcases Ow s av hs with⟨U,h2⟩|⟨U,h2⟩
  ·exact .inl ⟨acc.length,h2,by rw[<-mX];simp[U]⟩
  ·exact(hF.env s av U).snoc (by rw[mX];exact h2)
 ·obtain⟨a1,a2,a3,a4⟩:=hF.sA;obtain⟨b1,b2,b3,b4⟩:=anx;exact⟨b1.trans a1,b2.trans a2,b3.trans a3,b4.trans a4⟩
 ·exact λx hx=>wI x (hF.vW x hx)
 ·intro i a x ha YB ld;rcases jz ha with ee|⟨rfl,rfl⟩
  ·exact wI x (hF.dt i a x ee YB ld)
  ·exact hdu x YB (by rw[hF.sA.1];exact ld)
 ·intro i o a g ho ha hg;rcases jz ha with ee|⟨rfl,rfl⟩
  ·have aB:=(ε.1 ee).1;rw[xN (ζd aB),xN (by omega)];refine hF.step i o a g ho ee ?_;rw[φ (by omega)] at hg;exact hg
  ·rw[xN (ξc _),ζ3];rw[<-mX,xN (ξc _),ζ3,mX];have:g=gh:=by
    rw[<-mX] at hg;simp at hg;exact hg.symm
   subst this;exact gv o ho
 ·intro h k g hg;obtain⟨q1,q2⟩:=kZ h;rcases jz hg with j6|⟨rfl,rfl⟩
  ·exact hF.uD q1 k g j6
  ·exact q2
theorem jX.Q1 (hF:jX K P N ops bw acc gs pn st) (hr:r.up=[]/\r.nw=[]) {Mt:List Nat} {u0:Value} {ac3:AS S} (hpn:pn=some (Mt,u0,ac3)) {dead:List Nat} (hd:dead=Mt/\(∃av,gh= .done av)\/dead=acc.length::Mt/\gh= .never):
  ∃i r',(gs++[gh])[i]? =some (.bU u0)/\(acc++[r])[i]? =some r'/\Dm ops bw (acc++[r]) (gs++[gh]) i r' ac3/\(∀k u',(gs++[gh])[k]? =some (.bU u')->k=i)/\(∀(k:Nat) (g:Gh S),(gs++[gh])[k]? =some g->((∃av,g=Gh.done av)\/k∈dead)/\(k∈dead-> ∀av,g≠Gh.done av))/\ ∀k∈dead,k<(acc++[r]).length:=by
 obtain⟨i,r',U,h2,h3,h4,h5,h6⟩:=hF.sC _ _ _ hpn;have aB:=(ε.1 h2).1;have mX:=hF.lg;have nop: ∀u,gh≠ .bU u:=by
  intro u e;rcases hd with⟨_,av,h⟩|⟨_,h⟩<;>rw[h] at e<;>cases e
 refine⟨i,r',?_,?_,?_,?_,?_,?_⟩
 ·rw[φ (by omega)];exact U
 ·rw[φ aB];exact h2
 ·refine⟨?_,h3.hl,h3.env,h3.sA,h3.vW,?_,?_,?_⟩
  ·rw[xN (ζd aB)];exact h3.hp
  ·intro k a x hk ha hx ld;rcases jz ha with ee|⟨rfl,rfl⟩
   ·exact h3.dt k a x hk ee hx ld
   ·omega
  ·intro k a hk ha;rcases jz ha with ee|⟨rfl,rfl⟩
   ·exact h3.pre k a hk ee
   ·omega
  ·intro k a hk ha;rcases jz ha with ee|⟨rfl,rfl⟩
   ·exact h3.post k a hk ee
   ·exact hr
 ·intro k u' hk;rcases jz hk with mn|⟨rfl,e⟩
  ·exact h4 k u' mn
  ·exact absurd e.symm (nop u')
 ·intro k g hk;rcases jz hk with mn|⟨rfl,rfl⟩
  ·have j7:=(ε.1 mn).1;rcases hd with⟨rfl,_⟩|⟨rfl,_⟩
   ·exact h5 k g mn
   ·obtain⟨a1,a2⟩:=h5 k g mn;refine⟨a1.imp id (μ _),λh=>?_⟩;rcases υ.1 h with e|h
    ·omega
    ·exact a2 h
  ·rcases hd with⟨rfl,av,rfl⟩|⟨rfl,rfl⟩
   ·exact⟨.inl ⟨av,rfl⟩,λh=>by have:=h6 _ h;omega⟩
   ·exact⟨.inr (by rw[mX];exact ν),λ_ av e=>by cases e⟩
 ·intro k hk;rw[χ];rcases hd with⟨rfl,_⟩|⟨rfl,_⟩
  ·have:=h6 k hk;omega
  ·rcases υ.1 hk with e|h
   ·subst e;simp
   ·have:=h6 k h;omega
end
section
variable {S:bL} {P:Program} {N:Nat} {ops:Array Oper} {bw:AS S} {R:Type} {z:R}
theorem ai8 {pn:Option (List Nat×Value×AS S)} {cl:List Nat} (h:Fi pn cl=true): ∃dead u dT,pn=some (dead,u,dT)/\ ∃j∈dead,j∈cl:=by
 unfold Fi at h;split at h
 ·rename_i dead u dT;rw[ζy] at h;obtain⟨j,U,h2⟩:=h;exact⟨dead,u,dT,rfl,j,U,lR.1 h2⟩
 ·cases h
theorem YV {l rd:List Nat} (h:l.all (λi=>fu i rd)=true): ∀k∈l,k∈rd:=λk hk=>lR.1 (ξ4.1 h k hk)
theorem aa4 {st:AS S} {o:Oper} {av:AV S} {k:AS S->Option R} (h:nT N o st av k=some z):
  ∃rD,k { st with env:=rD }=some z/\ ∀s b,aW.get rD s=some b->(o.dst=some s/\b=av)\/(aW.get st.env s=some b/\o.dst≠some s):=by
 unfold nT at h;split at h
 ·rename_i d hd;cases hN:τ d N<;>rw[hN] at h
  ·cases h
  ·refine⟨(d,av)::st.env,h,λs b hs=>?_⟩;simp only[aW.get] at hs;cases hq:ζ d s with
   |true=>
    rw[hq] at hs;have:=δ hq;subst this;simp only[cond_true,ι] at hs;exact .inl ⟨hd,hs.symm⟩
   |false=>
    rw[hq] at hs;refine .inr ⟨hs,λe=>?_⟩;rw[hd] at e;cases e;simp at hq
 ·rename_i hd;exact⟨st.env,h,λs b hs=> .inr ⟨hs,by rw[hd];simp⟩⟩
theorem yC {G:ay S} (hK:cI G.K P) (hC:qZ G P) (hR:vB N ops) {c_:Nat->List (aD S)->AH S->(Rs S->AH S->List Nat->Option R)->Option R} (dr:qY G.K P c_) {kp:Value->AS S->Option R} {k:AS S->Option R}:
  ∀ {c:Nat} {acc:List (dw S)} {gs:List (Gh S)} {pn:Option (List Nat×Value×AS S)} {st:AS S},jX G.K P N ops bw acc gs pn st->acc.length+c=ops.size->rn G c_ N ops kp k c acc pn st=some z->
   ∃pt wx Ia Sb e bu,jX G.K P N ops bw pt wx Ia Sb/\pt.length=ops.size/\A9 kp k e bu=some z/\((Ia=none/\e= .go/\bu=Sb)\/ ∃dead u dT,Ia=some (dead,u,dT)/\e= .bU u/\bu=dT)
 |0,acc,gs,pn,st,hF,hl,h=>by
  simp only[rn] at h;split at h
  ·exact⟨acc,gs,none,st,.go,st,hF,by omega,h,.inl ⟨rfl,rfl,rfl⟩⟩
  ·rename_i dead u dT;exact⟨acc,gs,_,st,.bU u,dT,hF,by omega,h,.inr ⟨dead,u,dT,rfl,rfl,rfl⟩⟩
 |c+1,acc,gs,pn,st,hF,hl,h=>by
  have mX:=hF.lg;simp only[rn] at h;split at h
  ·cases h
  rename_i o ho;have cY:acc.length<ops.size:=by omega
  have qa: ∀s,eT ops acc.length=some s↔o.dst=some s:=λs=>by unfold eT;rw[ho]
  cases XR:Fi pn (gR ops acc.length)<;>rw[XR] at h
  rotate_left
  ·
   simp only[cond_true] at h;obtain⟨dead,u,dT,rfl,j,hj,hjc⟩:=ai8 XR;refine yC hK hC hR dr (c:=c) (gs:=gs++[.never]) (hF.snoc (λx=>rfl) rfl (by simp) (λs av hs=> .inr ⟨hs,λjw e=>by cases e⟩) ⟨rfl,rfl,rfl,rfl⟩ (λ_ h=>h) (λx hx=>by cases hx) ?_ (λe=>by cases e) ?_) (by rw[χ,ξq];omega) h
   ·intro o' eA;refine⟨⟨rfl,rfl⟩,j,hjc,λav hg=>?_⟩;obtain⟨i,r,_,_,_,_,h5,_⟩:=hF.sC _ _ _ rfl;exact(h5 j _ hg).2 hj av rfl
   ·rintro auz u' au8 e;cases e;exact hF.Q1 ⟨rfl,rfl⟩ rfl (.inr ⟨rfl,rfl⟩)
  simp only[cond_false] at h;obtain⟨tz,fL,zY⟩:=ag7 h;have uD: ∀ {gh:Gh S},(∃av,gh= .done av)->pn=none->pn=none/\ ∃av,gh=Gh.done av:=λh e=>⟨e,h⟩;rcases zY with⟨hy,hw⟩|⟨j8,hw⟩
  ·simp only at hy;cases Az:(Rm G (iE tz (jv ops o)) (aH st.h) o).all (λi=>τ i st.h.length)<;>rw[Az] at hy
   ·cases hy
   simp only[cond_true] at hy;generalize auZ:Rm G (iE tz (jv ops o)) (aH st.h) o=rd at hy Az;have Yq: ∀x∈rd,x<st.h.length:=λx hx=>ο.mp (ξ4.1 Az x hx);obtain⟨res,up,nw,fU,anL⟩:=aax hK hC dr hy;have ev: ∀s av,aW.get (iE tz (jv ops o)) s=some av->s∈jv ops o/\q9 ops bw gs s av:=λs av hs=>by
    obtain⟨U,h2⟩:=PU hs;rw[fL s] at h2;exact⟨U,hF.env s av h2⟩
   have VD: ∀ {b:Bool},(iN (aH st.h) up&&((keys up).all (λi=>fu i rd)&&(rz (gR ops acc.length) rd up acc 0&&b)))=true->
     b=true/\Want G.K P N ops bw acc gs acc.length o ⟨rd,up,st.h.length,nw⟩ res (iE tz (jv ops o)) (aH st.h)/\(∀k∈keys up,k<st.h.length):=by
    intro b hb;simp only[η] at hb;obtain⟨q1,q2,q3,q4⟩:=hb;refine⟨q4,⟨anL,ev,hw,hF.hp,ta q1,YV q2,Yq,λk r' hk=>?_⟩,λk hk=>?_⟩
    ·have:=VG q3 hk
     rwa [ξe] at this
    ·exact Yq k (YV q2 k hk)
   cases res with
   |ret av=>
    simp only[qP] at fU;cases hb:(iN (aH st.h) up&&((keys up).all (λi=>fu i rd)&&(rz (gR ops acc.length) rd up acc 0&&(pn.isNone||Sj up nw))))<;>rw[hb] at fU
    ·cases fU
    simp only[cond_true] at fU;obtain⟨Hf,Pr,Ak⟩:=VD hb;obtain⟨MD,eY,Ox⟩:=aa4 fU;refine yC hK hC hR dr (c:=c) (acc:=acc++[⟨rd,up,st.h.length,nw⟩]) (gs:=gs++[.done av]) (hF.snoc (st1:= { st.cX up nw with env:=MD }) (λx=>?_) rfl ?_ (λs b hs=>?_) ⟨rfl,rfl,rfl,rfl⟩ (λx hx=>pG hx) (λx hx ld=>rC ld hx) (λo' eA=>?_) (uD ⟨av,rfl⟩) ?_) (by rw[χ,ξq];omega) eY
    ·exact congrFun (Fo Ak) x
    ·show(gP st.h up++nw).length=_;rw[χ,o9]
    ·rcases Ox s b hs with⟨U,rfl⟩|⟨U,h2⟩
     ·exact .inl ⟨rfl,(qa s).2 U⟩
     ·exact .inr ⟨by rw[<-fL s];exact U,λ_ _ e=>h2 ((qa s).1 e)⟩
    ·rw[ho] at eA;cases eA;exact .inl ⟨_,_,Pr⟩
    ·intro dead u dT e;subst e;have hun:up=[]/\nw=[]:=by
      simp only[Option.isNone_some,ξZ] at Hf;unfold Sj at Hf;split at Hf
      ·exact⟨rfl,rfl⟩
      ·cases Hf
     exact hF.Q1 hun rfl (.inl ⟨rfl,av,rfl⟩)
   |bU u=>
    simp only[qP] at fU;cases Nn:u.oneCell'<;>rw[Nn] at fU
    ·cases fU
    simp only[cond_true] at fU;split at fU
    ·cases fU
    cases hb:(iN (aH st.h) up&&((keys up).all (λi=>fu i rd)&&(rz (gR ops acc.length) rd up acc 0&&idle (gR ops acc.length) acc 0)))<;>rw[hb] at fU
    ·cases fU
    simp only[cond_true] at fU;obtain⟨anf,Pr,Ak⟩:=VD hb;refine yC hK hC hR dr (c:=c) (acc:=acc++[⟨rd,up,st.h.length,nw⟩]) (gs:=gs++[.bU u]) (hF.snoc (st1:=({ st with env:=tz }:AS S).cX up nw) (λx=>?_) rfl ?_ (λs b hs=>?_) ⟨rfl,rfl,rfl,rfl⟩ (λx hx=>pG hx) (λx hx ld=>rC ld hx) (λo' eA=>?_) (λe=>by cases e) ?_) (by rw[χ,ξq];omega) fU
    ·exact congrFun (Fo Ak) x
    ·show(gP st.h up++nw).length=_;rw[χ,o9]
    ·exact .inr ⟨by rw[<-fL s];exact hs,λ_ e=>by cases e⟩
    ·rw[ho] at eA;cases eA;exact⟨_,_,Pr⟩
    ·intro dead u' dT e;cases e;refine⟨acc.length,⟨rd,up,st.h.length,nw⟩,by rw[<-mX,ξb (ξc _),ζr];rfl,by rw[ξb (ξc _),ζr];rfl,⟨?_,?_,?_,?_,?_,?_,?_,?_⟩,?_,?_,?_⟩
     ·intro x;rw[xN (ξc _),ζ3];rw[show aH (({ st with env:=tz }:AS S).cX up nw).h x=cK (aH st.h) (up++news st.h.length nw) x from congrFun (Fo Ak) x];exact adi (hF.hp x)
     ·show(gP st.h up++nw).length=_;rw[χ,o9]
     ·intro s b hs;obtain⟨a1,a2⟩:=atG hs;refine⟨a1,?_⟩;rw[fL s] at a2;rcases hF.env s b a2 with⟨k,hk,_⟩|⟨U,_⟩
      ·exact absurd hk (a1 k)
      ·exact U
     ·exact hF.sA
     ·exact λx hx=>pG (hF.vW x hx)
     ·intro k a x hk ha hx ld;rcases jz ha with ee|⟨rfl,rfl⟩
      ·exact pG (hF.dt k a x ee hx ld)
      ·exact rC (by show x<st.nb;rw[hF.sA.1];exact ld) hx
     ·intro k a hk ha;rcases jz ha with ee|⟨rfl,rfl⟩
      ·have:=YG anf ee
       rwa [ξe] at this
      ·omega
     ·intro k a hk ha;rcases jz ha with ee|⟨rfl,rfl⟩
      ·have:=(ε.1 ee).1;omega
      ·omega
     ·intro k u' hk;rcases jz hk with mn|⟨rfl,_⟩
      ·obtain⟨av,e⟩:=hF.uD rfl k _ mn;cases e
      ·exact mX
     ·intro k g hk;rcases jz hk with mn|⟨rfl,rfl⟩
      ·have j7:=(ε.1 mn).1;exact⟨.inl (hF.uD rfl k g mn),λhm=>by simp at hm;omega⟩
      ·exact⟨.inr (by rw[mX];exact ν),λ_ av e=>by cases e⟩
     ·intro k hk;simp at hk;subst hk;simp
  ·obtain⟨MD,eY,Ox⟩:=aa4 j8;refine yC hK hC hR dr (c:=c) (acc:=acc++[⟨[],[],st.h.length,[]⟩]) (gs:=gs++[.done (.bD [])]) (hF.snoc (st1:= { st with env:=MD }) (λx=>rfl) rfl (by simp) (λs b hs=>?_) ⟨rfl,rfl,rfl,rfl⟩ (λ_ h=>h) (λx hx=>by cases hx) (λo' eA=>?_) (uD ⟨_,rfl⟩) ?_) (by rw[χ,ξq];omega) eY
   ·rcases Ox s b hs with⟨U,rfl⟩|⟨U,h2⟩
    ·exact .inl ⟨rfl,(qa s).2 U⟩
    ·exact .inr ⟨by rw[<-fL s];exact U,λ_ _ e=>h2 ((qa s).1 e)⟩
   ·rw[ho] at eA;cases eA;refine .inr ⟨iE tz (jv ops o),λs av hs=>?_,hw,rfl,rfl,rfl⟩;obtain⟨U,h2⟩:=PU hs;rw[fL s] at h2;exact⟨U,hF.env s av h2⟩
   ·intro dead u dT e;exact hF.Q1 ⟨rfl,rfl⟩ e (.inl ⟨rfl,_,rfl⟩)
theorem jX.start {K:bG S}:jX K P N ops bw [] [] none bw:=by
 refine⟨rfl,λx=>rfl,ξc _,?_,?_,?_,⟨rfl,rfl,rfl,rfl⟩,λx h=>h,?_,?_,?_,?_⟩
 ·intro i k r r' _ h;simp at h
 ·intro i r h;simp at h
 ·exact λs av h=> .inr ⟨h,λk jw _ hg=>by simp at hg⟩
 ·intro i r x h;simp at h
 ·intro i o r gh _ h;simp at h
 ·intro _ k gh h;simp at h
 ·intro dead u dT h;cases h
theorem ag6 {G:ay S} (hm:P.follows .mixedOrders=true) (hK:cI G.K P) (hC:qZ G P) {c_:Nat->List (aD S)->AH S->(Rs S->AH S->List Nat->Option R)->Option R} (dr:qY G.K P c_) {jc:List (aD S)->AS S->(Bool->AS S->Option R)->Option R} (uj:EW G.K P jc) {draw:Bool} {st:AS S} {kp:Value->AS S->Option R} {k:AS S->Option R} {id:Nat}
  (h:LW G c_ jc N ops draw st kp k=some z): ∃e bu,A9 kp k e bu=some z/\ ∀B A O w a,bF G.K P N B A O w st a->(ζA id ops draw).wpIn (fw B.rr) 0 P (mG G.K P N B e.x bu) a w:=by
 unfold LW at h;split at h
 ·obtain⟨e,bu,U,h2⟩:=LU hK hC dr uj h;refine⟨e,bu,U,λB A O w a hr=>?_⟩;exact wpIn_region (h2 B A O w a hr)
 ·cases hR:Ir N ops<;>rw[hR] at h
  ·cases h
  simp only[cond_true] at h;obtain⟨pt,wx,Ia,Sb,e,bu,U,h2,h3,h4⟩:=yC hK hC (abt hR) dr jX.start (by simp) h;exact⟨e,bu,h3,λB A O w a hr=>ahi hm (abt hR) U h2 h4 hr⟩
end
section
variable {S:bL} {K:bG S} {P:Program} {N:Nat} {B:dZ} {A A':Pl} {O O':List Nat} {w w':World} {st:AS S} {a:Act}
theorem eG.di {n0:Nat} {ρ:Nat->Option Nat} (hR:kP ρ A A'): ∀ {ds:List Deferred} {df Fj:List (LV S)},sK ρ df=some Fj->eG n0 A O w df ds->eG n0 A' O w Fj ds
 |[],df,Fj,hr,h=>by
  rw[show df=[] from h] at hr;cases hr;rfl
 |d::ds,df,Fj,hr,h=>by
  rcases h with⟨D,U,h0,h2,h3⟩|⟨i,r,f,u,c,rfl,h2,h3,h4⟩
  ·exact .inl ⟨D,U,h0,h2,eG.di hR hr h3⟩
  ·simp only[sK,LV.di] at hr;split at hr
   ·rename_i x hx;split at hr
    ·rename_i y hy;cases hr;split at hx
     ·rename_i j hj;cases hx;exact .inr ⟨j,y,f,u,c,rfl,hR.pl _ _ _ hj h2,h3,eG.di hR hy h4⟩
     ·cases hx
    ·cases hr
   ·cases hr
theorem bF.gc {sl:List Nat} (h:bF K P N B A O w st a): ∃A',bF K P N B A' O w (gc sl st) a:=by
 unfold Vx.gc;simp only;obtain⟨kp,jF⟩: ∃kp,kp=kept (aH st.h) st.nb (xD (st.h.take st.nb)++(Rv (iE st.env sl)++xE st.df)):=⟨_,rfl⟩;rw[<-jF];split
 ·rename_i df iS;obtain⟨A',dF⟩: ∃A':Pl,A'=⟨λj=>(kp[j]?).bind A.pl,A.ls⟩:=⟨_,rfl⟩;have hR:kP (λi=>posOf i kp 0) A A':=⟨λi j p hi hp=>by
   rw[dF];simp only[xz hi,ξn];exact hp,by rw[dF]⟩
  have fb: ∀i,i<B.nb->kp[i]? =some i:=λi hi=>by rw[jF];exact YS (by rw[h.nb];exact hi)
  have OJ: ∀i j,B.nb<=j->kp[j]? =some i->B.nb<=i:=λi j hj hi=>by rw[jF,h.nb] at hi;exact YQ hj hi
  have m0: ∀i,i<B.nb->A'.pl i=A.pl i:=λi hi=>by rw[dF];simp[fb i hi]
  refine⟨A',h.size,arl hR h.env,?_,h.ob,h.eJ,?_,h.nb,?_,h.tr,λi hi=>(m0 i hi).trans (h.pl i hi),by rw[dF];exact h.ls,?_,?_,eG.di hR iS h.df,h.lp,h.dl,h.hi,h.o0,h.rr,?_⟩
  ·exact h.rel.di (idx:=λj=>kp[j]?) (λj=>by rw[dF]) (by rw[dF]) (λi j j' U h2=>HP (by rw[jF];exact YT) U h2) (λi j hi=>xz hi) (λj X' hj=>qK hj)
  ·intro i hi;have:kp.length<=i:=by simpa[uK,xx] using hi
   rw[dF];simp[ξg this]
  ·show B.nb<=(iF _ (kI _ kp)).length;rw[uK,xx,jF,<-h.nb];exact YR
  ·intro i X hi hX;obtain⟨i0,X0,U,h2,_⟩:=qK hX;rw[fb i hi] at U;cases U;exact h.lv i X0 hi h2
  ·intro b hb hx bN;obtain⟨c1,c2,c3⟩:=h.cl b hb hx bN;refine⟨c1,c2,λi X p hi hX hp=>?_⟩;obtain⟨i0,X0,U,h2,h3⟩:=qK hX;rw[dF] at hp;simp only[U,ξn] at hp;exact λhf=>c3 i0 X0 p (OJ i0 i hi U) h2 hp (Ob.uM h3 hf)
  ·intro i X hi hX;obtain⟨i0,X0,U,h2,h3⟩:=qK hX;rw[fb i hi] at U;cases U;rw[Ob.It h3];exact h.nt i X0 hi h2
 ·exact⟨A,h⟩
theorem gG.put {l m:Nat} {o o' u:Obj} (h:gG O w m u) (aN:m≠l):gG O (w.putObj l o') m u:=⟨⟨(ξl aN).trans h.1.1,h.1.2⟩,h.2.1,h.2.2⟩
theorem yM {l:Nat} {o o':Obj} (hl:gG O w l o):Tr O w O (w.putObj l o'):=(Vt (n0:=0) o' hl.1.1 hl.1.2 hl.2.2 (ξt _)).tr
theorem cv.book {g:Nat->Option (Ob S)} {l:Nat} {o o':Obj} (h:cv A O w g) (hl:gG O w l o):cv A O (w.putObj l o') g:=by
 have same: ∀ {i:Nat} {X:Ob S} {p:Value} {b:Nat},g i=some X->A.pl i=some p->dJ w X p b->(w.putObj l o').heap[b]? =w.heap[b]? :=λ{i X p b} hi hp hb=>by
  obtain⟨p',cH,hR,_⟩:=h.al i X hi;rw[hp] at cH;cases cH;exact ξl λe=>hR.ao2 hl.1.1 hl.2.1 (by rw[<-e];exact hb)
 refine⟨λi X hi=>?_,λi j X Y p q b cC hi hj hp hq u v=>h.lE i j X Y p q b cC hi hj hp hq (rI (λc hc=>same hi hp (.inl hc)) u) (rI (λc hc=>same hj hq (.inl hc)) v)⟩;obtain⟨p,hp,hR,hb⟩:=h.al i X hi;exact⟨p,hp,hR.keep (yM hl) (Pl.le.refl A) λb bM=>⟨same hi hp bM,h.lF hi hp bM⟩,hb⟩
theorem bF.book {l:Nat} {o o':Obj} {lp':Option (mF S)} {a':Act} (h:bF K P N B A O w st a) (hl:gG O w l o) (hex:l∉B.O0\/B.ex=some l) (jG:po P B O (w.putObj l o') lp') (fT:(lp'.isSome||st.inr)=true->a'.defers=[]) (iS:eG B.w0.heap.size A O (w.putObj l o') st.df a'.defers) (ha:a'.tmps=a.tmps):
  bF K P N B A O (w.putObj l o') { st with lp:=lp' } a':=by
 have hT:Tr O w O (w.putObj l o'):=yM hl;refine⟨by rw[ha];exact h.size,?_,h.rel.book hl,?_,h.eJ.tr hT,h.free,h.nb,h.le,h.tr.trans hT,h.pl,h.ls,h.lv,?_,iS,jG,fT,h.hi,h.o0,h.rr,h.nt⟩
 ·intro s av hs;rw[ha];exact(h.env s av hs).tr hT (Pl.le.refl A)
 ·exact(Vt (n0:=0) o' hl.1.1 hl.1.2 hl.2.2 (ξt _)).ob h.ob
 ·intro b hb hx bN;obtain⟨c1,c2,c3⟩:=h.cl b hb hx bN;refine⟨?_,c2,λi X p hi hX hp hf=>c3 i X p hi hX hp (rI (λc hc=>?_) hf)⟩
  rotate_left
  ·obtain⟨p',cH,hR,_⟩:=h.rel.al i X hX;rw[hp] at cH;cases cH;exact ξl λe=>hR.HS hl.1.1 hl.2.1 (by rw[<-e];exact hc)
  have aN:b≠l:=by
   rintro rfl;rcases hex with hex|hex
   ·exact hex hb
   ·exact hx hex
  exact(ξl aN).trans c1
theorem eG.BK {n0:Nat} {A2:Pl} {O2:List Nat} {w2:World} (hA: ∀i p,A.pl i=some p->A2.pl i=some p) (hb: ∀D,gG O w D (.deferred (some []))->gG O2 w2 D (.deferred (some []))): ∀ {ds:List Deferred} {df:List (LV S)},eG n0 A O w df ds->eG n0 A2 O2 w2 df ds
 |[],df,h=>h
 |d::ds,df,h=>by
  rcases h with⟨D,U,h0,h2,h3⟩|⟨i,r,f,u,c,U,h2,h3,h4⟩
  ·exact .inl ⟨D,U,h0,hb D h2,eG.BK hA hb h3⟩
  ·exact .inr ⟨i,r,f,u,c,U,hA _ _ h2,h3,eG.BK hA hb h4⟩
def dZ.of (A:Pl) (O:List Nat) (w:World) (h:AH S) (ex rr:Option Nat):dZ:=⟨A,O,w,h.length,λi=> ∃X,aH h i=some X,ex,rr⟩
theorem bF.init {h:AH S} {ex rr:Option Nat} {env:aW S} {lp:Option (mF S)} {inr:Bool} {dt:List Nat} (hg:cv A O w (aH h)) (hO:OB O w) (hG:dR K O w) (hf: ∀i,h.length<=i->A.pl i=none) (bz:a.tmps.size=N) (he:dV A O w env a) (jG:po P (dZ.of A O w h ex rr) O w lp) (m5:inr=false->rr=none) (hd:a.defers=[]) (iA: ∀i X,aH h i=some X->X.nt=true):
  bF K P N (dZ.of A O w h ex rr) A O w ⟨env,h,h.length,lp,inr,[],dt⟩ a:=
 ⟨bz,he,hg,hO,hG,hf,rfl,ξc _,Tr.refl _ _,λ_ _=>rfl,rfl,λi X _ hX=>⟨X,hX⟩,λb hb _ _=>⟨rfl,hb,λi X p hi hX=>absurd (jo hX) (Nat.not_lt.mpr hi)⟩,by rw[hd];rfl,jG,λ_=>hd,hf,hO,m5,λi X _ hX=>iA i X hX⟩
theorem bF.inner {N':Nat} {O1 O2:List Nat} {W1 W2:World} {A1 A2:Pl} {ex rr:Option Nat} {st2:AS S} {a2:Act} (h:bF K P N B A O w st a) (hT:Tr O w O1 W1) (hS: ∀b∈O,b∈O1/\W1.heap[b]? =w.heap[b]?) (pR:A1.pl=A.pl) (hx: ∀b∈O,ex≠some b) (h2:bF K P N' (dZ.of A1 O1 W1 st.h ex rr) A2 O2 W2 st2 a2) {dt':List Nat} (wI: ∀x∈st.dt,x∈dt') (am': ∀x∈st2.dt,x<st.nb->x∈dt') (jH:cv ⟨A2.pl,A.ls⟩ O2 W2 (aH st2.h)):
  bF K P N B ⟨A2.pl,A.ls⟩ O2 W2 { st with h:=st2.h,dt:=dt' } a/\(∀l o,gG O w l o->gG O2 W2 l o)/\Pl.le A ⟨A2.pl,A.ls⟩:=by
 have m0: ∀i,i<st.h.length->A2.pl i=A.pl i:=λi hi=>by rw[h2.pl i hi];exact congrFun pR i
 have wB: ∀i p,A.pl i=some p->A2.pl i=some p:=λi p hp=>by
  rcases ψ i st.h.length with U|U
  ·rw[m0 i U];exact hp
  ·rw[h.free i U] at hp;cases hp
 have hA:Pl.le A ⟨A2.pl,A.ls⟩:=⟨wB,rfl⟩;have pV:Tr O w O2 W2:=hT.trans h2.tr;have Of: ∀b∈O,(∀i∈st2.dt,(∃X,aH st.h i=some X)-> ∀p,A.pl i=some p->cG p≠some b)->W2.heap[b]? =w.heap[b]? /\b∈O2/\ ∀i X p,st.h.length<=i->aH st2.h i=some X->A2.pl i=some p-> ¬dJ W2 X p b:=by
  intro b hb bN;obtain⟨s1,s2⟩:=hS b hb;obtain⟨k1,k2,k3⟩:=h2.cl b s1 (hx b hb) λi hi hl p hp=>bN i hi hl p (by rw[<-congrFun pR i];exact hp);exact⟨k1.trans s2,k2,k3⟩
 have GU: ∀l o,gG O w l o->gG O2 W2 l o:=by
  rintro l o ⟨q1,q2,q3⟩;obtain⟨k1,k2,_⟩:=Of l q3 λi _ ⟨X,hX⟩ p hp=>by
   obtain⟨p',cH,hR,_⟩:=h.rel.al i X hX;rw[hp] at cH;cases cH;exact hR.HS q1.1 q2
  exact⟨⟨k1.trans q1.1,q1.2⟩,q2,k2⟩
 refine⟨⟨h.size,h.env.tr pV hA,jH,h2.ob,h2.eJ,h2.free,h.nb,ζs h.le h2.le,h.tr.trans pV,λi hi=>(m0 i (by have:=h.le;omega)).trans (h.pl i hi),h.ls,?_,?_,h.df.BK hA.at_ (λD=>GU D _),?_,h.dl,h.hi,h.o0,h.rr,λi X hi hX=>h2.nt i X (by have:=h.le;show i<st.h.length;omega) hX⟩,GU,hA⟩
 ·intro i X hi hX;obtain⟨Y,hY⟩:=h2.lv i X (by have:=h.le;show i<st.h.length;omega) hX;exact h.lv i Y hi hY
 ·intro b hb hxb bN;obtain⟨c1,c2,c3⟩:=h.cl b hb hxb λi hi=>bN i (wI i hi);obtain⟨k1,k2,k3⟩:=Of b c2 λi hi ⟨X,hX⟩ p hp=>by
   rcases ψ i B.nb with U|U
   ·exact bN i (am' i hi (by rw[h.nb];exact U)) (h.lv i X U hX) p (by rw[<-h.pl i U];exact hp)
   ·exact λhf=>c3 i X p U hX hp (.inl hf)
  refine⟨k1.trans c1,k2,λi X p hi hX hp=>?_⟩;rcases ψ i st.h.length with U|U
  ·obtain⟨Y,hY⟩:=h2.lv i X U hX;have hp:A2.pl i=some p:=hp;rw[m0 i U] at hp;exact λhf=>c3 i Y p hi hY hp (.inl (iR (h2.nt i X U hX) hf))
  ·exact k3 i X p U hX hp
 ·have jG:=h.lp
  revert jG
  generalize st.lp=lp;intro jG;cases lp with
  |none=>trivial
  |some lf=>
   obtain⟨l,fn,tm,D,q1,q0,q2,q3,q4,q5⟩:=jG;exact⟨l,fn,tm,D,q1,q0,GU _ _ q2,GU _ _ q3,q4.tr pV (Pl.le.refl _),q5⟩
variable {A1 A2:Pl}
theorem LV.rel.kH {l:LV S} {xs:List Value} (hn:l.kH=true) (hA:A2.pl=A1.pl) (h:l.rel A1 O w xs):l.rel A2 O w xs:=by
 cases l with
 |v u=>exact h
 |aU t d=>exact h
 |ptr t d q=>exact h
 |bp i q=>obtain⟨m,U,h2⟩:=h;exact⟨m,by rw[hA];exact U,h2⟩
 |jg i q n y=>obtain⟨m,U,h2⟩:=h;exact⟨m,by rw[hA];exact U,h2⟩
 |own i=>obtain⟨m,U,h2⟩:=h;exact⟨m,by rw[hA];exact U,h2⟩
 |fl e i y q=>obtain⟨b,n,c,U,h2⟩:=h;exact⟨b,n,c,by rw[hA];exact U,h2⟩
 |jZ i q n=>obtain⟨m,U,h2⟩:=h;exact⟨m,by rw[hA];exact U,h2⟩
 |mp i=>obtain⟨m,U,h2⟩:=h;exact⟨m,by rw[hA];exact U,h2⟩
 |bI i=>obtain⟨f,u,c,U,h2⟩:=h;exact⟨f,u,c,by rw[hA];exact U,h2⟩
 |eL=>cases hn
 |ep i=>obtain⟨m,U,h2⟩:=h;exact⟨m,by rw[hA];exact U,h2⟩
 |cd k n gs=>exact h
 |dW n bs=>exact h
theorem Qq (hA:A2.pl=A1.pl): ∀ {ls:List (LV S)} {xs:List Value},sw ls=true->bV A1 O w ls xs->bV A2 O w ls xs
 |[],_,_,h=>h
 |l::r,_,hn,⟨y,ys,e,U,h2⟩=>by
  simp only[sw,η] at hn;exact⟨y,ys,e,U.kH hn.1 hA,Qq hA hn.2 h2⟩
theorem aao (hA:A2.pl=A1.pl) {a:aD S} {x:Value} (hn:sw a.cells=true) (h:a.rel A1 O w x):a.rel A2 O w x:=by
 cases a with
 |one l=>
  simp only[aD.cells,sw,ζn] at hn;exact LV.rel.kH hn hA h
 |agg ls=>obtain⟨xs,U,h2⟩:=h;exact⟨xs,U,Qq hA hn h2⟩
theorem A8 (hA:A2.pl=A1.pl): ∀ {ls:List (aD S)} {xs:List Value},uA ls=true->dO A1 O w ls xs->dO A2 O w ls xs
 |[],_,_,h=>h
 |l::r,_,hn,⟨y,ys,e,U,h2⟩=>by
  simp only[uA,η] at hn;exact⟨y,ys,e,aao hA hn.1 U,A8 hA hn.2 h2⟩
theorem AV.Qr (hA:A2.pl=A1.pl) {a:AV S} {x:Value} (hn:a.kH=true) (h:a.rel A1 O w x):a.rel A2 O w x:=by
 cases a with
 |s l=>exact aao hA hn h
 |bD ls=>obtain⟨xs,U,h2⟩:=h;exact⟨xs,U,A8 hA hn h2⟩
theorem Ob.Qr (hA:A2.pl=A1.pl) {X:Ob S} {p:Value} (hn:X.kH=true) (h:fC A1 O w X p):fC A2 O w X p:=by
 cases X with
 |box t cs=>obtain⟨b,vs,U,h2,h3⟩:=h;exact⟨b,vs,U,h2,Qq hA hn h3⟩
 |row e xs=>exact h
 |map kk kv m=>exact h
 |bI f fs cs=>
  simp only[Ob.kH,η] at hn;obtain⟨us,vs,U,h2,h3⟩:=h;exact⟨us,vs,U,A8 hA hn.1 h2,A8 hA hn.2 h3⟩
 |ep s pos=>exact h
 |dH t e cm=>cases hn
theorem Ob.aap {X:Ob S} (hn:X.kH=true):X.nt=true:=by cases X<;>first|rfl|cases hn
theorem xp: ∀ {h:AH S} {i:Nat} {X:Ob S},na h=true->aH h i=some X->X.kH=true
 |[],i,X,_,hi=>by simp[aH] at hi
 |none::r,0,X,_,hi=>by simp[aH] at hi
 |some Y::r,0,X,hn,hi=>by
  simp only[na,η] at hn;simp only[aH,ξy,ι] at hi;subst hi;exact hn.1
 |none::r,i+1,X,hn,hi=>xp (h:=r) (i:=i) hn (by simpa[aH] using hi)
 |some Y::r,i+1,X,hn,hi=>by
  simp only[na,η] at hn;exact xp (h:=r) (i:=i) hn.2 (by simpa[aH] using hi)
theorem aan (hA:A2.pl=A1.pl) {h:AH S} (hn:na h=true) (hg:cv A1 O w (aH h)):cv A2 O w (aH h):=by
 refine⟨λi X hi=>?_,λi j X Y p q b cC hi hj hp hq=>hg.lE i j X Y p q b cC hi hj (by rw[<-hA];exact hp) (by rw[<-hA];exact hq)⟩;obtain⟨p,hp,hR,hb⟩:=hg.al i X hi;exact⟨p,by rw[hA];exact hp,Ob.Qr hA (xp hn hi) hR,hb⟩
theorem HT: ∀ {h:AH S} {i:Nat} {X:Ob S},qG h=true->aH h i=some X->X.nt=true
 |[],i,X,_,hi=>by simp[aH] at hi
 |none::r,0,X,_,hi=>by simp[aH] at hi
 |some Y::r,0,X,hn,hi=>by
  simp only[qG,η] at hn;simp only[aH,ξy,ι] at hi;subst hi;exact hn.1
 |none::r,i+1,X,hn,hi=>HT (h:=r) (i:=i) hn (by simpa[aH] using hi)
 |some Y::r,i+1,X,hn,hi=>by
  simp only[qG,η] at hn;exact HT (h:=r) (i:=i) hn.2 (by simpa[aH] using hi)
theorem aam: ∀ {env:aW S} {s:Nat} {av:AV S},xo env=true->aW.get env s=some av->av.kH=true
 |[],s,av,_,h=>by cases h
 |(t,b)::r,s,av,hn,h=>by
  simp only[xo,η] at hn;simp only[aW.get] at h;cases hq:ζ t s with
  |true=>rw[hq] at h;simp only[cond_true,ι] at h;subst h;exact hn.1
  |false=>rw[hq] at h;exact aam hn.2 h
theorem ao4 (hA:A2.pl=A1.pl) {env:aW S} {a:Act} (hn:xo env=true) (he:dV A1 O w env a):dV A2 O w env a:=λs av hs=>AV.Qr hA (aam hn hs) (he s av hs)
end
section
variable {S:bL} {K:bG S} {P:Program} {N:Nat} {B:dZ} {A A':Pl} {O O':List Nat} {w w':World} {st:AS S} {a:Act} {R:Type} {z:R}
theorem ada {ava:List (aD S)} {vs:List Value} (h:dO A O w ava vs):(BL ava).rel A O w (nm vs):=by
 match ava,vs,h with
 |[],vs,h=>rw[show vs=[] from h];exact⟨[],rfl,rfl⟩
 |[x],vs,⟨y,ys,e,U,h2⟩=>subst e;rw[show ys=[] from h2];exact U
 |x::x'::r,vs,h=>
  obtain⟨y,ys,rfl,U,y',zs,rfl,h2,h3⟩:=h;exact⟨y::y'::zs,by simp[nm],y,_,rfl,U,y',_,rfl,h2,h3⟩
theorem RK (hK:cI K P) {fn:Func} {env:aW S} {h:AH S} {ava:List (aD S)} (hr:qO K env h fn.results.toList=some ava) (he:dV A O w env a) (hg:cv A O w (aH h)): ∃vs,dO A O w ava vs/\(results fn a.tmps).run P w= .ok (nm vs) w:=by
 have key: ∀(l:List ResultVar) (ava:List (aD S)),qO K env h l=some ava-> ∃vs,dO A O w ava vs/\ ∀(F:ResultVar->Sem Value) (_: ∀t,F (.tmp t)=pure (a.tmps.getD t undef)) (_: ∀b t,F (.cell b t)=do loadVar t (<-asAddr (a.tmps.getD b undef))),(l.mapM F).run P w= .ok vs w:=by
  intro l
  induction l with
  |nil=>intro ava hv;cases hv;exact⟨[],rfl,λF _ _=>by simp⟩
  |cons x l ih=>
   intro ava hv;cases x with
   |tmp t=>
    simp only[qO] at hv;split at hv
    ·rename_i b hb;split at hv
     ·rename_i bs fa;cases hv;obtain⟨vs,U,h2⟩:=ih bs fa;refine⟨a.tmps.getD t undef::vs,⟨_,_,rfl,he t _ hb,U⟩,λF hF rN=>?_⟩;simp only[ζC,hF,ξ,ξh,π,h2 F hF rN]
     ·cases hv
    ·cases hv
   |cell c t=>
    simp only[qO] at hv;split at hv
    rotate_left
    ·cases hv
    rename_i b hb;split at hv
    rotate_left
    ·cases hv
    rename_i i tb cs hi hbx;cases bz:ζ (fW cs) i.size<;>rw[bz] at hv
    ·cases hv
    simp only[cond_true] at hv;split at hv
    rotate_left
    ·cases hv
    rename_i a1 mh;split at hv
    rotate_left
    ·cases hv
    rename_i bs fa;cases hv;obtain⟨us,U,h2⟩:=ih bs fa;obtain⟨cf,q1,q2⟩:=he c _ hb;obtain⟨p,p1,⟨ahm,vs,p2,p3,p4⟩,_⟩:=hg.al b _ hbx;rw[q1] at p1;cases p1;cases p2;have hlen:vs.length=i.size:=(lV p4).trans (δ bz);obtain⟨r1,r2⟩:=L_ mh p4;have hc:fP w ⟨cf,0,none⟩ vs:=λj u hj=>by
     have:(⟨cf,0,none⟩:Addr).add j=⟨cf,j,none⟩:=by unfold Addr.add;split<;>simp_all
     rw[this,p3.cell];exact hj
    have aX:=uS (P:=P) (hK.Θ.fits hi) hlen hc (λe=>by have:=r2 e;omega);simp only[Instr.loadAt,Instr.sureAddr,ξ,ξh,π] at aX;have hx:a.tmps.getD c undef= .pointer (some ⟨cf,0,none⟩):=by simpa using q2
    refine⟨_::us,⟨_,_,rfl,r1,U⟩,λF hF rN=>?_⟩;simp only[ζC,rN,ξ,hx,asAddr,ξh,π,aX,h2 F hF rN]
 obtain⟨vs,U,h2⟩:=key _ _ hr;refine⟨vs,U,?_⟩;unfold results;rw[Array.mapM_eq_mapM_toList];simp only[ξ,Sem.run_map];rw[h2 _ (λt=>rfl) (λb t=>rfl)];simp only[π,ξh]
 congr 1
 match vs with
 |[]=>rfl
 |[v]=>rfl
 |v::u::vs=>simp[nm]
end
section
variable {S:bL} {K:bG S} {P:Program} {N:Nat} {B:dZ} {A A':Pl} {O O':List Nat} {w w':World} {st:AS S} {a:Act} {R:Type} {z:R}
theorem aoH {D D':Nat} (h:Dc.mark D=Dc.mark D'):D=D':=by
 unfold Dc.mark at h;simp only[Deferred.mk.injEq,ζJ,and_true] at h;exact h
theorem eG.put {n0 D:Nat} {o':Obj}: ∀ {ds:List Deferred} {df:List (LV S)},Dc.mark D∉ds->eG n0 A O w df ds->eG n0 A O (w.putObj D o') df ds
 |[],df,_,h=>h
 |d::ds,df,hn,h=>by
  have qu:Dc.mark D∉ds:=λhm=>hn (μ _ hm);rcases h with⟨D',U,h0,h2,h3⟩|⟨i,r,f,u,c,U,h2,h3,h4⟩
  ·exact .inl ⟨D',U,h0,h2.put (o:= .deferred (some [])) (λe=>hn (by rw[U,e];exact ν)),eG.put qu h3⟩
  ·exact .inr ⟨i,r,f,u,c,U,h2,h3,eG.put qu h4⟩
theorem bF.take {tm:Array Value} {D:Nat} {ds:List Deferred} (h:bF K P N B A O w st { tmps:=tm,defers:=Dc.mark D::ds }) (h0:B.w0.heap.size<=D/\Dc.mark D∉ds) (hb:gG O w D (.deferred (some []))) (hd:eG B.w0.heap.size A O w st.df ds):
  bF K P N B A O (w.putObj D (.deferred none)) st { tmps:=tm,defers:=ds }:=by
 have fT:=h.dl;have jG:st.lp=none:=by
  cases hl:st.lp with
  |none=>rfl
  |some lf=>rw[hl] at fT;have:=fT rfl;cases this
 have cY:st.inr=false:=by
  cases hl:st.inr with
  |false=>rfl
  |true=>rw[hl,ξv] at fT;have:=fT rfl;cases this
 refine h.book (lp':=st.lp) hb (.inl λhD=>?_) ?_ (λh=>?_) (hd.put h0.2) rfl
 ·have:=h.o0 D hD;omega
 ·rw[jG];trivial
 ·rw[jG,cY] at h;cases h
theorem HI {fn:Func} {Rr:Ending->World->Prop} {u:FrameMode} (hu:u≠ .run) (iS:st.df=[]) {tm:Array Value}: ∀ {ds:List Deferred} {w:World},bF K P N B A O w st { tmps:=tm,defers:=ds }->(∀w',bF K P N B A O w' st { tmps:=tm,defers:=[] }->LeavesIn (fw none) 0 P fn tm Rr [] u w')->LeavesInM (fw none) 0 P fn tm Rr ds u w
 |[],w,h,hk=>hk w h
 |d::ds,w,h,hk=>by
  rcases h.df with⟨D,U,h0,h2,h3⟩|⟨i,r,f,uu,c,U,_⟩
  ·subst U;exact⟨hu,.inl ⟨D,_,rfl,run_takeDeferred h2.1.1,HI hu iS (h.take h0 h2 h3) hk⟩⟩
  ·rw[iS] at U;cases U
def s8:Option Value->FrameMode->Prop
 |none,u=>u= .returning
 |some v,u=>u= .panicking [{ v:=v,recovered:=false }]
theorem s8.out {p:Option Value} {u:FrameMode} (h:s8 p u):u≠ .run:=by
 cases p<;>rw[show u=_ from h]<;>simp
def vj (K:bG S) (P:Program) (g:Nat) (cs:List (aD S)) (p:Option Value) (eV:Nat->Option (Ob S)) (q:Option Value) (up:Up S):Prop:=
 gQ P g/\ ∀(A:Pl) (O:List Nat) (w:World) (xs:List Value) (u:FrameMode),dO A O w cs xs->cv A O w eV->OB O w->dR K O w->s8 p u->
  CallsDIn (fw none) 0 P g xs.toArray u w (λe u' w'=>(∃v,e= .returned v)/\s8 q (settle u')/\ ∃A' O',cW A O w eV up A' O' w')
theorem Qh {fn:Func} {Rr:Ending->World->Prop} {i g:Nat} {cs:List (aD S)} {p q:Option Value} {up:Up S} (iS:st.df=[.bI i]) (g_:aH st.h i=some (.bI g [] cs)) (hD:vj K P g cs p (aH st.h) q up) (gK:iN (aH st.h) up=true) {tm:Array Value}:
  ∀ {ds:List Deferred} {w:World} {u:FrameMode},s8 p u->bF K P N B A O w st { tmps:=tm,defers:=ds }->(∀A' O' w' u',s8 q u'->bF K P N B A' O' w' { st.cX up [] with df:=[] } { tmps:=tm,defers:=[] }->LeavesIn (fw none) 0 P fn tm Rr [] u' w')->LeavesInM (fw none) 0 P fn tm Rr ds u w
 |[],w,u,hm,h,hk=>by have:=h.df;rw[iS] at this;cases this
 |d::ds,w,u,hm,h,hk=>by
  rcases h.df with⟨D,U,h0,h2,h3⟩|⟨i',r,f,uu,c,U,h2,h3,h4⟩
  ·subst U;exact⟨hm.out,.inl ⟨D,_,rfl,run_takeDeferred h2.1.1,Qh iS g_ hD gK hm (h.take h0 h2 h3) hk⟩⟩
  ·rw[iS] at U;cases U;obtain⟨gY,hS⟩:=hD;obtain⟨pp,p1,⟨us,vs,p2,p3,p4⟩,_⟩:=h.rel.al i _ g_;rw[h2] at p1;cases p1;rw[show us=[] from p3] at p2;cases p2;subst h3;have hc:=hS A O w vs u p4 h.rel h.ob h.eJ hm;refine⟨hm.out,.inr ⟨λh=>by simp[fw] at h,.func g,vs.toArray,g,vs.toArray,rfl,?_,λ_ _=>trivial,hc.1,λc cD mR hr=>?_⟩⟩
   ·show(invoke (.fn (.func g) vs.toArray) #[]).run P w=_;have:=gY vs.toArray w;simpa[invoke] using this
   ·obtain⟨e,u',w',fr,⟨⟨v,rfl⟩,hq,A',O',gX⟩,q2⟩:=hc.2 c cD mR hr;refine⟨.returned v,u',w',fr,?_,q2⟩;have eN:bF K P N B A' O' w' (st.cX up []) { tmps:=tm,defers:= { target:= .fn (.func g) vs.toArray,args:= #[] }::ds }:=h.cX gK (by simpa[news] using gX);have uc:bF K P N B A' O' w' { st.cX up [] with df:=[] } { tmps:=tm,defers:=ds }:=by
     have am_:eG B.w0.heap.size A' O' w' ([]:List (LV S)) ds:=eG.cX h.rel gX h4;have fT:=h.dl;refine⟨eN.size,eN.env,eN.rel,eN.ob,eN.eJ,eN.free,eN.nb,eN.le,eN.tr,eN.pl,eN.ls,eN.lv,eN.cl,am_,eN.lp,λhh=>?_,eN.hi,eN.o0,eN.rr,eN.nt⟩;have:=fT hh;cases this
    exact HI hq.out rfl uc λw2 h2=>hk A' O' w2 _ hq h2
structure SW (G:ay S) (P:Program):Prop where
 K:cI G.K P
 C:qZ G P
 H: ∀f hc,zi G.H f=some hc-> ∀ {R:Type} (ava:List (aD S)) (h:AH S) (k:Rs S->AH S->List Nat->Option R) (z:R),hc.out ava h k=some z-> ∃r h' dt,k r h' dt=some z/\ic G.K P f ava h r h' dt
 D: ∀g dc,zg G.D g=some dc-> ∀ {R:Type} (cs:List (aD S)) (p:Option Value) (eV:Nat->Option (Ob S)) (k:Option Value->Up S->Option R) (z:R),dc.out cs p eV k=some z-> ∃q up,k q up=some z/\vj G.K P g cs p eV q up
 T: ∀f J,G.T f=some J->P.funcs[f]? =some J.fn
 E: ∀f J,G.T f=some J->gQ P f
 M:P.follows .mixedOrders=true
theorem ars {G:ay S} (hG:SW G P) {fn:Func} {e:AX} {k:Rs S->AS S->Option R} (h:Bv G fn e st k=some z):
  ∃r bu,k r bu=some z/\bu.nb=st.nb/\ ∀(N:Nat) (B:dZ) (A:Pl) (O:List Nat) (w:World) (a:Act) (Rr:Ending->World->Prop),bF G.K P N B A O w st a->
   (∀A' O' w' a' e',bF G.K P N B A' O' w' bu a'->oe A' O' w' r e'->Rr e' w')->bodyPostM (fw none) 0 P fn Rr e.of a w:=by
 unfold Bv at h;split at h
 ·rename_i iS;split at h
  ·cases h
  ·rename_i u;refine⟨.bU u,st,h,rfl,λN B A O w a Rr hr hk=>?_⟩;show LeavesInM (fw none) 0 P fn a.tmps Rr a.defers (.panicking _) w;exact HI (by simp) iS (tm:=a.tmps) hr λw' h'=>hk A O w' _ _ h' rfl
  ·rename_i OY OZ;split at h
   rotate_left
   ·cases h
   rename_i ava has;refine⟨.ret (BL ava),st,h,rfl,λN B A O w a Rr hr hk=>?_⟩;have fin:LeavesInM (fw none) 0 P fn a.tmps Rr a.defers .returning w:=HI (by simp) iS (tm:=a.tmps) hr λw' h'=>by
    obtain⟨vs,q1,q2⟩:=RK hG.K (a:= { tmps:=a.tmps,defers:=[] }) has h'.env h'.rel;exact⟨_,q2,hk A O w' _ _ h' ⟨_,rfl,ada q1⟩⟩
   cases e with
   |normal=>exact fin
   |ret=>exact fin
   |exit id=>exact absurd rfl (OY id)
   |bU u=>exact absurd rfl (OZ u)
 ·rename_i i iS;split at h
  rotate_left
  ·cases h
  rename_i g cs g_;split at h
  rotate_left
  ·cases h
  rename_i dc hdc;have main: ∀ {p:Option Value},dc.out cs p (aH st.h) (λp up=>bif !(iN (aH st.h) up) then none else(match p with
     |some u=>k (.bU u) { st.cX up [] with df:=[] }
     |none=>(match qO G.K st.env (gP st.h up) fn.results.toList with|some ava=>k (.ret (BL ava)) { st.cX up [] with df:=[] }|none=>none)))=some z->
    ∃r bu,k r bu=some z/\bu.nb=st.nb/\ ∀(N:Nat) (B:dZ) (A:Pl) (O:List Nat) (w:World) (a:Act) (Rr:Ending->World->Prop) (u:FrameMode),s8 p u->bF G.K P N B A O w st a->
   (∀A' O' w' a' e',bF G.K P N B A' O' w' bu a'->oe A' O' w' r e'->Rr e' w')->LeavesInM (fw none) 0 P fn a.tmps Rr a.defers u w:=by
   intro p hp;obtain⟨q,up,U,hS⟩:=hG.D g dc hdc _ _ _ _ _ hp;cases gK:iN (aH st.h) up<;>rw[gK] at U
   ·cases U
   simp only[ξY,cond_false] at U;cases q with
   |some u=>
    refine⟨_,_,U,rfl,λN B A O w a Rr uu hm hr hk=>?_⟩;refine Qh iS g_ hS gK (tm:=a.tmps) hm hr λA' O' w' u' hq h'=>?_;rw[show u'=_ from hq];exact hk A' O' w' _ _ h' rfl
   |none=>
    simp only at U;split at U
    rotate_left
    ·cases U
    rename_i ava has;refine⟨_,_,U,rfl,λN B A O w a Rr uu hm hr hk=>?_⟩;refine Qh iS g_ hS gK (tm:=a.tmps) hm hr λA' O' w' u' hq h'=>?_;rw[show u'=_ from hq];have jH:cv A' O' w' (aH (gP st.h up)):=by
     have:=h'.rel;simpa[AS.cX] using this
    obtain⟨vs,q1,q2⟩:=RK hG.K (a:= { tmps:=a.tmps,defers:=[] }) has h'.env jH;exact⟨_,q2,hk A' O' w' _ _ h' ⟨_,rfl,ada q1⟩⟩
  simp only at h;split at h
  ·cases h
  ·rename_i u;obtain⟨r,bu,U,h2,h3⟩:=main h;exact⟨r,bu,U,h2,λN B A O w a Rr hr hk=>h3 N B A O w a Rr _ rfl hr hk⟩
  ·rename_i OY OZ;obtain⟨r,bu,U,h2,h3⟩:=main h;refine⟨r,bu,U,h2,λN B A O w a Rr hr hk=>?_⟩;have fin:=h3 N B A O w a Rr .returning rfl hr hk;cases e with
   |normal=>exact fin
   |ret=>exact fin
   |exit id=>exact absurd rfl (OY id)
   |bU u=>exact absurd rfl (OZ u)
 ·cases h
theorem apK {r:Rs S} {k:Rs S->AH S->List Nat->Option R} (h:Bh r st k=some z):
  ∃r' h' dt,k r' h' dt=some z/\ ∀(N:Nat) (B:dZ) (A:Pl) (O:List Nat) (w:World) (a:Act) (e:Ending),B.ex=none->bF K P N B A O w st a->oe A O w r e-> ∃A',oe A' O w r' e/\Jp B.A0 B.O0 B.w0 B.nb h' dt A' O w:=by
 unfold Bh at h;simp only at h;obtain⟨kp,jF⟩: ∃kp,kp=kept (aH st.h) st.nb (xD (st.h.take st.nb)++(match r with| .ret a=>a.refs| .bU _=>[])):=⟨_,rfl⟩;have key: ∀(N:Nat) (B:dZ) (A:Pl) (O:List Nat) (w:World) (a:Act),B.ex=none->bF K P N B A O w st a-> ∃A',kP (λi=>posOf i kp 0) A A'/\Jp B.A0 B.O0 B.w0 B.nb (iF (λi=>posOf i kp 0) (kI (aH st.h) kp)) (st.dt.filter λi=>τ i st.nb) A' O w:=by
  intro N B A O w a hex h;obtain⟨A',dF⟩: ∃A':Pl,A'=⟨λj=>(kp[j]?).bind A.pl,A.ls⟩:=⟨_,rfl⟩;have hR:kP (λi=>posOf i kp 0) A A':=⟨λi j p hi hp=>by
   rw[dF];simp only[xz hi,ξn];exact hp,by rw[dF]⟩
  have fb: ∀i,i<B.nb->kp[i]? =some i:=λi hi=>by rw[jF];exact YS (by rw[h.nb];exact hi)
  have OJ: ∀i j,B.nb<=j->kp[j]? =some i->B.nb<=i:=λi j hj hi=>by rw[jF,h.nb] at hi;exact YQ hj hi
  refine⟨A',hR,?_,h.ob,h.tr,λi hi=>?_,λj hj=>?_,by rw[dF];exact h.ls,?_,?_,?_,?_⟩
  ·exact h.rel.di (idx:=λj=>kp[j]?) (λj=>by rw[dF]) (by rw[dF]) (λi j j' U h2=>HP (by rw[jF];exact YT) U h2) (λi j hi=>xz hi) (λj X' hj=>qK hj)
  ·rw[dF];simp only[fb i hi,ξn];exact h.pl i hi
  ·have:=(ξk.1 hj).2;rw[<-h.nb];exact ο.mp this
  ·rw[uK,xx,jF,<-h.nb];exact YR
  ·intro i hi;rw[uK,xx] at hi;rw[dF];simp[ξg hi]
  ·intro b hb bN;obtain⟨c1,c2,c3⟩:=h.cl b hb (by rw[hex];simp) λi hi _ p hp=>by
    rcases ψ i B.nb with U|U
    ·exact bN i (ξk.2 ⟨hi,ο.mpr (by rw[h.nb];exact U)⟩) p hp
    ·rw[h.hi i U] at hp;cases hp
   refine⟨c1,c2,λi X p hi hX hp=>?_⟩;obtain⟨i0,X0,U,h2,h3⟩:=qK hX;rw[dF] at hp;simp only[U,ξn] at hp;exact λhf=>c3 i0 X0 p (OJ i0 i hi U) h2 hp (Ob.uM h3 hf)
  ·intro i X hi hX;obtain⟨i0,X0,U,h2,h3⟩:=qK hX;rw[fb i hi] at U;cases U;rw[Ob.It h3];exact h.nt i X0 hi h2
 cases r with
 |ret av=>
  simp only at h jF;rw[<-jF] at h;split at h
  ·rename_i a' ee;refine⟨_,_,_,h,λN B A O w a e hex hr ⟨v,U,h2⟩=>?_⟩;obtain⟨A',q1,q2⟩:=key N B A O w a hex hr;exact⟨A',⟨v,U,AV.nj q1 ee h2⟩,q2⟩
  ·cases h
 |bU u=>
  simp only at h jF;rw[<-jF] at h;refine⟨_,_,_,h,λN B A O w a e hex hr he=>?_⟩;obtain⟨A',q1,q2⟩:=key N B A O w a hex hr;exact⟨A',he,q2⟩
end
section
variable {S:bL} {K:bG S} {P:Program} {N:Nat} {B:dZ} {A A':Pl} {O O':List Nat} {w w':World} {st:AS S} {a:Act} {R:Type} {z:R}
inductive Sub:Code->Code->Prop
 |refl (c):Sub c c
 |seq1 {x y d}:Sub x d->Sub (.seq x y) d
 |acN {x y d}:Sub y d->Sub (.seq x y) d
 |VQ {o x y d}:Sub x d->Sub (.cond o x y) d
 |VR {o x y d}:Sub y d->Sub (.cond o x y) d
 |block {id x d}:Sub x d->Sub (.block id x) d
 |loop {x d}:Sub x d->Sub (.loop x) d
 |scope {x d}:Sub x d->Sub (.scope x) d
def ao (K:bG S) (P:Program) (I:ff S) (c:Code):Prop:=
 ∀(x:Code) (lc:bH S),Sub c (.loop x)->kU I.lc (fG x)=some lc-> ∀ {R:Type} (st:AS S) (k:AX->AS S->Option R) (z:R),lc.out st k=some z-> ∃e bu,k e bu=some z/\ ∀B A O w a,bF K P I.fn.ntmps B A O w st a->(Code.loop x).wpIn (fw B.rr) 0 P (mG K P I.fn.ntmps B e bu) a w
theorem ao.nil {I:s6} {c:Code}:ao K P (⟨I,[]⟩:ff S) c:=λx lc _ h=>by cases h
theorem ao.sub {I:ff S} {c d:Code} (h:ao K P I c) (hs: ∀x,Sub d x->Sub c x):ao K P I d:=λx lc U h2=>h x lc (hs _ U) h2
def pq (K:bG S) (P:Program) (run: {R:Type}->ff S->Code->AS S->(AX->AS S->Option R)->Option R):Prop:=
 ∀ {R:Type} (I:ff S) (c:Code) (st:AS S) (k:AX->AS S->Option R) (z:R),ao K P I c->run I c st k=some z-> ∃e bu,k e bu=some z/\ ∀B A O w a,bF K P I.fn.ntmps B A O w st a->c.wpIn (fw B.rr) 0 P (mG K P I.fn.ntmps B e bu) a w
theorem adO: ∀ {ps:List Nat} {ava:List (aD S)} {pe:aW S},qX ps ava=some pe->ps.length=ava.length
 |[],[],_,_=>rfl
 |p::ps,a::ava,pe,h=>by
  simp only[qX] at h;split at h
  ·rename_i e he;simp[adO he]
  ·cases h
 |[],_::_,_,h=>by cases h
 |_::_,[],_,h=>by cases h
theorem Ws: ∀ {l:List (Nat×Value)} {tm:Array Value},(l.foldl (λt p=>t.setIfInBounds p.1 p.2) tm).size=tm.size
 |[],tm=>rfl
 |(p,v)::l,tm=>by simp[Ws]
theorem Nb {s:Nat}: ∀ {l:List (Nat×Value)} {tm:Array Value},(∀p∈l,p.1≠s)->(l.foldl (λt p=>t.setIfInBounds p.1 p.2) tm).getD s undef=tm.getD s undef
 |[],tm,_=>rfl
 |(p,v)::l,tm,h=>by
  rw[List.foldl_cons,Nb λq hq=>h q (μ _ hq)];have aN:p≠s:=h (p,v) ν;simp only[θ,ξ0 aN]
theorem adP {s:Nat} {b:AV S}: ∀ {ps:List Nat} {ava:List (aD S)} {pe:aW S} {xs:List Value} {tm:Array Value},qX ps ava=some pe->xA tm.size ps=true->dO A O w ava xs->aW.get pe s=some b->b.rel A O w (((ps.zip xs).foldl (λt p=>t.setIfInBounds p.1 p.2) tm).getD s undef)
 |[],[],pe,xs,tm,hz,_,hr,hg=>by cases hz;cases hg
 |p::ps,c::ava,pe,xs,tm,hz,hp,⟨y,ys,e,U,h2⟩,hg=>by
  subst e;simp only[qX] at hz;split at hz
  rotate_left
  ·cases hz
  rename_i pe' uk;cases hz;simp only[xA,η] at hp;obtain⟨sb,Yj,Pa⟩:=hp;have aB:p<tm.size:=ο.mp sb;have OW:p∉ps:=λhm=>by rw[lR.2 hm] at Yj;cases Yj
  have qw: ∀q∈ps.zip ys,q.1≠p:=λq hq e=>OW (by rw[<-e];exact(ζB (a:=q.1) (b:=q.2) hq).1);simp only[aW.get] at hg;show b.rel A O w (((ps.zip ys).foldl (λt p=>t.setIfInBounds p.1 p.2) (tm.setIfInBounds p y)).getD s undef);cases hq:ζ p s with
  |true=>
   rw[hq] at hg;have:=δ hq;subst this;simp only[cond_true,ι] at hg;subst hg;rw[Nb qw];have e:(tm.setIfInBounds p y).getD p undef=y:=by simp[θ,aB]
   rw[e];exact U
  |false=>
   rw[hq] at hg;exact adP uk (by simpa using Pa) h2 hg
 |[],_::_,pe,xs,tm,hz,_,_,_=>by cases hz
 |_::_,[],pe,xs,tm,hz,_,_,_=>by cases hz
theorem adQ {s:Nat}: ∀ {ps:List Nat} {ava:List (aD S)} {pe:aW S},qX ps ava=some pe->aW.get pe s=none->s∉ps
 |[],[],pe,hz,_=>by simp
 |p::ps,c::ava,pe,hz,hg=>by
  simp only[qX] at hz;split at hz
  rotate_left
  ·cases hz
  rename_i pe' uk;cases hz;simp only[aW.get] at hg;cases hq:ζ p s with
  |true=>rw[hq] at hg;cases hg
  |false=>
   rw[hq] at hg;intro hm;rcases υ.1 hm with e|hm
   ·subst e;simp at hq
   ·exact adQ uk hg hm
 |[],_::_,pe,hz,_=>by cases hz
 |_::_,[],pe,hz,_=>by cases hz
theorem WB {env:aW S} {s:Nat}: ∀ {pe:aW S},aW.get (pe++env) s=(match aW.get pe s with|some b=>some b|none=>aW.get env s)
 |[]=>rfl
 |(t,b)::r=>by
  simp only[ζ1,aW.get];cases ζ t s with
  |true=>rfl
  |false=>exact WB
theorem auw {env:aW S} {ps:List Nat} {ava:List (aD S)} {pe:aW S} {xs:List Value} {tm:Array Value} (hz:qX ps ava=some pe) (hp:xA tm.size ps=true) (hr:dO A O w ava xs) (he:dV A O w env { tmps:=tm,defers:=[] }):dV A O w (pe++env) { tmps:=(ps.zip xs).foldl (λt p=>t.setIfInBounds p.1 p.2) tm,defers:=[] }:=by
 intro s av hs;rw[WB] at hs;split at hs
 ·rename_i b hb;cases hs;exact adP hz hp hr hb
 ·rename_i hn;have hn:=adQ hz hn;show av.rel A O w (((ps.zip xs).foldl (λt p=>t.setIfInBounds p.1 p.2) tm).getD s undef);rw[Nb λq hq e=>hn (by rw[<-e];exact(ζB (a:=q.1) (b:=q.2) hq).1)];exact he s av hs
theorem auv {run: {R:Type}->ff S->Code->AS S->(AX->AS S->Option R)->Option R} (aX:pq K P run) {R:Type}:EW (R:=R) K P (SN run):=by
 intro ava st k z h;unfold SN at h;split at h
 rotate_left
 ·cases h
 rename_i lf qp;split at h
 rotate_left
 ·cases h
 rename_i pe Ym hz;cases Pd:(xA lf.J.fn.ntmps lf.ps&&qG st.h)<;>rw[Pd] at h
 ·cases h
 simp only[cond_true] at h;rw[η] at Pd;obtain⟨qy,anv⟩:=Pd;obtain⟨e1,st1,U,ei⟩:=aX _ _ _ _ _ ao.nil h;split at U
 rotate_left
 ·cases U
 rename_i tX;cases Yi:qG st1.h<;>rw[Yi] at U
 ·cases U
 simp only[cond_true] at U;obtain⟨e2,st2,h2,k_⟩:=aX _ _ _ _ _ ao.nil U;obtain⟨dt',GZ⟩: ∃dt',dt'=iQ st.nb st.dt (st1.dt++st2.dt):=⟨_,rfl⟩;rw[<-GZ] at h2;obtain⟨b,ni,hk,Ou⟩: ∃b ni,k b { st with h:=st2.h,dt:=dt',lp:=some { lf with jr:=ni } }=some z/\(e2= .normal/\b=true/\ni=none\/e2= .ret/\b=false/\ni=some .ret\/ ∃id,e2= .exit id/\b=false/\ni=some (.exit id)):=by
  split at h2
  ·refine⟨true,none,?_,.inl ⟨rfl,rfl,rfl⟩⟩;have:({ lf with jr:=none }:mF S)=lf:=by rw[<-Ym]
   rw[this,<-qp];exact h2
  ·cases h2
  ·exact⟨false,_,h2,.inr (.inl ⟨rfl,rfl,rfl⟩)⟩
  ·exact⟨false,_,h2,.inr (.inr ⟨_,rfl,rfl,rfl⟩)⟩
 refine⟨b,_,hk,?_⟩;intro N B o c x A O w a l ah dr hx fm gL hr;have jG:=hr.lp;rw[qp] at jG;obtain⟨l',fn,tm,D,q1,q0,q2,q3,q4,q5⟩:=jG;have hll:l'=l:=by
  have:=hr.ls;rw[fm,q1] at this;exact ξA this.symm
 subst hll;have fT:a.defers=[]:=hr.dl (by rw[qp];rfl);have amO: ∀i p,B.A0.pl i=some p->A.pl i=some p:=λi p hp=>by
  rcases ψ i B.nb with U|U
  ·rw[hr.pl i U];exact hp
  ·rw[hr.hi i U] at hp;cases hp
 have wB:Pl.le B.A0 A:=⟨amO,hr.ls⟩;have X9:w.heap[l']? =some (.loop (gO lf fn tm D)):=q2.1.1;have bz:(c.args.map a.eval).size=(gO lf fn tm D).params.size:=by
  have e1:=Is gL;simp only[ξw,Array.length_toList] at e1;simp[gO,e1,adO hz]
 have hy:=run_yield (P:=P) X9 bz;obtain⟨kM,Yw⟩: ∃kM,kM=((gO lf fn tm D).params.zip (c.args.map a.eval)).foldl (λtmps (t,a)=>tmps.setIfInBounds t a) tm:=⟨_,rfl⟩;have Yx:kM=(lf.ps.zip (c.args.toList.map a.eval)).foldl (λt p=>t.setIfInBounds p.1 p.2) tm:=by
  rw[Yw,<-ξQ];simp[gO]
 have AK:(Instr.yield l' (c.args.map a.eval)).run P w= .ok (.round l' fn kM lf.lA lf.body) w:=by rw[hy,Yw];rfl
 have anJ:(execOp a.eval o).run P w= .ok (.round l' fn kM lf.lA lf.body) w:=by
  simp only[execOp,ah,ξ,resolve,dr,hx,ζ0,ξh,π,invoke];simpa using AK
 refine⟨λ_ _=>trivial,?_⟩;rw[ζl _ _ _ (by rw[ah];simp),anJ,Oper.uponIn_round];refine⟨λh=>by simp[fw] at h,roundIn_of_wpIn trivial ?_⟩;have Ow:dV A O w (pe++lf.env) { tmps:=kM,defers:=[] }:=by
  rw[Yx];exact auw hz (by rw[q5];exact qy) gL (q4.tr (Tr.refl _ _) wB)
 have i1:bF K P lf.J.fn.ntmps (dZ.of A O w st.h none (some l')) A O w ⟨pe++lf.env,st.h,st.h.length,none,true,[],[]⟩ { tmps:=kM,defers:=[] }:=
  bF.init hr.rel hr.ob hr.eJ hr.free (by show kM.size=_;rw[Yx,Ws,q5]) Ow trivial (λh=>by cases h) rfl (λi X hX=>HT anv hX)
 refine wpIn_mono (ei _ A O w _ i1) ?_;rintro e a1 w1 ⟨rfl,⟨pl1,ls1⟩,O1,r1⟩;have r7:ls1=A.ls:=r1.ls;subst r7;show ∃au',_;have hd1: ∀x∈st.dt,x∈dt':=λx hx=>by rw[GZ];exact pG hx
 have Ok: ∀x∈st1.dt,x<st.nb->x∈dt':=λx hx hn=>by rw[GZ];exact rC hn (ξ9 _ hx)
 have Ol: ∀x∈st2.dt,x<st.nb->x∈dt':=λx hx hn=>by rw[GZ];exact rC hn (ξ7 _ hx)
 obtain⟨r2,Vr,le2⟩:=hr.inner (Tr.refl O w) (λb hb=>⟨hb,rfl⟩) rfl (λ_ _ h=>by cases h) r1 hd1 Ok r1.rel;have ql:=Vr _ _ q2;refine⟨_,run_beginRound ql.1.1 (by simp[gO,Ym]),?_⟩;obtain⟨busy,XI⟩: ∃busy,busy=({ gO lf fn tm D with state:= .busy }:Loop):=⟨_,rfl⟩;rw[<-XI];have Aa: ∀ {w':World} {A':Pl} {O':List Nat},eG B.w0.heap.size A' O' w' st.df a.defers:=λ{w' A' O'}=>by
  have:=hr.df;rw[fT] at this ⊢;exact this
 have r3:=r2.book (o':= .loop busy) (lp':=none) (a':=a) ql (.inr q0) trivial (λ_=>fT) Aa rfl;have mh:a1.defers=[]:=r1.dl (by rw[tX,ξv]);have i2:bF K P lf.J.fn.ntmps (dZ.of ⟨pl1,A.ls⟩ O1 (w1.putObj l' (.loop busy)) st1.h none (some l')) ⟨pl1,A.ls⟩ O1 (w1.putObj l' (.loop busy)) ⟨st1.env,st1.h,st1.h.length,none,true,[],[]⟩ a1:=
  bF.init (r1.rel.book ql) r3.ob r3.eJ r1.free r1.size (r1.env.tr (yM ql) (Pl.le.refl _)) trivial (λh=>by cases h) mh (λi X hX=>HT Yi hX)
 refine wpIn_mono (k_ _ _ _ _ _ i2) ?_;rintro e a2 w2 ⟨rfl,⟨pl2,ls2⟩,O2,r4⟩;have iz:ls2=A.ls:=r4.ls;subst iz;obtain⟨r5,Vs,le5⟩:=r3.inner (st2:=st2) (Tr.refl O1 _) (λb hb=>⟨hb,rfl⟩) rfl (λ_ _ h=>by cases h) r4 (dt':=dt') (λx hx=>hx) Ol r4.rel;have hD1:=Vr _ _ q3;have aN:D≠l':=by
  rintro rfl;have e1:=q3.1.1;rw[X9] at e1;cases e1
 have ql1:gG O1 (w1.putObj l' (.loop busy)) l' (.loop busy):=⟨⟨ζ6 ql.1.lt,rfl⟩,rfl,ql.2.2⟩;have Bn:=Vs _ _ ql1;have hD2:=Vs _ _ (hD1.put (o:= .loop (gO lf fn tm D)) (o':= .loop busy) aN);have Ov: ∀jump:Option Code,jump=ni.bind AX.code->(ni=none↔jump=none)-> ∃v w',(Instr.endRound l' jump).run P w2= .ok v w'/\v= .bool jump.isNone/\ ∃A' O',bF K P N B A' O' w' { st with h:=st2.h,dt:=dt',lp:=some { lf with jr:=ni } } a:=by
  intro jump hj ang;refine⟨_,_,run_endRound jump Bn.1.1,rfl,⟨pl2,A.ls⟩,O2,?_⟩;have Hg:({ busy with state:=if jump.isNone then .ready else .done,pending:=jump }:Loop)=gO { lf with jr:=ni } fn tm D:=by
   rw[XI,hj];unfold gO;cases ni with
   |none=>rfl
   |some x=>
    have: ¬(jump=none):=λe=>by cases ang.2 e
    rw[hj] at this;cases hc:(some x).bind AX.code with
    |none=>exact absurd hc this
    |some y=>rfl
  rw[Hg];refine r5.book (o':= .loop (gO { lf with jr:=ni } fn tm D)) (lp':=some { lf with jr:=ni }) Bn (.inr q0) ?_ (λ_=>fT) Aa rfl;exact⟨l',fn,tm,D,q1,q0,⟨⟨ζ6 Bn.1.lt,rfl⟩,rfl,Bn.2.2⟩,hD2.put (o:= .loop busy) aN,(((q4.tr r1.tr (Pl.le.refl _)).tr (yM ql) (Pl.le.refl _)).tr r4.tr (Pl.le.refl _)).tr (yM Bn) (Pl.le.refl _),q5⟩
 rcases Ou with⟨rfl,rfl,rfl⟩|⟨rfl,rfl,rfl⟩|⟨id,rfl,rfl,rfl⟩
 ·obtain⟨v,w',e1,e2,e3⟩:=Ov none rfl (by simp);exact⟨v,w',e1,v,rfl,by rw[e2];rfl,e3⟩
 ·obtain⟨v,w',e1,e2,e3⟩:=Ov (some .ret) rfl (by simp);exact⟨v,w',e1,v,rfl,by rw[e2];rfl,e3⟩
 ·obtain⟨v,w',e1,e2,e3⟩:=Ov (some (.exit id)) rfl (by simp);exact⟨v,w',e1,v,rfl,by rw[e2];rfl,e3⟩
end
section
variable {S:bL} {P:Program} {N:Nat} {B:dZ} {A A':Pl} {O O':List Nat} {w w':World} {st:AS S} {a:Act} {R:Type} {z:R}
theorem Vj {s:Nat} {av:AV S}: ∀ {ava:List (aD S)} {i:Nat} {xs:List Value},dO A O w ava xs->aW.get (oh i ava) s=some av-> ∃x,i<=s/\xs[s-i]? =some x/\av.rel A O w x
 |[],i,xs,_,h=>by cases h
 |b::r,i,xs,⟨y,ys,e,U,h2⟩,h=>by
  subst e;simp only[oh,aW.get] at h;cases hq:ζ i s with
  |true=>
   rw[hq] at h;have:=δ hq;subst this;simp only[cond_true,ι] at h;subst h;exact⟨y,ξc _,by simp,U⟩
  |false=>
   rw[hq] at h;obtain⟨x,q1,q2,q3⟩:=Vj (i:=i+1) h2 h;refine⟨x,by omega,?_,q3⟩;rw[show s-i=(s-(i+1))+1 by omega];simpa using q2
theorem Vk {ava:List (aD S)} {xs:List Value} {n:Nat} (h:dO A O w ava xs):dV A O w (oh 0 ava) { tmps:=xs.toArray++ξ8 n undef,defers:=[] }:=by
 intro s av hs;obtain⟨x,_,U,h2⟩:=Vj h hs;simp only[ζN] at U;have aB:=(ε.1 U).1;have e:(xs.toArray++ξ8 n undef).getD s undef=x:=by
  rw[θ,Array.getElem?_append_left (by simpa using aB)];simp[U]
 show av.rel A O w ((xs.toArray++ξ8 n undef).getD s undef);rw[e];exact h2
structure aJ (G:ay S) (P:Program):Prop extends SW G P where
 L: ∀f J c,G.T f=some J->J.fn.body=some c->ao G.K P J c
theorem Vv {G:ay S} (hG:aJ G P) {run: {R:Type}->ff S->Code->AS S->(AX->AS S->Option R)->Option R} (aX:pq G.K P run) {f:Nat} {J:ff S} {c:Code} {ava:List (aD S)} {h:AH S} {k:Rs S->AH S->List Nat->Option R} (hT:G.T f=some J) (hb:J.fn.body=some c) (hl:ξH ava.length J.fn.ntmps=true)
  (hr:run J c ⟨oh 0 ava,h,h.length,none,false,[],[]⟩ (λe bu=>Bv G J.fn e bu λr BH=>Bh r BH k)=some z): ∃r h' dt,k r h' dt=some z/\ic G.K P f ava h r h' dt:=by
 obtain⟨e,st1,U,ei⟩:=aX _ _ _ _ _ (hG.L f J c hT hb) hr;obtain⟨r,st2,h2,As,k_⟩:=ars hG.toSW U;obtain⟨r',h',dt,h3,AE⟩:=apK (K:=G.K) (P:=P) h2;refine⟨r',h',dt,h3,hG.E f J hT,λA O w xs ha hg hO zz bZ iA=>?_⟩;refine(callsIn_wide (n:=0)).1 (callsIn_of_wp_marks (hG.T f J hT) hb trivial ?_);have hlen:=Is ha;have hle:=ξ5 hl;have i1:bF G.K P J.fn.ntmps (dZ.of A O w h none none) A O w ⟨oh 0 ava,h,h.length,none,false,[],[]⟩ { tmps:=xs.toArray++ξ8 (J.fn.ntmps-xs.toArray.size) undef,defers:=[] }:=
  bF.init hg hO zz bZ (by simp;omega) (Vk ha) trivial (λ_=>rfl) rfl iA
 refine wpIn_mono (ei _ A O w _ i1) ?_;rintro e' a1 w1 ⟨rfl,A1,O1,r1⟩;refine k_ _ _ _ _ _ _ _ r1 λA2 O2 w2 a2 e2 r2 fU=>?_;obtain⟨A3,q1,q2⟩:=AE _ _ _ _ _ _ _ rfl r2 fU;exact⟨A3,O2,q1,q2⟩
theorem aq8 {G:ay S} (hG:aJ G P) {run: {R:Type}->ff S->Code->AS S->(AX->AS S->Option R)->Option R} (aX:pq G.K P run) {I:ff S} {fo:Operand} {ps:Array Nat} {lA body:Code} {k:AX->AS S->Option R} (h:Rd G run I fo ps lA body st k=some z):
  ∃e bu,k e bu=some z/\ ∀B A O w a,bF G.K P I.fn.ntmps B A O w st a->(Code.rangeFunc fo ps lA body).wpIn (fw B.rr) 0 P (mG G.K P I.fn.ntmps B e bu) a w:=by
 unfold Rd at h;split at h
 rotate_left
 ·cases h
 rename_i jG tX;split at h
 rotate_left
 ·cases h
 rename_i i iT;split at h
 rotate_left
 ·cases h
 rename_i g cs g_;split at h
 rotate_left
 ·cases h
 rename_i J hT;split at h
 rotate_left
 ·cases h
 rename_i cb XL fU;cases Oc:(ξH (1+cs.length) J.fn.ntmps&&(xo st.env&&na st.h))<;>rw[Oc] at h
 ·cases h
 simp only[cond_true] at h;simp only[η] at Oc;obtain⟨hle,hnE,Ha⟩:=Oc;obtain⟨e1,st1,U,ei⟩:=aX _ _ _ _ _ (hG.L g J cb hT XL) h;obtain⟨e,gb,hk,wO,auD,r9,tV,Ou⟩: ∃e gb,k e { st with h:=st1.h,dt:=iQ st.nb st.dt st1.dt }=some z/\st1.lp=some gb/\st1.df=[]/\na st1.h=true/\(e1= .normal\/e1= .ret)/\(gb.jr=none/\e= .normal\/gb.jr=some .ret/\e= .ret\/ ∃id,gb.jr=some (.exit id)/\e= .exit id):=by
  have tail:Ih st st1 k=some z-> ∃e gb,k e { st with h:=st1.h,dt:=iQ st.nb st.dt st1.dt }=some z/\st1.lp=some gb/\st1.df=[]/\na st1.h=true/\(gb.jr=none/\e= .normal\/gb.jr=some .ret/\e= .ret\/ ∃id,gb.jr=some (.exit id)/\e= .exit id):=by
   intro U;unfold Ih at U;split at U
   ·rename_i gb iS wO;cases hn:na st1.h<;>rw[hn] at U
    ·cases U
    simp only[cond_true] at U;split at U
    ·rename_i hp;exact⟨.normal,gb,U,wO,iS,rfl,.inl ⟨hp,rfl⟩⟩
    ·rename_i hp;exact⟨.ret,gb,U,wO,iS,rfl,.inr (.inl ⟨hp,rfl⟩)⟩
    ·rename_i id hp;exact⟨.exit id,gb,U,wO,iS,rfl,.inr (.inr ⟨id,hp,rfl⟩)⟩
    ·cases U
   ·cases U
  cases e1 with
  |normal=>obtain⟨e,gb,t1,t2,t3,t4,t5⟩:=tail U;exact⟨e,gb,t1,t2,t3,t4,.inl rfl,t5⟩
  |ret=>obtain⟨e,gb,t1,t2,t3,t4,t5⟩:=tail U;exact⟨e,gb,t1,t2,t3,t4,.inr rfl,t5⟩
  |exit id=>cases U
  |bU u=>cases U
 refine⟨e,_,hk,λB A O w a hr=>?_⟩;have m5:=hr.rr tX;rw[m5];refine wpIn_rangeFunc λfn _=>?_;obtain⟨f0,u0,c0,p1,p2⟩:=fR hr.env hr.eJ iT;have p2:a.eval fo= .func f0 u0 c0:=by simpa using p2
 obtain⟨p,q1,⟨us,vs,q2,q3,q4⟩,_⟩:=hr.rel.al i _ g_;rw[p1] at q1;cases q1;rw[show us=[] from q3] at q2;cases q2;obtain⟨rec,Hg⟩: ∃rec:Loop,rec=gO ⟨I.tos6,ps.toList,lA,body,st.env,none⟩ fn a.tmps w.heap.size:=⟨_,rfl⟩;obtain⟨W1,zH⟩: ∃W1,(w.alloc (.deferred (some []))).alloc (.loop rec)=W1:=⟨_,rfl⟩;have Ns:W1.heap[w.heap.size+1]? =some (.loop rec):=by
  rw[<-zH];have:=ζf (w.alloc (.deferred (some []))) (.loop rec);rwa [World.size_alloc] at this
 have Xf:W1.heap[w.heap.size]? =some (.deferred (some [])):=by
  rw[<-zH];exact(ζ4 _ _ _ (by simp)).trans (ζf w _)
 have wD:Fr [] w W1:=by
  rw[<-zH];exact⟨rfl,rfl,rfl,by simp;omega,λk hk _=>(ζ4 _ _ _ (by simp;omega)).trans (ζ4 _ _ _ hk)⟩
 have au2:W1.heap.size=w.heap.size+2:=by rw[<-zH];simp
 obtain⟨O1,zD⟩: ∃O1,O1=w.heap.size::(w.heap.size+1)::O:=⟨_,rfl⟩;have cY: ∀b∈O,b∈O1:=λb hb=>by rw[zD];exact μ _ (μ _ hb)
 have zG:Tr O w O1 W1:=⟨wD.os,wD.tape,wD.output,wD.size,λk hk ho=>⟨by rw[zD];simp;exact⟨by omega,by omega,ho⟩,wD.block k hk (by simp)⟩⟩;have pU:OB O1 W1:=λk hk=>by
  rw[zD] at hk;simp at hk;rcases hk with rfl|rfl|hk
  ·omega
  ·omega
  ·have:=hr.ob k hk;omega
 have eW: ∀b∈O,b∈O1/\W1.heap[b]? =w.heap[b]? :=λb hb=>⟨cY b hb,wD.block b (hr.ob b hb) (by simp)⟩;obtain⟨A1,pR⟩: ∃A1:Pl,A1=⟨A.pl,some (w.heap.size+1)⟩:=⟨_,rfl⟩;have wC:A1.pl=A.pl:=by rw[pR]
 refine⟨w.heap.size+1,[{ target:= .collected w.heap.size,args:= #[] }],W1,{ target:= .fn (.func g) vs.toArray,args:= #[.func (.yield (w.heap.size+1)) #[] #[]] },W1,g,
  #[.func (.yield (w.heap.size+1)) #[] #[]]++vs.toArray,W1,?_,?_,?_,?_,λh=>by simp[fw] at h,?_⟩
 ·rw[<-zH,Hg];exact run_enterLoop_outer _ _ _ _ _
 ·simp only[resolve,p2];simp[go_sem]
 ·intro f' wJ;trivial
 ·have eg: ∀(vs:Array Value) (u:World),(callFunc g vs).run P u= .ok (.enter g vs) u:=hG.E g J hT;simp[invoke,go_sem,eg]
 ·
  have Yr:dO A1 O1 W1 (.one .eL::cs) (.func (.yield (w.heap.size+1)) #[] #[]::vs):=by
   refine⟨_,_,rfl,⟨w.heap.size+1,by rw[pR],rfl⟩,?_⟩;have fi:uA cs=true:=by
    have:=xp Ha g_;simp only[Ob.kH,η] at this;exact this.2
   exact A8 wC fi (uH zG (Pl.le.refl A) q4)
  have hlen:=Is Yr;simp only[ζ2] at hlen;have auK:=ξ5 hle;have OF:cv A O1 W1 (aH st.h):=by
   refine cv.HN (λj X hj=>Ob.aap (xp Ha hj)) (λj X hj=>?_) hr.rel.dj;obtain⟨p,hp,hR,hb⟩:=hr.rel.al j X hj;exact⟨p,hp,hR.keep zG (Pl.le.refl A) λb bM=>⟨(eW b (hr.rel.lF hj hp bM)).2,cY b (hr.rel.lF hj hp bM)⟩,λb bM=>cY b (hb b bM)⟩
  have hbl:gG O1 W1 (w.heap.size+1) (.loop rec):=⟨⟨Ns,rfl⟩,rfl,by rw[zD];simp⟩;have Xz:gG O1 W1 w.heap.size (.deferred (some [])):=⟨⟨Xf,rfl⟩,rfl,by rw[zD];simp⟩;have i1:bF G.K P J.fn.ntmps (dZ.of A1 O1 W1 st.h (some (w.heap.size+1)) none) A1 O1 W1 ⟨oh 0 (.one .eL::cs),st.h,st.h.length,some ⟨I.tos6,ps.toList,lA,body,st.env,none⟩,false,[],[]⟩ { tmps:=(#[ζp (.yield (w.heap.size+1)) #[] #[]]++vs.toArray)++ξ8 (J.fn.ntmps-(#[ζp (.yield (w.heap.size+1)) #[] #[]]++vs.toArray).size) undef,defers:=[] }:=by
   refine bF.init (aan wC Ha OF) pU (hr.eJ.tr zG) (λj hj=>by rw[wC];exact hr.free j hj) (by simp at hlen ⊢;omega) ?_ ?_ (λ_=>rfl) rfl (λj X hj=>Ob.aap (xp Ha hj))
   ·have:=Vk (n:=J.fn.ntmps-(#[ζp (.yield (w.heap.size+1)) #[] #[]]++vs.toArray).size) Yr;have e:(ζp (.yield (w.heap.size+1)) #[] #[]::vs).toArray= #[.func (.yield (w.heap.size+1)) #[] #[]]++vs.toArray:=by simp
    rw[e] at this;exact this
   ·refine⟨w.heap.size+1,fn,a.tmps,w.heap.size,by rw[dZ.of,pR],rfl,by rw[<-Hg];exact hbl,Xz,?_,hr.size⟩;exact ao4 wC hnE (hr.env.tr zG (Pl.le.refl A))
  refine callsIn_of_wp_marks (hG.T g J hT) XL trivial (wpIn_mono (ei _ A1 O1 W1 _ i1) ?_);rintro e' a2 W2 ⟨rfl,A2,O2,r2⟩;have auL:A2.ls=some (w.heap.size+1):=by rw[r2.ls,dZ.of,pR]
  have Aa:a2.defers=[]:=r2.dl (by rw[wO];rfl);have hx: ∀b∈O,some (w.heap.size+1)≠some b:=λb hb e=>by
   cases e;have:=hr.ob _ hb;omega
  have anH:cv ⟨A2.pl,A.ls⟩ O2 W2 (aH st1.h):=aan (A1:=A2) (A2:=⟨A2.pl,A.ls⟩) rfl r9 r2.rel;obtain⟨r3,bk3,le3⟩:=hr.inner zG eW wC hx r2 (dt':=iQ st.nb st.dt st1.dt) (λx hx=>pG hx) (λx hx hn=>rC hn hx) anH;have X_:=r2.lp;rw[wO] at X_;obtain⟨l',tG,kM,D',s1,s0,s2,s3,s4,s5⟩:=X_;have:l'=w.heap.size+1:=by
   have:some (w.heap.size+1)=some l':=s0;exact(ξA this).symm
  subst this;have amZ:gG O2 W2 w.heap.size (.deferred (some [])):=by
   obtain⟨k1,k2,_⟩:=r2.cl w.heap.size Xz.2.2 (λe=>by have e:some (w.heap.size+1)=some w.heap.size:=e;have:=ξA e;omega) λj _ hl p hp=>by
    obtain⟨X,hX⟩:=hl;obtain⟨p',cH,hR,hb⟩:=hr.rel.al j X hX;have hp:A1.pl j=some p:=hp;rw[wC,cH] at hp;cases hp;intro bM;have:=hr.ob _ (hb _ bM);omega
   exact⟨⟨k1.trans Xf,rfl⟩,rfl,k2⟩
  have fin: ∀v,rangePost (fw none) 0 P (w.heap.size+1) (mG G.K P I.fn.ntmps B e { st with h:=st1.h,dt:=iQ st.nb st.dt st1.dt }) { a with defers:=[{ target:= .collected w.heap.size,args:= #[] }]++a.defers } (.returned v) W2:=by
   intro v;refine⟨_,_,run_endLoop s2.1.1 ?_,?_⟩
   ·unfold gO;cases gb.jr<;>simp
   ·have aN:w.heap.size≠w.heap.size+1:=by omega
    have bz:B.w0.heap.size<=w.heap.size:=hr.tr.size;have hmk:Dc.mark w.heap.size∉a.defers:=by
     have: ∀(ds:List Deferred) (df:List (LV S)),eG B.w0.heap.size A O w df ds->Dc.mark w.heap.size∉ds:=by
      intro ds
      induction ds with
      |nil=>intro df _ hm;cases hm
      |cons d ds ih=>
       intro df hd hm;rcases hd with⟨D1,d1,d0,d2,d3⟩|⟨i',r',f',u',c',d1,d2,d3,d4⟩
       ·rcases υ.1 hm with e|hm
        ·rw[d1] at e;have:=aoH e;have:=d2.1.lt;omega
        ·exact ih df d3 hm
       ·rcases υ.1 hm with e|hm
        ·rw[d3] at e;unfold Dc.mark at e;cases e
        ·exact ih r' d4 hm
     exact this _ _ hr.df
    have am4: ∀D1,gG O w D1 (.deferred (some []))->D1≠w.heap.size+1:=λD1 h e=>by
     have:=h.1.lt;omega
    have r4:bF G.K P I.fn.ntmps B ⟨A2.pl,A.ls⟩ O2 (W2.putObj (w.heap.size+1) (.loop { gO gb tG kM D' with state:= .exhausted })) { st with h:=st1.h,dt:=iQ st.nb st.dt st1.dt } { a with defers:=[{ target:= .collected w.heap.size,args:= #[] }]++a.defers }:=by
     refine r3.book (o':= .loop { gO gb tG kM D' with state:= .exhausted }) (lp':=st.lp) s2 (.inl λhm=>?_) (by rw[jG];trivial) (λh=>by rw[jG,show st.inr=false from tX] at h;cases h) ?_ rfl
     ·have:=hr.o0 _ hm;have:=hr.tr.size;omega
     ·refine .inl ⟨w.heap.size,rfl,⟨bz,hmk⟩,amZ.put (o:= .loop (gO gb tG kM D')) aN,?_⟩;exact hr.df.BK le3.at_ λD1 hb=>(bk3 _ _ hb).put (o:= .loop (gO gb tG kM D')) (am4 D1 hb)
    have go: ∀j:Option Code,j=(gO gb tG kM D').pending->(match j with
      |none=>mG G.K P I.fn.ntmps B e { st with h:=st1.h,dt:=iQ st.nb st.dt st1.dt } .normal { a with defers:=[{ target:= .collected w.heap.size,args:= #[] }]++a.defers } (W2.putObj (w.heap.size+1) (.loop { gO gb tG kM D' with state:= .exhausted }))
      |some c=>c.wpIn (fw none) 0 P (mG G.K P I.fn.ntmps B e { st with h:=st1.h,dt:=iQ st.nb st.dt st1.dt }) { a with defers:=[{ target:= .collected w.heap.size,args:= #[] }]++a.defers } (W2.putObj (w.heap.size+1) (.loop { gO gb tG kM D' with state:= .exhausted }))):=by
     intro j hj;rcases Ou with⟨hp,rfl⟩|⟨hp,rfl⟩|⟨id,hp,rfl⟩
     ·have:j=none:=by rw[hj];unfold gO;rw[hp];rfl
      subst this;exact⟨rfl,_,_,r4⟩
     ·have:j=some .ret:=by rw[hj];unfold gO;rw[hp];rfl
      subst this;exact wpIn_ret ⟨rfl,_,_,r4⟩
     ·have:j=some (.exit id):=by rw[hj];unfold gO;rw[hp];rfl
      subst this;exact wpIn_exit ⟨rfl,_,_,r4⟩
    exact go _ rfl
  have Ys:(results J.fn a2.tmps).run P W2= .ok (nm []) W2:=by
   obtain⟨Sq,t1,t2⟩:=RK (A:=A2) (O:=O2) (w:=W2) (a:=a2) (env:=st1.env) (h:=st1.h) (ava:=[]) (fn:=J.fn) hG.K (by rw[fU];rfl) r2.env r2.rel;rw[show Sq=[] from t1] at t2;exact t2
  rcases tV with rfl|rfl
  ·show LeavesInM (fw none) 0 P J.fn a2.tmps _ a2.defers .returning W2;rw[Aa];exact⟨_,Ys,fin _⟩
  ·show LeavesInM (fw none) 0 P J.fn a2.tmps _ a2.defers .returning W2;rw[Aa];exact⟨_,Ys,fin _⟩
theorem apT {K:bG S} {I:ff S} {x:Code} (h:bF K P N B A O w st a): ∃A',bF K P N B A' O w (aaZ I x st) a:=by
 cases x<;>first|exact⟨A,h⟩|exact h.gc
def Di (K:bG S) (P:Program) (n:Nat) (run: {R:Type}->ff S->Code->AS S->(AX->AS S->Option R)->Option R):Prop:=
 ∀ {R:Type} (I:ff S) (x:Code) (st:AS S) (k:AX->AS S->Option R) (z:R),ao K P I (.loop x)->kU I.lc (fG x)=none->run I (.loop x) st k=some z-> ∃e bu,k e bu=some z/\ ∀B A O w a,bF K P I.fn.ntmps B A O w st a->Code.roundsIn (fw B.rr) 0 P x (mG K P I.fn.ntmps B e bu) n a w
theorem ahv {G:ay S} (hG:aJ G P) {run: {R:Type}->ff S->Code->AS S->(AX->AS S->Option R)->Option R} (ih:pq G.K P run):qY (R:=R) G.K P (L8 G run):=by
 intro f ava h k z hc;unfold L8 at hc;split at hc
 ·rename_i tS hf;exact hG.H f tS hf ava h k z hc
 ·split at hc
  ·rename_i J hT;split at hc
   ·rename_i cb hb;cases hl:ξH ava.length J.fn.ntmps<;>rw[hl] at hc
    ·cases hc
    ·exact Vv hG ih hT hb hl hc
   ·cases hc
  ·cases hc
theorem ZT {G:ay S} {n:Nat} (ih:pq G.K P (λ{_}=>dm G n)) (il:Di G.K P n (λ{_}=>dm G n)):Di G.K P (n+1) (λ{_}=>dm G (n+1)):=by
 intro R I x st k z hL hf h;simp only[dm,hf] at h;obtain⟨e,st1,U,ei⟩:=ih _ _ _ _ _ (hL.sub λ_ h=> .loop h) h
 by_cases he:e= .normal
 ·subst he;obtain⟨e2,st2,h2,k_⟩:=il _ _ _ _ _ hL hf U;refine⟨e2,st2,h2,λB A O w a hr=>wpIn_mono (ei B A O w a hr) ?_⟩;rintro x' a' w' ⟨rfl,A',O',cP⟩;obtain⟨A2,eN⟩:=cP.gc (sl:=I.L (fG x));exact k_ B A2 O' w' a' eN
 ·refine⟨e,st1,by cases e<;>first|exact U|exact absurd rfl he,λB A O w a hr=>wpIn_mono (ei B A O w a hr) ?_⟩;rintro x' a' w' ⟨rfl,A',O',cP⟩;cases e<;>first|exact⟨rfl,A',O',cP⟩|exact absurd rfl he
theorem asl {G:ay S} (hG:aJ G P) {n:Nat} (ih:pq G.K P (λ{_}=>dm G n)) (il:Di G.K P (n+1) (λ{_}=>dm G (n+1))):pq G.K P (λ{_}=>dm G (n+1)):=by
 intro R I c st k z hL h;cases c with
 |loop x=>
  cases hf:kU I.lc (fG x) with
  |some lc=>
   simp only[dm,hf] at h;exact hL x lc (.refl _) hf st k z h
  |none=>
   obtain⟨e,st1,U,ei⟩:=il _ _ _ _ _ hL hf h;exact⟨e,st1,U,λB A O w a hr=>wpIn_loop_rounds (n+1) (ei B A O w a hr)⟩
 |skip=>simp only[dm] at h;exact⟨.normal,st,h,λB A O w a hr=>wpIn_skip ⟨rfl,A,O,hr⟩⟩
 |label l=>simp only[dm] at h;exact⟨.normal,st,h,λB A O w a hr=>wpIn_label ⟨rfl,A,O,hr⟩⟩
 |exit id=>simp only[dm] at h;exact⟨.exit id,st,h,λB A O w a hr=>wpIn_exit ⟨rfl,A,O,hr⟩⟩
 |ret=>simp only[dm] at h;exact⟨.ret,_,h,λB A O w a hr=>wpIn_ret (have⟨A2,eN⟩:=hr.gc (sl:=I.L 1000000);⟨rfl,A2,O,eN⟩)⟩
 |seq x y=>
  simp only[dm] at h;obtain⟨e,st1,U,ei⟩:=ih _ _ _ _ _ (hL.sub λ_ h=> .seq1 h) h
  by_cases he:e= .normal
  ·subst he;obtain⟨e2,st2,h2,k_⟩:=ih _ _ _ _ _ (hL.sub λ_ h=> .acN h) U;refine⟨e2,st2,h2,λB A O w a hr=>wpIn_seq (wpIn_mono (ei B A O w a hr) ?_)⟩;rintro x' a' w' ⟨rfl,A',O',cP⟩;exact k_ B A' O' w' a' cP
  ·refine⟨e,st1,by cases e<;>first|exact U|exact absurd rfl he,λB A O w a hr=>wpIn_seq (wpIn_mono (ei B A O w a hr) ?_)⟩;rintro x' a' w' ⟨rfl,A',O',cP⟩;cases e<;>first|exact⟨rfl,A',O',cP⟩|exact absurd rfl he
 |cond o x y=>
  simp only[dm] at h;split at h
  rotate_left
  ·cases h
  rename_i b hb;cases b with
  |true=>
   simp only[cond_true] at h;obtain⟨e,st1,U,ei⟩:=ih _ _ _ _ _ (hL.sub λ_ h=> .VQ h) h;exact⟨e,st1,U,λB A O w a hr=>wpIn_cond_true (gD (S:=S) (A:=A) (O:=O) (w:=w) (fR hr.env hr.eJ hb)) (ei B A O w a hr)⟩
  |false=>
   simp only[cond_false] at h;obtain⟨e,st1,U,ei⟩:=ih _ _ _ _ _ (hL.sub λ_ h=> .VR h) h;exact⟨e,st1,U,λB A O w a hr=>wpIn_cond_false (gD (S:=S) (A:=A) (O:=O) (w:=w) (fR hr.env hr.eJ hb)) (ei B A O w a hr)⟩
 |block id x=>
  simp only[dm] at h;obtain⟨e,st1,U,ei⟩:=ih _ _ _ _ _ (hL.sub λ_ h=> .block h) h;have body: ∀B A O w a,bF G.K P I.fn.ntmps B A O w st a->x.wpIn (fw B.rr) 0 P (mG G.K P I.fn.ntmps B e st1) a w:=λB A O w a hr=>by
   obtain⟨A',cP⟩:=apT (I:=I) (x:=x) hr;exact ei B A' O w a cP
  cases e with
  |exit uq=>
   cases hb:ζ uq id with
   |true=>
    simp only[hb,cond_true] at U;refine⟨.normal,_,U,λB A O w a hr=>wpIn_block (wpIn_mono (body B A O w a hr) ?_)⟩;rintro x' a' w' ⟨rfl,A',O',cP⟩;show if uq=id then _ else _;rw[if_pos (δ hb)];obtain⟨A2,eN⟩:=cP.gc (sl:=I.L (1000001+id));exact⟨rfl,A2,O',eN⟩
   |false=>
    simp only[hb,cond_false] at U;refine⟨.exit uq,st1,U,λB A O w a hr=>wpIn_block (wpIn_mono (body B A O w a hr) ?_)⟩;rintro x' a' w' ⟨rfl,A',O',cP⟩;show if uq=id then _ else _;rw[if_neg (λe=>by subst e;simp at hb)];exact⟨rfl,A',O',cP⟩
  |normal=>
   refine⟨.normal,st1,U,λB A O w a hr=>wpIn_block (wpIn_mono (body B A O w a hr) ?_)⟩;rintro x' a' w' ⟨rfl,A',O',cP⟩;exact⟨rfl,A',O',cP⟩
  |ret=>
   refine⟨.ret,st1,U,λB A O w a hr=>wpIn_block (wpIn_mono (body B A O w a hr) ?_)⟩;rintro x' a' w' ⟨rfl,A',O',cP⟩;exact⟨rfl,A',O',cP⟩
  |bU u=>
   refine⟨.bU u,st1,U,λB A O w a hr=>wpIn_block (wpIn_mono (body B A O w a hr) ?_)⟩;rintro x' a' w' ⟨rfl,A',O',cP⟩;exact⟨rfl,A',O',cP⟩
 |scope x=>
  simp only[dm] at h;cases cY:st.inr<;>rw[cY] at h
  rotate_left
  ·cases h
  simp only[cond_false] at h;obtain⟨e,st1,U,ei⟩:=ih _ _ _ _ _ (hL.sub λ_ h=> .scope h) h;refine⟨e,st1,U,λB A O w a hr=>?_⟩;have m5:=hr.rr cY;have:=ei B A O w a hr;rw[m5] at this ⊢;rw[al7] at this ⊢;refine wpIn_wide.2 (wp_scope_straight (wpIn_wide.1 (wpIn_mono this ?_)));rintro x' a' w' ⟨rfl,A',O',cP⟩;cases e<;>exact⟨rfl,A',O',cP⟩
 |rangeFunc fo ps lA body=>
  simp only[dm] at h;obtain⟨e,st1,U,ei⟩:=aq8 hG ih h;refine⟨e,st1,U,λB A O w a hr=>?_⟩;obtain⟨A',cP⟩:=hr.gc (sl:=I.L (2000001+fG body));exact ei B A' O w a cP
 |region id ops draw=>
  simp only[dm] at h;obtain⟨e,st1,U,ei⟩:=ag6 hG.M hG.K hG.C (ahv hG ih) (auv ih) (id:=id) h;cases e with
  |go=>exact⟨.normal,st1,U,ei⟩
  |bU u=>exact⟨.bU u,st1,U,ei⟩
 |_=>simp only[dm] at h;cases h
theorem vP {G:ay S} (hG:aJ G P): ∀n,pq G.K P (λ{_}=>dm G n)/\Di G.K P n (λ{_}=>dm G n)
 |0=>⟨λI c st k z _ h=>(by cases h),λI c st k z _ _ h=>(by cases h)⟩
 |n+1=>
  ⟨asl hG (vP hG n).1 (ZT (vP hG n).1 (vP hG n).2),ZT (vP hG n).1 (vP hG n).2⟩
theorem LR {G:ay S} (hG:aJ G P) (n:Nat):pq G.K P (λ{_}=>dm G n):=(vP hG n).1
theorem EX {G:ay S} (hG:aJ G P) {n f:Nat} {ava:List (aD S)} {h:AH S} {k:Rs S->AH S->List Nat->Option R} (hr:kQ G n f ava h k=some z): ∃r h' dt,k r h' dt=some z/\ic G.K P f ava h r h' dt:=by
 unfold kQ at hr;split at hr
 ·rename_i J hT;split at hr
  ·rename_i cb hb;cases hl:ξH ava.length J.fn.ntmps<;>rw[hl] at hr
   ·cases hr
   ·exact Vv hG (LR hG n) hT hb hl hr
  ·cases hr
 ·cases hr
end
section
variable {S:bL} {P:Program}
def nQ:Code->List Code
 | .loop x=>x::nQ x
 | .seq x y=>nQ x++nQ y
 | .cond _ x y=>nQ x++nQ y
 | .block _ x=>nQ x
 | .scope x=>nQ x
 |_=>[]
def bQ (c:Code) (id:Nat):Code:=match(nQ c).filter (λx=>ζ (fG x) id) with|[x]=>x|_=> .skip
def QP (c:Code) (id:Nat):Bool:=match(nQ c).filter (λx=>ζ (fG x) id) with|[_]=>true|_=>false
theorem asn {c d x:Code} (hd:d= .loop x) (h:Vx.Sub c d):x∈nQ c:=by
 induction h with
 |refl c=>subst hd;exact ν
 |seq1 _ ih=>exact ξ9 _ (ih hd)
 |acN _ ih=>exact ξ7 _ (ih hd)
 |VQ _ ih=>exact ξ9 _ (ih hd)
 |VR _ ih=>exact ξ7 _ (ih hd)
 |block _ ih=>exact ih hd
 |loop _ ih=>exact μ _ (ih hd)
 |scope _ ih=>exact ih hd
theorem aoB {c x:Code} {id:Nat} (h:QP c id=true) (hs:Vx.Sub c (.loop x)) (hi:fG x=id):x=bQ c id:=by
 have hm:x∈(nQ c).filter (λx=>ζ (fG x) id):=ξk.2 ⟨asn rfl hs,by rw[hi];exact ξu id⟩;unfold QP at h;unfold bQ;split at h
 ·rename_i y hy;rw[hy] at hm;simpa using hm
 ·cases h
def aG (K:bG S) (P:Program) (J:s6) (x:Code) (lc:bH S):Prop:=
 ∀ {R:Type} (st:AS S) (k:AX->AS S->Option R) (z:R),lc.out st k=some z-> ∃e bu,k e bu=some z/\ ∀B A O w a,bF K P J.fn.ntmps B A O w st a->(Code.loop x).wpIn (fw B.rr) 0 P (mG K P J.fn.ntmps B e bu) a w
theorem ao.cons {K:bG S} {J:s6} {lc:bH S} {lcs:List (bH S)} {c:Code} (h:ao K P ⟨J,lcs⟩ c) (U:QP c lc.id=true) (h2:aG K P J (bQ c lc.id) lc):ao K P ⟨J,lc::lcs⟩ c:=by
 intro x lc' hs hf;simp only[kU] at hf;cases hb:ζ lc.id (fG x) with
 |true=>
  rw[hb] at hf;simp only[cond_true,ι] at hf;subst hf;rw[aoB U hs (δ hb).symm];exact h2
 |false=>
  rw[hb] at hf;exact h x lc' hs hf
def BI (P:Program) (L:Nat->Nat->List Nat) (f:Nat):Option (ff S):=
 match P.funcs[f]? with
 |some fn=>(match fn.body with|some _=>some ⟨⟨fn,L f⟩,[]⟩|none=>none)
 |none=>none
def bm (T:Nat->Option (ff S)) (f:Nat) (J:ff S):Nat->Option (ff S):=λh=>bif ζ h f then some J else T h
def Dk (P:Program):Prop:= ∀(f:Nat) (fn:Func),P.funcs[f]? =some fn->fn.body.isSome=true->(fn.name== "runtime.NumGoroutine")=false
theorem eI (h:Dk P) {f:Nat} {fn:Func} (hf:P.funcs[f]? =some fn) (hb:fn.body.isSome=true):gQ P f:=by
 intro vs u;have U:fn.name≠ "runtime.NumGoroutine" :=by simpa using h f fn hf hb
 cases hc:fn.body with
 |none=>rw[hc] at hb;cases hb
 |some c=>simp[callFunc,hf,U,hc,mark]
structure an (G:ay S) (P:Program):Prop where
 K:cI G.K P
 C:qZ G P
 H: ∀f hc,zi G.H f=some hc-> ∀ {R:Type} (ava:List (aD S)) (h:AH S) (k:Rs S->AH S->List Nat->Option R) (z:R),hc.out ava h k=some z-> ∃r h' dt,k r h' dt=some z/\ic G.K P f ava h r h' dt
 D: ∀g dc,zg G.D g=some dc-> ∀ {R:Type} (cs:List (aD S)) (p:Option Value) (eV:Nat->Option (Ob S)) (k:Option Value->Up S->Option R) (z:R),dc.out cs p eV k=some z-> ∃q up,k q up=some z/\vj G.K P g cs p eV q up
 M:P.follows .mixedOrders=true
 N:Dk P
theorem an.all {G:ay S} (h:an G P) {L:Nat->Nat->List Nat} (hT:G.T=BI P L):aJ G P where
 K:=h.K
 C:=h.C
 H:=h.H
 D:=h.D
 M:=h.M
 T f J hf:=by
  rw[hT] at hf;unfold BI at hf;split at hf
  ·rename_i fn Af;split at hf
   ·cases hf;exact Af
   ·cases hf
  ·cases hf
 E f J hf:=by
  rw[hT] at hf;unfold BI at hf;split at hf
  ·rename_i fn Af;split at hf
   ·rename_i c hc;exact eI h.N Af (by rw[hc];rfl)
   ·cases hf
  ·cases hf
 L f J c hf hc:=by
  rw[hT] at hf;unfold BI at hf;split at hf
  ·split at hf
   ·cases hf;exact ao.nil
   ·cases hf
  ·cases hf
theorem aJ.b8 {G:ay S} (h:aJ G P) {f:Nat} {J:ff S} (hf:P.funcs[f]? =some J.fn) (hb:J.fn.body.isSome=true) (hN:Dk P) (hL: ∀c,J.fn.body=some c->ao G.K P J c):aJ { G with T:=bm G.T f J } P where
 K:=h.K
 C:=⟨h.C.C⟩
 H:=h.H
 D:=h.D
 M:=h.M
 T g I hg:=by
  simp only[bm] at hg;cases hb:ζ g f<;>rw[hb] at hg
  ·exact h.T g I hg
  ·cases hg;rw[δ hb];exact hf
 E g I hg:=by
  simp only[bm] at hg;cases hq:ζ g f<;>rw[hq] at hg
  ·exact h.E g I hg
  ·cases hg;rw[δ hq];exact eI hN hf hb
 L g I c hg hc:=by
  simp only[bm] at hg;cases hq:ζ g f<;>rw[hq] at hg
  ·exact h.L g I c hg hc
  ·cases hg;exact hL c hc
def H6 (K:bG S) {R:Type} (k:Rs S->Option R) (r:Rs S) (h:AH S) (_:List Nat):Option R:=
 match r with
 | .ret (.s a)=>(match pQ K (aH h) a with|some (a',_)=>k (.ret (.s a'))|none=>none)
 | .ret (.bD ava)=>(match oC K (aH h) ava with|some (lz,_)=>k (.ret (.bD lz))|none=>none)
 | .bU u=>k (.bU u)
variable {A A':Pl} {O O':List Nat} {w w':World}
theorem LV.Bl {l:LV S} {xs:List Value} (hp:l.pure=true) (ht:Tr O w O' w') (h:l.rel A O w xs):l.rel A' O' w' xs:=by
 cases l with
 |v u=>exact h
 |aU t d=>obtain⟨x,U,h2,h3⟩:=h;exact⟨x,U,h2.tr ht,h3⟩
 |ptr t d o=>obtain⟨x,U,h2⟩:=h;exact⟨x,U,Ty.is.tr h2 ht⟩
 |cd k n gs=>exact h
 |dW n gs=>exact h
 |_=>cases hp
theorem aa2 (ht:Tr O w O' w'): ∀ {ls:List (LV S)} {xs:List Value},ls.all LV.pure=true->bV A O w ls xs->bV A' O' w' ls xs
 |[],_,_,h=>h
 |l::ls,_,hp,⟨y,ys,h,U,h2⟩=>by
  simp only[ξB,η] at hp;exact⟨y,ys,h,LV.Bl hp.1 ht U,aa2 ht hp.2 h2⟩
theorem aD.Bl (ht:Tr O w O' w') {a:aD S} {x:Value} (hp:a.pure=true) (h:a.rel A O w x):a.rel A' O' w' x:=by
 cases a with
 |one l=>exact LV.Bl hp ht h
 |agg ls=>obtain⟨xs,U,h2⟩:=h;exact⟨xs,U,aa2 ht hp h2⟩
theorem Q6 (ht:Tr O w O' w'): ∀ {ls:List (aD S)} {xs:List Value},ls.all aD.pure=true->dO A O w ls xs->dO A' O' w' ls xs
 |[],_,_,h=>h
 |l::ls,_,hp,⟨y,ys,h,U,h2⟩=>by
  simp only[ξB,η] at hp;exact⟨y,ys,h,aD.Bl ht hp.1 U,Q6 ht hp.2 h2⟩
theorem gH.QK {K:bG S} (hK:cI K P) {f:Nat} {ava:List (aD S)} {r:Rs S} {h':AH S} {dt:List Nat} (hp:ava.all aD.pure=true) (h:ic K P f ava [] r h' dt) {R:Type} {k:Rs S->Option R} {z:R} (ho:H6 K k r h' dt=some z): ∃r',k r'=some z/\gH K P f ava r':=by
 obtain⟨gY,hS⟩:=h;have key: ∀(A:Pl) (O:List Nat) (w:World) (xs:List Value),dO A O w ava xs->OB O w->dR K O w->Calls P f xs.toArray w (λe w'=> ∃A' O',oe A' O' w' r e/\cv A' O' w' (aH h')/\(∀rs:List Nat,(∀r∈rs,∃Z,aH h' r=some Z)->Tr (e9 A' rs O') w' O w')/\Fr [] w w'):=by
  intro A O w xs hx hO hG;refine(hS ⟨λ_=>none,none⟩ O w xs (Q6 (Tr.refl O w) hp hx) ⟨λi X hi=>by simp[aH] at hi,λi j X Y p q b _ hi=>by simp[aH] at hi⟩ hO hG (λ_ _=>rfl) (λi X hi=>by simp[aH] at hi)).mono ?_;rintro e w' ⟨A',O',hr,sd⟩;have wI: ∀i,i∉dt:=λi hi=>by have:=sd.lt i hi;simp at this
  have bN: ∀b∈O,w'.heap[b]? =w.heap[b]? /\b∈O'/\ ∀i X p,aH h' i=some X->A'.pl i=some p-> ¬dJ w' X p b:=λb hb=>by
   obtain⟨c1,c2,c3⟩:=sd.cl b hb λi hi=>absurd hi (wI i);exact⟨c1,c2,λi X p=>c3 i X p (ξt _)⟩
  refine⟨A',O',hr,sd.rel,λrs wQ=>Tr.less λb hb=>?_,?_⟩
  ·obtain⟨c1,c2,c3⟩:=bN b hb;refine m9.2 ⟨c2,λr hr p hpp=>?_⟩;obtain⟨Z,hZ⟩:=wQ r hr;exact λbM=>c3 r Z p hZ hpp (.inl bM)
  ·refine⟨sd.tr.os,sd.tr.tape,sd.tr.output,sd.tr.size,λb hb _=>?_⟩
   by_cases XF:b∈O
   ·exact(bN b XF).1
   ·exact(sd.tr.keep b hb XF).2
 cases r with
 |bU u=>
  refine⟨.bU u,ho,gY,λA O w xs hx hO hG=>(key A O w xs hx hO hG).mono ?_⟩;rintro e w' ⟨A',O',hr,_,_,hF⟩;exact⟨hr,hF⟩
 |ret av=>
  cases av with
  |s a=>
   simp only[H6] at ho;split at ho
   ·rename_i a' rs ee;refine⟨_,ho,gY,λA O w xs hx hO hG=>(key A O w xs hx hO hG).mono ?_⟩;rintro e w' ⟨A',O',⟨v,U,h2⟩,hg,ht,hF⟩;obtain⟨q1,q2,q3⟩:=WE hK hg (all:=rs) ee h2 (λr hr=>hr);exact⟨⟨v,U,aD.Bl (ht rs q3) q2 q1⟩,hF⟩
   ·cases ho
  |bD bs=>
   simp only[H6] at ho;split at ho
   ·rename_i lz rs ee;refine⟨_,ho,gY,λA O w xs hx hO hG=>(key A O w xs hx hO hG).mono ?_⟩;rintro e w' ⟨A',O',⟨v,U,ys,h2,h3⟩,hg,ht,hF⟩;obtain⟨q1,q2,q3⟩:=tI hK hg (all:=rs) ee h3 (λr hr=>hr);exact⟨⟨v,U,ys,h2,Q6 (ht rs q3) q2 q1⟩,hF⟩
   ·cases ho
def shape (a b:aD S):Bool:=match a,b with| .one _,.one _=>true| .agg _,.agg _=>true|_,_=>false
def Ii (K:bG S) (t:Nat) (a:aD S):Option (S.El t):=match K.cls t a.cells with|some x=>bif shape a (K.bA t x) then some x else none|none=>none
theorem abg {K:bG S} (hK:cI K P) {t:Nat} {a:aD S} {x:S.El t} {v:Value} (h:Ii K t a=some x) (hr:a.rel A O w v):(K.bA t x).rel A O w v:=by
 unfold Ii at h;split at h
 ·rename_i y hy;cases hs:shape a (K.bA t y)<;>rw[hs] at h
  ·cases h
  ·cases h;have U:=hK.bA A O w t x _ (hK.cls A O w t _ x _ hy (aD.rel.cells hr));cases a with
   |one l=>
    have e1:=aav (LV.rel.one hr v ν);rw[e1] at U;cases ho:K.bA t x with
    |one l'=>
     rw[ho] at U;obtain⟨ys,zs,e,q1,q2⟩:=U;rw[show zs=[] from q2,ξz] at e;rw[<-e] at q1;exact q1
    |agg ls=>rw[ho] at hs;cases hs
   |agg ls=>
    obtain⟨xs,rfl,q⟩:=hr;cases ho:K.bA t x with
    |one l'=>rw[ho] at hs;cases hs
    |agg cZ=>
     rw[ho] at U;exact⟨xs,rfl,by simpa[ζP,aD.cells] using U⟩
 ·cases h
inductive nr (S:bL):List Nat->Type
 |nil:nr S []
 |cons {t ts} (x:S.El t) (r:nr S ts):nr S (t::ts)
def Bo (K:bG S):(ts:List Nat)->List (aD S)->Option (nr S ts)
 |[],[]=>some .nil
 |t::ts,a::ava=>(match Ii K t a with|some x=>(match Bo K ts ava with|some r=>some (.cons x r)|none=>none)|none=>none)
 |_,_=>none
def sx (K:bG S): {ts:List Nat}->nr S ts->List (aD S)
 |_,.nil=>[]
 |_,.cons (t:=t) x r=>K.bA t x::sx K r
theorem Ij {K:bG S} (hK:cI K P): ∀ {ts:List Nat} {ava:List (aD S)} {xs:nr S ts} {vs:List Value},Bo K ts ava=some xs->dO A O w ava vs->dO A O w (sx K xs) vs
 |[],[],xs,vs,h,hr=>by cases h;exact hr
 |t::ts,a::ava,xs,vs,h,⟨y,ys,e,U,h2⟩=>by
  simp only[Bo] at h;split at h
  ·rename_i x hx;split at h
   ·rename_i r hr;cases h;exact⟨y,ys,e,abg hK hx U,Ij hK hr h2⟩
   ·cases h
  ·cases h
 |[],_::_,xs,vs,h,_=>by cases h
 |_::_,[],xs,vs,h,_=>by cases h
def kR (K:bG S) (f:Nat) (ts:List Nat) (spec: {R:Type}->nr S ts->(Rs S->Option R)->Option R):bO S:=⟨f,λava k=>match Bo K ts ava with|some xs=>bif (sx K xs).all aD.pure then spec xs k else none|none=>none⟩
theorem an.l_ {G:ay S} (h:an G P) {c:bO S} (hc: ∀ {R:Type} (ava:List (aD S)) (k:Rs S->Option R) (z:R),ava.all aD.pure=true->c.out ava k=some z-> ∃r,k r=some z/\gH G.K P c.f ava r):an { G with C:=c::G.C } P where
 K:=h.K
 H:=h.H
 D:=h.D
 M:=h.M
 N:=h.N
 C:=⟨λf cn hf=>by
  simp only[FY] at hf;cases hb:ζ c.f f<;>rw[hb] at hf
  ·exact h.C.C f cn hf
  ·cases hf;intro R ava k z hp hz;obtain⟨r,U,h2⟩:=hc ava k z hp hz;rw[δ hb] at h2;exact⟨r,U,h2⟩⟩
theorem an.mS {G:ay S} (h:an G P) {c:iM S} (hc: ∀ {R:Type} (ava:List (aD S)) (hh:AH S) (k:Rs S->AH S->List Nat->Option R) (z:R),c.out ava hh k=some z-> ∃r h' dt,k r h' dt=some z/\ic G.K P c.f ava hh r h' dt):an { G with H:=c::G.H } P where
 K:=h.K
 C:=⟨h.C.C⟩
 D:=h.D
 M:=h.M
 N:=h.N
 H f cn hf:=by
  simp only[zi] at hf;cases hb:ζ c.f f<;>rw[hb] at hf
  ·exact h.H f cn hf
  ·cases hf;intro R ava hh k z hz;obtain⟨r,h',dt,U,h2⟩:=hc ava hh k z hz;rw[δ hb] at h2;exact⟨r,h',dt,U,h2⟩
theorem an.VT {G:ay S} (h:an G P) {c:vh S} (hc: ∀ {R:Type} (cs:List (aD S)) (p:Option Value) (eV:Nat->Option (Ob S)) (k:Option Value->Up S->Option R) (z:R),c.out cs p eV k=some z-> ∃q up,k q up=some z/\vj G.K P c.g cs p eV q up):an { G with D:=c::G.D } P where
 K:=h.K
 C:=⟨h.C.C⟩
 H:=h.H
 M:=h.M
 N:=h.N
 D g cn hg:=by
  simp only[zg] at hg;cases hb:ζ c.g g<;>rw[hb] at hg
  ·exact h.D g cn hg
  ·cases hg;intro R cs p eV k z hz;obtain⟨q,up,U,h2⟩:=hc cs p eV k z hz;rw[δ hb] at h2;exact⟨q,up,U,h2⟩
end
def pz (k:IntKind) (n:Nat):Ty (List Int) where
 agg:=true
 n:=n
 rep _ _ cs xs:=xs.length=n/\cs=xs.map (ξ2 k)
 tr _ h:=h
 len h:=by rw[h.2,ξw];exact h.1
 one h u hu:=by
  rw[h.2] at hu;obtain⟨x,_,rfl⟩:=ζq.1 hu;rfl
 jS h:=by cases h
section
variable {S:bL} {α β γ:Type}
def fY (T:Ty α) (f:α->List (LV S)):Prop:= ∀(A:Pl) (O:List Nat) (w:World) (x:α) (cs:List Value),T.rep O w cs x->bV A O w (f x) cs
theorem gz {k:IntKind}:fY (S:=S) (Ty.int k) λx=>[.v (.int k x)]:=λA O w x cs h=>by subst h;exact⟨_,[],rfl,⟨rfl,rfl⟩,rfl⟩
theorem aaE:fY (S:=S) Ty.bool λx=>[.v (.bool x)]:=λA O w x cs h=>by subst h;exact⟨_,[],rfl,⟨rfl,rfl⟩,rfl⟩
theorem aps:fY (S:=S) Ty.str λx=>[.v (.string x)]:=λA O w x cs h=>by subst h;exact⟨_,[],rfl,⟨rfl,rfl⟩,rfl⟩
theorem iZ {t:Nat} (ha:(S.ty t).agg=false):fY (S:=S) (S.ty t) λx=>[.aU t x]:=λA O w x cs h=>by
 have hl:=(S.ty t).len h;rw[(S.ty t).jS ha] at hl
 match cs,hl with
 |[c],_=>exact⟨[c],[],rfl,⟨c,rfl,⟨[c],h,by unfold Ty.mk';rw[ha];rfl⟩,ha⟩,rfl⟩
theorem HY {k:IntKind} {n:Nat}:fY (S:=S) (pz k n) λx=>[.cd k n x]:=λA O w x cs h=>⟨cs,[],(ξz _).symm,h,rfl⟩
theorem hU {X:Ty α} {Y:Ty β} {f:α->List (LV S)} {g:β->List (LV S)} (hf:fY X f) (hg:fY Y g):fY (Ty.pair X Y) λx=>f x.1++g x.2:=λA O w x cs ⟨c1,c2,h,U,h2⟩=>by
 subst h;exact abw (hf A O w _ _ U) (hg A O w _ _ h2)
theorem lT {X:Ty α} {f:α->List (LV S)} {e:β->α} (hf:fY X f):fY (X.jM e) λx=>f (e x):=λA O w x cs h=>hf A O w _ _ h
theorem apr {X:Ty α} {f:α->List (LV S)} (hf:fY X f):fY (Ty.single X) f:=λA O w x cs h=>hf A O w _ _ h
def fQ (T:Ty α) (f:List (LV S)->Option (α×List (LV S))):Prop:= ∀(A:Pl) (O:List Nat) (w:World) (ls:List (LV S)) (x:α) (r:List (LV S)) (cs:List Value),f ls=some (x,r)->bV A O w ls cs-> ∃c1 c2,cs=c1++c2/\T.rep O w c1 x/\bV A O w r c2
def fV (k:IntKind):List (LV S)->Option (Int×List (LV S))
 | .v (.int k' x)::r=>bif sameKind k k' then some (x,r) else none
 |_=>none
def Ik:List (LV S)->Option (Bool×List (LV S))
 | .v (.bool x)::r=>some (x,r)
 |_=>none
def Rn:List (LV S)->Option (ByteArray×List (LV S))
 | .v (.string x)::r=>some (x,r)
 |_=>none
def sI (k:IntKind) (n:Nat) (ls:List (LV S)):Option (List Int×List (LV S)):=
 match ls with
 | .cd k' n' x::r=>bif sameKind k k'&&ζ n n' then some (x,r) else none
 |ls=>(match oP (ls.take n) with|some (k',gs)=>bif sameKind k k'&&ζ gs.length n then some (gs,ls.drop n) else none|none=>none)
def h_ (t:Nat) (nl:Option (S.El t)):List (LV S)->Option (S.El t×List (LV S))
 | .aU t' x::r=>(match ζL t' t with| .isTrue p=>some (p▸x,r)| .isFalse _=>none)
 | .v (.slice none 0 0)::r=>(match nl with|some x=>some (x,r)|none=>none)
 |_=>none
def rdPair (f:List (LV S)->Option (α×List (LV S))) (g:List (LV S)->Option (β×List (LV S))) (ls:List (LV S)):Option ((α×β)×List (LV S)):=
 match f ls with|some (a,r)=>(match g r with|some (b,r')=>some ((a,b),r')|none=>none)|none=>none
def kJ (f:List (LV S)->Option (α×List (LV S))) (m:α->β) (ls:List (LV S)):Option (β×List (LV S)):=match f ls with|some (a,r)=>some (m a,r)|none=>none
def dh:Option (α×List (LV S))->Option α
 |some (x,[])=>some x
 |_=>none
theorem gA {k:IntKind}:fQ (S:=S) (Ty.int k) (fV k):=λA O w ls x r cs h hr=>by
 unfold fV at h;split at h
 ·rename_i k' y r';cases hb:sameKind k k'<;>rw[hb] at h
  ·cases h
  ·simp only[cond_true,ι,ξs] at h;obtain⟨rfl,rfl⟩:=h;obtain⟨ys,zs,rfl,⟨U,_⟩,h2⟩:=hr;refine⟨ys,zs,rfl,?_,h2⟩;rw[iI hb];exact U
 ·cases h
theorem abq:fQ (S:=S) Ty.bool Ik:=λA O w ls x r cs h hr=>by
 unfold Ik at h;split at h
 ·cases h;obtain⟨ys,zs,rfl,⟨U,_⟩,h2⟩:=hr;exact⟨ys,zs,rfl,U,h2⟩
 ·cases h
theorem are:fQ (S:=S) Ty.str Rn:=λA O w ls x r cs h hr=>by
 unfold Rn at h;split at h
 ·cases h;obtain⟨ys,zs,rfl,⟨U,_⟩,h2⟩:=hr;exact⟨ys,zs,rfl,U,h2⟩
 ·cases h
theorem abx {A:Pl} {O:List Nat} {w:World}: ∀ {l1 l2:List (LV S)} {cs:List Value},bV A O w (l1++l2) cs-> ∃c1 c2,cs=c1++c2/\bV A O w l1 c1/\bV A O w l2 c2
 |[],l2,cs,h=>⟨[],cs,rfl,rfl,h⟩
 |l::l1,l2,cs,⟨ys,zs,e,U,h2⟩=>by
  obtain⟨c1,c2,q,q1,q2⟩:=abx h2;subst q;exact⟨ys++c1,c2,by rw[e,ξj],⟨ys,c1,rfl,U,q1⟩,q2⟩
theorem YL {A:Pl} {O:List Nat} {w:World} {k:IntKind}: ∀ {ls:List (LV S)} {gs:List Int} {cs:List Value},oP ls=some (k,gs)->bV A O w ls cs->cs=gs.map (ξ2 k)
 |[],gs,cs,h,_=>by simp[oP] at h
 |l::r,gs,cs,h,⟨ys,zs,e,U,h2⟩=>by
  unfold oP at h;split at h
  ·rename_i k' x r' heq;cases heq;split at h
   ·cases h;rw[e,show zs=[] from h2,U.1];rfl
   ·split at h
    ·rename_i k2 xs eB;cases hb:sameKind k' k2<;>rw[hb] at h
     ·cases h
     ·simp only[cond_true,ι,ξs] at h;obtain⟨rfl,rfl⟩:=h;have:=iI hb;subst this;rw[e,U.1,YL eB h2];rfl
    ·cases h
  ·cases h
theorem xC {k:IntKind} {n:Nat}:fQ (S:=S) (pz k n) (sI k n):=λA O w ls x r cs h hr=>by
 unfold sI at h;split at h
 ·rename_i k' n' y r';cases hb:(sameKind k k'&&ζ n n')<;>rw[hb] at h
  ·cases h
  ·simp only[cond_true,ι,ξs] at h;obtain⟨rfl,rfl⟩:=h;simp only[η] at hb;obtain⟨ys,zs,rfl,U,h2⟩:=hr;refine⟨ys,zs,rfl,?_,h2⟩;have e1:=iI hb.1;have e2:=δ hb.2;subst e1;subst e2;exact U
 ·split at h
  ·rename_i k' gs ml;cases hb:(sameKind k k'&&ζ gs.length n)<;>rw[hb] at h
   ·cases h
   ·simp only[cond_true,ι,ξs] at h;obtain⟨rfl,rfl⟩:=h;simp only[η] at hb;rw[<-ξ6 n ls] at hr;obtain⟨c1,c2,e,q1,q2⟩:=abx hr;have e1:=iI hb.1;subst e1;exact⟨c1,c2,e,⟨δ hb.2,YL ml q1⟩,q2⟩
  ·cases h
theorem ja {t:Nat} {nl:Option (S.El t)} (gT: ∀x,nl=some x-> ∀O w,(S.ty t).rep O w [.slice none 0 0] x):fQ (S:=S) (S.ty t) (h_ t nl):=λA O w ls x r cs h hr=>by
 unfold h_ at h;split at h
 ·rename_i t' y r';split at h
  ·rename_i p hp;cases h;subst p;obtain⟨ys,zs,rfl,⟨v,rfl,U,h3⟩,h2⟩:=hr;exact⟨[v],zs,rfl,uN h3 U,h2⟩
  ·cases h
 ·split at h
  ·rename_i y;cases h;obtain⟨ys,zs,rfl,⟨U,_⟩,h2⟩:=hr;exact⟨ys,zs,rfl,by rw[U];exact gT _ rfl O w,h2⟩
  ·cases h
 ·cases h
theorem iX {T:Ty α} (O:List Nat) (w:World):(Ty.slice T).rep O w [.slice none 0 0] []:=⟨none,0,rfl,⟨ξc _,ξt _⟩,λk x hk=>by simp at hk⟩
theorem ia {X:Ty α} {Y:Ty β} {f:List (LV S)->Option (α×List (LV S))} {g:List (LV S)->Option (β×List (LV S))} (hf:fQ X f) (hg:fQ Y g):fQ (Ty.pair X Y) (rdPair f g):=λA O w ls x r cs h hr=>by
 unfold rdPair at h;split at h
 ·rename_i a r1 U;split at h
  ·rename_i b r2 h2;cases h;obtain⟨c1,c2,rfl,p1,p2⟩:=hf A O w ls a r1 cs U hr;obtain⟨c3,c4,rfl,q1,q2⟩:=hg A O w r1 b r c2 h2 p2;exact⟨c1++c3,c4,(ξj _ _ _).symm,⟨c1,c3,rfl,p1,q1⟩,q2⟩
  ·cases h
 ·cases h
theorem lU {X:Ty α} {f:List (LV S)->Option (α×List (LV S))} {e:β->α} {m:α->β} (hf:fQ X f) (hm: ∀a,e (m a)=a):fQ (X.jM e) (kJ f m):=λA O w ls x r cs h hr=>by
 unfold kJ at h;split at h
 ·rename_i a r1 U;cases h;obtain⟨c1,c2,rfl,p1,p2⟩:=hf A O w ls a r cs U hr;exact⟨c1,c2,rfl,by show X.rep O w c1 (e (m a));rw[hm];exact p1,p2⟩
 ·cases h
theorem ard {X:Ty α} {f:List (LV S)->Option (α×List (LV S))} (hf:fQ X f):fQ (Ty.single X) f:=hf
theorem du {X:Ty α} {f:List (LV S)->Option (α×List (LV S))} (hf:fQ X f) {A:Pl} {O:List Nat} {w:World} {ls:List (LV S)} {x:α} {cs:List Value} (h:dh (f ls)=some x) (hr:bV A O w ls cs):X.rep O w cs x:=by
 unfold dh at h;split at h
 ·rename_i y hy;cases h;obtain⟨c1,c2,rfl,p1,p2⟩:=hf A O w ls x [] cs hy hr;rw[show c2=[] from p2,ξz];exact p1
 ·cases h
end
theorem Vh: ∀(xs ys:List Int),xs.length=ys.length->((ξr xs.length).all λi=>xs.getD i 0==ys.getD i 0)=(xs==ys)
 |[],[],_=>rfl
 |x::xs,y::ys,h=>by
  have ih:=Vh xs ys (by simpa using h);rw[ζ2,List.range_succ_eq_map,ξB,List.all_map];simp only[List.getD_cons_zero,Function.comp_def,List.getD_cons_succ,ih];simp[List.cons_beq_cons]
 |[],_::_,h=>by simp at h
 |_::_,[],h=>by simp at h
section
variable {P:Program} (w:World)
theorem abW (d:Nat) (t e:TypeId) (n:Nat) (k k':IntKind) (ht:P.underlying t=some (.array n e)) (he:P.underlying e=some (.int k')) (bz: ∀w,(sizeOf e).run P w= .ok 1 w)
  (xs ys:List Int) (hx:xs.length=n) (hy:ys.length=n):
  (ζF (d+2) t (.agg (xs.map (ξ2 k)).toArray) (.agg (ys.map (ξ2 k)).toArray)).run P w= .ok (xs==ys) w:=by
 rw[<-Vh xs ys (hx.trans hy.symm),hx,List.range_eq_range',ζF];simp only[ξ,run_underlying ht,π,bz,ζe,ζO,ζN,Nat.add_sub_cancel,Nat.div_one];have hl: ∀i∈ζQ 0 n 1,i<n:=λi hi=>by simpa using(List.mem_range'_1.1 hi).2
 generalize ζQ 0 n 1=l at hl ⊢
 induction l with
 |nil=>simp
 |cons i l ih=>
  have hi:i<n:=hl i (by simp);have px:(part e (xs.map (ξ2 k)).toArray (i*1)).run P w= .ok (.int k (xs.getD i 0)) w:=by
   simp[part,isAgg,run_underlying he,List.getD,σ (show i<xs.length by omega)]
  have py:(part e (ys.map (ξ2 k)).toArray (i*1)).run P w= .ok (.int k (ys.getD i 0)) w:=by
   simp[part,isAgg,run_underlying he,List.getD,σ (show i<ys.length by omega)]
  have pe:(ζF (d+1) e (.int k (xs.getD i 0)) (.int k (ys.getD i 0))).run P w= .ok (xs.getD i 0==ys.getD i 0) w:=run_equalIn_int w d e k k' _ _ he;simp only[List.forIn_cons,ξ,px,py,pe,π,ξB];cases hb:(xs.getD i 0==ys.getD i 0)
  ·simp
  ·simp only[ξY,ζm,if_false,ξh,π,ξW];exact ih λj hj=>hl j (by simp[hj])
theorem arO (t e:TypeId) (n:Nat) (k k':IntKind) (ht:P.underlying t=some (.array n e)) (he:P.underlying e=some (.int k')) (bz: ∀w,(sizeOf e).run P w= .ok 1 w) (hg:P.eqGuardType P.depth t=false)
  (xs ys:List Int) (hx:xs.length=n) (hy:ys.length=n) (ox oy:Operand):
  (do eqGuard .eql t ox oy (.agg (xs.map (ξ2 k)).toArray) (.agg (ys.map (ξ2 k)).toArray);binOp .eql t (.agg (xs.map (ξ2 k)).toArray) (.agg (ys.map (ξ2 k)).toArray):Sem Value).run P w= .ok (.bool (xs==ys)) w/\
  (do eqGuard .neq t ox oy (.agg (xs.map (ξ2 k)).toArray) (.agg (ys.map (ξ2 k)).toArray);binOp .neq t (.agg (xs.map (ξ2 k)).toArray) (.agg (ys.map (ξ2 k)).toArray):Sem Value).run P w= .ok (.bool (!(xs==ys))) w:=by
 constructor
 ·simp only[ξ];rw[run_eqGuard_agg w .eql t ox oy _ _ hg];simp only[π];rw[run_eql_struct,show(10000:Nat)=9998+2 from rfl,abW w 9998 t e n k k' ht he bz xs ys hx hy];rfl
 ·simp only[ξ];rw[run_eqGuard_agg w .neq t ox oy _ _ hg];simp only[π];rw[run_neq_struct,show(10000:Nat)=9998+2 from rfl,abW w 9998 t e n k k' ht he bz xs ys hx hy];rfl
end
end Go.Vx
end
