/- A part of the proof that ModelDoes returns true for every input: the machine of values, its soundness, the program as plain functions, the law. Conditions: those of the given rows. -/
import Derived.Test.YtdhaaaeffhaadaaGreatDoorD1
import Derived.Recover
import Derived.LoopNIn
import Derived.Stop.BytesEq
import Derived.KernelRfl
import Derived.RecoverIn
set_option linter.unusedVariables false
set_option linter.unusedSimpArgs false
noncomputable section
set_option maxRecDepth 1000000
set_option maxHeartbeats 12000000
open Array renaming getD_eq_getD_getElem?→θ,getElem?_eq_getElem→ν,getElem?_setIfInBounds_ne→ξ3,replicate→ξc,getElem?_eq_some_iff→ξi,all_eq_true_iff_forall_mem→ξB,eq_empty_of_size_eq_zero→ξE,foldl_toList→ξO,toList_map→ζu
open Bool renaming and_eq_true→η,or_true→ξv,true_and→ξJ,not_true→ξK,or_eq_true→ξM,not_eq_true'→ξT,false_or→ξX,true_or→ζa,false_eq_true→ζm,and_true→ζn,not_eq_true→ζw
open Go renaming Call→ζ6
open Go.Act renaming put→ζx
open Go.Addr renaming add→ζR
open Go.Builtin renaming copy_→ζi,firstCells→ζj,lenOf→ζK
open Go.Code renaming region→ζy
open Go.Deferred renaming ofValue→ξY
open Go.Instr renaming fill→ζG
open Go.IntKind renaming i64→ζC
open Go.Lib renaming byteCells→ζJ
open Go.Op renaming equalIn→ζH
open Go.Oper renaming semAt_eq→ζl
open Go.Region renaming wanted→ξ4,ready→ζb
open Go.Result renaming andThen_ok→φ
open Go.RowKit.Below renaming heap_alloc→ζ2
open Go.Sem renaming run_bind→τ,run_pure→ξj
open Go.StepsIn renaming of_steps→ζv,mono→ζN
open Go.Target.collected renaming injEq→ζL
open Go.Value renaming int→ξ6,oneCell'→ξQ,func→ζp,bool→ζS
open Go.World renaming putObj_heap_other→ξo,putObj_heap_same→ζ4,alloc_heap_new→ζf
open List renaming getElem?_eq_some_iff→ζ,mem_cons_of_mem→κ,mem_cons_self→μ,getElem?_eq_getElem→ο,mem_append_left→υ,mem_cons→ψ,mem_append_right→ω,getElem?_append_left→ξ0,length_append→ξ1,mem_append→ξ5,length_take→ξ7,all_eq_true→ξ9,take_append_drop→ξb,getElem?_append_right→ξd,getElem?_eq_none→ξh,append_assoc→ξk,append_nil→ξl,mem_filter→ξm,length_drop→ξp,take_of_length_le→ξr,length_singleton→ξt,length_cons→ξu,getElem?_take→ξw,length_map→ξx,getElem?_cons_zero→ξz,all_cons→ξA,range→ξC,take_append_of_le_length→ξH,getElem?_eq_none_iff→ξR,drop→ξS,getElem?_take_of_lt→ξU,cons_append→ξZ,any_eq_true→ζ0,take_length→ζ1,drop_of_length_le→ζ3,length_replicate→ζ5,length_set→ζ9,mem_of_getElem?→ζe,drop_drop→ζg,getElem?_drop→ζk,nodup_append→ζo,mem_map→ζq,drop_append→ζs,foldl_cons→ζz,of_mem_zip→ζA,range'→ζB,find?_cons→ζD,mapM_cons→ζE,map_cons→ζI
open Nat renaming eq_of_beq_eq_true→δ,beq→ε,blt_eq→ξ,blt→χ,lt_or_ge→ξ2,le_of_ble_eq_true→ξa,le_refl→ξe,lt_trichotomy→ξf,zero_add→ξg,beq_refl→ξD,ble→ξF,le_add_right→ξG,mul_le_mul_right→ξI,min_eq_left→ξL,add_zero→ξN,le_trans→ξP,add_sub_cancel_left→ξV,min→ζ7,succ_mul→ζ8,le_of_lt→ζc,zero_le→ζh,sub_self→ζr,min_eq_right→ζt,ble_eq→ζF,le_total→ζM,sub_zero→ζO,decEq→ζP
open Option renaming bind_some→ξ8,getD_some→ξq,map_some→ξy,bind_eq_some_iff→ξW
open Option.some renaming injEq→ι,inj→ξs
open Prod.mk renaming injEq→ξn
open Std.Legacy.Range renaming forIn_eq_forIn_range'→ζd,size→ζQ
section
namespace Go.Vx
open Go.RowKit Go.Dc
section
variable {S:bh} {K:bp S} {P:Program} {rr:Option Nat} {o:Oper} {env:a8 S} {g:Nat->Option (Ob S)} {nx:Nat} {R:Type} {z:R} {k:AV S->Up S->AH S->Option R}
def jH (a:Act):Γ->Env
 |[]=>[]
 |s::r=>(s,a.tmps.getD s undef)::jH a r
theorem NG (a:Act) (l:Γ):Has a.tmps.size (jH a l) a.defers a:=by
 refine⟨rfl,rfl,?_⟩
 induction l with
 |nil=>intro i v h;simp[jH,Env.get] at h
 |cons s r d=>
  intro i v h;simp only[jH,Env.get] at h;cases b:ε s i with
  |true=>
   rw[b] at h;have c:=δ b;subst c;simp only[cond_true,ι] at h;exact h
  |false=>rw[b] at h;exact d i v h
theorem NF {a:Act} {s:Nat}: ∀ {l:Γ},s∈l->(jH a l).get s=some (a.tmps.getD s undef)
 |t::r,h=>by
  simp only[jH,Env.get];cases b:ε t s with
  |true=>have c:=δ b;subst c;rfl
  |false=>
   rcases ψ.1 h with rfl|h
   .simp at b
   .exact NF h
theorem ND {a:Act} {x:Operand} {l:Γ} (h: ∀s∈slotsOf [x],s∈l):ev (jH a l) x=some (a.eval x):=by
 cases x with
 |tmp t=>exact NF (h t (by simp[slotsOf]))
 |const v=>rfl
 |global g=>rfl
 |func f=>rfl
theorem JO {x:Operand}: ∀ {l:List Operand},x∈l-> ∀s∈slotsOf [x],s∈slotsOf l
 |y::r,h,s,a=>by
  rcases ψ.1 h with rfl|h
  .cases x<;>simp[slotsOf] at a ⊢;exact .inl a
  .have:=JO h s a;cases y<;>simp[slotsOf,this]
theorem OZ: ∀ {ps:List (Nat×Operand)} {n:Nat} {xs:List Operand},xA n ps=some xs-> ∀ {E:Env} {f:Operand->Value},(∀x∈xs,ev E x=some (f x))->j3 E n ps=some (xs.map f)
 |[],n,xs,h,E,f,a=>by cases h;rfl
 |(i,x)::r,n,xs,h,E,f,a=>by
  simp only[xA] at h;cases b:ε i n<;>rw[b] at h
  .cases h
  simp only[cond_true] at h;split at h
  rotate_left
  .cases h
  rename_i ys d;cases h;simp only[j3,b,cond_true,a x μ,OZ d (λy c=>a y (κ _ c)),ζI]
theorem Nz (b:b9 K P) {A:Pl} {O:Γ} {w:World} {t:Nat}: ∀ {ajF:List (aE S)} {ys:List (S.El t)} {vs:Γb},vj K t ajF=some ys->cG A O w ajF vs->bN (S.ty t) O w (ht vs) ys/\vs.length=ys.length/\ ∀v∈vs,v.cells.size=(S.ty t).n
 |[],ys,vs,h,f=>by cases h;rw[show vs=[] from f];exact⟨rfl,rfl,λv h=>by cases h⟩
 |a::r,ys,vs,h,⟨v,o,g,d,e⟩=>by
  subst g;simp only[vj] at h;split at h
  rotate_left
  .cases h
  rename_i y i;split at h
  rotate_left
  .cases h
  rename_i p j;cases h;have c:=b.cls A O w t _ y _ i d.cells;obtain⟨k,l,m⟩:=Nz b j e;refine⟨⟨v.cells.toList,ht o,by simp[ht],c,k⟩,by simp[l],λu hu=>?_⟩;rcases ψ.1 hu with rfl|hu
  .have:=(S.ty t).len c;simpa using this
  .exact m u hu
theorem acC (j:b9 K P) {t n:Nat} {ps:Array (Nat×Operand)} (F:o.op= .buildSlice t n ps) (h:IB K env g nx k t n ps.toList=some z):Good K P rr o env g nx k z:=by
 have m: ∀c,o.op≠ .defer c:=λc=>by rw[F];simp
 unfold IB at h;split at h
 rotate_left
 .cases h
 rename_i i hi;split at h
 rotate_left
 .cases h
 rename_i d xs R ae;split at h
 rotate_left
 .cases h
 rename_i ajF has;split at h
 rotate_left
 .cases h
 rename_i ak rs Q;split at h
 rotate_left
 .cases h
 rename_i ys af;cases l:(ε i.tag 5&&(ε ys.length n&&(ε (S.ty i.e).n d.size&&(ε d.zero.cells.size d.size&&(ξF (n*d.size) 16777216&&ξF n 16777216)))))<;>rw[l] at h
 .cases h
 simp only[cond_true,η] at h l;obtain⟨I,hlen,u,ag,Y,aa⟩:=l;have u:=δ u;refine hk m h λA O w a he D L y N=>?_;have C:A.pl nx=none:=N 0 (by simp);obtain⟨ah,an,G⟩:=nI j D (all:=rs) Q (lE he y has) (λr s=>s);obtain⟨H,ai,aj⟩:=Nz j af ah;have q:=NO (A:=A) L G;have hn:n=ys.length:=(δ hlen).symm;have T:n<=maxLen:=by have:=ξa aa;unfold maxLen;omega
 have b:=kU q.ob i.e (ht (xs.map a.eval));have J:Dc.Lit (S.ty i.e) i.e (ej A rs O) w w.heap.size n ys (w.alloc (.cells (ht (xs.map a.eval)).toArray i.e)):=⟨⟨ht (xs.map a.eval),b,H.tr b.tr,by rw[H.len,hn]⟩,hn.symm,T⟩;have V:=J.own (B:=1) y.1;have U:nx∉rs:=λs=>by
  obtain⟨Z,M⟩:=G nx s;obtain⟨p,hp,_⟩:=D.al nx Z M;rw[C] at hp;cases hp
 refine⟨.slice (some ⟨w.heap.size,0,none⟩) n n,_,_,_,?_,⟨_,Pl.gz A nx (.slice (some ⟨w.heap.size,0,none⟩) n n),rfl,rfl⟩,
  q.M1 (nq (p:=.slice (some ⟨w.heap.size,0,none⟩) n n) q.ob C b.fr b.tr b.ob b.ge V (λc m=>by cases m;rfl)) (λi X hi=>by obtain⟨rfl,_⟩:=b' hi;exact U)⟩
 simp only[execOp,F,τ];have W:=OZ ae (E:=jH a (slotsOf xs)) (f:=a.eval) λx ad=>ND (JO ad);rw[JD j.Θ (NG a _) hi (δ I) R (δ ag) W (λv ab=>(aj v ab).trans u) (ai.trans hn.symm) (ξa Y)];rfl
theorem acQ (m:b9 K P) {t:Nat} {x y:Operand} (D:o.op= .makeSlice t x y) (h:II K env nx k t x y=some z):Good K P rr o env g nx k z:=by
 have r: ∀c,o.op≠ .defer c:=λc=>by rw[D];simp
 unfold II at h;split at h
 rotate_left
 .cases h
 rename_i i hi;split at h
 rotate_left
 .cases h
 rename_i b W;split at h
 rotate_left
 .cases h
 rename_i n c v af ah Q;cases q:(ε i.tag 5&&(ε (S.ty i.e).n b.size&&(ε b.zero.cells.size b.size&&b.zero.cells.toList.all ξQ)))<;>rw[q] at h
 .cases h
 simp only[cond_true,η] at h q;obtain⟨M,ad,f,H⟩:=q;have hn:=δ ad;have f:=δ f;obtain⟨zs,hm,L⟩:=bind_some h;refine hk r L λA O w a he C B l U=>?_;have V:A.pl nx=none:=U 0 (by simp);have ae:=m.Θ.fits W;obtain⟨x',ag,ab,N,ai⟩:=ae.info;have aa:(S.ty i.e).rep O w b.zero.cells.toList v:=m.cls A O w i.e _ v _ Q (rz H);unfold nV at hm;split at hm
 rotate_left
 .cases hm
 rename_i T;obtain⟨G,I,J,al⟩:=T;simp only[ι] at hm;subst hm;obtain⟨ak,Y⟩:=kO he l af;obtain⟨aj,X⟩:=kO he l ah;have hu:=(m.Θ.fits hi).slice (δ M);have F:=run_make (P:=P) w t i.e x' b.zero hu ag ai ak aj n c G I (by rw[N];exact J) (by omega);rw[ab] at F;have d:=kU B i.e (madeCells b.zero.cells (c.toNat*b.size)).toList;have Z:Dc.Own (S.ty i.e) i.e 1 (w.heap.size::O) (w.alloc (.cells (madeCells b.zero.cells (c.toNat*b.size)).toList.toArray i.e)) (.slice (some ⟨w.heap.size,0,none⟩) n.toNat c.toNat) (List.replicate n.toNat v):=by
  have R:c.toNat<=maxLen:=by unfold maxLen;omega
  have E:=(ahc aa n.toNat).tr d.tr;have u:=E.len;simp only[ζ5] at u;have hle:n.toNat*b.size<=c.toNat*b.size:=ξI _ (by omega);refine⟨⟨_,⟨by rw[u];simp,.inr ⟨w.heap.size,c.toNat,madeCells b.zero.cells (c.toNat*b.size),by simp,l.1,?_,by simp;omega,R,by simp[madeCells,hn],?_⟩⟩,E⟩,λg C=>by cases C;exact μ⟩
  .have:=d.bI;unfold bK at this;simpa using this
  .apply List.ext_getElem?;intro j;simp only[ξw,ζ5,hn]
   by_cases s:j<n.toNat*b.size
   .rw[if_pos s,adK _ _ _ (by omega) f,acm (by simpa using f) _ _ s]
   .rw[if_neg s]
    symm
    rw[ξR,u,hn];omega
 refine⟨.slice (some ⟨w.heap.size,0,none⟩) n.toNat c.toNat,_,_,_,?_,⟨_,Pl.gz A nx (.slice (some ⟨w.heap.size,0,none⟩) n.toNat c.toNat),rfl,rfl⟩,
  nq (p:=.slice (some ⟨w.heap.size,0,none⟩) n.toNat c.toNat) B V d.fr d.tr d.ob d.ge Z (λc r=>by cases r;rfl)⟩
 simp only[execOp,D,τ,Y,X,F];simp
theorem jK (j:b9 K P) {A:Pl} {O:Γ} {w:World} (m:bS A O w g) {e:Nat} {l:LV S} {xs:List (S.El e)} {u:Value} (h:dU K g e l=some xs) (d:l.rel A O w [u]):(S.ty e).slice.is (ej A (j6 l) O) w u xs:=by
 have less:Tr O w (ej A (j6 l) O) w:=Tr.less fM;unfold dU at h;split at h
 .rename_i r;split at h
  rotate_left
  .cases h
  rename_i q ys o;split at h
  rotate_left
  .cases h
  rename_i p _;subst p;cases h;obtain⟨v,a,c,f⟩:=d;have c:u=v:=by simpa using c
  subst c;obtain⟨p,hp,i,hm⟩:=m.al r _ o;rw[a] at hp;cases hp;exact Dc.Own.share i fM λb k n=>(je.1 n).2 r (by simp[j6]) u a (ig k)
 .rename_i t y;split at h
  rotate_left
  .cases h
  rename_i I hI;split at h
  rotate_left
  .cases h
  rename_i p _;subst p;cases h;obtain⟨v,a,c,f⟩:=d;have a:u=v:=by simpa using a
  subst a;exact(j.to hI c).tr less
 .cases h;have:=ep d;subst this;exact fR _ _ _
 .cases h
theorem ahl {c:ζ6} {x y:Operand} {ty:Nat} {a:Act} {w w':World} {u v r:Value} (f:o.op= .call c) (d:c.callee= .builtin .append) (b:c.args.toList=[x,y]) (g:c.argTypes.toList=[ty,ty]) (i:a.eval x=u) (j:a.eval y=v)
  (h:(Builtin.append_ #[ty,ty] o.type #[u,v]).run P w= .ok r w'):(execOp a.eval o).run P w= .ok (.value r) w':=by
 refine rG f d λcs=>?_;rw[fS b,fS g];simp only[builtin,τ];have e:(#[x,y].map a.eval)= #[u,v]:=by simp[i,j]
 rw[show([x,y]:List Operand).toArray.map a.eval= #[u,v] from e,show([ty,ty]:Γ).toArray= #[ty,ty] from rfl,h];rfl
theorem aeZ {A:Pl} {O:Γ} {w:World} (o:bS A O w g) {e r:Nat} {ys:List (S.El e)} {u:Value} (a:dU K g e (.own r)=some ys) (s:(LV.own r:LV S).rel A O w [u]):Dc.Src (S.ty e) O w u ys:=by
 obtain⟨v,B,u2,u3⟩:=s;have u2:u=v:=by simpa using u2
 subst u2;simp only[dU] at a;split at a
 rotate_left
 .cases a
 rename_i f C t;split at a
 rotate_left
 .cases a
 rename_i q _;subst q;cases a;obtain⟨D,i,c,_⟩:=o.al r _ t;rw[B] at i;cases i;have c:Dc.Own (S.ty f) f 1 O w u C:=c;rcases h1 c with⟨h,l⟩|⟨b,k,h⟩
 .subst h;subst l;exact .inl ⟨0,rfl,rfl⟩
 .subst h;obtain⟨cs,cur,x,y,z,_,_,_,_,_⟩:=rj c;refine .inr ⟨⟨b,0,none⟩,k,cs,rfl,z,λj v d=>?_⟩;have p:cur.toList[j]? =some v:=by
   rw[<-y,ξw] at d;split at d
   .exact d
   .cases d
  have m:(⟨b,0,none⟩:Addr).add j=⟨b,j,none⟩:=by unfold ζR;split<;>simp_all
  rw[m];have n:bK w b f cur.toList:=by unfold bK;simpa using x
  rw[n.cell];exact p
theorem acy (N:b9 K P) {ty:Nat} {c:ζ6} {x y:Operand} (ai:o.op= .call c) (ar:c.callee= .builtin .append) (an:c.args.toList=[x,y]) (aG:c.argTypes.toList=[ty,ty]) (h:Iy K env g nx k ty x y=some z):Good K P rr o env g nx k z:=by
 have aq: ∀c,o.op≠ .defer c:=λc=>by rw[ai];simp
 unfold Iy at h;split at h
 rotate_left
 .cases h
 rename_i i hi;split at h
 rotate_left
 .cases h
 rename_i f ax;split at h
 rotate_left
 .cases h
 rename_i aO I G H;have key: ∀ {l:LV S} {xs ys:List (S.El i.e)} {kl:Γ},ch K env x=some l->(∀r∈kl,∃Z,g r=some Z)->(∀(A:Pl) (O:Γ) (w:World) (u:Value),bS A O w g->l.rel A O w [u]->Dc.Own (S.ty i.e) i.e 1 (ej A kl O) w u xs/\u.oneCell'=true)->
   (∀(A:Pl) (O:Γ) (w:World) (u:Value),bS A O w g->I.rel A O w [u]->Dc.Src (S.ty i.e) (ej A kl O) w u ys)->
   ∀ {ef0:Up S},(∀(A:Pl) (O:Γ) (w:World) (u:Value),bS A O w g->l.rel A O w [u]->(∀i X,(i,X)∈ef0->X=none/\A.pl i=some u/\ ∃Z,g i=some Z)/\((∃i,(i,none)∈ef0)\/u.ownBlock=none))->(∀i X,(i,X)∈ef0->i∉kl)->
   (ε i.tag 5&&(ε (S.ty i.e).n f.size&&(ε f.zero.cells.size f.size&&(χ 0 f.size&&χ 0 f.bytes))))=true->
   ∀ {up:Up S},up=gO kl++ef0->((app f.bytes xs ys).bind λzs=>k (.s (.one (.own nx))) up [some (.row i.e zs)])=some z->Good K P rr o env g nx k z:=by
  intro l xs ys kl G Q aA D ef0 av au B up aH h;simp only[η] at B;obtain⟨U,aF,aJ,aB,ao⟩:=B;obtain⟨zs,aK,L⟩:=bind_some h;obtain⟨hlen,rfl⟩:=u1 aK;subst aH;refine hk aq L λA O w a he m V M aw=>?_;have ag:A.pl nx=none:=aw 0 (by simp);have Y:=NO (A:=A) (w:=w) V Q;obtain⟨aL,aP⟩:=aA A O w _ m (cj he M G);have aM:=D A O w _ m (cj he M H);obtain⟨R,w',O',aE,ae⟩:=ahm (P:=P) (ty:=o.type) N.Θ hi (δ U) ax (δ aF) (ξ.mp aB) (δ aJ) M.1 Y.ob aL aM hlen (ξ.mp ao);obtain⟨aj,ak⟩:=av A O w _ m (cj he M G);have aI:R.oneCell'=true:=by
   rcases h1 ae.own with⟨rfl,_⟩|⟨_,_,rfl⟩<;>rfl
  have af:=Y.M1 (abG (g:=g) Y.ob ag aj ak ae) (λi X hi=>by
   rcases ξ5.1 hi with hi|hi
   .exact au i X hi
   .obtain⟨rfl,_⟩:=b' hi;intro C;obtain⟨Z,W⟩:=Q _ C;obtain⟨p,hp,_⟩:=m.al _ Z W;rw[ag] at hp;cases hp)
  refine⟨R,w',_,O',ahl ai ar an aG rfl rfl aE,⟨R,Pl.gz A nx R,rfl,aI⟩,?_⟩;rw[<-ξk] at af;exact af
 have aa: ∀ {r:Nat} {xs:List (S.El i.e)} {kl:Γ},dU K g i.e (.own r)=some xs->r∉kl->(∀q∈kl,∃Z,g q=some Z)-> ∀(A:Pl) (O:Γ) (w:World) (u:Value),bS A O w g->(LV.own r:LV S).rel A O w [u]->Dc.Own (S.ty i.e) i.e 1 (ej A kl O) w u xs/\u.oneCell'=true:=by
  intro r xs kl t C Q A O w u m aD;unfold dU at t;simp only at t;split at t
  rotate_left
  .cases t
  rename_i aN ys H;split at t
  rotate_left
  .cases t
  rename_i p _;subst p;cases t;obtain⟨v,J,E,L⟩:=aD;have E:u=v:=by simpa using E
  subst E;obtain⟨p,hp,ad,hm⟩:=m.al r _ H;rw[J] at hp;cases hp;refine⟨Dc.Own.keep ad (Tr.less fM) λb B=>⟨rfl,je.2 ⟨ad.mem b B,λq d p hp aC=>?_⟩⟩,L⟩;obtain⟨Z,W⟩:=Q q d;exact m.dj r q _ Z u p b (λe=>C (e▸d)) H W J hp (ig B) aC
 have live: ∀ {r:Nat} {xs:List (S.El i.e)},dU K g i.e (.own r)=some xs-> ∃Z,g r=some Z:=by
  intro r xs h;unfold dU at h;simp only at h;split at h
  .rename_i e ys H;exact⟨_,H⟩
  .cases h
 have T: ∀ {r:Nat} {xs:List (S.El i.e)},dU K g i.e (.own r)=some xs-> ∀(A:Pl) (O:Γ) (w:World) (u:Value),bS A O w g->(LV.own r:LV S).rel A O w [u]->(∀j X,(j,X)∈([(r,none)]:Up S)->X=none/\A.pl j=some u/\ ∃Z,g j=some Z)/\((∃j,(j,none)∈([(r,none)]:Up S))\/u.ownBlock=none):=by
  intro r xs t A O w u m ⟨v,J,E,L⟩;have E:u=v:=by simpa using E
  subst E;refine⟨λj X F=>?_,.inl ⟨r,μ⟩⟩;obtain⟨rfl,rfl⟩:=b' F;exact⟨rfl,J,live t⟩
 split at h
 .rename_i r;split at h
  .rename_i ab;cases d:ε r ab<;>rw[d] at h
   .simp only[cond_false] at h;have ah:r≠ab:=λe=>by subst e;simp at d
    split at h
    rotate_left
    .cases h
    rename_i xs ys t D;cases B:(ε i.tag 5&&(ε (S.ty i.e).n f.size&&(ε f.zero.cells.size f.size&&(χ 0 f.size&&χ 0 f.bytes))))<;>rw[B] at h
    .cases h
    cases U:ε f.tag 5<;>rw[U] at h
    .refine key (kl:=[ab]) G (λq d=>by simp at d;subst d;exact live D) (aa t (by simpa using ah) (λq d=>by simp at d;subst d;exact live D)) (λA O w u m C=>?_) (T t) (λj X F=>by obtain⟨rfl,_⟩:=b' F;simpa using ah) B rfl h;exact Dc.Src.xV (jK N m D C)
    .refine key (kl:=[]) G (λq d=>by cases d) (aa t (by simp) (λq d=>by cases d)) (λA O w u m C=>?_) (T t) (λj X F=>by simp) B rfl h;have V:ej A [] O=O:=by unfold ej;simp
     rw[V];exact aeZ m D C
   .cases h
  .rename_i az;split at h
   rotate_left
   .cases h
   rename_i xs ys t D;cases B:(ε i.tag 5&&(ε (S.ty i.e).n f.size&&(ε f.zero.cells.size f.size&&(χ 0 f.size&&χ 0 f.bytes))))<;>rw[B] at h
   .cases h
   have ay:j6 I=[]:=by cases I<;>first|rfl|exact absurd rfl (az _)
   refine key (kl:=[]) G (λq d=>by cases d) (aa t (by simp) (λq d=>by cases d)) (λA O w u m C=>?_) (T t) (λj X F=>by simp) B rfl h;have:=jK N m D C;rw[ay] at this;exact Dc.Src.xV this
 .split at h
  rotate_left
  .cases h
  rename_i ys D;cases B:(ε i.tag 5&&(ε (S.ty i.e).n f.size&&(ε f.zero.cells.size f.size&&(χ 0 f.size&&χ 0 f.bytes))))<;>rw[B] at h
  .cases h
  have hl: ∀q∈j6 I,∃Z,g q=some Z:=by
   intro q d;cases I<;>simp[j6] at d;subst d;exact live D
  refine key (kl:=j6 I) (xs:=[]) (ef0:=[]) G hl (λA O w u m C=>?_) (λA O w u m C=>Dc.Src.xV (jK N m D C)) (λA O w u m C=>⟨(λi X h=>nomatch h),.inr ?_⟩) (λj X F=>nomatch F) B (by simp) h
  .rw[ep C];exact⟨Dc.Own.f',rfl⟩
  .rw[ep C];rfl
 .cases h
end
section
variable {S:bh} {K:bp S} {P:Program} {rr:Option Nat} {o:Oper} {env:a8 S} {g:Nat->Option (Ob S)} {nx:Nat} {R:Type} {z:R} {k:AV S->Up S->AH S->Option R}
theorem HW (b:b9 K P) {O:Γ} {w:World} {e:Nat} {a:IntKind}: ∀ {ys:List (S.El e)} {zs:Γa} {cs:Γb},jb K e a ys=some zs->bN (S.ty e) O w cs ys->cs=zs.map (ξ6 a)
 |[],zs,cs,h,j=>by cases h;exact j
 |y::ys,zs,cs,h,⟨c,r,f,g,i⟩=>by
  simp only[jb] at h;split at h
  .rename_i k x l;cases d:sameKind a k<;>rw[d] at h
   .cases h
   simp only[cond_true] at h;split at h
   .rename_i u m;cases h;have q:=b.bg ⟨λ_=>none,none⟩ O w e y c g;rw[l] at q;obtain⟨t,s,n,o,p⟩:=q;rw[f,n,o.1,show s=[] from p,HW b m i,<-e5 d];rfl
   .cases h
  .cases h
theorem afb {vs us:Γb} {off n:Nat} (a:us.length<=n) (b:off+n<=vs.length):putAt vs off (us++((vs.drop off).take n).drop us.length)=putAt vs off us:=by
 unfold putAt;rw[ξk,ξk,ξk]
 congr 2
 have hl:(us++ξS us.length (List.take n (ξS off vs))).length=n:=by
  rw[ξ1,ξp,ξ7,ξp];omega
 rw[hl];have e:ξS (off+us.length) vs=ξS us.length (ξS off vs):=by rw[ζg]
 rw[e,<-ζg]
 conv=>rhs;rw[<-ξb n (ξS off vs)]
 rw[ζs,ξ7,ξp];have:us.length-min n (vs.length-off)=0:=by omega
 rw[this,List.drop_zero]
theorem acE (D:b9 K P) {ty C:Nat} {c:ζ6} {x y:Operand} (ae:o.op= .call c) (ar:c.callee= .builtin .copy) (an:c.args.toList=[x,y]) (aJ:c.argTypes.toList=[ty,C]) {i I:TI} (hi:K.Θ.get ty=some i) (aA:K.Θ.get i.e=some I) {b off n:Nat} {ah:LV S} (aQ:ch K env x=some (.fK b off n)) (aS:ch K env y=some ah)
  (h:ID K g k i I b off n ah=some z):Good K P rr o env g nx k z:=by
 have aq: ∀c,o.op≠ .defer c:=λc=>by rw[ae];simp
 unfold ID at h;split at h
 rotate_left
 .cases h
 rename_i B cs Y;split at h
 rotate_left
 .cases h
 rename_i ls aC;split at h
 rotate_left
 .cases h
 rename_i t gs az;split at h
 rotate_left
 .cases h
 rename_i zs d;split at h
 rotate_left
 .cases h
 rename_i U aw;cases f:(ε i.tag 5&&(ε (S.ty i.e).n I.size&&(ε I.size 1&&ε gs.length n)))<;>rw[f] at h
 .cases h
 simp only[cond_true,η] at h f;have aj:=δ f.1;have hn:=δ f.2.1;have J:=δ f.2.2.1;have ay:=δ f.2.2.2;refine hk aq h λA O w a he aa ak W a1=>?_;obtain⟨bI,ai,T⟩:=cj he W aQ;have T:a.eval x= .slice (some ⟨bI,off,none⟩) n n:=by simpa using T
 obtain⟨p,hp,⟨aX,vs,p1,p2,p3⟩,hm⟩:=aa.al b _ Y;rw[ai] at hp;cases hp;cases p1;obtain⟨aV,aW⟩:=hg aC p3;have hold:=pt az aV;have Q:=(D.Θ.fits hi).slice aj;have N:=D.Θ.fits aA;obtain⟨us,l⟩: ∃us,us=(zs.take n).map (ξ6 t):=⟨_,rfl⟩;have H:us.length=ζ7 zs.length n:=by rw[l,ξx,ξ7];exact Nat.min_comm _ _
 have aL:us.length<=n:=by rw[H];exact Nat.min_le_right _ _
 have aO: ∀u∈us,u.oneCell'=true:=λu hu=>by
  rw[l] at hu;obtain⟨x,_,rfl⟩:=ζq.1 hu;rfl
 have M:=run_storeCells_at (P:=P) bI off B us 0 vs.toArray w p2 (by simp;omega) aO;have aH:(vs.toArray.toList.take (off+0)++us++vs.toArray.toList.drop (off+0+us.length)).toArray=(putAt vs off us).toArray:=by simp[putAt]
 rw[aH] at M;have L:(ζi #[ty,C] o.type #[.slice (some ⟨bI,off,none⟩) n n,a.eval y]).run P w= .ok (goInt (ζ7 zs.length n)) (w.setRow bI (putAt vs off us).toArray):=by
  have ag:=cj he W aS;unfold yA at d;split at d
  .rename_i s;cases F:(sameKind t .u8&&ξF s.size n)<;>rw[F] at d
   .cases d
   simp only[cond_true,ι] at d;simp only[η] at F;have aB:=e5 F.1;have G:=ξa F.2;have aU:a.eval y= .string s:=ep (S:=S) (A:=A) (O:=O) (w:=w) ag;have q:zs.length=s.size:=by rw[<-d];simp
   obtain⟨a7,aR,aI,_,_⟩:=N.info;have L:=Lib.run_copy_row_string (P:=P) w ty C o.type i.e bI off n n s vs.toArray B Q (by rw[aR,ξy,aI,J]) p2 G (by simp;omega);have aN:us=ζJ s.data.toList:=by
    rw[l,<-d,ξr (by simp;exact G),aB];simp[ζJ]
   rw[aU,L,q,show ζ7 s.size n=s.size from ξL G]
   congr 2
   have aG:us.length=s.size:=by rw[H,q];exact ξL G
   simp[putAt,<-aN,aG]
  .split at d
   rotate_left
   .cases d
   rename_i ys aT;have hu:=jK D aa aT ag;obtain⟨A',aY,R,a6,_⟩:=dr hu;rw[R];rcases A' with _|ad
   .have aD:ys=[]:=kd (by rw[R] at hu;exact hu);subst aD;cases d;have aK:us=[]:=by rw[l];simp
    rw[aK] at M ⊢;have:putAt vs off []=vs:=by simp[putAt]
    rw[this];have aF:w.setRow bI vs.toArray=w:=setRow_self w bI vs.toArray B (0,0) p2;rw[aF];simp[ζi,run_underlying Q,ζK,ζj,dW N,storeCells]
   .rw[R] at hu;obtain⟨_,ds,af,ax⟩:=rH hu;have Z:=HW D d af;have q:zs.length=ys.length:=by
     have r:=af.len;rw[hn,J,Nat.mul_one,Z,ξx] at r;exact r
    obtain⟨m,hm⟩: ∃m,m=ζ7 ys.length n:=⟨_,rfl⟩;have aP:us=ds.take m:=by
     rw[l,Z,<-List.map_take]
     congr 1
     rw[hm,<-q];rcases ζM zs.length n with h|h
     .rw[show ζ7 zs.length n=zs.length from ξL h,ξr h,ξr (ξe _)]
     .rw[show ζ7 zs.length n=n from ζt h]
    have au: ∀j v,us[j]? =some v->w.cell? (ad.add j)=some v:=λj v E=>by
     rw[aP,ξw] at E;split at E
     .exact ax j v E
     .cases E
    have ab:=run_loadCells_list (P:=P) w ad _ au;have aM:us.length=m:=by rw[H,hm,q]
    rw[aM] at ab;simp only[ζi,τ,List.getElem?_toArray,ξz,List.getElem?_cons_succ,run_underlying Q,φ,ζK,ξj,<-hm,dW N,ζj];rw[J,Nat.mul_one,ab];simp only[φ,M,τ,ξj];rw[q,<-hm]
 have ao:bK (w.setRow bI (putAt vs off us).toArray) bI B (putAt vs off us):=by
  unfold bK;rw[setRow_heap w bI _ _ _ _ p2]
 have V:Fr [bI] w (w.setRow bI (putAt vs off us).toArray):=kc p2;have aE:bz A O (w.setRow bI (putAt vs off us).toArray) U (putAt vs off us):=by
  have av:((cg gs zs).length=n):=by
   simp only[cg,ξ1,ξ7,ξp];omega
  have r:=(jo aw p3 ⟨(cg gs zs).map (ξ6 t),[],(ξl _).symm,⟨av,rfl⟩,rfl⟩).1;have e:(cg gs zs).map (ξ6 t)=us++((vs.drop off).take n).drop us.length:=by
   rw[hold];show _=us++ξS us.length (gs.map (ξ6 t));rw[H,cg,List.map_append,ay,l,<-List.map_drop]
   congr 2
   rcases ζM zs.length n with h|h
   .rw[show ζ7 zs.length n=zs.length from ξL h]
   .rw[show ζ7 zs.length n=n from ζt h,ζ3 (by omega),ζ3 (by omega)]
  rw[e,afb aL aW] at r;exact k7 (V.tr (hx (hm bI rfl))) (Pl.le.refl A) r
 refine⟨_,_,A,O,?_,⟨rfl,rfl⟩,by simpa[news] using nr (X:=.box B U) ak (hm bI rfl) Y ai rfl V ⟨bI,putAt vs off us,rfl,ao,aE⟩⟩;refine rG ae ar λaZ=>?_;rw[fS an,fS aJ];simp only[builtin,τ];have e:(([x,y]:List Operand).toArray.map a.eval)= #[.slice (some ⟨bI,off,none⟩) n n,a.eval y]:=by simp[T]
 rw[e,show([ty,C]:Γ).toArray= #[ty,C] from rfl,L];rfl
theorem acF (V:b9 K P) {ty t:Nat} {c:ζ6} {x y:Operand} (J:o.op= .call c) (Z:c.callee= .builtin .copy) (W:c.args.toList=[x,y]) (ai:c.argTypes.toList=[ty,t]) {i N:TI} (hi:K.Θ.get ty=some i) (aa:K.Θ.get i.e=some N) {r D:Nat} (aj:ch K env x=some (.own r)) (ak:ch K env y=some (.own D))
  {xs ys:List (S.El i.e)} (M:g r=some (.row i.e xs)) (d:dU K g i.e (.own D)=some ys) (H:ε i.tag 5=true/\ε (S.ty i.e).n N.size=true) (h:k (.s (.one (.v (goInt (ζ7 ys.length xs.length))))) [(r,some (.row i.e (cg xs ys)))] []=some z):Good K P rr o env g nx k z:=by
 have Y: ∀c,o.op≠ .defer c:=λc=>by rw[J];simp
 refine hk Y h λA O w a he I G F ax=>?_;obtain⟨v,E,C,aw⟩:=cj he F aj;have C:a.eval x=v:=by simpa using C
 obtain⟨p,hp,U,hm⟩:=I.al r _ M;rw[E] at hp;cases hp;have ah:Dc.Src (S.ty i.e) O w (a.eval y) ys:=by
  obtain⟨u,ar,u2,u3⟩:=cj he F ak;have u2:a.eval y=u:=by simpa using u2
  rw[u2];simp only[dU] at d;split at d
  rotate_left
  .cases d
  rename_i av au af;split at d
  rotate_left
  .cases d
  rename_i q _;subst q;cases d;obtain⟨ay,L,f,_⟩:=I.al D _ af;rw[ar] at L;cases L;have f:Dc.Own (S.ty i.e) i.e 1 O w u au:=f;rcases h1 f with⟨B,R⟩|⟨b,Q,B⟩
  .subst B;subst R;exact .inl ⟨0,rfl,rfl⟩
  .subst B;obtain⟨cs,cur,an,ao,aq,_,_,_,_,_⟩:=rj f;refine .inr ⟨⟨b,0,none⟩,Q,cs,rfl,aq,λj v m=>?_⟩;have ab:cur.toList[j]? =some v:=by
    rw[<-ao,ξw] at m;split at m
    .exact m
    .cases m
   have T:(⟨b,0,none⟩:Addr).add j=⟨b,j,none⟩:=by unfold ζR;split<;>simp_all
   rw[T];have X:bK w b i.e cur.toList:=by unfold bK;simpa using an
   rw[X.cell];exact ab
 obtain⟨w',ag,l⟩:=Tb (P:=P) (t':=t) (ty:=o.type) V.Θ hi (δ H.1) aa (δ H.2) G U ah;refine⟨_,w',A,O,?_,⟨rfl,rfl⟩,NR G M E l.tr l.ob (λq ae ad=>l.fr q ae λe=>ad (ig e)) l.own hm⟩;refine rG J Z λcs=>?_;rw[fS W,fS ai];simp only[builtin,τ];have e:(([x,y]:List Operand).toArray.map a.eval)= #[v,a.eval y]:=by simp[C]
 rw[e,show([ty,t]:Γ).toArray= #[ty,t] from rfl,ag];rfl
theorem acD (m:b9 K P) {ty B:Nat} {c:ζ6} {x y:Operand} (u:o.op= .call c) (E:c.callee= .builtin .copy) (D:c.args.toList=[x,y]) (H:c.argTypes.toList=[ty,B]) (h:IC K env g k ty x y=some z):Good K P rr o env g nx k z:=by
 have T: ∀c,o.op≠ .defer c:=λc=>by rw[u];simp
 unfold IC at h;split at h
 rotate_left
 .cases h
 rename_i i hi;split at h
 rotate_left
 .cases h
 rename_i Q F;split at h
 .rename_i b off n ae j l;exact acE m u E D H hi F j l h
 rotate_left
 .rename_i r Y j l;cases G:ε r Y<;>rw[G] at h
  rotate_left
  .cases h
  simp only[cond_false] at h;split at h
  rotate_left
  .cases h
  rename_i e xs ys f I;split at h
  rotate_left
  .cases h
  rename_i p _;subst p;cases d:(ε i.tag 5&&ε (S.ty i.e).n Q.size)<;>rw[d] at h
  .cases h
  simp only[cond_true,η] at h d;exact acF m u E D H hi F j l f I d h
 .cases h
 rename_i r t ys j l;split at h
 rotate_left
 .cases h
 rename_i e xs Z f I;split at h
 rotate_left
 .cases h
 rename_i p _;subst p;cases d:(ε i.tag 5&&ε (S.ty i.e).n Q.size)<;>rw[d] at h
 .cases h
 simp only[cond_true,η] at h d;refine hk T h λA O w a he N M L ab=>?_;obtain⟨v,J,C,aa⟩:=cj he L j;have C:a.eval x=v:=by simpa using C
 obtain⟨p,hp,R,hm⟩:=N.al r _ f;rw[J] at hp;cases hp;have hu:=jK m N I (cj he L l);have hu:(S.ty i.e).slice.is O w (a.eval y) Z:=hu.tr ⟨rfl,rfl,rfl,ξe _,λk ad V=>⟨λU=>V (je.2 ⟨U,λr f=>by cases f⟩),rfl⟩⟩;obtain⟨w',X,s⟩:=ahp (P:=P) (t':=B) (ty:=o.type) m.Θ hi (δ d.1) F (δ d.2) M R hu;refine⟨_,w',A,O,?_,⟨rfl,rfl⟩,NR M f J s.tr s.ob (λq W G=>s.fr q W λe=>G (ig e)) s.own hm⟩;refine rG u E λcs=>?_;rw[fS D,fS H];simp only[builtin,τ];have e:(([x,y]:List Operand).toArray.map a.eval)= #[v,a.eval y]:=by simp[C]
 rw[e,show([ty,B]:Γ).toArray= #[ty,B] from rfl,X];rfl
theorem OG (M:b9 K P) {t:Nat} {x y q:Operand} (d:o.op= .mapUpdate t x y q\/o.op= .insert t x y q) (h:xU K env g k t x y q=some z):Good K P rr o env g nx k z:=by
 have T: ∀c,o.op≠ .defer c:=λc=>by rcases d with d|d<;>rw[d]<;>simp
 unfold xU at h;split at h
 rotate_left
 .cases h
 rename_i i b B j C u hi Y Z W;split at h
 rotate_left
 .cases h
 rename_i s v ab m V r;cases e:(ε i.tag 7&&(ε s.tag 2&&(sameKind (Dc.noKind s.k) v&&(sameKind B v&&sameKind C ab))))<;>rw[e] at h
 .cases h
 simp only[cond_true] at h;simp only[η] at e;obtain⟨J,F,G,H,I⟩:=e;have D:=e5 H;have E:=e5 I;subst D;subst E;refine Hm T h λA O w a he U R f=>?_;obtain⟨m',n,l⟩:=cj he f Y;obtain⟨p,hp,⟨ad,rfl,N⟩,hm⟩:=U.al b _ r;rw[n] at hp;cases hp;have l:a.eval x= .map (some m'):=by simpa using l
 have aa:a.eval y= .int B j:=ep (S:=S) (A:=A) (O:=O) (w:=w) (dS he f Z);have e:a.eval q= .int C u:=ep (S:=S) (A:=A) (O:=O) (w:=w) (dS he f W);obtain⟨w',X,Q,L⟩:=ahD (P:=P) M.Θ hi (δ J) V (δ F) (e5 G) N j u;refine⟨w',A,O,?_,nr R (hm m' rfl) r n rfl L ⟨m',rfl,Q⟩⟩;unfold execOp;rcases d with d|d<;>rw[d]<;>simp only[τ,l,aa,e,X]<;>rfl
theorem Tn {t:Nat} {x y:Operand} {i:TI} {a:Act} {w:World} {b off c:Nat} {cs:Γb} (k:o.op= .store t x y) (h:i.fits P t) (m:a.eval x= .pointer (some ⟨b,off,none⟩)) (j:bK w b c cs) (l:(a.eval y).cells.size=i.size) (d: ∀u∈(a.eval y).cells.toList,u.oneCell'=true) (hl:off+i.size<=cs.length):
  ∃w',(execOp a.eval o).run P w= .ok .skip w'/\bK w' b c (putAt cs off (a.eval y).cells.toList)/\Fr [b] w w':=by
 obtain⟨w',e,f,g⟩:=To h j l d hl;refine⟨w',?_,f,g⟩;unfold execOp;rw[k];simp only[τ,m,e];rfl
theorem SR {α:Type} {T:Ty α} {O:Γ} {w:World}: ∀ {xs:List α} {cs:Γb} {j:Nat} {x y:α} {us:Γb} {off:Nat},bN T O w cs xs->xs[j]? =some x->off+us.length<=T.n->
  (∀c,T.rep O w c x->(cs.drop (j*T.n)).take T.n=c->T.rep O w (putAt c off us) y)->bN T O w (putAt cs (j*T.n+off) us) (xs.set j y)
 |[],cs,j,x,y,us,off,h,a,hl,hp=>by simp at a
 |q::xs,cs,0,x,y,us,off,⟨c,r,f,b,d⟩,a,hl,hp=>by
  subst f;simp at a;subst a;have hlen:=T.len b;rw[Nat.zero_mul,ξg,ru (by omega)];exact⟨_,r,rfl,hp c b (by simp[<-hlen]),d⟩
 |q::xs,cs,j+1,x,y,us,off,⟨c,r,f,b,d⟩,a,hl,hp=>by
  subst f;have hlen:=T.len b;have k:=SR (j:=j) d (by simpa using a) hl (λg i e=>hp g i (by
   rw[<-e,ζ8,ζs,List.drop_eq_nil_of_le (by omega),hlen];simp))
  rw[oa hlen (by rw[ζ8];omega)];refine⟨c,_,rfl,b,?_⟩;have e:(j+1)*T.n+off-T.n=j*T.n+off:=by rw[ζ8];omega
  rw[e];exact k
theorem x8 {vs us:Γb} {q:Nat} (h:q+us.length<=vs.length):(putAt vs q us).length=vs.length:=by
 unfold putAt;simp;omega
theorem ae' {x y c us:Γb} {jj:Nat} (a:jj+us.length<=y.length):putAt (x++(y++c)) x.length (putAt y jj us)=putAt (x++(y++c)) (x.length+jj) us:=by
 have hl:=x8 a;rw[oa rfl (ξe _),oa rfl (ξG _ _),ζr,ξV,ru a];have:=x7 (ys:=y) (zs:=c) (us:=putAt y jj us) (vs:=[]) hl;rw[ξl] at this;rw[this,x_]
theorem Sa {vs us:Γb} {q n jj:Nat} (h:q+n<=vs.length) (b:jj+us.length<=n):putAt vs q (putAt ((vs.drop q).take n) jj us)=putAt vs (q+jj) us:=by
 have e:vs=vs.take q++((vs.drop q).take n++vs.drop (q+n)):=by
  rw[<-ζg,ξb,ξb]
 have a:(vs.take q).length=q:=by rw[ξ7];omega
 have d:((vs.drop q).take n).length=n:=by rw[ξ7,ξp];omega
 have:=ae' (x:=vs.take q) (y:=(vs.drop q).take n) (c:=vs.drop (q+n)) (us:=us) (jj:=jj) (by omega);rw[<-e,a] at this;exact this
theorem afc {cur us:Γb} {p L:Nat} (h:p+us.length<=L) (a:L<=cur.length):(putAt cur p us).take L=putAt (cur.take L) p us:=by
 have b:(cur.take L).length=L:=by rw[ξ7];omega
 conv=>lhs;rw[<-ξb L cur]
 rw[ru (by omega),ξH (by rw[x8 (by omega)];omega),ξr (by rw[x8 (by omega)];omega)]
theorem acW (N:b9 K P) {t:Nat} {x y:Operand} (aa:o.op= .store t x y) (h:IK K env g k t x y=some z):Good K P rr o env g nx k z:=by
 have af: ∀c,o.op≠ .defer c:=λc=>by rw[aa];simp
 unfold IK at h;split at h
 rotate_left
 .cases h
 rename_i i l b hi R ab;cases G:ε (dX b.cells) i.size<;>rw[G] at h
 .cases h
 simp only[cond_true] at h;have G:=δ G;have val: ∀ {A:Pl} {O:Γ} {w:World} {a:Act},cM A O w env a->cB K O w->bz A O w b.cells (a.eval y).cells.toList/\(a.eval y).cells.size=i.size/\ ∀u∈(a.eval y).cells.toList,u.oneCell'=true:=by
  intro A O w a he d;have f:=aE.rel.cells (dS he d ab);have s:=gT f;exact⟨f,by rw[<-G,<-s];simp,SJ f⟩
 have box: ∀ {j q:Nat} {cs C ns:List (LV S)} {M:Nat},g j=some (.box M cs)->b1 cs q ns=some C->k (.bG []) [(j,some (.box M C))] []=some z->
   (∀(A:Pl) (O:Γ) (w:World) (a:Act),cM A O w env a->cB K O w-> ∃m off,A.pl j=some (.pointer (some ⟨m,0,none⟩))/\a.eval x= .pointer (some ⟨m,off,none⟩)/\ ∀vs,bz A O w cs vs-> ∃us,bz A O w ns us/\putAt vs q us=putAt vs off (a.eval y).cells.toList/\(q+us.length<=vs.length->off+i.size<=vs.length))->Good K P rr o env g nx k z:=by
  intro j q cs C ns M D B aN aL;refine Hm af aN λA O w a he I X d=>?_;obtain⟨m,off,f,s,aA⟩:=aL A O w a he d;obtain⟨p,hp,⟨a6,vs,rfl,V,J⟩,hm⟩:=I.al j _ D;rw[f] at hp;cases hp;obtain⟨us,aB,aC,aD⟩:=aA vs J;obtain⟨aT,aU⟩:=jo B J aB;obtain⟨v1,v2,v3⟩:=val he d;obtain⟨w',F,W,H⟩:=Tn aa (N.Θ.fits hi) s V v2 v3 (aD aU);refine⟨w',A,O,F,nr X (hm m rfl) D f rfl H ⟨m,_,rfl,W,?_⟩⟩;rw[<-aC];exact k7 (H.tr (hx (hm m rfl))) (Pl.le.refl A) aT
 split at h
 .rename_i j q;split at h
  rotate_left
  .cases h
  rename_i M cs D;split at h
  rotate_left
  .cases h
  rename_i C B;refine box D B h λA O w a he d=>?_;obtain⟨m,f,s⟩:=cj he d R;obtain⟨v1,v2,v3⟩:=val he d;refine⟨m,q,f,by simpa using s,λvs Q=>⟨_,v1,rfl,λhl=>?_⟩⟩;rw[<-v2];simpa using hl
 .rename_i j q n jj;split at h
  rotate_left
  .cases h
  rename_i M cs D;split at h
  rotate_left
  .cases h
  rename_i ls ai;split at h
  .rename_i L gs aS v Y _;split at h
   rotate_left
   .cases h
   rename_i C B;cases E:(sameKind L aS&&ε gs.length n)<;>rw[E] at h
   .cases h
   simp only[cond_true,η] at h E;have az:=e5 E.1;subst az;have hl:=δ E.2;refine box D B h λA O w a he d=>?_;obtain⟨m,f,s,aM⟩:=cj he d R;have ae:a.eval y= .int L v:=ep (S:=S) (A:=A) (O:=O) (w:=w) (dS he d ab);refine⟨m,q+jj,f,by simpa using s,λvs Q=>⟨(gs.set jj v).map (ξ6 L),⟨_,[],by simp,⟨by simp[hl],rfl⟩,rfl⟩,?_,λhle=>?_⟩⟩
   .obtain⟨c1,c2⟩:=hg ai Q;have F:=pt Y c1;rw[ae,<-oq _ _ _ _ (by omega),show(gs.map (ξ6 L))=iI.cells (.i L gs) from rfl,<-F];exact Sa c2 (by simp;omega)
   .have aQ:i.size=1:=by rw[<-G];rfl
    simp at hle;omega
  .rename_i gs v Y _;split at h
   rotate_left
   .cases h
   rename_i C B;cases E:(ε gs.length n)<;>rw[E] at h
   .cases h
   simp only[cond_true] at h;have hl:=δ E;refine box D B h λA O w a he d=>?_;obtain⟨m,f,s,aM⟩:=cj he d R;have ae:a.eval y= .bool v:=ep (S:=S) (A:=A) (O:=O) (w:=w) (dS he d ab);refine⟨m,q+jj,f,by simpa using s,λvs Q=>⟨(gs.set jj v).map (ζS),⟨_,[],by simp,⟨by simp[hl],rfl⟩,rfl⟩,?_,λhle=>?_⟩⟩
   .obtain⟨c1,c2⟩:=hg ai Q;have F:=pt Y c1;rw[ae,<-oq _ _ _ _ (by omega),show(gs.map (ζS))=iI.cells (.b gs) from rfl,<-F];exact Sa c2 (by simp;omega)
   .have aQ:i.size=1:=by rw[<-G];rfl
    simp at hle;omega
  .cases h
 .rename_i e r j q;split at h
  rotate_left
  .cases h
  rename_i an xs J;cases ag:ε e an<;>rw[ag] at h
  .cases h
  simp only[cond_true] at h;have aK:=δ ag;subst aK;obtain⟨aV,ad,h⟩:=bind_some h;split at h
  rotate_left
  .cases h
  rename_i C B;split at h
  rotate_left
  .cases h
  rename_i ak aG;cases aO:b.pure<;>rw[aO] at h
  .cases h
  simp only[cond_true] at h;refine Hm af h λA O w a he I X d=>?_;obtain⟨m,n,c,f,s⟩:=cj he d R;have s:a.eval x= .pointer (some ⟨m,j*(S.ty e).n+q,none⟩):=by simpa using s
  obtain⟨p,hp,V,hm⟩:=I.al r _ J;rw[f] at hp;cases hp;obtain⟨v1,v2,v3⟩:=val he d;obtain⟨cs,cur,ao,aq,T,U,au,av,aw,ax⟩:=rj V;have aF:bK w m e cur.toList:=by unfold bK;simpa using ao
  have aY:=(ζ.1 ad).1;have ah:=T.at_ ad;have aI:=(S.ty e).len ah;obtain⟨p1,p2⟩:=jo B (N.bg A O w e aV _ ah) v1;rw[aI] at p2;have aH:cs.length=n*(S.ty e).n:=by rw[U];exact T.len
  have a1:(a.eval y).cells.toList.length=i.size:=by simpa using v2
  have hmul:(j+1)*(S.ty e).n<=n*(S.ty e).n:=ξI _ (by omega);have aZ:n*(S.ty e).n<=c*(S.ty e).n:=ξI _ au;rw[ζ8] at hmul;have aJ:cur.toList.length=c*(S.ty e).n:=by simpa using aw
  obtain⟨w',F,W,H⟩:=Tn aa (N.Θ.fits hi) s aF v2 v3 (by omega);have Z:=hm m rfl;refine⟨w',A,O,F,nr X Z J f rfl H ?_⟩;have aR:=H.tr (hx Z);have aj:bN (S.ty e) O w' (putAt cs (j*(S.ty e).n+q) (a.eval y).cells.toList) (xs.set j ak):=by
   refine bN.tr aR (SR T ad (by omega) λaW aX ay=>?_);rw[<-ay];exact N.cls A O w e C ak _ aG p1
  have aP:(putAt cur.toList (j*(S.ty e).n+q) (a.eval y).cells.toList).take (n*(S.ty e).n)=putAt cs (j*(S.ty e).n+q) (a.eval y).cells.toList:=by
   have ar:cur.toList.take (n*(S.ty e).n)=cs:=by rw[<-aH];exact aq
   rw[afc (by omega) (by omega),ar]
  refine⟨⟨_,⟨by rw[aj.len],.inr ⟨m,c,(putAt cur.toList (j*(S.ty e).n+q) (a.eval y).cells.toList).toArray,by simp[U],ax,W,by simp;omega,av,?_,?_⟩⟩,aj⟩,λg I=>by cases I;exact Z⟩
  .have:=x8 (vs:=cur.toList) (us:=(a.eval y).cells.toList) (q:=j*(S.ty e).n+q) (by omega);simp only[List.size_toArray,this];exact aJ
  .simp only[ζ9,<-U];exact aP
 .cases h
end
section
variable {S:bh} {K:bp S} {P:Program} {rr:Option Nat} {o:Oper} {env:a8 S} {g:Nat->Option (Ob S)} {nx:Nat} {R:Type} {z:R} {k:AV S->Up S->AH S->Option R}
theorem Oc {A:Pl} {O:Γ} {w:World} {a:Act} {E:Env} {fs:List (Nat×Nat)} (he:cM A O w env a) (k:cB K O w): ∀ {ps:List (Nat×Operand)} {cs d:List (LV S)} {xs:Array Value},(∀p∈ps,ev E p.2=some (a.eval p.2))->wb K env fs ps cs=some d->bz A O w cs xs.toList-> ∃q,kJ fs K.Θ E ps xs=some q/\bz A O w d q.toList
 |[],cs,d,xs,f,h,g=>by cases h;exact⟨xs,rfl,g⟩
 |(i,x)::r,cs,d,xs,f,h,g=>by
  simp only[wb] at h;split at h
  rotate_left
  .cases h
  rename_i t off u;split at h
  rotate_left
  .cases h
  rename_i b s;split at h
  rotate_left
  .cases h
  rename_i o y;cases m:ε (dX b.cells) o.size<;>rw[m] at h
  .cases h
  simp only[cond_true] at h;split at h
  rotate_left
  .cases h
  rename_i C v;have n:=aE.rel.cells (dS he k s);obtain⟨z,B⟩:=jo v g n;have hlen:(a.eval x).cells.size=o.size:=by rw[<-δ m,<-gT n];simp
  have hle:off+(a.eval x).cells.size<=xs.size:=by simpa using B
  have l:=Hh (a.eval x).cells.toList 0 off xs (by simpa using hle);have e:((a.eval x).cells.zipIdx.foldl (λcs (c,j)=>cs.setIfInBounds (off+j) c) xs).toList=putAt xs.toList off (a.eval x).cells.toList:=by
   rw[ξN] at l;rw[<-l]
   congr 1
   rw[<-ξO];simp
  simp only[kJ,u,f (i,x) μ,y,hlen,ξD,ξJ];rw[hlen] at hle;rw[ζF.mpr hle];simp only[cond_true];refine Oc he k (λp hp=>f p (κ _ hp)) h ?_;rw[e];exact z
theorem Oa {A:Pl} {O:Γ} {w:World} {a:Act} {size:Nat} (he:cM A O w env a) (g:cB K O w): ∀ {ps:List (Nat×Operand)} {cs d:List (LV S)} {xs:Array Value},wa K env size ps cs=some d->bz A O w cs xs.toList-> ∃n,ζG (λi=>some (i*size,size)) xs (ps.map λp=>(p.1,a.eval p.2))=some n/\bz A O w d n.toList
 |[],cs,d,xs,h,f=>by cases h;exact⟨xs,rfl,f⟩
 |(i,x)::r,cs,d,xs,h,f=>by
  simp only[wa] at h;split at h
  rotate_left
  .cases h
  rename_i b o;cases l:ε (dX b.cells) size<;>rw[l] at h
  .cases h
  simp only[cond_true] at h;split at h
  rotate_left
  .cases h
  rename_i v s;have m:=aE.rel.cells (dS he g o);obtain⟨t,u⟩:=jo s f m;have hlen:(a.eval x).cells.size=size:=by rw[<-δ l,<-gT m];simp
  have hle:i*size+(a.eval x).cells.size<=xs.size:=by simpa using u
  have k:=Hh (a.eval x).cells.toList 0 (i*size) xs (by simpa using hle);have e:((a.eval x).cells.zipIdx.foldl (λcs (c,j)=>cs.setIfInBounds (i*size+j) c) xs).toList=putAt xs.toList (i*size) (a.eval x).cells.toList:=by
   rw[ξN] at k;rw[<-k]
   congr 1
   rw[<-ξO];simp
  simp only[ζI,ζG];have q: ¬((a.eval x).cells.size≠size\/i*size+(a.eval x).cells.size>xs.size):=by omega
  rw[if_neg (by simpa using q)];refine Oa he g h ?_;rw[e];exact t
theorem acB (e:b9 K P) {t:Nat} {ps:Array (Nat×Operand)} (f:o.op= .build t ps) (h:IA K env k t ps.toList=some z):Good K P rr o env g nx k z:=by
 have s: ∀c,o.op≠ .defer c:=λc=>by rw[f];simp
 unfold IA at h;split at h
 rotate_left
 .cases h
 rename_i i hi;cases r:ε i.tag 8<;>rw[r] at h
 .cases q:ε i.tag 6<;>rw[q] at h
  .cases h
  simp only[cond_true,cond_false] at h;split at h
  rotate_left
  .cases h
  rename_i u C;split at h
  rotate_left
  .cases h
  rename_i cs n;cases b:(i.zero.cells.toList.all ξQ)<;>rw[b] at h
  .cases h
  simp only[cond_true] at h;refine cU s h λA O w a he B y m=>?_;obtain⟨d,j,l⟩:=Oa (xs:=i.zero.cells) he m n (rz b);refine⟨.agg d,?_,d.toList,by simp,l⟩;unfold execOp;rw[f];simp only[Instr.build,τ,mQ (e.Θ.fits hi),φ,run_underlying ((e.Θ.fits hi).array (δ q)),dW (e.Θ.fits C)];rw[ζu];have v:ζG (λi=>some (i*u.size,u.size)) i.zero.cells (ps.toList.map λx=>(x.1,a.eval x.2))=some d:=j;rw[v];rfl
 simp only[cond_true] at h;split at h
 rotate_left
 .cases h
 rename_i cs n;cases b:(im K.Θ (.build t ps.toList.toArray)&&i.zero.cells.toList.all ξQ)<;>rw[b] at h
 .cases h
 simp only[cond_true,η] at h b;refine cU s h λA O w a he B y m=>?_;obtain⟨d,j,l⟩:=Oc (E:=jH a (slotsOf (ps.toList.map (·.2)))) (xs:=i.zero.cells) he m (λp hp=>ND (JO (ζq.2 ⟨p,hp,rfl⟩))) n (rz b.2);refine⟨.agg d,yr e.Θ (NG a (slotsOf (ps.toList.map (·.2)))) (by rw[f];simpa using b.1) ?_,d.toList,by simp,l⟩;rw[f];simp only[iV,hi,r,cond_true,j]
theorem OE (b:b9 K P) {t t2:Nat} {x:Operand} {l:LV S} (m:o.op= .convert t t2 x) (N:ch K env x=some l) (h:xT K g k t t2 l=some z):Good K P rr o env g nx k z:=by
 have D: ∀c,o.op≠ .defer c:=λc=>by rw[m];simp
 unfold xT at h;split at h
 rotate_left
 .cases h
 rename_i i i2 hi H;split at h
 rotate_left
 .cases h
 rename_i q I;cases f:(ε i.tag 5&&(ε i2.tag 3&&(ε q.tag 2&&sameKind (Dc.noKind q.k) .u8)))<;>rw[f] at h
 .cases h
 simp only[cond_true] at h;simp only[η] at f;obtain⟨u,s,r,J⟩:=f;split at h
 rotate_left
 .cases h
 rename_i ys Q;split at h
 rotate_left
 .cases h
 rename_i zs j;refine cU D h λA O w a he G V v=>?_;have d:=jK b G Q (cj he v N);refine⟨.string (strOf zs),?_,rfl,rfl⟩;obtain⟨B,c,p,_,_⟩:=dr d;have n:=(b.Θ.fits I).int (δ r);rw[e5 J] at n;unfold execOp;rw[m];simp only[τ,p];rw[run_convert_bytes_string w t t2 i.e B ys.length c ((b.Θ.fits hi).slice (δ u)) n ((b.Θ.fits H).string (δ s))];rw[p] at d;rcases B with _|ad
 .have L:=kd d;subst L;cases j;simp[Conv.bytesToString,strOf,ξj]
 .obtain⟨_,cs,M,E⟩:=rH d;have F:=HW b j M;have hlen:zs.length=ys.length:=by
   have: ∀ {ys:List (S.El i.e)} {zs:Γa},jb K i.e .u8 ys=some zs->zs.length=ys.length:=by
    intro ys
    induction ys with
    |nil=>intro zs h;cases h;rfl
    |cons y ys T=>
     intro zs h;simp only[jb] at h;split at h
     .rename_i U x' W;cases C:sameKind .u8 U<;>rw[C] at h
      .cases h
      simp only[cond_true] at h;split at h
      .rename_i X R;cases h;simp[T R]
      .cases h
     .cases h
   exact this j
  subst F;have hl:=run_loadCells_list (P:=P) w ad (zs.map (ξ6 .u8)) E;rw[ξx] at hl;rw[<-hlen,run_bytesToString w ad zs.length c zs hl];rfl
theorem ad7 (B:b9 K P) (h:q9 K env g nx k o.type o.op=some z):Good K P rr o env g nx k z:=by
 unfold q9 at h;split at h
 .rename_i x a;split at h
  .rename_i M F;exact OI B (.inl a) F h
  .cases h
 .rename_i x a;split at h
  .split at h
   rotate_left
   .cases h
   rename_i i hi;cases U:ε i.tag 5<;>rw[U] at h
   .cases h
   .exact acS a rfl h
  .split at h
   .rename_i M F;exact OI B (.inr a) F h
   .cases h
 .rename_i x i a;split at h
  .rename_i ajF v;split at h
   .rename_i b D;exact acG a v D h
   .cases h
  .cases h
 .rename_i x a;split at h
  .rename_i v;exact wm a v rfl h
  .rename_i v;exact wm a v rfl h
  .rename_i v;exact wm a v rfl h
  .rename_i v;exact wm a v rfl h
  .cases h
 .rename_i c x y a;split at h
  .rename_i t v;cases t with
   |true=>
    simp only[cond_true] at h;split at h
    .rename_i M F;exact OL a v F h
    .cases h
   |false=>
    simp only[cond_false] at h;split at h
    .rename_i M F;exact OL a v F h
    .cases h
  .cases h
 .rename_i t x f a;split at h
  .rename_i ls v;split at h
   .rename_i off n T I;split at h
    .rename_i aa hl;split at h
     .rename_i b D;exact acH B a v I hl D h
     .cases h
    .cases h
   .cases h
  .cases h
 .rename_i t x f a;split at h
  .rename_i off n T I;cases hn:ε n 0<;>rw[hn] at h
   .simp only[cond_false] at h;split at h
    .rename_i b q v;refine Hl B a v I hn (λA O w x J=>?_) h;obtain⟨m,E,C⟩:=J;exact⟨⟨m,q,none⟩,by simpa using C,m,E,by rw[iN]⟩
    .rename_i e r j q v;refine Hl B a v I hn (λA O w x J=>?_) h;obtain⟨m,W,c,E,C⟩:=J;exact⟨⟨m,j*(S.ty e).n+q,none⟩,by simpa using C,m,W,c,E,by rw[iN,Nat.add_assoc]⟩
    .rename_i t' x' q v;refine Hl B a v I hn (λA O w x J=>?_) h;obtain⟨ad,E,C⟩:=J;exact⟨ad.add q,by simpa using E,ad,by rw[add_add],C⟩
    .cases h
   .cases h
  .cases h
 .rename_i t x a;split at h
  .rename_i i hi;split at h
   .rename_i l v;exact acM B a hi v h
   .cases h
  .cases h
 .rename_i t a;split at h
  .rename_i i hi;cases Q:i.zero.cells.toList.all ξQ<;>rw[Q] at h
   .cases h
   .exact acx B a hi Q h
  .cases h
 .rename_i t x a;split at h
  .rename_i b D;exact acA a D h
  .cases h
 .rename_i t ps a;exact acB B a h
 .rename_i f fs cs a;split at h
  .rename_i Y X E C;exact acO a E C h
  .cases h
 .rename_i t a;split at h
  .rename_i i hi;split at h
   .rename_i p q hp Z;cases D:(ε i.tag 7&&(ε p.tag 2&&ε q.tag 2))<;>rw[D] at h
    .cases h
    .exact acP a h
   .cases h
  .cases h
 .rename_i t n c a;exact acQ B a h
 .rename_i t n ps a;exact acC B a h
 .rename_i t x y a;exact acK B a h
 .rename_i t x y a;exact acJ B a h
 .rename_i t x lo hi mx a;exact acV B a h
 .rename_i t x y ok a;exact acN B a h
 .rename_i b t x y t' a;exact acz B a h
 .rename_i t x a;split at h
  .rename_i i u hi v;cases C:ε i.tag 2<;>rw[C] at h
   .cases h
   .exact acI B a hi (δ C) v h
  .cases h
 .rename_i t x a;split at h
  .rename_i i s hi v;cases N:ε i.tag 3<;>rw[N] at h
   .cases h
   .exact acT B a hi (δ N) v h
  .cases h
 .rename_i x a;split at h
  .rename_i i v;split at h
   .rename_i s pos hi;exact acR a v hi h
   .cases h
  .cases h
 .rename_i t x y a;exact acW B a h
 .rename_i t x y q a;exact OG B (.inl a) h
 .rename_i t x y q a;exact OG B (.inr a) h
 .rename_i c a;split at h
  .rename_i H;split at h
   .rename_i x ty G L;exact acL B a H G L h
   .cases h
  .rename_i H;split at h
   .rename_i x y ty R G L;cases D:ε ty R<;>rw[D] at h
    .cases h
    .have e:=δ D;subst e;exact acy B a H G L h
   .cases h
  .rename_i H;split at h
   .rename_i x y ty R G L;exact acD B a H G L h
   .cases h
  .exact qh B (λc=>by rw[a];simp) (by rw[a];exact h)
 .rename_i t t2 x a;split at h
  .rename_i r v;exact OE B a v h
  .rename_i t' d v;exact OE B a v h
  .exact qh B (λc=>by rw[a];simp) (by rw[a];exact h)
 .refine qh B (λc V=>?_) h;rw[V] at h;simp[plain,im,iV] at h
end
inductive AX|normal|exit (id:Nat)|ret|bB (u:Value)
structure lq where
 fn:Func
 L:Nat->Γ
structure hH (S:bh) where
 J:lq
 ps:Γ
 gG:Code
 body:Code
 env:a8 S
 fm:Option AX
structure AS (S:bh) where
 env:a8 S
 h:AH S
 nb:Nat
 lp:Option (hH S)
 inr:Bool
 df:List (LV S)
 dt:Γ
structure a7 (S:bh) where
 id:Nat
 out: {R:Type}->AS S->(AX->AS S->Option R)->Option R
structure dw (S:bh) extends lq where
 lc:List (a7 S)
structure fe (S:bh) where
 f:Nat
 out: {R:Type}->List (aE S)->(Rs S->Option R)->Option R
structure e0 (S:bh) where
 f:Nat
 out: {R:Type}->List (aE S)->AH S->(Rs S->AH S->Γ->Option R)->Option R
structure mR (S:bh) where
 g:Nat
 out: {R:Type}->List (aE S)->Option Value->(Nat->Option (Ob S))->(Option Value->Up S->Option R)->Option R
structure gD (S:bh) where
 f:Nat
 on:List (aE S)->Bool
 out: {R:Type}->List (aE S)->(Nat->Option (Ob S))->Nat->(Rs S->Up S->AH S->Option R)->Option R
structure bW (S:bh) where
 K:bp S
 C:List (fe S)
 H:List (e0 S)
 D:List (mR S)
 T:Nat->Option (dw S)
 X:List (gD S):=[]
def wc {S:bh}:List (fe S)->Nat->Option (fe S)
 |[],_=>none
 |c::r,f=>bif ε c.f f then some c else wc r f
def we {S:bh}:List (gD S)->Nat->List (aE S)->Option (gD S)
 |[],_,_=>none
 |c::r,f,ajF=>bif ε c.f f&&c.on ajF then some c else we r f ajF
def qb {S:bh}:List (e0 S)->Nat->Option (e0 S)
 |[],_=>none
 |c::r,f=>bif ε c.f f then some c else qb r f
def qa {S:bh}:List (mR S)->Nat->Option (mR S)
 |[],_=>none
 |c::r,f=>bif ε c.g f then some c else qa r f
def gp {S:bh}:List (a7 S)->Nat->Option (a7 S)
 |[],_=>none
 |c::r,f=>bif ε c.id f then some c else gp r f
section
variable {S:bh}
def eG:AH S->Up S->AH S
 |h,[]=>h
 |h,(i,X)::r=>eG (h.set i X) r
def keys:Up S->Γ
 |[]=>[]
 |(i,_)::r=>i::keys r
def e9 (nb:Nat):Γ->Γ->Γ
 |dt,[]=>dt
 |dt,i::r=>e9 nb (bif χ i nb&&!(eD i dt) then dt++[i] else dt) r
def AS.ca (st:AS S) (up:Up S) (nw:AH S):AS S:= {st with h:=eG st.h up++nw,dt:=e9 st.nb st.dt (keys up)}
def e7 (g:Nat->Option (Ob S)) (up:Up S):Bool:=(keys up).all λi=>(g i).isSome
def kept (g:Nat->Option (Ob S)) (nb:Nat) (roots:Γ):Γ:=ξC nb++reach g nb 1000 roots []
def gc (sl:Γ) (st:AS S):AS S:=
 let env:=e2 st.env sl
 let a:=kept (aM st.h) st.nb (od (st.h.take st.nb)++(Ju env++oe st.df))
 match k8 (λi=>posOf i a 0) st.df with
 |some df=> {st with env:=og (λi=>posOf i a 0) env,h:=e4 (λi=>posOf i a 0) (gb (aM st.h) a),df:=df}
 |none=>st
def kh (rs:Γ) (ρ:Nat->Option Nat) (h:AH S):Γ->Up S
 |[]=>[]
 |j::r=>(match rs[j]? with|some i=>(i,mm ρ (aM h j))::kh rs ρ h r|none=>kh rs ρ h r)
section
variable (G:bW S) {R:Type}
def ve (c:Nat->List (aE S)->AH S->(Rs S->AH S->Γ->Option R)->Option R) (f:Nat) (ajF:List (aE S)) (g:Nat->Option (Ob S)) (nx:Nat) (d:Value->Up S->AH S->Option R) (k:AV S->Up S->AH S->Option R):Option R:=
 let rs:=reach g 0 1000 (j7 ajF) []
 match mj (λi=>posOf i rs 0) ajF with
 |none=>none
 |some b=>c f b (e4 (λi=>posOf i rs 0) (gb (n3 g) rs)) λr h' dt=>
  let ρ:=λj=>bif χ j rs.length then rs[j]? else some (nx+(j-rs.length))
  match r with
  | .ret a=>(match a.cf ρ with|some a'=>k a' (kh rs ρ h' dt) (e4 ρ (h'.drop rs.length))|none=>none)
  | .bB u=>bif u.oneCell' then d u (kh rs ρ h' dt) (e4 ρ (h'.drop rs.length)) else none
def FI (d:Nat->List (aE S)->AH S->(Rs S->AH S->Γ->Option R)->Option R) (f:Nat) (ajF:List (aE S)) (g:Nat->Option (Ob S)) (nx:Nat) (b:Value->Up S->AH S->Option R) (k:AV S->Up S->AH S->Option R):Option R:=
 match we G.X f ajF with
 |some c=>c.out ajF g nx λr up nw=>(match r with
   | .ret a=>k a up nw
   | .bB u=>bif u.oneCell' then b u up nw else none)
 |none=>match wc G.C f with
 |some h=>(match kM G.K g ajF with
  |some (e,rs)=>h.out e λr=>(match r with
   | .ret a=>bif a.pure then(bif a.flat then k a [] [] else k a (gO rs) []) else none
   | .bB u=>bif u.oneCell' then b u [] [] else none)
  |none=>ve d f ajF g nx b k)
 |none=>ve d f ajF g nx b k
def No (env:a8 S) (g:Nat->Option (Ob S)) (c:ζ6):Option (Nat×List (aE S)):=
 match c.callee with
 | .value x=>
  (match ch G.K env x with
  |some (.bA i)=>(match g i with
   |some (.bA f fs cs)=>(match ha G.K env c.args.toList with|some ajF=>some (f,fs++ajF++cs)|none=>none)
   |_=>none)
  |some (.v u)=>(match u with
   | .func (.func f) fs cs=>bif ε fs.size 0&&ε cs.size 0 then(match ha G.K env c.args.toList with|some ajF=>some (f,ajF)|none=>none) else none
   |_=>none)
  |_=>none)
 |_=>none
def n6 (a:Nat->List (aE S)->AH S->(Rs S->AH S->Γ->Option R)->Option R) (env:a8 S) (g:Nat->Option (Ob S)) (nx:Nat) (o:Oper) (b:Value->Up S->AH S->Option R) (k:AV S->Up S->AH S->Option R):Option R:=
 match o.op with
 | .call c=>
  (match c.callee with
  | .value _=>(match No G env g c with|some (f,ajF)=>FI G a f ajF g nx b k|none=>none)
  |_=>q9 G.K env g nx k o.type o.op)
 | .panic _=>none
 |_=>q9 G.K env g nx k o.type o.op
def iw (N:Nat) (o:Oper) (st:AS S) (a:AV S) (k:AS S->Option R):Option R:=
 match o.dst with
 |some d=>bif χ d N then k {st with env:=(d,a)::st.env} else none
 |none=>k st
def m_ (N:Nat) (ops:Array Oper) (g:Option (Nat×Bool)) (st:AS S) (yes no:AS S->Option R):Option R:=
 match g with
 |none=>yes st
 |some (j,b)=>
  match ops[j]? with
  |some o=>
   match o.dst with
   |some d=>
    bif χ d N then
     match a8.get st.env d with
     |some (.s (.one (.v (.bool c))))=>
      bif c then(match b with|true=>yes|false=>no) {st with env:=(d,.s (.one (.v (.bool true))))::st.env}
      else(match b with|true=>no|false=>yes) {st with env:=(d,.s (.one (.v (.bool false))))::st.env}
     |some (.bG [])=>no st
     |_=>none
    else none
   |none=>none
  |none=>none
def Ks (env:a8 S) (c:ζ6):Bool:=
 match c.callee with
 | .value x=>(match ch G.K env x with|some .c_=>true|_=>false)
 |_=>false
def Ft (e:Nat->List (aE S)->AH S->(Rs S->AH S->Γ->Option R)->Option R) (g:List (aE S)->AS S->(Bool->AS S->Option R)->Option R) (N:Nat) (o:Oper) (st:AS S) (d:Value->AS S->Option R) (k:AS S->Option R):Option R:=
 match o.op with
 | .defer c=>(match c.callee with
  | .value x=>(match c.args.toList,ch G.K st.env x,st.inr,st.lp,o.dst with
   |[],some (.bA i),false,none,none=>k {st with df:=.bA i::st.df}
   |_,_,_,_,_=>none)
  |_=>none)
 | .panic x=>(match ch G.K st.env x with|some (.v (.iface t u))=>d (.iface t u) st|_=>none)
 | .call c=>
  bif Ks G st.env c then(match ha G.K st.env c.args.toList with
   |some ajF=>g ajF st λb f=>iw N o f (.s (.one (.v (.bool b)))) k
   |none=>none)
  else n6 G e st.env (aM st.h) st.h.length o (λu up nw=>bif e7 (aM st.h) up then d u (st.ca up nw) else none) λa up nw=>bif e7 (aM st.h) up then iw N o (st.ca up nw) a k else none
 |_=>n6 G e st.env (aM st.h) st.h.length o (λu up nw=>bif e7 (aM st.h) up then d u (st.ca up nw) else none) λa up nw=>bif e7 (aM st.h) up then iw N o (st.ca up nw) a k else none
def ph (a:Nat->List (aE S)->AH S->(Rs S->AH S->Γ->Option R)->Option R) (c:List (aE S)->AS S->(Bool->AS S->Option R)->Option R) (N:Nat) (ops:Array Oper) (b:Value->AS S->Option R):Γ->AS S->(AS S->Option R)->Option R
 |[],st,k=>k st
 |i::l,st,k=>
  match ops[i]? with
  |some o=>m_ N ops o.guard st (λst=>Ft G a c N o st b λst=>ph a c N ops b l st k) (λst=>iw N o st (.bG []) λst=>ph a c N ops b l st k)
  |none=>none
structure cu (S:bh) where
 rd:Γ
 up:Up S
 nx:Nat
 nw:AH S
def dp (ops:Array Oper) (j:Nat):Option Nat:=match ops[j]? with|some o=>o.dst|none=>none
def ON (ops:Array Oper) (g:Option (Nat×Bool)):Γ:=match g with|some (j,_)=>(match dp ops j with|some d=>[d]|none=>[])|none=>[]
def ft (ops:Array Oper) (o:Oper):Γ:=slotsOf o.op.operands.toList++ON ops o.guard
def eL (ops:Array Oper) (i:Nat):Γ:=match ops[i]? with|some o=>lH ops 12 (cQ o)|none=>[]
def Jj (env:a8 S) (g:Nat->Option (Ob S)) (o:Oper):Γ:=
 match o.op with
 | .load _ x=>(match ch G.K env x with|some l=>l.refs|none=>[])
 | .store _ x _=>(match ch G.K env x with|some l=>l.refs|none=>[])
 | .indexAddr _ x _=>(match ch G.K env x with|some (.own r)=>[r]|_=>[])
 | .lookup _ x _ _=>(match ch G.K env x with|some l=>l.refs|none=>[])
 | .mapUpdate _ x _ _=>(match ch G.K env x with|some l=>l.refs|none=>[])
 | .insert _ x _ _=>(match ch G.K env x with|some l=>l.refs|none=>[])
 | .next x _=>(match ch G.K env x with|some l=>l.refs|none=>[])
 | .convert _ _ x=>(match ch G.K env x with|some l=>l.refs|none=>[])
 | .buildSlice _ _ ps=>(match ha G.K env (ps.toList.map (·.2)) with|some ajF=>j7 ajF|none=>[])
 | .call c=>
  (match ha G.K env c.args.toList with
  |some ajF=>(match c.callee with
   | .value x=>(match ch G.K env x with|some l=>l.refs++reach g 0 1000 (l.refs++j7 ajF) []|none=>[])
   |_=>j7 ajF)
  |none=>[])
 |_=>[]
def jw (rd:Γ) (g:Nat->Option (Ob S)):Nat->Option (Ob S):=λi=>bif eD i rd then g i else none
def xR (l m:Γ):Bool:=l.all λi=>!(eD i m)
def Ir (l:Γ) (nx n:Nat):Bool:=l.all λi=>!(ξF nx i&&χ i (nx+n))
def kC (cl rd:Γ) (up:Up S):List (cu S)->Nat->Bool
 |[],_=>true
 |r::rs,k=>(eD k cl||(xR rd (keys r.up)&&(Ir rd r.nx r.nw.length&&xR (keys up) r.rd)))&&kC cl rd up rs (k+1)
def idle (cl:Γ):List (cu S)->Nat->Bool
 |[],_=>true
 |r::rs,k=>(eD k cl||(match r.up,r.nw with|[],[]=>true|_,_=>false))&&idle cl rs (k+1)
def JN (ops:Array Oper) (i:Nat) (o:Oper) (s:Nat):Bool:=
 ((cQ o).any λj=>match dp ops j with|some d=>ε d s|none=>false)||
 (ξC ops.size).all λk=>match dp ops k with|some d=>!(ε d s)||(ε k i||eD i (eL ops k))|none=>true
def RE (N:Nat) (ops:Array Oper) (i:Nat):Bool:=
 match ops[i]? with
 |some o=>hK i (cQ o)&&(hK i (eL ops i)&&((match o.dst with
  |some d=>χ d N&&(ξC ops.size).all λk=>ε k i||(match dp ops k with|some e=>!(ε d e)|none=>true)
  |none=>true)&&(ft ops o).all (JN ops i o)))
 |none=>false
def yj (N:Nat) (ops:Array Oper):Bool:=(ξC ops.size).all (RE N ops)
def J2 (ops:Array Oper) (env:a8 S):a8 S:=env.filter λp=>(ξC ops.size).all λk=>match dp ops k with|some d=>!(ε d p.1)|none=>true
def J3 (up:Up S) (nw:AH S):Bool:=match up,nw with|[],[]=>true|_,_=>false
def vq (pn:Option (Γ×Value×AS S)) (cl:Γ):Bool:=match pn with|some (dead,_,_)=>dead.any λj=>eD j cl|none=>false
def ae7 (pn:Option (Γ×Value×AS S)) (i:Nat):Option (Γ×Value×AS S):=match pn with|some (dead,u,st)=>some (i::dead,u,st)|none=>none
def kz (b:Nat->List (aE S)->AH S->(Rs S->AH S->Γ->Option R)->Option R) (N:Nat) (ops:Array Oper) (d:Value->AS S->Option R) (k:AS S->Option R):Nat->List (cu S)->Option (Γ×Value×AS S)->AS S->Option R
 |0,_,pn,st=>(match pn with|none=>k st|some (_,u,f)=>d u f)
 |c+1,acc,pn,st=>
  match ops[acc.length]? with
  |none=>none
  |some o=>
   bif vq pn (eL ops acc.length) then kz b N ops d k c (acc++[⟨[],[],st.h.length,[]⟩]) (ae7 pn acc.length) st
   else m_ N ops o.guard st
    (λst=>
     let rd:=Jj G (e2 st.env (ft ops o)) (aM st.h) o
     bif rd.all λi=>χ i st.h.length then
      n6 G b (e2 st.env (ft ops o)) (jw rd (aM st.h)) st.h.length o
       (λu up nw=>match pn with
        |some _=>none
        |none=>bif e7 (aM st.h) up&&((keys up).all (λi=>eD i rd)&&(kC (eL ops acc.length) rd up acc 0&&idle (eL ops acc.length) acc 0)) then
          kz b N ops d k c (acc++[⟨rd,up,st.h.length,nw⟩]) (some ([acc.length],u,{st.ca up nw with env:=J2 ops st.env})) (st.ca up nw) else none)
       (λa up nw=>
        bif e7 (aM st.h) up&&((keys up).all (λi=>eD i rd)&&(kC (eL ops acc.length) rd up acc 0&&(pn.isNone||J3 up nw))) then
         iw N o (st.ca up nw) a λe=>kz b N ops d k c (acc++[⟨rd,up,st.h.length,nw⟩]) pn e
        else none)
     else none)
    (λst=>iw N o st (.bG []) λe=>kz b N ops d k c (acc++[⟨[],[],st.h.length,[]⟩]) pn e)
def Fv (a:Nat->List (aE S)->AH S->(Rs S->AH S->Γ->Option R)->Option R) (c:List (aE S)->AS S->(Bool->AS S->Option R)->Option R) (N:Nat) (ops:Array Oper) (draw:Bool) (st:AS S) (b:Value->AS S->Option R) (k:AS S->Option R):Option R:=
 match draw with
 |false=>ph G a c N ops b (ξC ops.size) st k
 |true=>bif yj N ops then kz G a N ops b k ops.size [] none st else none
def dP:Code->Nat
 | .region id _ _=>id+1
 | .seq x y=>(match dP x with|0=>dP y|n=>n)
 | .block _ x=>dP x
 | .loop x=>dP x
 | .scope x=>dP x
 |_=>0
def ae8 (I:dw S) (body:Code) (st:AS S):AS S:=gc (I.L (2000001+dP body)) st
def R9 (I:dw S):Code->AS S->AS S
 | .loop x,st=>gc (I.L (dP x)) st
 |_,st=>st
def iP:Nat->List (aE S)->a8 S
 |_,[]=>[]
 |i,a::l=>(i,.s a)::iP (i+1) l
def rP:List (aE S)->AV S
 |[a]=>.s a
 |ajF=>.bG ajF
def j8 (K:bp S) (env:a8 S) (h:AH S):List ResultVar->Option (List (aE S))
 |[]=>some []
 | .tmp t::r=>(match a8.get env t with|some (.s a)=>(match j8 K env h r with|some ajF=>some (a::ajF)|none=>none)|_=>none)
 | .cell x t::r=>
  (match a8.get env x with
  |some (.s (.one (.bl b 0)))=>(match K.Θ.get t,aM h b with
   |some i,some (.box _ cs)=>bif ε (dX cs) i.size then
     (match jF (TI.gu i) cs with
     |some a=>(match j8 K env h r with|some ajF=>some (a::ajF)|none=>none)
     |none=>none)
    else none
   |_,_=>none)
  |_=>none)
def km:Γ->List (aE S)->Option (a8 S)
 |[],[]=>some []
 |p::ps,a::ajF=>(match km ps ajF with|some e=>some ((p,.s a)::e)|none=>none)
 |_,_=>none
def LV.ga:LV S->Bool
 | .c_=>false
 |_=>true
def kW:List (LV S)->Bool
 |[]=>true
 |l::r=>l.ga&&kW r
def l6:List (aE S)->Bool
 |[]=>true
 |a::r=>kW a.cells&&l6 r
def AV.ga:AV S->Bool
 | .s a=>kW a.cells
 | .bG ajF=>l6 ajF
def Ob.ga:Ob S->Bool
 | .box _ cs=>kW cs
 | .bA _ fs cs=>l6 fs&&l6 cs
 | .st .. =>false
 |_=>true
def nY:a8 S->Bool
 |[]=>true
 |(_,a)::r=>a.ga&&nY r
def h0:AH S->Bool
 |[]=>true
 |some X::r=>X.ga&&h0 r
 |none::r=>h0 r
def rE (fn:Func) (e:AX) (st:AS S) (k:Rs S->AS S->Option R):Option R:=
 match st.df with
 |[]=>(match e with
  | .exit _=>none
  | .bB u=>k (.bB u) st
  |_=>(match j8 G.K st.env st.h fn.results.toList with|some ajF=>k (.ret (rP ajF)) st|none=>none))
 |[.bA i]=>(match aM st.h i with
  |some (.bA g [] cs)=>(match qa G.D g with
   |some a=>
    let fin:Option Value->Up S->Option R:=λp up=>bif !(e7 (aM st.h) up) then none else(match p with
     |some u=>k (.bB u) {st.ca up [] with df:=[]}
     |none=>(match j8 G.K st.env (eG st.h up) fn.results.toList with|some ajF=>k (.ret (rP ajF)) {st.ca up [] with df:=[]}|none=>none))
    (match e with
    | .exit _=>none
    | .bB u=>a.out cs (some u) (aM st.h) fin
    |_=>a.out cs none (aM st.h) fin)
   |none=>none)
  |_=>none)
 |_=>none
def ri (r:Rs S) (st:AS S) (k:Rs S->AH S->Γ->Option R):Option R:=
 let b:=kept (aM st.h) st.nb (od (st.h.take st.nb)++(match r with| .ret a=>a.refs| .bB _=>[]))
 let h:=e4 (λi=>posOf i b 0) (gb (aM st.h) b)
 let dt:=st.dt.filter λi=>χ i st.nb
 match r with
 | .ret a=>(match a.cf (λi=>posOf i b 0) with|some a'=>k (.ret a') h dt|none=>none)
 | .bB u=>k (.bB u) h dt
def n' (N:Nat):Γ->Bool
 |[]=>true
 |p::r=>χ p N&&(!(eD p r)&&n' N r)
def j1:AH S->Bool
 |[]=>true
 |some X::r=>X.nt&&j1 r
 |none::r=>j1 r
def Kr (run:dw S->Code->AS S->(AX->AS S->Option R)->Option R) (ajF:List (aE S)) (st:AS S) (k:Bool->AS S->Option R):Option R:=
 match st.lp with
 |some a=>(match a.fm,km a.ps ajF with
  |none,some b=>bif n' a.J.fn.ntmps a.ps&&j1 st.h then
   run ⟨a.J,[]⟩ a.gG ⟨b++a.env,st.h,st.h.length,none,true,[],[]⟩ λe st1=>(match e,st1.inr with
   | .normal,true=>bif j1 st1.h then run ⟨a.J,[]⟩ a.body ⟨st1.env,st1.h,st1.h.length,none,true,[],[]⟩ λe st2=>(match e with
    | .normal=>k true {st with h:=st2.h,dt:=e9 st.nb st.dt (st1.dt++st2.dt)}
    | .bB _=>none
    | .ret=>k false {st with h:=st2.h,dt:=e9 st.nb st.dt (st1.dt++st2.dt),lp:=some {a with fm:=some .ret}}
    | .exit id=>k false {st with h:=st2.h,dt:=e9 st.nb st.dt (st1.dt++st2.dt),lp:=some {a with fm:=some (.exit id)}}) else none
   |_,_=>none) else none
  |_,_=>none)
 |none=>none
def ya (st a:AS S) (k:AX->AS S->Option R):Option R:=
 match a.df,a.lp with
 |[],some b=>bif h0 a.h then(match b.fm with
  |none=>k .normal {st with h:=a.h,dt:=e9 st.nb st.dt a.dt}
  |some .ret=>k .ret {st with h:=a.h,dt:=e9 st.nb st.dt a.dt}
  |some (.exit id)=>k (.exit id) {st with h:=a.h,dt:=e9 st.nb st.dt a.dt}
  |_=>none) else none
 |_,_=>none
def Jb (run:dw S->Code->AS S->(AX->AS S->Option R)->Option R) (I:dw S) (fo:Operand) (ps:Array Nat) (gG body:Code) (st:AS S) (k:AX->AS S->Option R):Option R:=
 match st.lp,st.inr with
 |none,false=>(match dm G.K st.env fo with
  |some (.s (.one (.bA i)))=>(match aM st.h i with
   |some (.bA g [] cs)=>(match G.T g with
    |some J=>(match J.fn.body,J.fn.results.toList with
     |some b,[]=>bif ξF (1+cs.length) J.fn.ntmps&&(nY st.env&&h0 st.h) then
       run J b ⟨iP 0 (.one .c_::cs),st.h,st.h.length,some ⟨I.tolq,ps.toList,gG,body,st.env,none⟩,false,[],[]⟩ λe a=>
        (match e with
        | .normal=>ya st a k
        | .ret=>ya st a k
        |_=>none)
      else none
     |_,_=>none)
    |none=>none)
   |_=>none)
  |_=>none)
 |_,_=>none
def FH (run:dw S->Code->AS S->(AX->AS S->Option R)->Option R) (f:Nat) (ajF:List (aE S)) (h:AH S) (k:Rs S->AH S->Γ->Option R):Option R:=
 match qb G.H f with
 |some a=>a.out ajF h k
 |none=>(match G.T f with
  |some J=>(match J.fn.body with
   |some c=>bif ξF ajF.length J.fn.ntmps then run J c ⟨iP 0 ajF,h,h.length,none,false,[],[]⟩ λe b=>rE G J.fn e b λr d=>ri r d k else none
   |none=>none)
  |none=>none)
def cn:Nat->dw S->Code->AS S->(AX->AS S->Option R)->Option R
 |0,_,_,_,_=>none
 |n+1,I,c,st,k=>
  let f:Nat->List (aE S)->AH S->(Rs S->AH S->Γ->Option R)->Option R:=FH G (cn n)
  let g:List (aE S)->AS S->(Bool->AS S->Option R)->Option R:=Kr (cn n)
  match c with
  | .skip=>k .normal st
  | .label _=>k .normal st
  | .scope x=>bif st.inr then none else cn n I x st k
  | .region _ ops draw=>Fv G f g I.fn.ntmps ops draw st (λu st=>k (.bB u) st) λst=>k .normal st
  | .seq x y=>cn n I x st λe st=>(match e with| .normal=>cn n I y st k|e=>k e st)
  | .cond o x y=>
   (match dm G.K st.env o with
   |some (.s (.one (.v (.bool b))))=>bif b then cn n I x st k else cn n I y st k
   |_=>none)
  | .block id x=>cn n I x (R9 I x st) λe st=>(match e with| .exit a=>bif ε a id then k .normal (gc (I.L (1000001+id)) st) else k (.exit a) st|e=>k e st)
  | .loop x=>(match gp I.lc (dP x) with
   |some lc=>lc.out st k
   |none=>cn n I x st λe d=>(match e with| .normal=>cn n I (.loop x) (gc (I.L (dP x)) d) k|e=>k e d))
  | .rangeFunc fo ps gG body=>Jb G (cn n) I fo ps gG body (ae8 I body st) k
  | .exit id=>k (.exit id) st
  | .ret=>k .ret (gc (I.L 1000000) st)
  |_=>none
def gE (n f:Nat) (ajF:List (aE S)) (h:AH S) (k:Rs S->AH S->Γ->Option R):Option R:=
 match G.T f with
 |some J=>(match J.fn.body with
  |some c=>bif ξF ajF.length J.fn.ntmps then cn G n J c ⟨iP 0 ajF,h,h.length,none,false,[],[]⟩ λe a=>rE G J.fn e a λr b=>ri r b k else none
  |none=>none)
 |none=>none
end
end
section
variable {S:bh} {A A':Pl} {O:Γ} {w:World} {ρ:Nat->Option Nat}
structure gk (ρ:Nat->Option Nat) (A A':Pl):Prop where
 pl: ∀i j p,ρ i=some j->A.pl i=some p->A'.pl j=some p
 ls:A'.ls=A.ls
theorem LV.h4 (h:gk ρ A A') {l l':LV S} {xs:Γb} (a:l.cf ρ=some l') (hl:l.rel A O w xs):l'.rel A' O w xs:=by
 cases l with
 |v u=>cases a;exact hl
 |aG t d=>cases a;exact hl
 |ptr t d q=>cases a;exact hl
 |bl i q=>simp only[LV.cf] at a;split at a<;>cases a;rename_i j p;obtain⟨m,g,o⟩:=hl;exact⟨m,h.pl _ _ _ p g,o⟩
 |fh i q n y=>simp only[LV.cf] at a;split at a<;>cases a;rename_i j p;obtain⟨m,g,o⟩:=hl;exact⟨m,h.pl _ _ _ p g,o⟩
 |own i=>simp only[LV.cf] at a;split at a<;>cases a;rename_i j p;obtain⟨m,g,o⟩:=hl;exact⟨m,h.pl _ _ _ p g,o⟩
 |eU e i y q=>simp only[LV.cf] at a;split at a<;>cases a;rename_i j p;obtain⟨b,n,c,g,o⟩:=hl;exact⟨b,n,c,h.pl _ _ _ p g,o⟩
 |fK i q n=>simp only[LV.cf] at a;split at a<;>cases a;rename_i j p;obtain⟨m,g,o⟩:=hl;exact⟨m,h.pl _ _ _ p g,o⟩
 |mp i=>simp only[LV.cf] at a;split at a<;>cases a;rename_i j p;obtain⟨m,g,o⟩:=hl;exact⟨m,h.pl _ _ _ p g,o⟩
 |bA i=>simp only[LV.cf] at a;split at a<;>cases a;rename_i j p;obtain⟨f,u,c,g,o⟩:=hl;exact⟨f,u,c,h.pl _ _ _ p g,o⟩
 |c_=>cases a;obtain⟨m,g,o⟩:=hl;exact⟨m,h.ls.trans g,o⟩
 |cW i=>simp only[LV.cf] at a;split at a<;>cases a;rename_i j p;obtain⟨m,g,o⟩:=hl;exact⟨m,h.pl _ _ _ p g,o⟩
 |sc i q=>simp only[LV.cf] at a;split at a<;>cases a;rename_i j p;obtain⟨m,bs,g,o⟩:=hl;exact⟨m,bs,h.pl _ _ _ p g,o⟩
 |br k n gs=>cases a;exact hl
 |c7 n bs=>cases a;exact hl
theorem Jz (h:gk ρ A A'): ∀ {ls b:List (LV S)} {xs:Γb},k8 ρ ls=some b->bz A O w ls xs->bz A' O w b xs
 |[],_,_,a,hl=>by cases a;exact hl
 |l::r,_,_,a,⟨y,ys,e,c,d⟩=>by
  simp only[k8] at a;split at a
  .rename_i x f;split at a
   .rename_i z g;cases a;exact⟨y,ys,e,LV.h4 h f c,Jz h g d⟩
   .cases a
  .cases a
theorem aE.h4 (h:gk ρ A A') {a a':aE S} {x:Value} (b:a.cf ρ=some a') (hl:a.rel A O w x):a'.rel A' O w x:=by
 cases a with
 |one l=>
  simp only[aE.cf] at b;split at b<;>cases b;rename_i y c;exact LV.h4 h c hl
 |agg ls=>
  simp only[aE.cf] at b;split at b<;>cases b;rename_i y c;obtain⟨xs,d,e⟩:=hl;exact⟨xs,d,Jz h c e⟩
theorem rA (h:gk ρ A A'): ∀ {ls b:List (aE S)} {xs:Γb},mj ρ ls=some b->cG A O w ls xs->cG A' O w b xs
 |[],_,_,a,hl=>by cases a;exact hl
 |l::r,_,_,a,⟨y,ys,e,c,d⟩=>by
  simp only[mj] at a;split at a
  .rename_i x f;split at a
   .rename_i z g;cases a;exact⟨y,ys,e,aE.h4 h f c,rA h g d⟩
   .cases a
  .cases a
theorem AV.h4 (h:gk ρ A A') {a a':AV S} {x:Value} (b:a.cf ρ=some a') (hl:a.rel A O w x):a'.rel A' O w x:=by
 cases a with
 |s l=>
  simp only[AV.cf] at b;split at b<;>cases b;rename_i y c;exact aE.h4 h c hl
 |bG ls=>
  simp only[AV.cf] at b;split at b<;>cases b;rename_i y c;obtain⟨xs,d,e⟩:=hl;exact⟨xs,d,rA h c e⟩
theorem Ob.h4 (h:gk ρ A A') {X j:Ob S} {p:Value} (a:X.cf ρ=some j) (hl:dD A O w X p):dD A' O w j p:=by
 cases X with
 |box t cs=>
  simp only[Ob.cf] at a;split at a<;>cases a;rename_i y i;obtain⟨b,vs,c,d,g⟩:=hl;exact⟨b,vs,c,d,Jz h i g⟩
 |row e xs=>cases a;exact hl
 |map l n m=>cases a;exact hl
 |bA f fs cs=>
  simp only[Ob.cf] at a;split at a<;>cases a;rename_i y o i k;obtain⟨us,vs,c,d,g⟩:=hl;exact⟨us,vs,c,rA h i d,rA h k g⟩
 |cW s pos=>cases a;exact hl
 |st t x=>cases a;exact hl
theorem Ob.mn {X c:Ob S} {w:World} {p:Value} {b:Nat} (a:X.cf ρ=some c) (h:cI w c p b):cI w X p b:=by
 refine h.imp id λhi=>?_;cases X with
 |st t x=>cases a;exact hi
 |box t cs=>simp only[Ob.cf] at a;split at a<;>cases a;cases hi
 |bA f fs cs=>simp only[Ob.cf] at a;split at a<;>cases a;cases hi
 |row e xs=>cases a;cases hi
 |map d g m=>cases a;cases hi
 |cW s pos=>cases a;cases hi
theorem Ob.yl {X b:Ob S} (a:X.cf ρ=some b):b.nt=X.nt:=by
 cases X with
 |box t cs=>simp only[Ob.cf] at a;split at a<;>cases a;rfl
 |bA f fs cs=>simp only[Ob.cf] at a;split at a<;>cases a;rfl
 |_=>cases a;rfl
theorem Rw {g:Nat->Option (Ob S)} {i:Nat} {X:Ob S} (h:n3 g i=some X):g i=some X/\X.nt=true:=by
 unfold n3 at h;split at h
 .rename_i Y a;cases hn:Y.nt<;>rw[hn] at h
  .cases h
  .cases h;exact⟨a,hn⟩
 .cases h
theorem get_mem {l:a8 S} {s:Nat} {a:AV S}:a8.get l s=some a->(s,a)∈l:=by
 induction l with
 |nil=>intro h;cases h
 |cons p l d=>
  intro h;obtain⟨t,b⟩:=p;simp only[a8.get] at h;cases c:ε t s with
  |true=>
   rw[c] at h;simp only[cond_true,ι] at h;have:=δ c;subst this;subst h;exact μ
  |false=>rw[c] at h;exact κ _ (d h)
theorem xF {env:a8 S} {s:Nat} {a:AV S}: ∀ {l:Γ},(s,a)∈e2 env l->s∈l/\a8.get env s=some a
 |[],h=>by cases h
 |t::r,h=>by
  simp only[e2] at h;split at h
  .rename_i b f;rcases ψ.1 h with e|h
   .cases e;exact⟨μ,f⟩
   .obtain⟨c,d⟩:=xF h;exact⟨κ _ c,d⟩
  .obtain⟨c,d⟩:=xF h;exact⟨κ _ c,d⟩
theorem Jx {s:Nat} {a':AV S}: ∀ {l:a8 S},(s,a')∈og ρ l-> ∃a,(s,a)∈l/\a.cf ρ=some a'
 |[],h=>by cases h
 |(t,b)::r,h=>by
  simp only[og] at h;split at h
  .rename_i x f;rcases ψ.1 h with e|h
   .cases e;exact⟨b,μ,f⟩
   .obtain⟨a,c,d⟩:=Jx h;exact⟨a,κ _ c,d⟩
  .obtain⟨a,c,d⟩:=Jx h;exact⟨a,κ _ c,d⟩
theorem ag' (h:gk ρ A A') {a:Act} {env:a8 S} {sl:Γ} (he:cM A O w env a):cM A' O w (og ρ (e2 env sl)) a:=λs f e=>by
 obtain⟨b,c,d⟩:=Jx (get_mem e);exact AV.h4 h d (he s b (xF c).2)
theorem bS.cf {g k:Nat->Option (Ob S)} {idx:Nat->Option Nat} (h:bS A O w g) (m: ∀j,A'.pl j=(idx j).bind A.pl) (B:A'.ls=A.ls) (inj: ∀i j f,idx j=some i->idx f=some i->j=f) (E: ∀i j,ρ i=some j->idx j=some i)
  (o: ∀j a,k j=some a-> ∃i X,idx j=some i/\g i=some X/\X.cf ρ=some a):bS A' O w k:=by
 have hR:gk ρ A A':=⟨λi j p hi hp=>by rw[m,E i j hi];exact hp,B⟩;have back: ∀j a p,k j=some a->A'.pl j=some p-> ∃i X,idx j=some i/\g i=some X/\A.pl i=some p/\X.cf ρ=some a:=by
  intro j a p n hp;obtain⟨i,X,c,d,l⟩:=o j a n;rw[m,c] at hp;exact⟨i,X,c,d,hp,l⟩
 constructor
 .intro j a n;obtain⟨i,X,c,d,l⟩:=o j a n;obtain⟨p,G,H,I⟩:=h.al i X d;exact⟨p,by rw[m,c];exact G,Ob.h4 hR l H,I⟩
 .intro j f X Y p q b C c d hp D;obtain⟨i,a,s,a2,a3,a4⟩:=back j X p c hp;obtain⟨F,r,t,x,y,z⟩:=back f Y q d D;exact λu v=>h.fW i F a r p q b (λe=>C (by subst e;exact inj i j f s t)) a2 x a3 y (Ob.mn a4 u) (Ob.mn z v)
theorem hv {i:Nat}: ∀ {l:Γ},eD i l=true↔i∈l
 |[]=>by simp[eD]
 |j::r=>by
  simp only[eD,ψ];cases a:ε i j with
  |true=>have:=δ a;simp[this]
  |false=>
   have b:i≠j:=λe=>by subst e;simp at a
   simp[b,hv]
theorem R8 {i j:Nat}: ∀ {l:Γ} {n:Nat},posOf i l n=some j->n<=j/\l[j-n]? =some i
 |[],n,h=>by cases h
 |t::r,n,h=>by
  simp only[posOf] at h;cases a:ε i t with
  |true=>
   rw[a] at h;have:=δ a;simp only[cond_true,ι] at h;subst h;subst this;simp
  |false=>
   rw[a] at h;obtain⟨c,b⟩:=R8 (n:=n+1) h;refine⟨by omega,?_⟩;rw[show j-n=(j-(n+1))+1 by omega];simpa using b
theorem n_ {i j:Nat} {l:Γ} (h:posOf i l 0=some j):l[j]? =some i:=by simpa using(R8 h).2
structure Reach (g:Nat->Option (Ob S)) (nb:Nat) (l:Γ):Prop where
 nd:l.Nodup
 ge: ∀i∈l,nb<=i
 al: ∀i∈l,∃X,g i=some X
theorem mh {g:Nat->Option (Ob S)} {nb:Nat}: ∀ {n:Nat} {t seen:Γ},Reach g nb seen->Reach g nb (reach g nb n t seen)
 |0,t,seen,h=>h
 |n+1,[],seen,h=>h
 |n+1,i::t,seen,h=>by
  simp only[reach];cases f:χ i nb with
  |true=>exact mh h
  |false=>
   simp only[cond_false];cases hm:eD i seen with
   |true=>exact mh h
   |false=>
    simp only[cond_false];split
    .rename_i X hX;have p:i∉seen:=λo=>by rw[hv.2 o] at hm;cases hm
     have m:nb<=i:=by
      rcases ξ2 i nb with d|d
      .rw[ξ.mpr d] at f;cases f
      .exact d
     refine mh ⟨?_,?_,?_⟩
     .rw[ζo];exact⟨h.nd,by simp,λa l b k=>by simp at k;subst k;exact λe=>p (e▸l)⟩
     .intro j c;rcases ξ5.1 c with c|c
      .exact h.ge j c
      .simp at c;subst c;exact m
     .intro j c;rcases ξ5.1 c with c|c
      .exact h.al j c
      .simp at c;subst c;exact⟨X,hX⟩
    .exact mh h
theorem Jt {g:Nat->Option (Ob S)} {nb:Nat}:Reach g nb []:=⟨List.nodup_nil,(λi h=>nomatch h),(λi h=>nomatch h)⟩
theorem xQ {l:Γ} (h:l.Nodup) {i j a:Nat} (e:l[j]? =some i) (f:l[a]? =some i):j=a:=by
 obtain⟨b,a2⟩:=ζ.1 e;obtain⟨c,d⟩:=ζ.1 f;have hp:=List.pairwise_iff_getElem.1 h;rcases ξf j a with k|he|g
 .exact absurd (a2.trans d.symm) (hp j a b c k)
 .exact he
 .exact absurd (d.trans a2.symm) (hp a j c b g)
theorem Pb {g:Nat->Option (Ob S)} {nb:Nat} {roots:Γ}:(kept g nb roots).Nodup:=by
 have:=mh (g:=g) (nb:=nb) (n:=1000) (t:=roots) Jt;unfold kept;rw[ζo];exact⟨List.nodup_range,this.nd,λa c b d e=>by have:=this.ge b d;simp at c;omega⟩
theorem Pa {g:Nat->Option (Ob S)} {nb i:Nat} {roots:Γ} (h:i<nb):(kept g nb roots)[i]? =some i:=by
 unfold kept;rw[ξ0 (by simpa using h)];simp[h]
theorem O9 {g:Nat->Option (Ob S)} {nb i j:Nat} {roots:Γ} (h:nb<=j) (a:(kept g nb roots)[j]? =some i):nb<=i:=by
 unfold kept at a;rw[ξd (by simpa using h)] at a;exact(mh (g:=g) (nb:=nb) (n:=1000) (t:=roots) Jt).ge i (ζe a)
theorem O_ {g:Nat->Option (Ob S)} {nb:Nat} {roots:Γ}:nb<=(kept g nb roots).length:=by unfold kept;simp
theorem R7 {g:Nat->Option (Ob S)}: ∀ {l:Γ} {j:Nat},(gb g l)[j]? =(l[j]?).map g
 |[],j=>by simp[gb]
 |i::r,0=>by simp[gb]
 |i::r,j+1=>by simp[gb,R7]
theorem Jy: ∀ {h:AH S} {j:Nat},(e4 ρ h)[j]? =(h[j]?).map (mm ρ)
 |[],j=>by simp[e4]
 |i::r,0=>by simp[e4]
 |i::r,j+1=>by simp[e4,Jy]
theorem ml: ∀ {h:AH S},(e4 ρ h).length=h.length
 |[]=>rfl
 |i::r=>by simp[e4,ml]
theorem n8 {g:Nat->Option (Ob S)}: ∀ {l:Γ},(gb g l).length=l.length
 |[]=>rfl
 |i::r=>by simp[gb,n8]
theorem ji {h:AH S} {i:Nat} {X:Ob S}:aM h i=some X↔h[i]? =some (some X):=by
 unfold aM;split
 .rename_i Y a;rw[a];simp
 .rename_i hn;constructor
  .intro h;cases h
  .intro h;exact absurd h (hn X)
theorem rB {X:Option (Ob S)} {a:Ob S} (h:mm ρ X=some a): ∃Y,X=some Y/\Y.cf ρ=some a:=by
 cases X with
 |none=>cases h
 |some Y=>exact⟨Y,rfl,h⟩
theorem j4 {g:Nat->Option (Ob S)} {l:Γ} {j:Nat} {a:Ob S} (h:aM (e4 ρ (gb g l)) j=some a): ∃i X,l[j]? =some i/\g i=some X/\X.cf ρ=some a:=by
 rw[ji,Jy,R7] at h;cases hl:l[j]? with
 |none=>rw[hl] at h;cases h
 |some i=>
  rw[hl] at h;simp only[ξy,ι] at h;obtain⟨Y,b,c⟩:=rB h;exact⟨i,Y,rfl,b,c⟩
theorem fk {h:AH S} {i:Nat} {X:Ob S} (hi:aM h i=some X):i<h.length:=(ζ.1 (ji.1 hi)).1
end
section
variable {S:bh} {K:bp S} {P:Program} {R:Type} {z:R}
def et (P:Program) (f:Nat):Prop:= ∀(vs:Array Value) (u:World),(callFunc f vs).run P u= .ok (.enter f vs) u
def ic (A:Pl) (O:Γ) (w:World):Rs S->Ending->Prop
 | .ret a,e=> ∃v,e= .returned v/\a.rel A O w v
 | .bB u,e=>e= .panicked [{v:=u,recovered:=false}]
structure zi (A:Pl) (O:Γ) (w:World) (n:Nat) (h':AH S) (dt:Γ) (A':Pl) (O':Γ) (w':World):Prop where
 rel:bS A' O' w' (aM h')
 ob:OB O' w'
 tr:Tr O w O' w'
 pl: ∀i,i<n->A'.pl i=A.pl i
 lt: ∀j∈dt,j<n
 ls:A'.ls=A.ls
 len:n<=h'.length
 free: ∀i,h'.length<=i->A'.pl i=none
 cl: ∀b,b∈O->(∀i∈dt,∀p,A.pl i=some p->b2 p≠some b)->w'.heap[b]? =w.heap[b]? /\b∈O'/\ ∀i X p,n<=i->aM h' i=some X->A'.pl i=some p-> ¬cI w' X p b
 nt: ∀i X,i<n->aM h' i=some X->X.nt=true
def eu (K:bp S) (P:Program) (f:Nat) (ajF:List (aE S)) (h:AH S) (r:Rs S) (h':AH S) (dt:Γ):Prop:=et P f/\ ∀(A:Pl) (O:Γ) (w:World) (xs:Γb),cG A O w ajF xs->bS A O w (aM h)->OB O w->cB K O w->(∀i,h.length<=i->A.pl i=none)->(∀i X,aM h i=some X->X.nt=true)->Calls P f xs.toArray w (λe w'=> ∃A' O',ic A' O' w' r e/\zi A O w h.length h' dt A' O' w')
def kn (K:bp S) (P:Program) (a:Nat->List (aE S)->AH S->(Rs S->AH S->Γ->Option R)->Option R):Prop:= ∀(f:Nat) (ajF:List (aE S)) (h:AH S) (k:Rs S->AH S->Γ->Option R) (z:R),a f ajF h k=some z-> ∃r h' dt,k r h' dt=some z/\eu K P f ajF h r h' dt
def yZ (K:bp S) (P:Program) (f:Nat) (ajF:List (aE S)) (g:Nat->Option (Ob S)) (nx:Nat) (r:Rs S) (up:Up S) (nw:AH S):Prop:=et P f/\ ∀(A:Pl) (O:Γ) (w:World) (xs:Γb),cG A O w ajF xs->bS A O w g->OB O w->cB K O w->(∀j,j<nw.length->A.pl (nx+j)=none)->Calls P f xs.toArray w (λe w'=> ∃A' O',ic A' O' w' r e/\b_ A O w g (up++news nx nw) A' O' w')
def j_ (b:Value->Up S->AH S->Option R) (k:AV S->Up S->AH S->Option R):Rs S->Up S->AH S->Option R
 | .ret a,up,nw=>k a up nw
 | .bB u,up,nw=>bif u.oneCell' then b u up nw else none
theorem jh {i n:Nat} {X:Option (Ob S)}: ∀ {nw:AH S},(i,X)∈news n nw↔ ∃j,nw[j]? =some X/\i=n+j:=by
 intro nw
 induction nw generalizing n with
 |nil=>simp[news]
 |cons Y r b=>
  simp only[news,ψ,ξn,b];constructor
  .rintro (⟨rfl,rfl⟩|⟨j,a,rfl⟩)
   .exact⟨0,rfl,rfl⟩
   .exact⟨j+1,by simpa using a,by omega⟩
  .rintro ⟨j,a,rfl⟩;cases j with
   |zero=>simp at a;exact .inl ⟨rfl,a.symm⟩
   |succ j=>exact .inr ⟨j,by simpa using a,by omega⟩
theorem J4 {rs:Γ} {ρ:Nat->Option Nat} {h:AH S} {i:Nat} {X:Option (Ob S)}: ∀ {dt:Γ},(i,X)∈kh rs ρ h dt↔ ∃j∈dt,rs[j]? =some i/\X=mm ρ (aM h j):=by
 intro dt
 induction dt with
 |nil=>simp[kh]
 |cons j r d=>
  simp only[kh];split
  .rename_i f e;simp only[ψ,ξn,d,exists_eq_or_imp,e,ι];constructor
   .rintro (⟨rfl,rfl⟩|h)
    .exact .inl ⟨rfl,rfl⟩
    .exact .inr h
   .rintro (⟨rfl,rfl⟩|h)
    .exact .inl ⟨rfl,rfl⟩
    .exact .inr h
  .rename_i hn;rw[d];constructor
   .rintro ⟨c,a,b⟩;exact⟨c,κ _ a,b⟩
   .rintro ⟨c,a,b⟩;rcases ψ.1 a with rfl|a
    .rw[hn] at b;cases b.1
    .exact⟨c,a,b⟩
theorem aha {ρ:Nat->Option Nat} {h:AH S} {m j:Nat} {X:Option (Ob S)} (a:(e4 ρ (h.drop m))[j]? =some X):m+j<h.length/\X=mm ρ (aM h (m+j)):=by
 rw[Jy,ζk] at a;cases b:h[m+j]? with
 |none=>rw[b] at a;cases a
 |some Y=>
  rw[b] at a;simp only[ξy,ι] at a;refine⟨(ζ.1 b).1,?_⟩;subst a;unfold aM;rw[b];cases Y<;>rfl
theorem Nn {an:Nat->List (aE S)->AH S->(Rs S->AH S->Γ->Option R)->Option R} (aO:kn K P an) {f nx:Nat} {ajF:List (aE S)} {g:Nat->Option (Ob S)} {ah:Value->Up S->AH S->Option R} {k:AV S->Up S->AH S->Option R}
  (h:ve an f ajF g nx ah k=some z): ∃r up nw,j_ ah k r up nw=some z/\yZ K P f ajF g nx r up nw:=by
 unfold ve at h;obtain⟨rs,ax⟩: ∃rs,rs=reach g 0 1000 (j7 ajF) []:=⟨_,rfl⟩;have hR:Reach g 0 rs:=by rw[ax];exact mh Jt
 simp only[<-ax] at h;split at h
 .cases h
 rename_i bb has;obtain⟨r,h',dt,I,aP,aH⟩:=aO _ _ _ _ _ h;obtain⟨B,ad⟩: ∃B:Nat->Option Nat,B=λj=>bif χ j rs.length then rs[j]? else some (nx+(j-rs.length)):=⟨_,rfl⟩;simp only[<-ad] at I;obtain⟨ae,aT,a7⟩: ∃ae,j_ ah k ae (kh rs B h' dt) (e4 B (h'.drop rs.length))=some z/\(∀(A1 A':Pl) (O':Γ) (w':World) (e:Ending),gk B A1 A'->ic A1 O' w' r e->ic A' O' w' ae e):=by
  cases r with
  |ret a=>
   simp only at I;split at I
   .rename_i a' aK;exact⟨.ret a',I,λA1 A' O' w' e hR ⟨v,d,l⟩=>⟨v,d,AV.h4 hR aK l⟩⟩
   .cases I
  |bB u=>exact⟨.bB u,I,λA1 A' O' w' e hR h=>h⟩
 refine⟨ae,_,_,aT,aP,λA O w xs aJ af aF aD Q=>?_⟩;obtain⟨M,E⟩: ∃M:Pl,M=⟨λj=>(rs[j]?).bind A.pl,A.ls⟩:=⟨_,rfl⟩;have aG:gk (λi=>posOf i rs 0) A M:=⟨λi j p hi hp=>by
  have:=n_ hi;rw[E];simp only[this,ξ8];exact hp,by rw[E]⟩
 have hlen:(e4 (λi=>posOf i rs 0) (gb (n3 g) rs)).length=rs.length:=by rw[ml,n8]
 have aW: ∀j aa,aM (e4 (λi=>posOf i rs 0) (gb (n3 g) rs)) j=some aa->aa.nt=true:=λj aa F=>by
  obtain⟨i,X,_,l,o⟩:=j4 F;rw[Ob.yl o];exact(Rw l).2
 have aR:bS M O w (aM (e4 (λi=>posOf i rs 0) (gb (n3 g) rs))):=
  af.cf (idx:=λj=>rs[j]?) (ρ:=λi=>posOf i rs 0) (λj=>by rw[E]) (by rw[E]) (λi j bf d l=>xQ hR.nd d l) (λi j hi=>n_ hi) (λj aa F=>by
   obtain⟨i,X,d,l,o⟩:=j4 F;exact⟨i,X,d,(Rw l).1,o⟩)
 refine(aH M O w xs (rA aG has aJ) aR aF aD (λi hi=>by rw[hlen] at hi;rw[E];simp[ξh hi]) aW).mono ?_;rintro e w' ⟨A1,O1,a6,hp⟩;rw[hlen] at hp;obtain⟨nw,ag⟩: ∃nw,nw=e4 B (h'.drop rs.length):=⟨_,rfl⟩;rw[<-ag] at Q ⊢;have bd:nw.length=h'.length-rs.length:=by rw[ag,ml,ξp]
 obtain⟨A',T⟩: ∃A':Pl,A'=⟨λi=>match A.pl i with|some p=>some p|none=>bif ξF nx i&&χ i (nx+nw.length) then A1.pl (rs.length+(i-nx)) else none,A.ls⟩:=⟨_,rfl⟩;have hold: ∀i p,A.pl i=some p->A'.pl i=some p:=λi p hp=>by rw[T];simp[hp]
 have aC: ∀j,j<rs.length->A1.pl j=(rs[j]?).bind A.pl:=λj F=>by rw[hp.pl j F,E]
 have aV: ∀c p,rs.length<=c->A1.pl c=some p->A'.pl (nx+(c-rs.length))=some p:=by
  intro c p x C;have J:c<h'.length:=by
   rcases ξ2 c h'.length with d|d
   .exact d
   .rw[hp.free c d] at C;cases C
  have aQ:=Q (c-rs.length) (by omega);rw[T];simp only[aQ];rw[ζF.mpr (ξG _ _),ξ.mpr (show nx+(c-rs.length)<nx+nw.length by omega)];simp only[Bool.and_self,cond_true];rw[show rs.length+(nx+(c-rs.length)-nx)=c by omega];exact C
 have U:gk B A1 A':=⟨λc i p x C=>by
  rw[ad] at x;simp only at x;cases m:χ c rs.length with
  |true=>
   rw[m] at x;simp only[cond_true] at x;rw[aC c (ξ.mp m),x] at C;exact hold i p C
  |false=>
   rw[m] at x;simp only[cond_false,ι] at x;subst x;refine aV c p ?_ C;rcases ξ2 c rs.length with d|d
   .rw[ξ.mpr d] at m;cases m
   .exact d,by rw[T];rw[hp.ls,E]⟩
 have L: ∀i X,(i,X)∈kh rs B h' dt++news nx nw-> ∃c,B c=some i/\X=mm B (aM h' c)/\((c<rs.length/\c∈dt/\rs[c]? =some i)\/(rs.length<=c/\i=nx+(c-rs.length)/\c-rs.length<nw.length)):=by
  intro i X hi;rcases ξ5.1 hi with hi|hi
  .obtain⟨c,d,l,o⟩:=J4.1 hi;have J:=(ζ.1 l).1;exact⟨c,by rw[ad];simp only[ξ.mpr J,cond_true];exact l,o,.inl ⟨J,d,l⟩⟩
  .obtain⟨j,d,rfl⟩:=jh.1 hi;have bc:=(ζ.1 d).1;rw[ag] at d;obtain⟨l,o⟩:=aha d;refine⟨rs.length+j,?_,o,.inr ⟨by omega,by omega,by omega⟩⟩;rw[ad];have:χ (rs.length+j) rs.length=false:=by
    cases m:χ (rs.length+j) rs.length with
    |false=>rfl
    |true=>have:=ξ.mp m;omega
   simp only[this,cond_false]
   congr 1;omega
 have live: ∀c i:Nat,rs[c]? =some i-> ∃Z p,g i=some Z/\A.pl i=some p:=by
  intro c i x;obtain⟨Z,H⟩:=hR.al i (ζe x);obtain⟨p,hp,_⟩:=af.al i Z H;exact⟨Z,p,H,hp⟩
 have inj: ∀c n i:Nat,B c=some i->B n=some i->((c<rs.length/\rs[c]? =some i)\/(rs.length<=c/\i=nx+(c-rs.length)/\c-rs.length<nw.length))->((n<rs.length/\rs[n]? =some i)\/(rs.length<=n/\i=nx+(n-rs.length)/\n-rs.length<nw.length))->c=n:=by
  rintro c n i _ _ (⟨d,l⟩|⟨d,l,o⟩) (⟨s,t⟩|⟨s,t,y⟩)
  .exact xQ hR.nd l t
  .obtain⟨Z,p,_,hp⟩:=live c i l;rw[t,Q _ y] at hp;cases hp
  .obtain⟨Z,p,_,hp⟩:=live n i t;rw[l,Q _ o] at hp;cases hp
  .omega
 have src: ∀ {c i:Nat},((c<rs.length/\c∈dt/\rs[c]? =some i)\/(rs.length<=c/\i=nx+(c-rs.length)/\c-rs.length<nw.length))->((c<rs.length/\rs[c]? =some i)\/(rs.length<=c/\i=nx+(c-rs.length)/\c-rs.length<nw.length)):=
  λh=>h.imp (λ⟨a,_,b⟩=>⟨a,b⟩) id
 refine⟨A',O1,a7 A1 A' O1 w' e U a6,⟨⟨hold,by rw[T]⟩,hp.tr,hp.ob,?_,?_,?_,?_,?_,?_,?_⟩⟩
 .intro b m I;obtain⟨G,ai,_⟩:=hp.cl b m λc x p C=>by
   have J:=hp.lt c x;rw[E] at C;obtain⟨i,hi,ab⟩:=ξW.1 C;obtain⟨Z,_,H,_⟩:=live c i hi;exact λe=>I i _ p (υ _ (J4.2 ⟨c,x,hi,rfl⟩)) ab Z H (.inl e)
  exact⟨G,ai⟩
 .intro i X hi;obtain⟨c,d,l,o⟩:=L i _ hi;obtain⟨Y,D,N⟩:=rB l.symm;obtain⟨p,G,ai,bg⟩:=hp.rel.al c Y D;refine⟨p,U.pl c i p d G,Ob.h4 U N ai,λb m=>?_⟩;have m:=Ob.mn N m;have ar:=hp.rel.hU D G m;refine⟨ar,?_⟩;rcases ξ2 b w.heap.size with J|aS
  rotate_left
  .exact .inl aS
  right;have aL:b∈O:=by
   rcases Decidable.em (b∈O) with h|h
   .exact h
   .exact absurd ar (hp.tr.keep b J h).1
  rcases Classical.em (∀i∈dt,∀p,M.pl i=some p->b2 p≠some b) with W|W
  .obtain⟨_,_,aB⟩:=hp.cl b aL W;rcases o with⟨s,t,y⟩|⟨s,t,y⟩
   .exact absurd (fZ (hp.nt c Y s D) m) (W c t p (by rw[<-hp.pl c s];exact G))
   .exact absurd m (aB c Y p s D G)
  .simp only[Classical.not_forall,Decidable.not_not] at W;obtain⟨n,aN,q,aw,a1⟩:=W;rw[E] at aw;obtain⟨ay,au,aY⟩:=ξW.1 aw;obtain⟨V,_,aI,_⟩:=live n ay au;exact⟨ay,_,q,V,υ _ (J4.2 ⟨n,aN,au,rfl⟩),aI,aY,.inl a1⟩
 .intro i j X Y p q b aU hi F aX aZ;obtain⟨c,d,l,o⟩:=L i _ hi;obtain⟨n,s,t,y⟩:=L j _ F;obtain⟨aj,D,N⟩:=rB l.symm;obtain⟨ak,az,a8⟩:=rB t.symm;obtain⟨a_,G,_⟩:=hp.rel.al c aj D;obtain⟨ba,aA,_⟩:=hp.rel.al n ak az;have ao:=U.pl c i a_ d G;have aq:=U.pl n j ba s aA;rw[aX] at ao;rw[aZ] at aq;cases ao;cases aq;exact λu v=>hp.rel.fW c n aj ak p q b (λe=>aU (by subst e;rw[d] at s;exact ξs s)) D az G aA (Ob.mn N u) (Ob.mn a8 v)
 .intro i X Y hi F;obtain⟨c,d,l,o⟩:=L i _ hi;obtain⟨n,s,t,y⟩:=L i _ F;have:=inj c n i d s (src o) (src y);subst this;rw[l,t]
 .intro i X p hi ab;obtain⟨c,d,l,o⟩:=L i _ hi;rcases o with⟨s,t,y⟩|⟨s,t,y⟩
  .obtain⟨Z,_,H,_⟩:=live c i y;exact⟨Z,H⟩
  .rw[t,Q _ y] at ab;cases ab
 .intro i;rw[T];cases hi:A.pl i with
  |some p=>left;simp[hi]
  |none=>
   simp only[hi];cases m:(ξF nx i&&χ i (nx+nw.length)) with
   |false=>left;rfl
   |true=>
    simp only[η] at m;have d:=ξa m.1;have l:=ξ.mp m.2;have J:i-nx<nw.length:=by omega
    exact .inr ⟨trivial,nw[i-nx],ω _ (jh.2 ⟨i-nx,ο J,by omega⟩)⟩
 .intro i X Z hi H hn;obtain⟨c,d,l,o⟩:=L i _ hi;obtain⟨Y,D,N⟩:=rB l.symm;rw[Ob.yl N];rcases o with⟨s,t,y⟩|⟨s,t,y⟩
  .exact hp.nt c Y s D
  .obtain⟨p,av,_⟩:=af.al i Z H;rw[t,Q _ y] at av;cases av
def d_ (K:bp S) (P:Program) (f:Nat) (ajF:List (aE S)) (r:Rs S):Prop:=et P f/\ ∀(A:Pl) (O:Γ) (w:World) (xs:Γb),cG A O w ajF xs->OB O w->cB K O w->Calls P f xs.toArray w (λe w'=>ic A O w' r e/\Fr [] w w')
theorem LV.lT {A A':Pl} {O O':Γ} {w w':World} {l:LV S} {xs:Γb} (a:l.flat=true) (h:l.rel A O w xs):l.rel A' O' w' xs:=by
 cases l<;>first|exact h|cases a
theorem Oi {A A':Pl} {O O':Γ} {w w':World}: ∀ {ls:List (LV S)} {xs:Γb},ls.all LV.flat=true->bz A O w ls xs->bz A' O' w' ls xs
 |[],_,_,h=>h
 |l::ls,_,hp,⟨y,ys,h,a,b⟩=>by
  simp only[ξA,η] at hp;exact⟨y,ys,h,LV.lT hp.1 a,Oi hp.2 b⟩
theorem aE.lT {A A':Pl} {O O':Γ} {w w':World} {a:aE S} {x:Value} (b:a.flat=true) (h:a.rel A O w x):a.rel A' O' w' x:=by
 cases a with
 |one l=>exact LV.lT b h
 |agg ls=>obtain⟨xs,c,d⟩:=h;exact⟨xs,c,Oi b d⟩
theorem Oh {A A':Pl} {O O':Γ} {w w':World}: ∀ {ls:List (aE S)} {xs:Γb},ls.all aE.flat=true->cG A O w ls xs->cG A' O' w' ls xs
 |[],_,_,h=>h
 |l::ls,_,hp,⟨y,ys,h,a,b⟩=>by
  simp only[ξA,η] at hp;exact⟨y,ys,h,aE.lT hp.1 a,Oh hp.2 b⟩
theorem AV.lT {A A':Pl} {O O':Γ} {w w':World} {a:AV S} {x:Value} (b:a.flat=true) (h:a.rel A O w x):a.rel A' O' w' x:=by
 cases a with
 |s l=>exact aE.lT b h
 |bG ls=>obtain⟨xs,c,d⟩:=h;exact⟨xs,c,Oh b d⟩
theorem abJ {A:Pl} {O:Γ} {w w':World} {g:Nat->Option (Ob S)} {rs:Γ} (d:OB O w) (hl: ∀r∈rs,∃Z,g r=some Z) (a:Fr [] w w'):b_ A O w g (gO rs) A (ej A rs O) w' where
 le:=Pl.le.refl A
 tr:=(Tr.less fM).trans a.eo
 ob:=a.ob λb o=>d b (fM b o)
 keep c f h:=⟨a.block c (d c f) (by simp),je.2 ⟨f,λr k p hp e=>let⟨Z,n⟩:=hl r k;h r none p (dz.2 ⟨k,rfl⟩) hp Z n (.inl e)⟩⟩
 al i Y h:=by have:=(dz.1 h).2;cases this
 dj i j Y Z q r c _ h:=by have:=(dz.1 h).2;cases this
 nd i Y Z l m:=(dz.1 l).2.trans (dz.1 m).2.symm
 lv i Y q h _:=hl i (dz.1 h).1
 pl _:=.inl rfl
 nt i X Z h _ _:=by have:=(dz.1 h).2;cases this
theorem nn {A:Pl} {O:Γ} {w w':World} {g:Nat->Option (Ob S)} (c:OB O w) (a:Fr [] w w'):b_ A O w g [] A O w':=
 ⟨Pl.le.refl A,a.eo,a.ob c,λb d _=>⟨a.block b (c b d) (by simp),d⟩,(λ_ _ h=>nomatch h),(λ_ _ _ _ _ _ _ _ h=>nomatch h),(λ_ _ _ h=>nomatch h),(λ_ _ _ h=>nomatch h),(λ_=>.inl rfl),(λ_ _ _ h=>nomatch h)⟩
theorem Hd {f:Nat} {ajF:List (aE S)} {c:gD S}: ∀ {l:List (gD S)},we l f ajF=some c->c∈l/\c.f=f
 |[],h=>by cases h
 |d::r,h=>by
  simp only[we] at h;cases a:(ε d.f f&&d.on ajF)<;>rw[a] at h
  .exact⟨κ _ (Hd h).1,(Hd h).2⟩
  .cases h;simp only[η] at a;exact⟨μ,δ a.1⟩
def jC (K:bp S) (P:Program) (c:gD S):Prop:= ∀ {R:Type} (ajF:List (aE S)) (g:Nat->Option (Ob S)) (nx:Nat) (k:Rs S->Up S->AH S->Option R) (z:R),c.out ajF g nx k=some z-> ∃r up nw,k r up nw=some z/\yZ K P c.f ajF g nx r up nw
structure ko (G:bW S) (P:Program):Prop where
 C: ∀f a,wc G.C f=some a-> ∀ {R:Type} (ajF:List (aE S)) (k:Rs S->Option R) (z:R),ajF.all aE.pure=true->a.out ajF k=some z-> ∃r,k r=some z/\d_ G.K P f ajF r
 X: ∀c∈G.X,jC G.K P c
theorem aaV {G:bW S} (y:b9 G.K P) (I:ko G P) {H:Nat->List (aE S)->AH S->(Rs S->AH S->Γ->Option R)->Option R} (J:kn G.K P H) {f nx:Nat} {ajF:List (aE S)} {g:Nat->Option (Ob S)} {N:Value->Up S->AH S->Option R} {k:AV S->Up S->AH S->Option R}
  (h:FI G H f ajF g nx N k=some z): ∃r up nw,j_ N k r up nw=some z/\yZ G.K P f ajF g nx r up nw:=by
 unfold FI at h;split at h
 .rename_i c U;obtain⟨hm,W⟩:=Hd U;obtain⟨r,up,nw,j,l⟩:=I.X c hm ajF g nx _ z h;rw[W] at l;refine⟨r,up,nw,?_,l⟩;cases r<;>exact j
 split at h
 .rename_i T V;split at h
  .rename_i F rs x;have Y:F.all aE.pure=true:=by
    exact Ox x
   obtain⟨r,d,D,B⟩:=I.C f T V F _ z Y h;cases r with
   |ret a=>
    simp only at d;cases hp:a.pure<;>rw[hp] at d
    .cases d
    simp only[cond_true] at d;cases L:a.flat<;>rw[L] at d
    .simp only[cond_false] at d;refine⟨.ret a,gO rs,[],d,D,λA O w xs o q i n M=>?_⟩;obtain⟨t,Q,E⟩:=nI y q (all:=rs) x o (λr s=>s);refine(B A (ej A rs O) w xs t (λb p=>i b (fM b p)) (n.tr (Tr.less fM))).mono ?_;rintro e w' ⟨⟨v,j,l⟩,m⟩;exact⟨A,ej A rs O,⟨v,j,l⟩,by simpa[news] using abJ i E m⟩
    .refine⟨.ret a,[],[],d,D,λA O w xs o q i n M=>?_⟩;obtain⟨t,Q,E⟩:=nI y q (all:=rs) x o (λr s=>s);refine(B A (ej A rs O) w xs t (λb p=>i b (fM b p)) (n.tr (Tr.less fM))).mono ?_;rintro e w' ⟨⟨v,j,l⟩,m⟩;exact⟨A,O,⟨v,j,AV.lT L l⟩,nn i m⟩
   |bB u=>
    refine⟨.bB u,[],[],d,D,λA O w xs o q i n M=>?_⟩;obtain⟨t,Q,E⟩:=nI y q (all:=rs) x o (λr s=>s);refine(B A (ej A rs O) w xs t (λb p=>i b (fM b p)) (n.tr (Tr.less fM))).mono ?_;rintro e w' ⟨j,m⟩;exact⟨A,O,j,nn i m⟩
  .exact Nn J h
 .exact Nn J h
theorem aaX {rr:Option Nat} {n f:Nat} {args:Array Value} {w:World} {Q b:Ending->World->Prop} (h:Calls P f args w Q) (d: ∀e w',Q e w'->b e w'):CallsIn (fw rr) n P f args w b:=by
 refine⟨trivial,λcs _=>?_⟩;obtain⟨e,b8,fr,i,a,c,hl⟩:=h cs;refine⟨e,b8,fr,d e b8 i,?_,c,hl⟩;cases e with
 |outgrown=>exact a
 |returned v=>
  refine ζN (λm _=>?_) (ζv a);intro g _;exact⟨λh=>by simp[fw] at h,Or.inl trivial,λ_ _=>trivial,λ_ h=>by simp[fw] at h⟩
 |panicked j=>
  refine ζN (λm _=>?_) (ζv a);intro g _;exact⟨λh=>by simp[fw] at h,Or.inl trivial,λ_ _=>trivial,λ_ h=>by simp[fw] at h⟩
theorem aeQ {rr:Option Nat} {o:Oper} {a:Act} {w:World} {f:Nat} {args:Array Value} {post bB:Value->World->Prop} {Q:Ending->World->Prop} (d: ∀c,o.op≠ .defer c) (j:(execOp a.eval o).run P w= .ok (.enter f args) w) (g:Calls P f args w Q)
  (h: ∀e w',Q e w'->(∃v,e= .returned v/\post v w')\/(∃u,e= .panicked [{v:=u,recovered:=false}]/\bB u w')):iM P rr o a w post bB:=by
 refine⟨λ_ _=>trivial,?_⟩;rw[ζl _ _ _ d,j,Oper.uponIn_enter];refine⟨λh=>by simp[fw] at h,aaX g λe w' i=>?_⟩;rcases h e w' i with⟨v,rfl,b⟩|⟨u,rfl,b⟩
 .exact⟨v,rfl,b⟩
 .exact⟨u,rfl,rfl,b⟩
theorem aho {o:Oper} {c:ζ6} {x:Operand} {a:Act} {w:World} {f:Nat} {fs cs:Γb} (e:o.op= .call c) (d:c.callee= .value x) (g:a.eval x= .func (.func f) fs.toArray cs.toArray) (he:et P f):
  (execOp a.eval o).run P w= .ok (.enter f (fs++c.args.toList.map a.eval++cs).toArray) w:=by
 unfold execOp;rw[e];have b:fs.toArray++c.args.map a.eval++cs.toArray=(fs++c.args.toList.map a.eval++cs).toArray:=by
  rw[<-ζu];simp
 simp only[τ,resolve,d,g,ξY,ξj,φ,invoke];rw[b];exact he _ w
theorem lf {F:Fence} {n:Nat} {o:Oper} {a:Act} {w:World} {X g:Act->World->Prop} {Q f:Exit->Act->World->Prop} (h: ∀a w,X a w->g a w) (c: ∀e a w,Q e a w->f e a w) (k:o.wpIn F n P a w X Q):o.wpIn F n P a w g f:=by
 obtain⟨j,b⟩:=k;refine⟨j,?_⟩;unfold Oper.uponIn at b ⊢;split at b
 .exact h _ _ b
 .exact h _ _ b
 .exact h _ _ b
 .refine⟨b.1,b.2.1,λcs l=>?_⟩;obtain⟨e,w',fr,d,m⟩:=b.2.2 cs l;refine⟨e,w',fr,?_,m⟩;cases e with
  |returned v=>exact h _ _ d
  |panicked i=>exact c _ _ _ d
  |outgrown=>obtain⟨a',w',q⟩:=d;exact⟨a',w',c _ _ _ q⟩
 .exact⟨b.1,b.2.mono λv w' q=>h _ _ q⟩
 .refine⟨b.1,b.2.mono λe w' q=>?_⟩;cases e with
  |returned v=>exact h _ _ q
  |panicked i=>exact c _ _ _ q
  |outgrown=>obtain⟨a',w',q⟩:=q;exact⟨a',w',c _ _ _ q⟩
 .exact c _ _ _ b
 .exact b
theorem iM.mono {rr:Option Nat} {o:Oper} {a:Act} {w:World} {post d bB c:Value->World->Prop} (h:iM P rr o a w post bB) (j: ∀v w',post v w'->d v w') (k: ∀v w',bB v w'->c v w'):iM P rr o a w d c:=
 lf (λa' w' ⟨v,e,l⟩=>⟨v,e,j v w' l⟩) (λe a' w' b=>by
  cases e with
  |panic m=>obtain⟨u,f,g,i⟩:=b;exact⟨u,f,g,k u w' i⟩
  |_=>exact b.elim) h
def uR (K:bp S) (P:Program) (o:Oper) (env:a8 S) (g:Nat->Option (Ob S)) (nx:Nat) (r:Rs S) (up:Up S) (nw:AH S):Prop:= ∀(rr:Option Nat) (A:Pl) (O:Γ) (w:World) (a:Act),cM A O w env a->bS A O w g->OB O w->cB K O w->(∀j,j<nw.length->A.pl (nx+j)=none)->iM P rr o a w (λv w'=> ∃b,r= .ret b/\ ∃A' O',b.rel A' O' w' v/\b_ A O w g (up++news nx nw) A' O' w') (λu w'=>r= .bB u/\ ∃A' O',b_ A O w g (up++news nx nw) A' O' w')
theorem Sound.r {rr:Option Nat} {o:Oper} {env:a8 S} {g:Nat->Option (Ob S)} {nx:Nat} {b:AV S} {up:Up S} {nw:AH S} (h:Sound K P rr o env g nx b up nw):uR K P o env g nx (.ret b) up nw:=λrr A O w a c d e f i=>by
 exact(h rr A O w a c d e f i).mono (λv w' j=>⟨b,rfl,j⟩) (λu w' hu=>hu.elim)
theorem RD {G:bW S} (y:b9 G.K P) (M:ko G P) {t:Nat->List (aE S)->AH S->(Rs S->AH S->Γ->Option R)->Option R} (T:kn G.K P t) {o:Oper} {env:a8 S} {g:Nat->Option (Ob S)} {nx:Nat} {s:Value->Up S->AH S->Option R} {k:AV S->Up S->AH S->Option R}
  (h:n6 G t env g nx o s k=some z): ∃r up nw,j_ s k r up nw=some z/\uR G.K P o env g nx r up nw:=by
 have H:q9 G.K env g nx k o.type o.op=some z-> ∃r up nw,j_ s k r up nw=some z/\uR G.K P o env g nx r up nw:=λh=>by
  obtain⟨d,up,nw,n,q⟩:=ad7 (rr:=none) y h;exact⟨.ret d,up,nw,n,q.r⟩
 unfold n6 at h;split at h
 .rename_i c D;split at h
  .rename_i x F;split at h
   rotate_left
   .cases h
   rename_i f ajF b;obtain⟨r,up,nw,n,U,q⟩:=aaV y M T h;refine⟨r,up,nw,n,λrr A O w a he C N j X=>?_⟩;have Q: ∀c,o.op≠ .defer c:=λc=>by rw[D];simp
   have key: ∀(fs cs:Γb),a.eval x= .func (.func f) fs.toArray cs.toArray->cG A O w ajF (fs++c.args.toList.map a.eval++cs)->iM P rr o a w (λv w'=> ∃d,r= .ret d/\ ∃A' O',d.rel A' O' w' v/\b_ A O w g (up++news nx nw) A' O' w') (λu w'=>r= .bB u/\ ∃A' O',b_ A O w g (up++news nx nw) A' O' w'):=by
    intro fs cs V Z;refine aeQ Q (aho D F V U) (q A O w _ Z C N j X) ?_;rintro e w' ⟨A',O',E,B⟩;cases r with
    |ret d=>
     obtain⟨v,rfl,l⟩:=E;exact .inl ⟨v,rfl,d,rfl,A',O',l,B⟩
    |bB u=>exact .inr ⟨u,E,rfl,A',O',B⟩
   unfold No at b;rw[F] at b;simp only at b;split at b
   .rename_i i hi;split at b
    rotate_left
    .cases b
    rename_i J fs cs Y;split at b
    rotate_left
    .cases b
    rename_i I has;cases b;obtain⟨f1,ae,c1,L,l⟩:=cj he j hi;obtain⟨p,hp,⟨us,vs,rfl,aa,ab⟩,_⟩:=C.al i _ Y;rw[L] at hp;cases hp;exact key us vs (by simpa using l) (Jv (Jv aa (lE he j has)) ab)
   .rename_i u W;split at b
    rotate_left
    .cases b
    rename_i J fs cs;cases m:(ε fs.size 0&&ε cs.size 0)<;>rw[m] at b
    .cases b
    simp only[cond_true] at b;split at b
    rotate_left
    .cases b
    rename_i I has;cases b;simp only[η] at m;have ad:=ξE (δ m.1);have z2:=ξE (δ m.2);subst ad;subst z2;have l:=ep (cj he j W);refine key [] [] l ?_;simpa using lE he j has
   .cases b
  .exact H h
 .cases h
 .exact H h
end
structure cP where
 A0:Pl
 O0:Γ
 w0:World
 nb:Nat
 live:Nat->Prop
 ex:Option Nat
 rr:Option Nat
def AX.code:AX->Option Code
 | .exit id=>some (.exit id)
 | .ret=>some .ret
 |_=>none
def H0:Obj->Bool
 | .loop _=>true
 | .deferred _=>true
 |_=>false
section
variable {S:bh} {K:bp S} {P:Program} {N:Nat} {A A':Pl} {O O':Γ} {w w':World}
def er (O:Γ) (w:World) (l:Nat) (o:Obj):Prop:=Rec w l o/\H0 o=true/\l∈O
theorem dD.It {X:Ob S} {p:Value} {l:Nat} {o:Obj} (h:dD A O w X p) (hl:w.heap[l]? =some o) (d:H0 o=true):b2 p≠some l:=by
 intro hp;cases X with
 |box t cs=>
  obtain⟨b,vs,rfl,a,_⟩:=h;cases hp;unfold bK at a;rw[hl] at a;cases a;cases d
 |row e xs=>
  rcases h1 h with⟨rfl,_⟩|⟨b,c,rfl⟩
  .cases hp
  .cases hp;obtain⟨cs,cur,a,_⟩:=rj h;rw[hl] at a;cases a;cases d
 |map g i m=>
  obtain⟨b,rfl,es,c,a,_⟩:=h;cases hp;rw[hl] at a;cases a;cases d
 |bA f fs cs=>obtain⟨us,vs,rfl,_⟩:=h;cases hp
 |cW s pos=>
  obtain⟨b,rfl,a⟩:=h;cases hp;rw[hl] at a;cases a;cases d
 |st t x=>obtain⟨cs,bs,rfl,_⟩:=h;cases hp
theorem dD.Rq {X:Ob S} {p:Value} {l:Nat} {o:Obj} (h:dD A O w X p) (hl:w.heap[l]? =some o) (a:H0 o=true): ¬cI w X p l:=by
 rintro (hp|hp)
 .exact h.It hl a hp
 .cases X with
  |st t x=>
   obtain⟨cs,bs,rfl,d,_⟩:=h;obtain⟨f,e,b,c⟩:=hp;cases rL b;obtain⟨_,cur,t',z,q⟩:=d l c;rw[hl] at q;cases q;cases a
  |_=>cases hp
theorem er.ca {g:Nat->Option (Ob S)} {ef:Up S} {l:Nat} {o:Obj} (h:er O w l o) (j:bS A O w g) (e:b_ A O w g ef A' O' w'):er O' w' l o:=by
 obtain⟨a,b,d⟩:=h;obtain⟨k,m⟩:=e.keep l d λi X p hi hp Z f=>by
  obtain⟨n,c,hR,_⟩:=j.al i Z f;rw[hp] at c;cases c;exact hR.Rq a.1 b
 exact⟨⟨k.trans a.1,a.2⟩,b,m⟩
def c' (n0:Nat) (A:Pl) (O:Γ) (w:World):List (LV S)->List Deferred->Prop
 |df,[]=>df=[]
 |df,d::ds=>(∃D,d=Dc.mark D/\(n0<=D/\Dc.mark D∉ds)/\er O w D (.deferred (some []))/\c' n0 A O w df ds)\/
  (∃i r f u c,df= .bA i::r/\A.pl i=some (.func f u c)/\d= {target:=.fn f c,args:=u}/\c' n0 A O w r ds)
def eF (a:hH S) (fn:Nat) (tm:Array Value) (D:Nat):Loop:=
 {state:=(match a.fm with|none=>.ready|some _=>.done),pending:=a.fm.bind AX.code,fn:=fn,tmps:=tm,params:=a.ps.toArray,assign:=a.gG,body:=a.body,defers:=D}
def jA (P:Program) (B:cP) (O:Γ) (w:World):Option (hH S)->Prop
 |none=>True
 |some a=> ∃l fn tm D,B.A0.ls=some l/\B.ex=some l/\er O w l (.loop (eF a fn tm D))/\er O w D (.deferred (some []))/\cM B.A0 O w a.env {tmps:=tm,defers:=[]}/\tm.size=a.J.fn.ntmps
structure bn (K:bp S) (P:Program) (N:Nat) (B:cP) (A:Pl) (O:Γ) (w:World) (st:AS S) (a:Act):Prop where
 size:a.tmps.size=N
 env:cM A O w st.env a
 rel:bS A O w (aM st.h)
 ob:OB O w
 dc:cB K O w
 free: ∀i,st.h.length<=i->A.pl i=none
 nb:st.nb=B.nb
 le:B.nb<=st.h.length
 tr:Tr B.O0 B.w0 O w
 pl: ∀i,i<B.nb->A.pl i=B.A0.pl i
 ls:A.ls=B.A0.ls
 lv: ∀i X,i<B.nb->aM st.h i=some X->B.live i
 cl: ∀b,b∈B.O0->B.ex≠some b->(∀i∈st.dt,B.live i-> ∀p,B.A0.pl i=some p->b2 p≠some b)->w.heap[b]? =B.w0.heap[b]? /\b∈O/\ ∀i X p,B.nb<=i->aM st.h i=some X->A.pl i=some p-> ¬cI w X p b
 df:c' B.w0.heap.size A O w st.df a.defers
 lp:jA P B O w st.lp
 dl:(st.lp.isSome||st.inr)=true->a.defers=[]
 hi: ∀i,B.nb<=i->B.A0.pl i=none
 o0:OB B.O0 B.w0
 rr:st.inr=false->B.rr=none
 nt: ∀i X,i<B.nb->aM st.h i=some X->X.nt=true
theorem c'.ca {n0:Nat} {g:Nat->Option (Ob S)} {ef:Up S} (k:bS A O w g) (e:b_ A O w g ef A' O' w'): ∀ {ds:List Deferred} {df:List (LV S)},c' n0 A O w df ds->c' n0 A' O' w' df ds
 |[],df,h=>h
 |d::ds,df,h=>by
  rcases h with⟨D,a,l,b,j⟩|⟨i,r,f,u,c,a,b,j,m⟩
  .exact .inl ⟨D,a,l,b.ca k e,c'.ca k e j⟩
  .exact .inr ⟨i,r,f,u,c,a,e.le.at_ _ _ b,j,c'.ca k e m⟩
theorem jA.ca {B:cP} {g:Nat->Option (Ob S)} {ef:Up S} (a:bS A O w g) (e:b_ A O w g ef A' O' w'): ∀ {lp:Option (hH S)},jA P B O w lp->jA P B O' w' lp
 |none,h=>h
 |some k,⟨l,fn,tm,D,c,b,d,f,i,j⟩=>⟨l,fn,tm,D,c,b,d.ca a e,f.ca a e,i.tr e.tr (Pl.le.refl _),j⟩
theorem jI {nb x:Nat}: ∀ {l dt:Γ},x∈dt->x∈e9 nb dt l
 |[],dt,h=>h
 |i::r,dt,h=>by
  simp only[e9];refine jI ?_;cases (χ i nb&&!(eD i dt)) with
  |true=>exact υ _ h
  |false=>exact h
theorem kG {nb x:Nat} (a:x<nb): ∀ {l dt:Γ},x∈l->x∈e9 nb dt l
 |i::r,dt,h=>by
  simp only[e9];rcases ψ.1 h with e|h
  .subst e;refine jI ?_;rw[ξ.mpr a,ξJ];cases hm:eD x dt with
   |true=>exact hv.1 hm
   |false=>exact ω _ μ
  .exact kG a h
theorem js: ∀ {up:Up S} {h:AH S},(eG h up).length=h.length
 |[],h=>rfl
 |(i,X)::r,h=>by simp[eG,js]
theorem TT: ∀ {up:Up S} {h:AH S} {i:Nat},(∀j∈keys up,j<h.length)->i<h.length->aM (eG h up) i=b7 (aM h) up i
 |[],h,i,_,_=>rfl
 |(j,X)::r,h,i,b,hi=>by
  have d:=b j (by simp[keys]);rw[eG,TT (λq a=>by rw[ζ9];exact b q (by simp[keys,a])) (by rw[ζ9];exact hi)];simp only[b7]
  congr 1
  funext q
  unfold aM;rw[List.getElem?_set]
  by_cases a:j=q
  .subst a;simp[d];cases X<;>rfl
  .have e:ε j q=false:=by
    cases c:ε j q with
    |false=>rfl
    |true=>exact absurd (δ c) a
   simp[a,e]
theorem nS {i:Nat}: ∀ {up:Up S},i∈keys up↔ ∃X,(i,X)∈up
 |[]=>by simp[keys]
 |(j,X)::r=>by
  simp only[keys,ψ,nS,ξn];constructor
  .rintro (rfl|⟨Y,h⟩)
   .exact⟨X,.inl ⟨rfl,rfl⟩⟩
   .exact⟨Y,.inr h⟩
  .rintro ⟨Y,⟨rfl,rfl⟩|h⟩
   .exact .inl rfl
   .exact .inr ⟨Y,h⟩
theorem Uz {g:Nat->Option (Ob S)}: ∀ {u v:Up S},b7 g (u++v)=b7 (b7 g u) v
 |[],v=>rfl
 |(j,X)::r,v=>by
  funext i
  simp only[ξZ,b7];rw[Uz]
theorem adY {n:Nat} {nw:AH S} {i:Nat} {X Y:Option (Ob S)} (c:(i,X)∈news n nw) (d:(i,Y)∈news n nw):X=Y:=by
 obtain⟨j,b,a2⟩:=jh.1 c;obtain⟨e,a,f⟩:=jh.1 d;have:j=e:=by omega
 subst this;rw[b] at a;exact ξs a
theorem vv {h:AH S} {up:Up S} {nw:AH S} (b: ∀j∈keys up,j<h.length):aM (eG h up++nw)=b7 (aM h) (up++news h.length nw):=by
 funext i
 rw[Uz]
 by_cases hi: ∃X,(i,X)∈news h.length nw
 .obtain⟨X,hX⟩:=hi;rw[mG hX λY e=>adY e hX];obtain⟨j,a,rfl⟩:=jh.1 hX;unfold aM;rw[ξd (by rw[js];omega),js,ξV,a];cases X<;>rfl
 .rw[ed (λX hX=>hi ⟨X,hX⟩)];rcases ξ2 i h.length with c|f
  .rw[<-TT b c];unfold aM;rw[ξ0 (by rw[js];exact c)]
  .have hn:(eG h up++nw)[i]? =none:=by
    rw[ξd (by rw[js];omega),js,ξR];rcases ξ2 (i-h.length) nw.length with a|a
    .exact absurd ⟨nw[i-h.length],jh.2 ⟨i-h.length,ο a,by omega⟩⟩ hi
    .exact a
   have d:aM h i=none:=by unfold aM;rw[ξh f]
   rw[ed (λX hX=>by have:=b i (nS.2 ⟨X,hX⟩);omega),d];unfold aM;rw[hn]
theorem lD {h:AH S} {up:Up S} (a:e7 (aM h) up=true): ∀j∈keys up,∃X,aM h j=some X:=by
 intro j b;unfold e7 at a;rw[ξ9] at a;have:=a j b;cases c:aM h j with
 |none=>rw[c] at this;cases this
 |some X=>exact⟨X,rfl⟩
variable {B:cP} {st:AS S} {a:Act}
theorem bn.ca {up:Up S} {nw:AH S} (h:bn K P N B A O w st a) (m:e7 (aM st.h) up=true) (e:b_ A O w (aM st.h) (up++news st.h.length nw) A' O' w'):bn K P N B A' O' w' (st.ca up nw) a:=by
 have C: ∀j∈keys up,j<st.h.length:=λj n=>by
  obtain⟨X,hX⟩:=lD m j n;exact fk hX
 have t:=vv (nw:=nw) C;have hlen:(eG st.h up++nw).length=st.h.length+nw.length:=by rw[ξ1,js]
 have u: ∀i X,(i,X)∈up++news st.h.length nw->i∈keys up\/st.h.length<=i:=by
  intro i X hi;rcases ξ5.1 hi with hi|hi
  .exact .inl (nS.2 ⟨X,hi⟩)
  .obtain⟨j,_,rfl⟩:=jh.1 hi;exact .inr (ξG _ _)
 have low: ∀i,i<st.h.length->A'.pl i=A.pl i:=by
  intro i hi;rcases e.pl i with f|⟨f,X,hX⟩
  .exact f
  .rcases u i X hX with r|r
   .obtain⟨Y,d⟩:=lD m i r;obtain⟨p,hp,_⟩:=h.rel.al i Y d;rw[f] at hp;cases hp
   .omega
 have E:=h.rel.ca h.ob e;rw[<-t] at E;refine⟨h.size,h.env.tr e.tr e.le,E,e.ob,h.dc.tr e.tr,?_,h.nb,?_,h.tr.trans e.tr,?_,e.le.ls.trans h.ls,?_,?_,c'.ca h.rel e h.df,jA.ca h.rel e h.lp,h.dl,h.hi,h.o0,h.rr,?_⟩
 .intro i hi;have hi:st.h.length+nw.length<=i:=by rw[<-hlen];exact hi
  rcases e.pl i with f|⟨f,X,hX⟩
  .rw[f];exact h.free i (by omega)
  .rcases ξ5.1 hX with hX|hX
   .have:=C i (nS.2 ⟨X,hX⟩);omega
   .obtain⟨j,r,rfl⟩:=jh.1 hX;have:=(ζ.1 r).1;omega
 .show B.nb<=(eG st.h up++nw).length;rw[hlen];have:=h.le;omega
 .intro i hi;have:=h.le;rw[low i (by omega)];exact h.pl i hi
 .intro i X hi hX;rw[show aM (st.ca up nw).h=b7 (aM st.h) (up++news st.h.length nw) from t] at hX;have:=h.le
  by_cases k: ∃Y,(i,Y)∈up++news st.h.length nw
  .obtain⟨Y,d⟩:=k;rcases u i Y d with f|f
   .obtain⟨Z,g⟩:=lD m i f;exact h.lv i Z hi g
   .omega
  .rw[ed λY d=>k ⟨Y,d⟩] at hX;exact h.lv i X hi hX
 .intro b I M y;have L: ∀i∈st.dt,B.live i-> ∀p,B.A0.pl i=some p->b2 p≠some b:=λi hi=>y i (jI hi);obtain⟨c1,c2,c3⟩:=h.cl b I M L;have dA: ∀i X p,(i,X)∈up++news st.h.length nw->A.pl i=some p->b2 p≠some b:=by
   intro i X p hi hp;rcases u i X hi with f|f
   .rcases ξ2 i B.nb with o|s
    .obtain⟨Y,d⟩:=lD m i f;exact y i (kG (by rw[h.nb];exact o) f) (h.lv i Y o d) p (by rw[<-h.pl i o];exact hp)
    .obtain⟨Y,d⟩:=lD m i f;exact λl=>c3 i Y p s d hp (.inl l)
   .rw[h.free i f] at hp;cases hp
  have F: ∀i X p Z,(i,X)∈up++news st.h.length nw->aM st.h i=some Z->A.pl i=some p-> ¬cI w Z p b:=by
   intro i X p Z hi g hp l;rcases ξ2 i B.nb with o|s
   .exact dA i X p hi hp (fZ (h.nt i Z o g) l)
   .exact c3 i Z p s g hp l
  obtain⟨R,T⟩:=e.keep b c2 λi X p hi hp Z g=>F i X p Z hi g hp;refine⟨R.trans c1,T,?_⟩;intro i X p hi hX hp l;rw[show aM (st.ca up nw).h=b7 (aM st.h) (up++news st.h.length nw) from t] at hX
  by_cases k: ∃Y,(i,Y)∈up++news st.h.length nw
  .obtain⟨Y,d⟩:=k;rw[mG d λZ g=>e.nd i Z Y g d] at hX;subst hX;obtain⟨U,D,_,J⟩:=e.al i X d;rw[hp] at D;cases D;rcases(J b l).2 with s|⟨j,Z,q,V,n,H,v,Q⟩
   .have:=h.ob b c2;omega
   .exact F j Z q V n H v Q
  .have z: ∀Y,(i,Y)∉up++news st.h.length nw:=λY d=>k ⟨Y,d⟩;rw[ed z] at hX;rw[low i (fk hX)] at hp;refine c3 i X p hi hX hp (jX (λc x=>?_) l);exact(e.keep c (h.rel.hU hX hp (.inl x)) λj Y q n v Z g=>h.rel.fW i j X Z p q c (λG=>by subst G;exact z Y n) hX g hp v (.inl x)).1
 .intro i X hi hX;rw[show aM (st.ca up nw).h=b7 (aM st.h) (up++news st.h.length nw) from t] at hX;have:=h.le
  by_cases k: ∃Y,(i,Y)∈up++news st.h.length nw
  .obtain⟨Y,d⟩:=k;rcases u i Y d with f|f
   .obtain⟨Z,g⟩:=lD m i f;rw[mG d λZ g=>e.nd i Z Y g d] at hX;subst hX;exact e.nt i X Z d g (h.nt i Z hi g)
   .omega
  .rw[ed λY d=>k ⟨Y,d⟩] at hX;exact h.nt i X hi hX
theorem bn.put {d:Nat} {g:AV S} {v:Value} (h:bn K P N B A O w st a) (j:χ d N=true) (m:g.rel A O w v):bn K P N B A O w {st with env:=(d,g)::st.env} (a.put (some d) v):=by
 have k:d<a.tmps.size:=by rw[h.size];exact ξ.mp j
 refine⟨by simp[ζx,h.size],?_,h.rel,h.ob,h.dc,h.free,h.nb,h.le,h.tr,h.pl,h.ls,h.lv,h.cl,h.df,h.lp,h.dl,h.hi,h.o0,h.rr,h.nt⟩;intro s b c;simp only[a8.get] at c;cases f:ε d s with
 |true=>
  rw[f] at c;have i:=δ f;subst i;simp only[cond_true,ι] at c;subst c;simpa[ζx,θ,k] using m
 |false=>
  rw[f] at c;have l:d≠s:=λe=>by subst e;simp at f
  have:=h.env s b c;simp only[ζx,θ,ξ3 l] at this ⊢;exact this
end
section
variable {S:bh} {P:Program} {R:Type} {z:R} {N:Nat}
def AX.of:AX->Exit
 | .normal=>.normal
 | .exit id=>.exit id
 | .ret=>.ret
 | .bB u=>.panic [{v:=u,recovered:=false}]
def hJ (K:bp S) (P:Program) (N:Nat) (B:cP) (e:AX) (st:AS S) (x:Exit) (a:Act) (w:World):Prop:=x=e.of/\ ∃A O,bn K P N B A O w st a
inductive NP|go|bB (u:Value)
def NP.x:NP->AX
 | .go=>.normal
 | .bB u=>.bB u
def q7 (a:Value->AS S->Option R) (k:AS S->Option R):NP->AS S->Option R
 | .go,st=>k st
 | .bB u,st=>a u st
def uY (K:bp S) (P:Program) (e:List (aE S)->AS S->(Bool->AS S->Option R)->Option R):Prop:= ∀(ajF:List (aE S)) (st:AS S) (k:Bool->AS S->Option R) (z:R),e ajF st k=some z-> ∃b d,k b d=some z/\ ∀(N:Nat) (B:cP) (o:Oper) (c:ζ6) (x:Operand) (A:Pl) (O:Γ) (w:World) (a:Act) (l:Nat),o.op= .call c->c.callee= .value x->a.eval x= .func (.yield l) #[] #[]->A.ls=some l->cG A O w ajF (c.args.toList.map a.eval)->bn K P N B A O w st a->iM P B.rr o a w (λv w'=>v= .bool b/\ ∃A' O',bn K P N B A' O' w' d a) (λ_ _=>False)
theorem US {ops:Array Oper} {o:Oper} {a:Act} {j d:Nat} {b c:Bool} {g:Oper} (i:o.guard=some (j,b)) (k:ops[j]? =some g) (h:g.dst=some d) (hN:χ d a.tmps.size=true) (e:a.tmps.getD d undef= .bool c):ξ4 o (yielded ops a.tmps)=(c==b):=by
 have f:d<a.tmps.size:=ξ.mp hN;rw[θ,ν f] at e;simp only[ξq] at e;unfold ξ4;rw[i];simp[yielded,k,h,f,e]
theorem Uy {ops:Array Oper} {o:Oper} {a:Act} {j d:Nat} {b:Bool} {f:Oper} {xs:Array Value} (h:o.guard=some (j,b)) (i:ops[j]? =some f) (g:f.dst=some d) (hN:χ d a.tmps.size=true) (c:a.tmps.getD d undef= .tuple xs):ξ4 o (yielded ops a.tmps)=false:=by
 have e:d<a.tmps.size:=ξ.mp hN;rw[θ,ν e] at c;simp only[ξq] at c;unfold ξ4;rw[h];simp[yielded,i,g,e,c]
theorem bn.adu {K:bp S} {B:cP} {A:Pl} {O:Γ} {w:World} {st:AS S} {a:Act} {d:Nat} {c:Bool} (h:bn K P N B A O w st a) (i:a8.get st.env d=some (.s (.one (.v (.bool c))))):bn K P N B A O w {st with env:=(d,.s (.one (.v (.bool c))))::st.env} a:=by
 refine⟨h.size,?_,h.rel,h.ob,h.dc,h.free,h.nb,h.le,h.tr,h.pl,h.ls,h.lv,h.cl,h.df,h.lp,h.dl,h.hi,h.o0,h.rr,h.nt⟩;intro s b e;simp only[a8.get] at e;cases f:ε d s with
 |true=>
  rw[f] at e;have g:=δ f;subst g;simp only[cond_true,ι] at e;subst e;exact h.env _ _ i
 |false=>rw[f] at e;exact h.env s b e
theorem aaA {K:bp S} {ops:Array Oper} {o:Oper} {st:AS S} {yes no:AS S->Option R} (h:m_ N ops o.guard st yes no=some z):
  ∃i,i.h=st.h/\(∀B A O w a,bn K P N B A O w st a->bn K P N B A O w i a)/\
   ((yes i=some z/\ ∀B A O w a,bn K P N B A O w st a->ξ4 o (yielded ops a.tmps)=true)\/(no i=some z/\ ∀B A O w a,bn K P N B A O w st a->ξ4 o (yielded ops a.tmps)=false)):=by
 unfold m_ at h;split at h
 .rename_i g;exact⟨st,rfl,λ_ _ _ _ _ h=>h,.inl ⟨h,λB A O w a _=>by unfold ξ4;rw[g]⟩⟩
 .rename_i j b g;split at h
  rotate_left
  .cases h
  rename_i q m;split at h
  rotate_left
  .cases h
  rename_i d l;cases hN:χ d N<;>rw[hN] at h
  .cases h
  simp only[cond_true] at h;have k: ∀ {B A O w a},bn K P N B A O w st a->χ d a.tmps.size=true:=λh=>by rw[h.size];exact hN
  split at h
  .rename_i c f;have n: ∀ {B A O w a},bn K P N B A O w st a->a.tmps.getD d undef= .bool c:=λ{B A O w a} h=>ep (S:=S) (A:=A) (O:=O) (w:=w) (h.env d _ f);refine⟨{st with env:=(d,.s (.one (.v (.bool c))))::st.env},rfl,λB A O w a h=>h.adu f,?_⟩;have w1: ∀ {B A O w a},bn K P N B A O w st a->ξ4 o (yielded ops a.tmps)=(c==b):=λh=>US g m l (k h) (n h);cases c<;>cases b<;>simp only[cond_true,cond_false] at h
   .exact .inl ⟨h,λB A O w a e=>by rw[w1 e];rfl⟩
   .exact .inr ⟨h,λB A O w a e=>by rw[w1 e];rfl⟩
   .exact .inr ⟨h,λB A O w a e=>by rw[w1 e];rfl⟩
   .exact .inl ⟨h,λB A O w a e=>by rw[w1 e];rfl⟩
  .rename_i f;refine⟨st,rfl,λB A O w a h=>h,.inr ⟨h,λB A O w a e=>?_⟩⟩;obtain⟨xs,p,_⟩:=e.env d _ f;exact Uy g m l (k e) p
  .cases h
theorem I8 {K:bp S} {o:Oper} {st:AS S} {f:AV S} {k:AS S->Option R} (h:iw N o st f k=some z): ∃b,k b=some z/\b.h=st.h/\b.dt=st.dt/\ ∀B A O w a v,bn K P N B A O w st a->f.rel A O w v->bn K P N B A O w b (a.put o.dst v):=by
 unfold iw at h;split at h
 .rename_i d c;cases hN:χ d N<;>rw[hN] at h
  .cases h
  .exact⟨_,h,rfl,rfl,λB A O w a v e g=>by rw[c];exact e.put hN g⟩
 .rename_i c;exact⟨st,h,rfl,rfl,λB A O w a v e g=>by rw[c];exact e⟩
theorem aax {G:bW S} (Z:b9 G.K P) (Y:ko G P) {D:Nat->List (aE S)->AH S->(Rs S->AH S->Γ->Option R)->Option R} (ab:kn G.K P D) {U:List (aE S)->AS S->(Bool->AS S->Option R)->Option R} (ai:uY G.K P U) {o:Oper} {st:AS S} {C:Value->AS S->Option R} {k:AS S->Option R}
  (h:Ft G D U N o st C k=some z): ∃e m,q7 C k e m=some z/\ ∀B A O w a,bn G.K P N B A O w st a->
   o.wpIn (fw B.rr) 0 P a w (λa' w'=>e= .go/\ ∃A' O',bn G.K P N B A' O' w' m a') (λx a' w'=> ∃u,e= .bB u/\x=(AX.bB u).of/\ ∃A' O',bn G.K P N B A' O' w' m a'):=by
 have plain:n6 G D st.env (aM st.h) st.h.length o (λu up nw=>bif e7 (aM st.h) up then C u (st.ca up nw) else none) (λa up nw=>bif e7 (aM st.h) up then iw N o (st.ca up nw) a k else none)=some z-> ∃e m,q7 C k e m=some z/\ ∀B A O w a,bn G.K P N B A O w st a->
   o.wpIn (fw B.rr) 0 P a w (λa' w'=>e= .go/\ ∃A' O',bn G.K P N B A' O' w' m a') (λx a' w'=> ∃u,e= .bB u/\x=(AX.bB u).of/\ ∃A' O',bn G.K P N B A' O' w' m a'):=by
  intro h;obtain⟨r,up,nw,g,F⟩:=RD Z Y ab h;have go: ∀B A O w a,bn G.K P N B A O w st a->_:=λB A O w a d=>F B.rr A O w a d.env d.rel d.ob d.dc (λj _=>d.free _ (ξG _ _));cases r with
  |ret aj=>
   simp only[j_] at g;cases y:e7 (aM st.h) up<;>rw[y] at g
   .cases g
   simp only[cond_true] at g;obtain⟨m,I,_,_,J⟩:=I8 (K:=G.K) (P:=P) g;refine⟨.go,m,I,λB A O w a d=>lf ?_ ?_ (go B A O w a d)⟩
   .rintro a' w' ⟨v,rfl,V,e,A',O',n,H⟩;cases e;exact⟨rfl,A',O',J B A' O' w' a v (d.ca y H) n⟩
   .intro x a' w' p;cases x with
    |panic Q=>obtain⟨u,_,_,e,_⟩:=p;cases e
    |_=>exact p.elim
  |bB u=>
   simp only[j_] at g;cases W:u.oneCell'<;>rw[W] at g
   .cases g
   simp only[cond_true] at g;cases y:e7 (aM st.h) up<;>rw[y] at g
   .cases g
   simp only[cond_true] at g;refine⟨.bB u,_,g,λB A O w a d=>lf ?_ ?_ (go B A O w a d)⟩
   .rintro a' w' ⟨v,rfl,V,e,_⟩;cases e
   .intro x a' w' p;cases x with
    |panic Q=>
     obtain⟨ak,rfl,rfl,e,A',O',H⟩:=p;cases e;exact⟨u,rfl,rfl,A',O',d.ca y H⟩
    |_=>exact p.elim
 unfold Ft at h;split at h
 ·
  rename_i c q;split at h
  rotate_left
  .cases h
  rename_i x M;split at h
  rotate_left
  .cases h
  rename_i i aa hl T ae ad;refine⟨.go,_,h,λB A O w a d=>⟨λ_ _=>trivial,?_⟩⟩;have ah:=d.rr T;rw[ah];obtain⟨f,u,E,X,n⟩:=cj d.env d.dc hl;have n:a.eval x= .func f u E:=by simpa using n
  have L:(o.semAt (fw none).round a.eval).run P w= .ok (.defer {target:=.fn f E,args:=u}) w:=by
   show(o.semAt none a.eval).run P w=_;unfold Oper.semAt execOp;rw[q];have:c.args= #[]:=fS aa;simp[resolve,M,n,ξY,this]
  rw[L,Oper.uponIn_defer];refine⟨rfl,A,O,?_⟩;rw[ad];exact⟨d.size,d.env,d.rel,d.ob,d.dc,d.free,d.nb,d.le,d.tr,d.pl,d.ls,d.lv,d.cl,.inr ⟨i,st.df,f,u,E,rfl,X,rfl,d.df⟩,d.lp,(λh=>by rw[show((st.lp.isSome||st.inr)=true)=(((none:Option (hH S)).isSome||false)=true) by rw[ae,T]] at h;cases h),d.hi,d.o0,d.rr,d.nt⟩
 ·
  rename_i x q;split at h
  rotate_left
  .cases h
  rename_i t u hl;refine⟨.bB (.iface t u),_,h,λB A O w a d=>⟨λ_ _=>trivial,?_⟩⟩;have n:=ep (cj d.env d.dc hl);rw[ζl _ _ _ (by rw[q];simp)];have L:(execOp a.eval o).run P w= .halt (.panic (.iface t u)) w:=by
   unfold execOp;rw[q];simp only[τ,n,Instr.panic];rfl
  rw[L,Oper.uponIn_panic];exact⟨_,rfl,rfl,A,O,d⟩
 .rename_i c q;cases s:Ks G st.env c<;>rw[s] at h
  .exact plain h
  .simp only[cond_true] at h;unfold Ks at s;split at s
   rotate_left
   .cases s
   rename_i x M;split at s
   rotate_left
   .cases s
   rename_i hl;split at h
   rotate_left
   .cases h
   rename_i ajF has;obtain⟨b,st1,g,F⟩:=ai _ _ _ _ h;obtain⟨m,I,_,_,J⟩:=I8 (K:=G.K) (P:=P) g;refine⟨.go,m,I,λB A O w a d=>?_⟩;obtain⟨l,af,n⟩:=cj d.env d.dc hl;refine lf ?_ ?_ (F N B o c x A O w a l q M (by simpa using n) af (lE d.env d.dc has) d)
   .rintro a' w' ⟨v,rfl,rfl,A',O',ag⟩;exact⟨rfl,A',O',J B A' O' w' a _ ag ⟨rfl,rfl⟩⟩
   .intro x a' w' p;cases x with
    |panic Q=>obtain⟨u,_,_,e⟩:=p;exact e.elim
    |_=>exact p.elim
 .exact plain h
theorem Fu {G:bW S} (f:b9 G.K P) (d:ko G P) {t:Nat->List (aE S)->AH S->(Rs S->AH S->Γ->Option R)->Option R} (g:kn G.K P t) {E:List (aE S)->AS S->(Bool->AS S->Option R)->Option R} (r:uY G.K P E) {ops:Array Oper} {C:Value->AS S->Option R}:
  ∀ {l:Γ} {st:AS S} {k:AS S->Option R},ph G t E N ops C l st k=some z-> ∃e D,q7 C k e D=some z/\ ∀B A O w a,bn G.K P N B A O w st a->wpOpsIn (fw B.rr) 0 P ops (hJ G.K P N B e.x D) l a w
 |[],st,k,h=>⟨.go,st,h,λB A O w a b=>⟨rfl,A,O,b⟩⟩
 |i::l,st,k,h=>by
  simp only[ph] at h;split at h
  rotate_left
  .cases h
  rename_i o m;obtain⟨st1,Q,q,F⟩:=aaA (K:=G.K) (P:=P) h;rcases F with⟨L,hw⟩|⟨hn,hw⟩
  .obtain⟨e,st2,v,y⟩:=aax f d g r L;cases e with
   |bB u=>
    refine⟨.bB u,st2,v,λB A O w a b=>?_⟩;simp only[wpOpsIn,m];rw[if_pos (hw B A O w a b)];refine lf ?_ ?_ (y B A O w a (q B A O w a b))
    .rintro a' w' ⟨e,_⟩;cases e
    .rintro x a' w' ⟨M,e,J,A',O',n⟩;cases e;exact⟨J,A',O',n⟩
   |go=>
    obtain⟨c,s,j,p⟩:=Fu f d g r v;refine⟨c,s,j,λB A O w a b=>?_⟩;simp only[wpOpsIn,m];rw[if_pos (hw B A O w a b)];refine lf ?_ ?_ (y B A O w a (q B A O w a b))
    .rintro a' w' ⟨_,A',O',n⟩;exact p B A' O' w' a' n
    .rintro x a' w' ⟨M,e,_⟩;cases e
  .obtain⟨st2,H,_,_,I⟩:=I8 (K:=G.K) (P:=P) hn;obtain⟨c,s,j,p⟩:=Fu f d g r H;refine⟨c,s,j,λB A O w a b=>?_⟩;simp only[wpOpsIn,m];rw[if_neg (by rw[hw B A O w a b];simp)];exact⟨λ_ _=>trivial,p B A O w _ (I B A O w a undef (q B A O w a b) ⟨[],rfl,rfl⟩)⟩
end
section
variable {S:bh} {K:bp S} {P:Program} {N:Nat} {A A':Pl} {O O':Γ} {w w':World} {B:cP}
structure gj (K:bp S) (P:Program) (N:Nat) (B:cP) (A:Pl) (O:Γ) (w:World) (g:Nat->Option (Ob S)) (free dt:Nat->Prop) (c:Option (hH S)) (inr:Bool) (df:List (LV S)) (a:Act):Prop where
 size:a.tmps.size=N
 rel:bS A O w g
 ob:OB O w
 dc:cB K O w
 iZ: ∀i,free i->A.pl i=none
 low: ∀i,i<B.nb-> ¬free i
 tr:Tr B.O0 B.w0 O w
 pl: ∀i,i<B.nb->A.pl i=B.A0.pl i
 ls:A.ls=B.A0.ls
 lv: ∀i X,i<B.nb->g i=some X->B.live i
 cl: ∀b,b∈B.O0->B.ex≠some b->(∀i,dt i->B.live i-> ∀p,B.A0.pl i=some p->b2 p≠some b)->w.heap[b]? =B.w0.heap[b]? /\b∈O/\ ∀i X p,B.nb<=i->g i=some X->A.pl i=some p-> ¬cI w X p b
 df:c' B.w0.heap.size A O w df a.defers
 lp:jA P B O w c
 dl:(c.isSome||inr)=true->a.defers=[]
 hi: ∀i,B.nb<=i->B.A0.pl i=none
 o0:OB B.O0 B.w0
 rr:inr=false->B.rr=none
 nt: ∀i X,i<B.nb->g i=some X->X.nt=true
variable {st:AS S} {a:Act}
theorem bn.toC (h:bn K P N B A O w st a):gj K P N B A O w (aM st.h) (λi=>st.h.length<=i) (λi=>i∈st.dt) st.lp st.inr st.df a:=
 ⟨h.size,h.rel,h.ob,h.dc,h.free,λi hi b=>absurd b (by have:=h.le;omega),h.tr,h.pl,h.ls,h.lv,h.cl,h.df,h.lp,h.dl,h.hi,h.o0,h.rr,h.nt⟩
theorem gj.Uh {g:Nat->Option (Ob S)} {free dt:Nat->Prop} (h:gj K P N B A O w g free dt st.lp st.inr st.df a) (l: ∀i,aM st.h i=g i) (k: ∀i,st.h.length<=i->free i) (j: ∀i,i<B.nb->dt i->i∈st.dt) (hn:st.nb=B.nb) (hle:B.nb<=st.h.length) (he:cM A O w st.env a):bn K P N B A O w st a:=by
 have e:aM st.h=g:=funext l;exact⟨h.size,he,by rw[e];exact h.rel,h.ob,h.dc,λi hi=>h.iZ i (k i hi),hn,hle,h.tr,h.pl,h.ls,by rw[e];exact h.lv,λb d m f=>by
  rw[e];exact h.cl b d m λi hi n p hp=>(by
   rcases ξ2 i B.nb with c|c
   .exact f i (j i c hi) n p hp
   .rw[h.hi i c] at hp;cases hp),h.df,h.lp,h.dl,h.hi,h.o0,h.rr,by rw[e];exact h.nt⟩
theorem gj.ca {g:Nat->Option (Ob S)} {free dt:Nat->Prop} {lp:Option (hH S)} {inr:Bool} {df:List (LV S)} {ef:Up S} (h:gj K P N B A O w g free dt lp inr df a) (o: ∀i X,(i,X)∈ef->(∃Z,g i=some Z)\/free i) (e:b_ A O w g ef A' O' w'):
  gj K P N B A' O' w' (b7 g ef) (λi=>free i/\ ∀X,(i,X)∉ef) (λi=>dt i\/((∃Z,g i=some Z)/\ ∃X,(i,X)∈ef)) lp inr df a:=by
 have R: ∀i Z,g i=some Z-> ¬free i:=λi Z d k=>by
  obtain⟨p,hp,_⟩:=h.rel.al i Z d;rw[h.iZ i k] at hp;cases hp
 have low: ∀i,¬free i->A'.pl i=A.pl i:=by
  intro i hi;rcases e.pl i with n|⟨n,X,hX⟩
  .exact n
  .rcases o i X hX with⟨Z,d⟩|k
   .obtain⟨p,hp,_⟩:=h.rel.al i Z d;rw[n] at hp;cases hp
   .exact absurd k hi
 refine⟨h.size,h.rel.ca h.ob e,e.ob,h.dc.tr e.tr,?_,λi hi k=>h.low i hi k.1,h.tr.trans e.tr,λi hi=>(low i (h.low i hi)).trans (h.pl i hi),e.le.ls.trans h.ls,?_,?_,c'.ca h.rel e h.df,jA.ca h.rel e h.lp,h.dl,h.hi,h.o0,h.rr,?_⟩
 .rintro i ⟨n,E⟩;rcases e.pl i with F|⟨_,X,hX⟩
  .rw[F];exact h.iZ i n
  .exact absurd hX (E X)
 .intro i X hi hX
  by_cases l: ∃Y,(i,Y)∈ef
  .obtain⟨Y,f⟩:=l;rcases o i Y f with⟨Z,d⟩|k
   .exact h.lv i Z hi d
   .exact absurd k (h.low i hi)
  .rw[ed λY f=>l ⟨Y,f⟩] at hX;exact h.lv i X hi hX
 .intro b H J x;obtain⟨c1,c2,c3⟩:=h.cl b H J λi hi=>x i (.inl hi);have dA: ∀i X p,(i,X)∈ef->A.pl i=some p->b2 p≠some b:=by
   intro i X p hi hp;rcases o i X hi with⟨Z,d⟩|k
   .rcases ξ2 i B.nb with s|r
    .exact x i (.inr ⟨⟨Z,d⟩,X,hi⟩) (h.lv i Z s d) p (by rw[<-h.pl i s];exact hp)
    .exact λm=>c3 i Z p r d hp (.inl m)
   .rw[h.iZ i k] at hp;cases hp
  have C: ∀i X p Z,(i,X)∈ef->g i=some Z->A.pl i=some p-> ¬cI w Z p b:=by
   intro i X p Z hi d hp m;rcases ξ2 i B.nb with s|r
   .exact dA i X p hi hp (fZ (h.nt i Z s d) m)
   .exact c3 i Z p r d hp m
  obtain⟨M,Q⟩:=e.keep b c2 λi X p hi hp Z d=>C i X p Z hi d hp;refine⟨M.trans c1,Q,?_⟩;intro i X p hi hX hp m
  by_cases l: ∃Y,(i,Y)∈ef
  .obtain⟨Y,f⟩:=l;rw[mG f λZ d=>e.nd i Z Y d f] at hX;subst hX;obtain⟨T,z,_,I⟩:=e.al i X f;rw[hp] at z;cases z;rcases(I b m).2 with r|⟨j,Z,q,V,t,G,u,L⟩
   .have:=h.ob b c2;omega
   .exact C j Z q V t G u L
  .have y: ∀Y,(i,Y)∉ef:=λY f=>l ⟨Y,f⟩;rw[ed y] at hX;rw[low i (R i X hX)] at hp;refine c3 i X p hi hX hp (jX (λc v=>?_) m);exact(e.keep c (h.rel.hU hX hp (.inl v)) λj Y q t u Z d=>h.rel.fW i j X Z p q c (λD=>by subst D;exact y Y t) hX d hp u (.inl v)).1
 .intro i X hi hX
  by_cases l: ∃Y,(i,Y)∈ef
  .obtain⟨Y,f⟩:=l;rw[mG f λZ d=>e.nd i Z Y d f] at hX;subst hX;rcases o i _ f with⟨Z,d⟩|k
   .exact e.nt i X Z f d (h.nt i Z hi d)
   .exact absurd k (h.low i hi)
  .rw[ed λY f=>l ⟨Y,f⟩] at hX;exact h.nt i X hi hX
theorem gj.weaken {g:Nat->Option (Ob S)} {free c dt dt':Nat->Prop} {lp:Option (hH S)} {inr:Bool} {df:List (LV S)} (h:gj K P N B A O w g free dt lp inr df a) (d: ∀i,c i->free i) (k: ∀i,dt i->dt' i):gj K P N B A O w g c dt' lp inr df a:=
 ⟨h.size,h.rel,h.ob,h.dc,λi hi=>h.iZ i (d i hi),λi hi e=>h.low i hi (d i e),h.tr,h.pl,h.ls,h.lv,λb f l j=>h.cl b f l λi hi=>j i (k i hi),h.df,h.lp,h.dl,h.hi,h.o0,h.rr,h.nt⟩
theorem gj.act {g:Nat->Option (Ob S)} {free dt:Nat->Prop} {lp:Option (hH S)} {inr:Bool} {df:List (LV S)} {a':Act} (h:gj K P N B A O w g free dt lp inr df a) (c:a'.tmps.size=a.tmps.size) (b:a'.defers=a.defers):gj K P N B A O w g free dt lp inr df a':=
 ⟨c.trans h.size,h.rel,h.ob,h.dc,h.iZ,h.low,h.tr,h.pl,h.ls,h.lv,h.cl,by rw[b];exact h.df,h.lp,by rw[b];exact h.dl,h.hi,h.o0,h.rr,h.nt⟩
def cu.ef (r:cu S):Up S:=r.up++news r.nx r.nw
def cF (L:Nat->Bool):Nat->List (cu S)->(Nat->Option (Ob S))->Nat->Option (Ob S)
 |_,[],g=>g
 |k,r::rs,g=>cF L (k+1) rs (bif L k then b7 g r.ef else g)
theorem rQ {o:Nat}: ∀ {ef:Up S} {g b:Nat->Option (Ob S)},(∃X,(o,X)∈ef)->b7 g ef o=b7 b ef o
 |[],g,b,⟨X,h⟩=>by cases h
 |(j,Y)::r,g,b,⟨X,h⟩=>by
  simp only[b7]
  by_cases a: ∃Z,(o,Z)∈r
  .exact rQ a
  .rw[ed (λZ c=>a ⟨Z,c⟩),ed (λZ c=>a ⟨Z,c⟩)];rcases ψ.1 h with e|e
   .cases e;simp
   .exact absurd ⟨X,e⟩ a
theorem UA {o:Nat} {ef:Up S} {g c:Nat->Option (Ob S)} (h:g o=c o):b7 g ef o=b7 c ef o:=by
 by_cases b: ∃X,(o,X)∈ef
 .exact rQ b
 .rw[ed (λZ a=>b ⟨Z,a⟩),ed (λZ a=>b ⟨Z,a⟩),h]
theorem lX {L d:Nat->Bool} {o:Nat}: ∀ {rs:List (cu S)} {k:Nat} {g b:Nat->Option (Ob S)},(∀j r,rs[j]? =some r->(∃X,(o,X)∈r.ef)->L (k+j)=d (k+j))->g o=b o->cF L k rs g o=cF d k rs b o
 |[],k,g,b,_,h=>h
 |r::rs,k,g,b,hl,h=>by
  simp only[cF];refine lX (λj l i a=>by have:=hl (j+1) l (by simpa using i) a;rwa [show k+(j+1)=k+1+j by omega] at this) ?_
  by_cases a: ∃X,(o,X)∈r.ef
  .have:=hl 0 r rfl a;rw[ξN] at this;rw[this];cases d k with
   |true=>exact rQ a
   |false=>exact h
  .have out: ∀(c:Bool) (f:Nat->Option (Ob S)),(bif c then b7 f r.ef else f) o=f o:=λc f=>by
    cases c with
    |true=>exact ed (λZ e=>a ⟨Z,e⟩)
    |false=>rfl
   rw[out,out,h]
theorem xu {L:Nat->Bool}: ∀ {rs a:List (cu S)} {k:Nat} {g:Nat->Option (Ob S)},cF L k (rs++a) g=cF L (k+rs.length) a (cF L k rs g)
 |[],a,k,g=>rfl
 |r::rs,a,k,g=>by
  simp only[ξZ,cF,ξu];rw[xu,show k+1+rs.length=k+(rs.length+1) by omega]
theorem HJ {o:Nat} {L:Nat->Bool} {rs:List (cu S)} {k:Nat} {g:Nat->Option (Ob S)} (h: ∀j r,rs[j]? =some r->(∃X,(o,X)∈r.ef)->L (k+j)=false):cF L k rs g o=g o:=by
 have a:cF L k rs g o=cF (λ_=>false) k rs g o:=lX (λj r b c=>h j r b c) rfl;rw[a];clear h a
 induction rs generalizing k with
 |nil=>rfl
 |cons r rs d=>simp only[cF,cond_false];exact d
theorem OU {L:Nat->Bool} {i o:Nat} {acc:List (cu S)} {r:cu S} {g:Nat->Option (Ob S)} (l:acc[i]? =some r) (t:L i=false) (q:(∃X,(o,X)∈r.ef)-> ∀k a,i<k->acc[k]? =some a->(∃X,(o,X)∈a.ef)->L k=false):
  cF (λk=>ε k i||L k) 0 acc g o=b7 (cF L 0 acc g) r.ef o:=by
 by_cases c: ∃X,(o,X)∈r.ef
 .obtain⟨hi,he⟩:=ζ.1 l;have s:acc=acc.take i++r::acc.drop (i+1):=by
   rw[<-he,<-List.drop_eq_getElem_cons hi,ξb]
  have hlen:(acc.take i).length=i:=by rw[ξ7];omega
  have lhs:cF (λk=>ε k i||L k) 0 acc g o=b7 (cF (λk=>ε k i||L k) 0 (acc.take i) g) r.ef o:=by
   conv=>lhs;rw[s]
   rw[xu,hlen,ξg];simp only[cF,ξD,ζa,cond_true];refine HJ λj a b f=>?_;have p:acc[i+1+j]? =some a:=by rw[<-ζk];exact b
   have m:=q c (i+1+j) a (by omega) p f;have d:ε (i+1+j) i=false:=by
    cases e:ε (i+1+j) i with
    |false=>rfl
    |true=>have:=δ e;omega
   simp only[m,d,Bool.or_self]
  rw[lhs];exact rQ c
 .rw[ed (λZ n=>c ⟨Z,n⟩)];refine lX (λj a b f=>?_) rfl;rw[ξg]
  by_cases h:j=i
  .subst h;rw[l] at b;cases b;exact absurd f c
  .have d:ε j i=false:=by
    cases e:ε j i with
    |false=>rfl
    |true=>exact absurd (δ e) h
   simp[d]
theorem Rp {l m:Γ}:xR l m=true↔ ∀i∈l,i∉m:=by
 unfold xR;rw[ξ9];exact forall_congr' λi=>forall_congr' λ_=>by rw[ξT,<-ζw,hv]
theorem ad4 {l:Γ} {nx n:Nat}:Ir l nx n=true↔ ∀i∈l,¬(nx<=i/\i<nx+n):=by
 unfold Ir;rw[ξ9];refine forall_congr' λi=>forall_congr' λ_=>?_;rw[ξT,<-ζw,η];constructor
 .rintro h ⟨a,b⟩;exact h ⟨ζF.mpr a,ξ.mpr b⟩
 .rintro h ⟨a,b⟩;exact h ⟨ξa a,ξ.mp b⟩
theorem Nu {cl rd:Γ} {up:Up S}: ∀ {rs:List (cu S)} {k j:Nat} {r:cu S},kC cl rd up rs k=true->rs[j]? =some r->k+j∈cl\/((∀i∈rd,i∉keys r.up)/\(∀i∈rd,¬(r.nx<=i/\i<r.nx+r.nw.length))/\ ∀i∈keys up,i∉r.rd)
 |[],k,j,r,_,b=>by simp at b
 |q::rs,k,j,r,h,b=>by
  simp only[kC,η,ξM] at h;cases j with
  |zero=>
   simp at b;subst b;rw[ξN];rcases h.1 with a|a
   .exact .inl (hv.1 a)
   .exact .inr ⟨Rp.1 a.1,ad4.1 a.2.1,Rp.1 a.2.2⟩
  |succ j=>
   have:=Nu (j:=j) h.2 (by simpa using b)
   rwa [show k+1+j=k+(j+1) by omega] at this
theorem OY {cl:Γ}: ∀ {rs:List (cu S)} {k j:Nat} {r:cu S},idle cl rs k=true->rs[j]? =some r->k+j∈cl\/(r.up=[]/\r.nw=[])
 |[],k,j,r,_,a=>by simp at a
 |q::rs,k,j,r,h,a=>by
  simp only[idle,η,ξM] at h;cases j with
  |zero=>
   simp at a;subst a;rw[ξN];rcases h.1 with b|b
   .exact .inl (hv.1 b)
   .right;split at b
    .rename_i c d;exact⟨c,d⟩
    .cases b
  |succ j=>
   have:=OY (j:=j) h.2 (by simpa using a)
   rwa [show k+1+j=k+(j+1) by omega] at this
theorem jJ {r:cu S} {o:Nat}:(∃X,(o,X)∈r.ef)↔o∈keys r.up\/(r.nx<=o/\o<r.nx+r.nw.length):=by
 unfold cu.ef;constructor
 .rintro ⟨X,h⟩;rcases ξ5.1 h with h|h
  .exact .inl (nS.2 ⟨X,h⟩)
  .obtain⟨j,a,rfl⟩:=jh.1 h;have:=(ζ.1 a).1;exact .inr ⟨by omega,by omega⟩
 .rintro (h|⟨a,c⟩)
  .obtain⟨X,h⟩:=nS.1 h;exact⟨X,υ _ h⟩
  .have b:o-r.nx<r.nw.length:=by omega
   exact⟨r.nw[o-r.nx],ω _ (jh.2 ⟨o-r.nx,ο b,by omega⟩)⟩
end
section
variable {S:bh} {P:Program} {N:Nat} {ops:Array Oper}
theorem ag8 {id:Nat} {rr:Option Nat} {Q:Exit->Act->World->Prop} {I:Array Bool->Act->World->Prop} (hm:P.follows .mixedOrders=true) (y: ∀i o,ops[i]? =some o-> ∀x∈cQ o,x<i)
  (O: ∀(listed:Array Bool) (a:Act) (w:World) (i:Nat) (o:Oper),listed.size=ops.size->(∀(k:Nat) (o:Oper),ops[k]? =some o->listed.getD k true=true-> ∀x∈cQ o,listed.getD x true=true)->I listed a w->ops[i]? =some o->listed.getD i true=false->(∀x∈cQ o,listed.getD x true=true)->
   wpOpIn (fw rr) 0 P ops Q i (λa' w'=>I (listed.setIfInBounds i true) a' w') a w)
  (H: ∀(listed:Array Bool) (a:Act) (w:World),listed.size=ops.size->(∀i,i<ops.size->listed.getD i true=true)->I listed a w->Q .normal a w) {a:Act} {w:World} (C:I (ξc ops.size false) a w.drew):(ζy id ops true).wpIn (fw rr) 0 P Q a w:=by
 refine wpIn_region_draw λt=>?_;simp only[Region.schedule,hm,ζa,if_true];refine wpAnyIn_sound ops.size t _ a _ ?_;have key: ∀(fuel:Nat) (listed:Array Bool) (a:Act) (w':World),listed.size=ops.size->eB listed ops.size=fuel->(∀(k:Nat) (o:Oper),ops[k]? =some o->listed.getD k true=true-> ∀x∈cQ o,listed.getD x true=true)->I listed a w'->
   wpAnyIn (fw rr) 0 P .any ops Q fuel listed a w':=by
  intro fuel
  induction fuel with
  |zero=>
   intro listed a w' j hl m hI;have v:=nT _ hl;refine⟨?_,H listed a w' j v hI⟩;unfold ζb;rw[List.filter_eq_nil_iff];intro i hi;have:=v i (by simpa using hi);simp[this]
  |succ fuel s=>
   intro listed a w' j hl m hI;refine⟨λM=>?_,λi hi=>?_⟩
   .exfalso;obtain⟨i,d,D,E⟩:=q3 ops.size (by rw[hl];omega:eB listed ops.size≠0);have c:=ν d;have G:=y i _ c;have:i∈ζb .any ops listed:=by
     unfold ζb;rw[ξm];refine⟨by simpa using d,?_⟩;rw[D,c];simp only[Bool.not_false,ξJ,ξy,ξq,ξB];intro e he;cases l:Region.binds .any e with
     |false=>simp
     |true=>
      have g:=G e.on (jf.2 ⟨e,he,l,rfl⟩);have:=E e.on g;have r:e.on<listed.size:=by omega
      simp only[θ,ν r,ξq] at this ⊢;simp[this]
    rw[M] at this;cases this
   .unfold ζb at hi;rw[ξm] at hi;obtain⟨J,p⟩:=hi;have z:i<ops.size:=by simpa using J
    have c:=ν z;rw[c] at p;simp only[η,ξT,ξy,ξq,ξB] at p;obtain⟨A,L⟩:=p;have u: ∀x∈cQ ops[i],listed.getD x true=true:=by
     intro x f;obtain⟨e,he,l,rfl⟩:=jf.1 f;have d:=L e he;rw[l] at d;simp only[ξK,ξX] at d;have g:=y i _ c e.on f;have r:e.on<listed.size:=by omega
     simp only[θ,ν r,ξq] at d ⊢;exact d
    have B:i<listed.size:=by omega
    have N: ∀k,(listed.setIfInBounds i true).getD k true=true↔k=i\/listed.getD k true=true:=by
     intro k
     by_cases b:i=k
     .subst b;simp[θ,B]
     .simp only[θ,ξ3 b];constructor
      .exact λh=>.inr h
      .rintro (h|h)
       .exact absurd h.symm b
       .exact h
    have K:=Ij B A ops.size;simp only[z,if_true] at K;refine wpOpIn_mono (λa' b8 F=>?_) (O listed a w' i _ j m hI c A u);refine s _ a' b8 (by simpa using j) (by omega) ?_ F;intro k o' q b x f;rw[N] at b ⊢;right;rcases b with rfl|b
    .rw[c] at q;cases q;exact u x f
    .exact m k o' q b x f
 refine key ops.size _ a _ (by simp) ?_ ?_ C
 .have: ∀n,n<=ops.size->eB (ξc ops.size false) n=n:=by
   intro n
   induction n with
   |zero=>intro _;rfl
   |succ n s=>
    intro hn;simp only[eB,s (by omega)];have:(ξc ops.size false).getD n true=false:=by simp[θ,show n<ops.size by omega]
    simp[this]
  exact this _ (ξe _)
 .intro k o c b;have g:=(ξi.1 c).1;simp[θ,g] at b
inductive Gh (S:bh)|done (a:AV S)|bB (u:Value)|never
def kp (ops:Array Oper) (bj:AS S) (b:List (Gh S)) (s:Nat) (a:AV S):Prop:=(∃k,dp ops k=some s/\b[k]? =some (.done a))\/(a8.get bj.env s=some a/\ ∀k c,dp ops k=some s->b[k]? ≠some (.done c))
structure Want (K:bp S) (P:Program) (N:Nat) (ops:Array Oper) (bj:AS S) (pre:List (cu S)) (d:List (Gh S)) (i:Nat) (o:Oper) (r:cu S) (res:Rs S) (env:a8 S) (gc:Nat->Option (Ob S)):Prop where
 snd:uR K P o env (jw r.rd gc) r.nx res r.up r.nw
 ev: ∀s c,a8.get env s=some c->s∈ft ops o/\kp ops bj d s c
 UZ: ∀A O w a,a.tmps.size=N->cM A O w env a->ξ4 o (yielded ops a.tmps)=true
 gh: ∀x,gc x=cF (λ_=>true) 0 pre (aM bj.h) x
 al: ∀k∈keys r.up,∃Z,gc k=some Z
 sub: ∀k∈keys r.up,k∈r.rd
 lt: ∀x∈r.rd,x<r.nx
 vh: ∀k b,pre[k]? =some b->k∈eL ops i\/((∀i∈r.rd,i∉keys b.up)/\(∀i∈r.rd,¬(b.nx<=i/\i<b.nx+b.nw.length))/\ ∀i∈keys r.up,i∉b.rd)
def YK (N:Nat) (ops:Array Oper) (bj:AS S) (c:List (Gh S)) (o:Oper) (r:cu S) (b:AV S) (env:a8 S):Prop:=(∀s b,a8.get env s=some b->s∈ft ops o/\kp ops bj c s b)/\(∀A O w a,a.tmps.size=N->cM A O w env a->ξ4 o (yielded ops a.tmps)=false)/\b= .bG []/\r.up=[]/\r.nw=[]
def pa (K:bp S) (P:Program) (N:Nat) (ops:Array Oper) (bj:AS S) (pre:List (cu S)) (b:List (Gh S)) (i:Nat) (o:Oper) (r:cu S):Gh S->Prop
 | .done a=>(∃env gc,Want K P N ops bj pre b i o r (.ret a) env gc)\/ ∃env,YK N ops bj b o r a env
 | .bB u=> ∃env gc,Want K P N ops bj pre b i o r (.bB u) env gc
 | .never=>(r.up=[]/\r.nw=[])/\ ∃k∈eL ops i,∀a,b[k]? ≠some (.done a)
structure tL (ops:Array Oper) (bj:AS S) (acc:List (cu S)) (gs:List (Gh S)) (i:Nat) (r:cu S) (b:AS S):Prop where
 hp: ∀x,aM b.h x=b7 (cF (λ_=>true) 0 (acc.take i) (aM bj.h)) r.ef x
 hl:b.h.length=r.nx+r.nw.length
 env: ∀s c,a8.get b.env s=some c->(∀k,dp ops k≠some s)/\a8.get bj.env s=some c
 kZ:b.nb=bj.nb/\b.lp=bj.lp/\b.inr=bj.inr/\b.df=bj.df
 nm: ∀x∈bj.dt,x∈b.dt
 dt: ∀k a x,k<=i->acc[k]? =some a->x∈keys a.up->x<bj.nb->x∈b.dt
 pre: ∀k a,k<i->acc[k]? =some a->k∈eL ops i\/(a.up=[]/\a.nw=[])
 post: ∀k a,i<k->acc[k]? =some a->a.up=[]/\a.nw=[]
structure fJ (K:bp S) (P:Program) (N:Nat) (ops:Array Oper) (bj:AS S) (acc:List (cu S)) (gs:List (Gh S)) (pn:Option (Γ×Value×AS S)) (st:AS S):Prop where
 lg:gs.length=acc.length
 hp: ∀x,aM st.h x=cF (λ_=>true) 0 acc (aM bj.h) x
 hl:bj.h.length<=st.h.length
 pos: ∀(i k:Nat) r b,i<k->acc[i]? =some r->acc[k]? =some b->r.nx+r.nw.length<=b.nx
 top: ∀(i:Nat) r,acc[i]? =some r->bj.h.length<=r.nx/\r.nx+r.nw.length<=st.h.length
 env: ∀s a,a8.get st.env s=some a->kp ops bj gs s a
 kZ:st.nb=bj.nb/\st.lp=bj.lp/\st.inr=bj.inr/\st.df=bj.df
 nm: ∀x∈bj.dt,x∈st.dt
 dt: ∀(i:Nat) r x,acc[i]? =some r->x∈keys r.up->x<bj.nb->x∈st.dt
 step: ∀i o r gh,ops[i]? =some o->acc[i]? =some r->gs[i]? =some gh->pa K P N ops bj (acc.take i) (gs.take i) i o r gh
 me:pn=none-> ∀(k:Nat) (gh:Gh S),gs[k]? =some gh-> ∃a,gh=Gh.done a
 k4: ∀dead u c,pn=some (dead,u,c)-> ∃i r,gs[i]? =some (.bB u)/\acc[i]? =some r/\tL ops bj acc gs i r c/\(∀k d,gs[k]? =some (.bB d)->k=i)/\(∀(k:Nat) (gh:Gh S),gs[k]? =some gh->((∃a,gh=Gh.done a)\/k∈dead)/\(k∈dead-> ∀a,gh≠Gh.done a))/\ ∀k∈dead,k<acc.length
structure mU (K:bp S) (P:Program) (N:Nat) (ops:Array Oper) (bj:AS S) (acc:List (cu S)) (gs:List (Gh S)) (B:cP) (L:Nat->Bool) (A:Pl) (O:Γ) (w:World) (a:Act):Prop where
 c:gj K P N B A O w (cF L 0 acc (aM bj.h)) (λx=>bj.h.length<=x/\ ∀(k:Nat) r,acc[k]? =some r->L k=true-> ¬(r.nx<=x/\x<r.nx+r.nw.length)) (λx=>x∈bj.dt\/ ∃(k:Nat) (r:cu S),acc[k]? =some r/\L k=true/\x∈keys r.up) bj.lp bj.inr bj.df a
 base: ∀s b,a8.get bj.env s=some b->(∀k,dp ops k=some s->L k=false)->b.rel A O w (a.tmps.getD s undef)
 done: ∀k s b,L k=true->dp ops k=some s->gs[k]? =some (.done b)->b.rel A O w (a.tmps.getD s undef)
 all: ∀k,L k=true-> ∃b,gs[k]? =some (.done b)
structure mX (N:Nat) (ops:Array Oper):Prop where
 below: ∀(i:Nat) o,ops[i]? =some o-> ∀x∈cQ o,x<i
 cl: ∀i,i<ops.size-> ∀k∈eL ops i,k<i
 dN: ∀i s,dp ops i=some s->s<N
 un: ∀i k s,dp ops i=some s->dp ops k=some s->i=k
 slot: ∀(i:Nat) o s,ops[i]? =some o->s∈ft ops o->(∃j∈cQ o,dp ops j=some s)\/ ∀k,dp ops k=some s->k=i\/i∈eL ops k
theorem nk {k s:Nat} (h:dp ops k=some s):k<ops.size:=by
 unfold dp at h;split at h
 .rename_i o a;exact(ξi.1 a).1
 .cases h
theorem M3 {k:Nat}: ∀ {l:Γ},hK k l=true-> ∀x∈l,x<k:=Dc.Fz
theorem SC (h:yj N ops=true):mX N ops:=by
 unfold yj at h;rw[ξ9] at h;have at_: ∀i o,ops[i]? =some o->hK i (cQ o)=true/\hK i (eL ops i)=true/\(match o.dst with
   |some d=>χ d N&&(ξC ops.size).all λk=>ε k i||(match dp ops k with|some e=>!(ε d e)|none=>true)
   |none=>true)=true/\(ft ops o).all (JN ops i o)=true:=by
  intro i o a;have hi:=(ξi.1 a).1;have:=h i (by simpa using hi);unfold RE at this;rw[a] at this;simp only[η] at this;exact this
 have n: ∀ {i s},dp ops i=some s-> ∃o,ops[i]? =some o/\o.dst=some s:=by
  intro i s f;unfold dp at f;split at f
  .rename_i o a;exact⟨o,a,f⟩
  .cases f
 constructor
 .exact λi o a=>M3 (at_ i o a).1
 .intro i hi;exact M3 (at_ i _ (ν hi)).2.1
 .intro i s f;obtain⟨o,a,g⟩:=n f;have:=(at_ i o a).2.2.1;rw[g] at this;simp only[η] at this;exact ξ.mp this.1
 .intro i k s hi l;obtain⟨o,a,g⟩:=n hi;have:=(at_ i o a).2.2.1;rw[g] at this;simp only[η,ξ9] at this;have b:=this.2 k (by simpa using nk l);rw[l] at b;simp at b;exact b.symm
 .intro i o s a f;have:=(at_ i o a).2.2.2;rw[ξ9] at this;have b:=this s f;unfold JN at b;simp only[ξM,ζ0,ξ9] at b;rcases b with⟨j,c,m⟩|b
  .left;refine⟨j,c,?_⟩;split at m
   .rename_i d g;rw[g,δ m]
   .cases m
  .right;intro k l;have c:=b k (by simpa using nk l);rw[l] at c;simp only[ξM,ξD,ξK,ζm,false_or] at c;rcases c with c|c
   .exact .inl (δ c)
   .exact .inr (hv.1 c)
end
section
variable {S:bh} {K:bp S} {P:Program} {N:Nat} {ops:Array Oper} {bj:AS S}
theorem pF {r:cu S} (h:r.up=[]/\r.nw=[]) {x:Nat}: ¬ ∃X,(x,X)∈r.ef:=by
 rintro ⟨X,hX⟩;unfold cu.ef at hX;rw[h.1,h.2] at hX;cases hX
theorem OV {acc:List (cu S)} {i x:Nat} {g:Nat->Option (Ob S)} (hi:i<=acc.length):cF (λ_=>true) 0 (acc.take i) g x=cF (λk=>χ k i) 0 acc g x:=by
 have hlen:(acc.take i).length=i:=by rw[ξ7];omega
 have b:cF (λk=>χ k i) 0 acc g x=cF (λk=>χ k i) 0 (acc.take i) g x:=by
  conv=>lhs;rw[<-ξb i acc]
  rw[xu,hlen,ξg];refine HJ λj r a _=>?_;cases c:χ (i+j) i with
  |false=>rfl
  |true=>have:=ξ.mp c;omega
 rw[b];refine lX (λj r a _=>?_) rfl;have:j<i:=by
  have:=(ζ.1 a).1;omega
 rw[ξg];exact(ξ.mpr this).symm
theorem pa.cl {pre:List (cu S)} {b:List (Gh S)} {i:Nat} {o:Oper} {r:cu S} {gh:Gh S} (h:pa K P N ops bj pre b i o r gh):
  (r.up=[]/\r.nw=[])\/((∀k∈keys r.up,k∈r.rd)/\(∀x∈r.rd,x<r.nx)/\ ∀(k:Nat) (a:cu S),pre[k]? =some a->k∈eL ops i\/((∀i∈r.rd,i∉keys a.up)/\(∀i∈r.rd,¬(a.nx<=i/\i<a.nx+a.nw.length))/\ ∀i∈keys r.up,i∉a.rd)):=by
 cases gh with
 |done c=>
  rcases h with⟨env,gc,hw⟩|⟨env,hw⟩
  .exact .inr ⟨hw.sub,hw.lt,hw.vh⟩
  .exact .inl hw.2.2.2
 |bB u=>obtain⟨env,gc,hw⟩:=h;exact .inr ⟨hw.sub,hw.lt,hw.vh⟩
 |never=>exact .inl h.1
structure lz (ops:Array Oper) (L:Nat->Bool) (i:Nat) (o:Oper):Prop where
 oi:ops[i]? =some o
 up: ∀k,L k=true->k<ops.size/\ ∀j∈eL ops k,L j=true
 cl: ∀j∈eL ops i,L j=true
 no:L i=false
 af: ∀j∈cQ o,L j=true
variable {acc:List (cu S)} {gs:List (Gh S)} {pn:Option (Γ×Value×AS S)} {st:AS S} {L:Nat->Bool} {i:Nat} {o:Oper} {r:cu S}
theorem fJ.T5 (c:fJ K P N ops bj acc gs pn st) (g:acc.length=ops.size) {k:Nat} {e:cu S} (d:acc[k]? =some e): ∃o' gh,ops[k]? =some o'/\gs[k]? =some gh/\pa K P N ops bj (acc.take k) (gs.take k) k o' e gh:=by
 have f:=(ζ.1 d).1;have a:k<ops.size:=by omega
 have b:k<gs.length:=by rw[c.lg];exact f
 exact⟨_,_,ν a,ο b,c.step k _ _ _ (ν a) d (ο b)⟩
theorem qf {α:Type} {l:List α} {i k:Nat} {x:α} (h:l[k]? =some x) (a:k<i):(l.take i)[k]? =some x:=by
 rw[ξU a];exact h
theorem agree (q:fJ K P N ops bj acc gs pn st) (y:acc.length=ops.size) (d:lz ops L i o) (l:acc[i]? =some r) (v: ∀x∈r.rd,x<r.nx)
  (u: ∀(k:Nat) (a:cu S),(acc.take i)[k]? =some a->k∈eL ops i\/((∀i∈r.rd,i∉keys a.up)/\(∀i∈r.rd,¬(a.nx<=i/\i<a.nx+a.nw.length))/\ ∀i∈keys r.up,i∉a.rd)):
  ∀x∈r.rd,cF L 0 acc (aM bj.h) x=cF (λ_=>true) 0 (acc.take i) (aM bj.h) x:=by
 intro x e;rw[OV (ζc (ζ.1 l).1)];refine lX (λk a j m=>?_) rfl;rw[ξg];rcases ξf k i with h|h|h
 .rw[show χ k i=true from ξ.mpr h];rcases u k a (qf j h) with c|⟨c,n,_⟩
  .exact d.cl k c
  .rcases jJ.1 m with b|b
   .exact absurd b (c x e)
   .exact absurd b (n x e)
 .subst h;rw[d.no];cases g:χ k k with
  |false=>rfl
  |true=>have:=ξ.mp g;omega
 .rw[show χ k i=false by
   cases g:χ k i with
   |false=>rfl
   |true=>have:=ξ.mp g;omega]
  have hp:=q.pos i k r a h l j;have A:=v x e;obtain⟨o',gh,z,_,w⟩:=q.T5 y j;rcases w.cl with s|⟨c,n,b⟩
  .exact absurd m (pF s)
  .rcases jJ.1 m with p|p
   .rcases b i r (qf l h) with f|⟨_,_,f⟩
    .cases t:L k with
     |false=>rfl
     |true=>have:=(d.up k t).2 i f;rw[d.no] at this;cases this
    .exact absurd e (f x p)
   .omega
theorem late (g:fJ K P N ops bj acc gs pn st) (w:acc.length=ops.size) (m:lz ops L i o) (l:acc[i]? =some r) (t: ∀x∈r.rd,x<r.nx) (v: ∀k∈keys r.up,k∈r.rd) {x:Nat} (y: ∃X,(x,X)∈r.ef):
  ∀k c,i<k->acc[k]? =some c->(∃X,(x,X)∈c.ef)->L k=false:=by
 intro k c h j e;have hp:=g.pos i k r c h l j;obtain⟨o',gh,B,_,u⟩:=g.T5 w j;rcases u.cl with n|⟨f,z,p⟩
 .exact absurd e (pF n)
 .rcases p i r (qf l h) with d|⟨d,q,A⟩
  .cases s:L k with
   |false=>rfl
   |true=>have:=(m.up k s).2 i d;rw[m.no] at this;cases this
  .exfalso;rcases jJ.1 y with b|b
   .have C:=t x (v x b);rcases jJ.1 e with a|a
    .exact d x (f x a) b
    .omega
   .rcases jJ.1 e with a|a
    .exact q x (f x a) b
    .omega
variable {B:cP} {A:Pl} {O:Γ} {w:World} {a:Act}
theorem Gb (hR:mX N ops) (d:lz ops L i o) (hI:mU K P N ops bj acc gs B L A O w a) {env:a8 S} (t: ∀s c,a8.get env s=some c->s∈ft ops o/\kp ops bj (gs.take i) s c):cM A O w env a:=by
 intro s c h;obtain⟨p,he⟩:=t s c h;rcases he with⟨k,b,e⟩|⟨r,x⟩
 .have v:k<i:=by
   have:=(ζ.1 e).1;rw[ξ7] at this;omega
  have u:gs[k]? =some (.done c):=by rw[ξU v] at e;exact e
  refine hI.done k s c ?_ b u;rcases hR.slot i o s d.oi p with⟨j,m,n⟩|g
  .rw[<-hR.un j k s n b];exact d.af j m
  .rcases g k b with rfl|l
   .omega
   .have:=hR.cl k (nk b) i l;omega
 .refine hI.base s c r λk b=>?_;cases f:L k with
  |false=>rfl
  |true=>
   exfalso;rcases hR.slot i o s d.oi p with⟨j,m,n⟩|g
   .have:=hR.un j k s n b;subst this;obtain⟨q,e⟩:=hI.all j f;exact x j q b (qf e (hR.below i o d.oi j m))
   .rcases g k b with rfl|l
    .rw[d.no] at f;cases f
    .have:=(d.up k f).2 i l;rw[d.no] at this;cases this
theorem bS.view {rd:Γ} {g gc:Nat->Option (Ob S)} (h:bS A O w g) (b: ∀x∈rd,g x=gc x):bS A O w (jw rd gc):=by
 refine h.less λx X a=>?_;unfold jw at a;cases hm:eD x rd<;>rw[hm] at a
 .cases a
 .rw[b x (hv.1 hm)];exact a
theorem b_.view {A':Pl} {O':Γ} {w':World} {rd:Γ} {ef:Up S} {g gc:Nat->Option (Ob S)} (h:b_ A O w (jw rd gc) ef A' O' w') (f: ∀x∈rd,g x=gc x) (m: ∀x X,(x,X)∈ef->x∈rd\/g x=Option.none):b_ A O w g ef A' O' w':=by
 have at_: ∀x Z,jw rd gc x=some Z->g x=some Z:=λx Z a=>by
  unfold jw at a;cases hm:eD x rd<;>rw[hm] at a
  .cases a
  .rw[f x (hv.1 hm)];exact a
 refine⟨h.le,h.tr,h.ob,λb d n=>h.keep b d λi X p hi hp Z a=>n i X p hi hp Z (at_ _ _ a),λi X hi=>?_,h.dj,h.nd,λx X p o hp=>?_,h.pl,λi X Z hi a hn=>?_⟩
 .obtain⟨p,c,l,e⟩:=h.al i X hi;exact⟨p,c,l,λb d=>⟨(e b d).1,(e b d).2.imp id λ⟨j,Y,q,V,k,a2,a3⟩=>⟨j,Y,q,V,k,at_ _ _ a2,a3⟩⟩⟩
 .obtain⟨Z,a⟩:=h.lv x X p o hp;exact⟨Z,at_ _ _ a⟩
 .rcases m i _ hi with c|c
  .refine h.nt i X Z hi ?_ hn;unfold jw;rw[hv.2 c,cond_true,<-f i c];exact a
  .rw[a] at c;cases c
theorem T6 (q:fJ K P N ops bj acc gs pn st) (F:acc.length=ops.size) (D:lz ops L i o) (j:acc[i]? =some r) (C: ∀x∈r.rd,x<r.nx) (m: ∀k∈keys r.up,k∈r.rd)
  {gc:Nat->Option (Ob S)} (t: ∀x∈r.rd,cF L 0 acc (aM bj.h) x=gc x) (u: ∀k∈keys r.up,∃Z,gc k=some Z) (hI:mU K P N ops bj acc gs B L A O w a) {A':Pl} {O':Γ} {w':World} (he:b_ A O w (jw r.rd gc) r.ef A' O' w'):
  gj K P N B A' O' w' (b7 (cF L 0 acc (aM bj.h)) r.ef) (λx=>bj.h.length<=x/\ ∀(k:Nat) r,acc[k]? =some r->(ε k i||L k)=true-> ¬(r.nx<=x/\x<r.nx+r.nw.length)) (λx=>x∈bj.dt\/ ∃(k:Nat) (r:cu S),acc[k]? =some r/\(ε k i||L k)=true/\x∈keys r.up) bj.lp bj.inr bj.df a:=by
 have s: ∀x,r.nx<=x->x<r.nx+r.nw.length->bj.h.length<=x/\ ∀(k:Nat) r,acc[k]? =some r->L k=true-> ¬(r.nx<=x/\x<r.nx+r.nw.length):=by
  intro x n l;refine⟨by have:=(q.top i r j).1;omega,λk f e d E=>?_⟩;rcases ξf k i with h|h|h
  .have:=q.pos k i f r h e j;omega
  .subst h;rw[D.no] at d;cases d
  .have:=q.pos i k r f h j e;omega
 have v: ∀x X,(x,X)∈r.ef->x∈r.rd\/cF L 0 acc (aM bj.h) x=none:=λx X b=>by
  rcases jJ.1 ⟨X,b⟩ with h|h
  .exact .inl (m x h)
  .right;cases g:cF L 0 acc (aM bj.h) x with
   |none=>rfl
   |some Z=>
    obtain⟨p,hp,_⟩:=hI.c.rel.al x Z g;rw[hI.c.iZ x (s x h.1 h.2)] at hp;cases hp
 refine(hI.c.ca (λx X b=>?_) (he.view t v)).weaken ?_ ?_
 .rcases jJ.1 ⟨X,b⟩ with h|h
  .obtain⟨Z,g⟩:=u x h;exact .inl ⟨Z,by rw[t x (m x h)];exact g⟩
  .exact .inr (s x h.1 h.2)
 .rintro x ⟨n,l⟩;refine⟨⟨n,λk f e d=>l k f e (by rw[d,ξv])⟩,λX b=>?_⟩;rcases jJ.1 ⟨X,b⟩ with h|h
  .have:=C x (m x h);obtain⟨Z,g⟩:=u x h;have z:cF L 0 acc (aM bj.h) x=some Z:=by rw[t x (m x h)];exact g
   obtain⟨p,hp,_⟩:=hI.c.rel.al x Z z;rw[hI.c.iZ x ⟨n,λk f e d=>l k f e (by rw[d,ξv])⟩] at hp;cases hp
  .exact l i r j (by rw[ξD,ζa]) h
 .rintro x (⟨h|⟨k,f,e,d,b⟩⟩|⟨⟨Z,g⟩,X,b⟩)
  .exact .inl h
  .exact .inr ⟨k,f,e,by rw[d,ξv],b⟩
  .rcases jJ.1 ⟨X,b⟩ with h|h
   .exact .inr ⟨i,r,j,by rw[ξD,ζa],h⟩
   .have y:=s x h.1 h.2;obtain⟨p,hp,_⟩:=hI.c.rel.al x Z g;rw[hI.c.iZ x y] at hp;cases hp
theorem aff {a:Act} {d s:Nat} {v:Value} (c:d<a.tmps.size):(a.put (some d) v).tmps.getD s undef=bif ε d s then v else a.tmps.getD s undef:=by
 cases b:ε d s with
 |true=>
  have:=δ b;subst this;simp[ζx,θ,c]
 |false=>
  have f:d≠s:=λe=>by subst e;simp at b
  simp[ζx,θ,ξ3 f]
theorem T7 (hR:mX N ops) (q:lz ops L i o) (hI:mU K P N ops bj acc gs B L A O w a) {A':Pl} {O':Γ} {w':World} (C:Tr O w O' w') (hle:A.le A') {m:AV S} {v:Value} (u:gs[i]? =some (.done m)) (H:m.rel A' O' w' v)
  (E:gj K P N B A' O' w' (cF (λk=>ε k i||L k) 0 acc (aM bj.h)) (λx=>bj.h.length<=x/\ ∀(k:Nat) r,acc[k]? =some r->(ε k i||L k)=true-> ¬(r.nx<=x/\x<r.nx+r.nw.length)) (λx=>x∈bj.dt\/ ∃(k:Nat) (r:cu S),acc[k]? =some r/\(ε k i||L k)=true/\x∈keys r.up) bj.lp bj.inr bj.df a):
  mU K P N ops bj acc gs B (λk=>ε k i||L k) A' O' w' (a.put o.dst v):=by
 have z: ∀s,(a.put o.dst v).tmps.getD s undef=(match o.dst with|some d=>bif ε d s then v else a.tmps.getD s undef|none=>a.tmps.getD s undef):=by
  intro s;cases e:o.dst with
  |none=>rfl
  |some d=>
   have F:dp ops i=some d:=by unfold dp;rw[q.oi];exact e
   exact aff (by rw[hI.c.size];exact hR.dN i d F)
 have t: ∀d,o.dst=some d->dp ops i=some d:=λd e=>by unfold dp;rw[q.oi];exact e
 refine⟨E.act ?_ ?_,?_,?_,?_⟩
 .cases o.dst<;>simp[ζx]
 .cases o.dst<;>rfl
 .intro s b D y;rw[z s];have j:=(hI.base s b D λk f=>by have:=y k f;simp only[Bool.or_eq_false_iff] at this;exact this.2).tr C hle;split
  .rename_i d e;cases p:ε d s with
   |true=>
    have:=δ p;subst this;have:=y i (t d e);simp at this
   |false=>exact j
  .exact j
 .intro k s b f l n;rw[z s];cases g:ε k i with
  |true=>
   have:=δ g;subst this;rw[u] at n;cases n;have G:o.dst=some s:=by unfold dp at l;rw[q.oi] at l;exact l
   rw[G];simpa using H
  |false=>
   simp only[g,ξX] at f;have j:=(hI.done k s b f l n).tr C hle;split
   .rename_i d e;cases p:ε d s with
    |true=>
     have:=δ p;subst this;have:=hR.un k i d l (t d e);subst this;simp at g
    |false=>exact j
   .exact j
 .intro k f;cases g:ε k i with
  |true=>
   have:=δ g;subst this;exact⟨m,u⟩
  |false=>
   simp only[g,ξX] at f;exact hI.all k f
end
section
variable {S:bh} {K:bp S} {P:Program} {N:Nat} {ops:Array Oper} {bj:AS S}
variable {acc:List (cu S)} {gs:List (Gh S)} {pn:Option (Γ×Value×AS S)} {st:AS S} {L:Nat->Bool} {i:Nat} {o:Oper} {r:cu S}
variable {B:cP} {A:Pl} {O:Γ} {w:World} {a:Act}
def e_ (n:Nat) (listed:Array Bool):Nat->Bool:=λk=>χ k n&&listed.getD k true
theorem adB {n:Nat} {listed:Array Bool} (d:listed.size=n) {i:Nat} (hi:i<n):e_ n (listed.setIfInBounds i true)=λk=>ε k i||e_ n listed k:=by
 funext k
 unfold e_;cases a:ε k i with
 |true=>
  have:=δ a;subst this;have b:χ k n=true:=ξ.mpr hi;rw[b];simp[θ,d,hi]
 |false=>
  have c:i≠k:=λe=>by subst e;simp at a
  simp[θ,ξ3 c]
theorem ae0 (g:fJ K P N ops bj acc gs pn st) (F:acc.length=ops.size) (hR:mX N ops) (t:lz ops L i o) (d:acc[i]? =some r) (C: ∀x∈r.rd,x<r.nx) (D: ∀k∈keys r.up,k∈r.rd)
  {gc:Nat->Option (Ob S)} (G: ∀x∈r.rd,cF L 0 acc (aM bj.h) x=gc x) (z: ∀k∈keys r.up,∃Z,gc k=some Z) (hI:mU K P N ops bj acc gs B L A O w a) {A':Pl} {O':Γ} {w':World} (he:b_ A O w (jw r.rd gc) r.ef A' O' w')
  {u:AS S} (hp:tL ops bj acc gs i r u) (hle:B.nb<=bj.h.length) (q:bj.nb=B.nb):bn K P N B A' O' w' u a:=by
 have p:=T6 g F t d C D G z hI he;obtain⟨I,J,M,Q⟩:=hp.kZ;rw[<-J,<-M,<-Q] at p;refine p.Uh (λx=>?_) (λx e=>?_) (λx H e=>?_) (I.trans q) (by rw[hp.hl];have:=(g.top i r d).1;omega) (λs m E=>?_)
 .rw[hp.hp x]
  by_cases j: ∃X,(x,X)∈r.ef
  .exact rQ j
  .rw[ed (λX hX=>j ⟨X,hX⟩),ed (λX hX=>j ⟨X,hX⟩),OV (ζc (ζ.1 d).1)]
   symm
   refine lX (λk c b l=>?_) rfl;rw[ξg];rcases ξf k i with h|h|h
   .rw[show χ k i=true from ξ.mpr h];rcases hp.pre k c h b with f|f
    .exact t.cl k f
    .exact absurd l (pF f)
   .subst h;rw[d] at b;cases b;exact absurd l j
   .exact absurd l (pF (hp.post k c h b))
 .rw[hp.hl] at e;refine⟨by have:=(g.top i r d).1;omega,λk c b y n=>?_⟩;rcases ξf k i with h|h|h
  .have:=g.pos k i c r h b d;omega
  .subst h;rw[d] at b;cases b;omega
  .rw[(hp.post k c h b).2] at n;simp at n;omega
 .rcases e with h|⟨k,c,b,y,e⟩
  .exact hp.nm x h
  .rcases ξ2 i k with h|h
   .rw[(hp.post k c h b).1] at e;cases e
   .exact hp.dt k c x h b e (by rw[q];exact H)
 .obtain⟨f,v⟩:=hp.env s m E;exact(hI.base s m v λk b=>absurd b (f k)).tr he.tr he.le
theorem aaJ (hm:P.follows .mixedOrders=true) (hR:mX N ops) (f:fJ K P N ops bj acc gs pn st) (J:acc.length=ops.size) {e:NP} {ae:AS S} (he:(pn=none/\e= .go/\ae=st)\/ ∃dead u V,pn=some (dead,u,V)/\e= .bB u/\ae=V) {id:Nat} (h:bn K P N B A O w bj a):
  (ζy id ops true).wpIn (fw B.rr) 0 P (hJ K P N B e.x ae) a w:=by
 refine ag8 (I:=λlisted a w=> ∃A O,mU K P N ops bj acc gs B (e_ ops.size listed) A O w a) hm hR.below ?_ ?_ ?_
 .rintro listed a w i o aj Z ⟨A,O,hI⟩ G ax af;have aa:i<ops.size:=(ξi.1 G).1;have ab: ∀k,k<ops.size->listed.getD k true=true->e_ ops.size listed k=true:=λk g C=>by
   unfold e_;rw[C,ζn];exact ξ.mpr g
  have l:lz ops (e_ ops.size listed) i o:=by
   refine⟨G,?_,?_,?_,?_⟩
   .intro k b;unfold e_ at b;rw[η] at b;have Q:=ξ.mp b.1;refine⟨Q,λj n=>?_⟩;have av:=hR.cl k Q j n;refine ab j (by omega) ?_;unfold eL at n;rw[ν Q] at n;exact lI Z 12 _ (λx d=>Z k _ (ν Q) b.2 x d) j n
   .intro j n;have av:=hR.cl i aa j n;refine ab j (by omega) ?_;unfold eL at n;rw[G] at n;exact lI Z 12 _ af j n
   .unfold e_;rw[ax,Bool.and_false]
   .intro j n;exact ab j (by have:=hR.below i o G j n;omega) (af j n)
  have ai:i<acc.length:=by omega
  have p:acc[i]? =some acc[i]:=ο ai;have ah:i<gs.length:=by rw[f.lg];exact ai
  have R:=f.step i o acc[i] gs[i] G p (ο ah);have F:gs[i]? =some gs[i]:=ο ah;have ag: ∀j,j<acc[i].nw.length->A.pl (acc[i].nx+j)=none:=by
   intro j n;refine hI.c.iZ _ ⟨by have:=(f.top i _ p).1;omega,λk m b E Y=>?_⟩;rcases ξf k i with h|h|h
   .have:=f.pos k i m _ h b p;omega
   .subst h;rw[l.no] at E;cases E
   .have:=f.pos i k _ m h p b;omega
  simp only[wpOpIn,G];rw[adB aj aa];generalize aP:gs[i]=an at R F;cases an with
  |done q=>
   rcases R with⟨env,gc,hw⟩|⟨env,aC,aD,aE,ad⟩
   .have D:=Gb hR l hI hw.ev;rw[if_pos (hw.UZ A O w a hI.c.size D)];have L: ∀x∈acc[i].rd,cF (e_ ops.size listed) 0 acc (aM bj.h) x=gc x:=λx d=>(agree f J l p hw.lt hw.vh x d).trans (hw.gh x).symm;refine lf ?_ ?_ (hw.snd B.rr A O w a D (hI.c.rel.view L) hI.c.ob hI.c.dc ag)
    .rintro a' w' ⟨v,rfl,W,z,A',O',aB,r⟩;cases z;refine⟨A',O',T7 hR l hI r.tr r.le F aB ?_⟩;have M:=T6 f J l p hw.lt hw.sub L hw.al hI r;rw[show cF (λk=>ε k i||e_ ops.size listed k) 0 acc (aM bj.h)=b7 (cF (e_ ops.size listed) 0 acc (aM bj.h)) acc[i].ef from funext λx=>OU p l.no λd=>late f J l p hw.lt hw.sub d];exact M
    .intro x a' w' H;cases x with
     |panic ak=>obtain⟨u,_,_,z,_⟩:=H;cases z
     |_=>exact H.elim
   .have D:=Gb hR l hI aC;rw[if_neg (by rw[aD A O w a hI.c.size D];simp)];refine⟨λ_ _=>trivial,A,O,?_⟩;subst aE;refine T7 hR l hI (Tr.refl O w) (Pl.le.refl A) F ⟨[],rfl,rfl⟩ ?_;have ar:acc[i].ef=[]:=by unfold cu.ef;rw[ad.1,ad.2];rfl
    rw[show cF (λk=>ε k i||e_ ops.size listed k) 0 acc (aM bj.h)=cF (e_ ops.size listed) 0 acc (aM bj.h) from funext λx=>by
     rw[OU p l.no λd=>absurd d (pF ad),ar];rfl]
    refine hI.c.weaken ?_ ?_
    .rintro x ⟨g,C⟩;exact⟨g,λk m b E=>C k m b (by rw[E,ξv])⟩
    .rintro x (g|⟨k,m,b,E,d⟩)
     .exact .inl g
     .exact .inr ⟨k,m,b,by rw[E,ξv],d⟩
  |bB u=>
   obtain⟨env,gc,hw⟩:=R;have D:=Gb hR l hI hw.ev;rw[if_pos (hw.UZ A O w a hI.c.size D)];have L: ∀x∈acc[i].rd,cF (e_ ops.size listed) 0 acc (aM bj.h) x=gc x:=λx d=>(agree f J l p hw.lt hw.vh x d).trans (hw.gh x).symm;refine lf ?_ ?_ (hw.snd B.rr A O w a D (hI.c.rel.view L) hI.c.ob hI.c.dc ag)
   .rintro a' w' ⟨v,rfl,W,z,_⟩;cases z
   .intro x a' w' H;cases x with
    |panic ak=>
     obtain⟨aQ,rfl,rfl,z,A',O',r⟩:=H;cases z;rcases he with⟨g,_⟩|⟨dead,aO,V,g,rfl,rfl⟩
     .obtain⟨q,C⟩:=f.me g i _ F;cases C
     .obtain⟨i0,aN,T,U,aK,aL,_⟩:=f.k4 dead aO _ g;have:=aL i u F;subst this;rw[F] at T;cases T;rw[p] at U;cases U;exact⟨rfl,A',O',ae0 f J hR l p hw.lt hw.sub L hw.al hI r aK h.le h.nb⟩
    |_=>exact H.elim
  |never=>
   obtain⟨_,k,b,ay⟩:=R;exfalso;obtain⟨q,y⟩:=hI.all k (l.cl k b);exact ay q (qf y (hR.cl i aa k b))
 .rintro listed a w aj ao ⟨A,O,hI⟩;have t: ∀k,k<ops.size->e_ ops.size listed k=true:=λk b=>by unfold e_;rw[ao k b,ζn];exact ξ.mpr b
  rcases he with⟨g,rfl,rfl⟩|⟨dead,u,V,g,rfl,rfl⟩
  .refine⟨rfl,A,O,?_⟩;obtain⟨aG,aH,aI,aJ⟩:=f.kZ;have M:=hI.c;rw[<-aH,<-aI,<-aJ] at M;have aw: ∀ {k:Nat} {m:cu S},acc[k]? =some m->k<ops.size:=λb=>by have:=(ζ.1 b).1;omega
   refine M.Uh (λx=>?_) (λx d=>?_) (λx aF d=>?_) (aG.trans h.nb) (ξP h.le f.hl) (λs q aA=>?_)
   .rw[f.hp x];refine lX (λk m b _=>?_) rfl;rw[ξg];exact(t k (aw b)).symm
   .exact⟨ξP f.hl d,λk m b _ Y=>by have:=(f.top k m b).2;omega⟩
   .rcases d with d|⟨k,m,b,_,d⟩
    .exact f.nm x d
    .exact f.dt k m x b d (by rw[h.nb];exact aF)
   .rcases f.env s q aA with⟨k,b,y⟩|⟨C,Y⟩
    .exact hI.done k s q (t k (nk b)) b y
    .refine hI.base s q C λk b=>?_;exfalso;obtain⟨W,y⟩:=hI.all k (t k (nk b));exact Y k W b y
  .exfalso;obtain⟨i0,aN,T,U,_⟩:=f.k4 dead u _ g;have au:i0<ops.size:=by have:=(ζ.1 U).1;omega
   obtain⟨q,y⟩:=hI.all i0 (t i0 au);rw[T] at y;cases y
 .have r:b_ A O w (aM bj.h) [] A O w.drew:=nn h.ob (Fr.drew [] w);have t: ∀k,e_ ops.size (ξc ops.size false) k=false:=λk=>by
   unfold e_;cases aq:χ k ops.size with
   |false=>rfl
   |true=>
    have:=ξ.mp aq;simp[θ,this]
  refine⟨A,O,?_,?_,?_,?_⟩
  .rw[show cF (e_ ops.size (ξc ops.size false)) 0 acc (aM bj.h)=aM bj.h from funext λx=>HJ λj m _ _=>by rw[ξg];exact t j];refine(h.toC.ca (ef:=[]) (λx X d=>by cases d) r).weaken ?_ ?_
   .rintro x ⟨g,_⟩;exact⟨g,λX d=>by cases d⟩
   .rintro x (g|⟨_,X,d⟩)
    .exact .inl g
    .cases d
  .intro s q az _;exact(h.env s q az).tr r.tr r.le
  .intro k s q b;rw[t k] at b;cases b
  .intro k b;rw[t k] at b;cases b
end
section
variable {S:bh} {P:Program} {N:Nat} {ops:Array Oper} {bj:AS S} {R:Type} {z:R}
theorem H6 {env:a8 S} {s:Nat} {a:AV S} {l:Γ} (h:a8.get (e2 env l) s=some a):s∈l/\a8.get env s=some a:=xF (get_mem h)
theorem q1 {env:a8 S} {s:Nat}: ∀ {l:Γ},s∈l->a8.get (e2 env l) s=a8.get env s
 |t::r,h=>by
  simp only[e2]
  by_cases c:t=s
  .subst c;cases d:a8.get env t with
   |some a=>simp[a8.get]
   |none=>
    simp only
    by_cases b:t∈r
    .rw[q1 b,d]
    .cases f:a8.get (e2 env r) t with
     |none=>rfl
     |some a=>exact absurd (H6 f).1 b
  .have b:s∈r:=by
    rcases ψ.1 h with h|h
    .exact absurd h.symm c
    .exact h
   cases d:a8.get env t with
   |some a=>
    have g:ε t s=false:=by
     cases e:ε t s with
     |false=>rfl
     |true=>exact absurd (δ e) c
    simp only[a8.get,g,cond_false];exact q1 b
   |none=>exact q1 b
theorem aiJ {env:a8 S} {s:Nat} {d:AV S} (h:a8.get (J2 ops env) s=some d):(∀k,dp ops k≠some s)/\a8.get env s=some d:=by
 constructor
 .have:=(ξm.1 (get_mem h)).2;rw[ξ9] at this;intro k e;have a:=this k (by simpa using nk e);rw[e] at a;simp at a
 .unfold J2 at h
  induction env with
  |nil=>cases h
  |cons p r f=>
   obtain⟨t,b⟩:=p;rw[List.filter_cons] at h;simp only[a8.get];split at h
   .simp only[a8.get] at h;cases c:ε t s with
    |true=>rw[c] at h;exact h
    |false=>rw[c] at h;exact f h
   .rename_i g;cases c:ε t s with
    |true=>
     exfalso;have i:=δ c;subst i;have a:=(ξm.1 (get_mem h)).2;exact g a
    |false=>exact f h
theorem aaz {o:Oper} {st:AS S} {yes no:AS S->Option R} (h:m_ N ops o.guard st yes no=some z):
  ∃g,(∀s,a8.get g s=a8.get st.env s)/\
   ((yes {st with env:=g}=some z/\ ∀A O w a,a.tmps.size=N->cM A O w (e2 g (ft ops o)) a->ξ4 o (yielded ops a.tmps)=true)\/(no {st with env:=g}=some z/\ ∀A O w a,a.tmps.size=N->cM A O w (e2 g (ft ops o)) a->ξ4 o (yielded ops a.tmps)=false)):=by
 unfold m_ at h;split at h
 .rename_i i;exact⟨st.env,λ_=>rfl,.inl ⟨h,λA O w a _ _=>by unfold ξ4;rw[i]⟩⟩
 .rename_i j b i;split at h
  rotate_left
  .cases h
  rename_i r m;split at h
  rotate_left
  .cases h
  rename_i d l;cases hN:χ d N<;>rw[hN] at h
  .cases h
  simp only[cond_true] at h;have n:d∈ft ops o:=by
   unfold ft ON dp;rw[i];simp[m,l]
  split at h
  .rename_i c k;have same: ∀s,a8.get ((d,AV.s (.one (.v (.bool c))))::st.env) s=a8.get st.env s:=λs=>by
    simp only[a8.get];cases p:ε d s with
    |true=>
     have:=δ p;subst this;exact k.symm
    |false=>rfl
   refine⟨(d,AV.s (.one (.v (.bool c))))::st.env,same,?_⟩;have w1: ∀(A:Pl) (O:Γ) (w:World) (a:Act),a.tmps.size=N->cM A O w (e2 ((d,AV.s (.one (.v (.bool c))))::st.env) (ft ops o)) a->ξ4 o (yielded ops a.tmps)=(c==b):=λA O w a f e=>
    US i m l (by rw[f];exact hN) (ep (S:=S) (A:=A) (O:=O) (w:=w) (e d (.s (.one (.v (.bool c)))) (by rw[q1 n,same d];exact k)))
   cases c<;>cases b<;>simp only[cond_true,cond_false] at h
   .exact .inl ⟨h,λA O w a f e=>by rw[w1 A O w a f e];rfl⟩
   .exact .inr ⟨h,λA O w a f e=>by rw[w1 A O w a f e];rfl⟩
   .exact .inr ⟨h,λA O w a f e=>by rw[w1 A O w a f e];rfl⟩
   .exact .inl ⟨h,λA O w a f e=>by rw[w1 A O w a f e];rfl⟩
  .rename_i k;refine⟨st.env,λ_=>rfl,.inr ⟨h,λA O w a f e=>?_⟩⟩;obtain⟨xs,q,_⟩:=e d _ (by rw[q1 n];exact k);exact Uy i m l (by rw[f];exact hN) q
  .cases h
variable {K:bp S} {acc:List (cu S)} {gs:List (Gh S)} {pn:Option (Γ×Value×AS S)} {st st1:AS S} {r:cu S} {gh:Gh S}
theorem kp.snoc {s:Nat} {e:AV S} (h:kp ops bj gs s e) (hn: ∀b,gh= .done b->dp ops gs.length≠some s):kp ops bj (gs++[gh]) s e:=by
 rcases h with⟨k,d,c⟩|⟨d,c⟩
 .exact .inl ⟨k,d,by rw[ξ0 (ζ.1 c).1];exact c⟩
 .refine .inr ⟨d,λk b f a=>?_⟩;rcases ξf k gs.length with g|heq|i
  .rw[ξ0 g] at a;exact c k b f a
  .subst heq;simp at a;exact hn b a f
  .rw[ξh (by simp;omega)] at a;cases a
theorem fC {α:Type} {l:List α} {x y:α} {k:Nat} (h:(l++[x])[k]? =some y):l[k]? =some y\/(k=l.length/\y=x):=by
 rcases ξf k l.length with a|heq|b
 .rw[ξ0 a] at h;exact .inl h
 .subst heq;simp at h;exact .inr ⟨rfl,h.symm⟩
 .rw[ξh (by simp;omega)] at h;cases h
theorem ow {α:Type} {l:List α} {x:α} {k:Nat} (h:k<=l.length):(l++[x]).take k=l.take k:=ξH h
theorem fJ.snoc (c:fJ K P N ops bj acc gs pn st) (p: ∀x,aM st1.h x=b7 (aM st.h) r.ef x) (Q:r.nx=st.h.length) (hl:st1.h.length=st.h.length+r.nw.length)
  (J: ∀s d,a8.get st1.env s=some d->(gh= .done d/\dp ops acc.length=some s)\/(a8.get st.env s=some d/\ ∀C,gh= .done C->dp ops acc.length≠some s))
  (R:st1.nb=st.nb/\st1.lp=st.lp/\st1.inr=st.inr/\st1.df=st.df) (t: ∀x∈st.dt,x∈st1.dt) (I: ∀x∈keys r.up,x<st.nb->x∈st1.dt) (W: ∀o,ops[acc.length]? =some o->pa K P N ops bj acc gs acc.length o r gh)
  {k4:Option (Γ×Value×AS S)} (T:k4=none->pn=none/\ ∃d,gh= .done d)
  (U: ∀dead u A,k4=some (dead,u,A)-> ∃i z,(gs++[gh])[i]? =some (.bB u)/\(acc++[r])[i]? =some z/\tL ops bj (acc++[r]) (gs++[gh]) i z A/\(∀k Z,(gs++[gh])[k]? =some (.bB Z)->k=i)/\(∀(k:Nat) (g:Gh S),(gs++[gh])[k]? =some g->((∃d,g=Gh.done d)\/k∈dead)/\(k∈dead-> ∀d,g≠Gh.done d))/\ ∀k∈dead,k<(acc++[r]).length):
  fJ K P N ops bj (acc++[r]) (gs++[gh]) k4 st1:=by
 have l:=c.lg;refine⟨by simp[l],?_,?_,?_,?_,?_,?_,?_,?_,?_,?_,U⟩
 .intro x;rw[xu,ξg,p x];simp only[cF,cond_true];exact UA (c.hp x)
 .have:=c.hl;omega
 .intro i k a b M f H;rcases fC H with q|⟨rfl,rfl⟩
  .rcases fC f with e|⟨rfl,rfl⟩
   .exact c.pos i k a b M e q
   .have:=(ζ.1 q).1;omega
  .rcases fC f with e|⟨rfl,rfl⟩
   .rw[Q];exact(c.top i a e).2
   .omega
 .intro i a f;rcases fC f with e|⟨rfl,rfl⟩
  .have:=c.top i a e;omega
  .have:=c.hl;omega
 .intro s d V;rcases J s d V with⟨m,n⟩|⟨m,n⟩
  .exact .inl ⟨acc.length,n,by rw[<-l];simp[m]⟩
  .exact(c.env s d m).snoc (by rw[l];exact n)
 .obtain⟨B,a2,a3,a4⟩:=c.kZ;obtain⟨D,E,F,G⟩:=R;exact⟨D.trans B,E.trans a2,F.trans a3,G.trans a4⟩
 .exact λx p=>t x (c.nm x p)
 .intro i a x f w y;rcases fC f with e|⟨rfl,rfl⟩
  .exact t x (c.dt i a x e w y)
  .exact I x w (by rw[c.kZ.1];exact y)
 .intro i o a g v f j;rcases fC f with e|⟨rfl,rfl⟩
  .have O:=(ζ.1 e).1;rw[ow (ζc O),ow (by omega)];refine c.step i o a g v e ?_;rw[ξ0 (by omega)] at j;exact j
  .rw[ow (ξe _),ζ1];rw[<-l,ow (ξe _),ζ1,l];have:g=gh:=by
    rw[<-l] at j;simp at j;exact j.symm
   subst this;exact W o v
 .intro h k g j;obtain⟨X,Y⟩:=T h;rcases fC j with L|⟨rfl,rfl⟩
  .exact c.me X k g L
  .exact Y
theorem fJ.I1 (v:fJ K P N ops bj acc gs pn st) (F:r.up=[]/\r.nw=[]) {p:Γ} {z:Value} {y:AS S} (E:pn=some (p,z,y)) {dead:Γ} (m:dead=p/\(∃c,gh= .done c)\/dead=acc.length::p/\gh= .never):
  ∃i n,(gs++[gh])[i]? =some (.bB z)/\(acc++[r])[i]? =some n/\tL ops bj (acc++[r]) (gs++[gh]) i n y/\(∀k o,(gs++[gh])[k]? =some (.bB o)->k=i)/\(∀(k:Nat) (g:Gh S),(gs++[gh])[k]? =some g->((∃c,g=Gh.done c)\/k∈dead)/\(k∈dead-> ∀c,g≠Gh.done c))/\ ∀k∈dead,k<(acc++[r]).length:=by
 obtain⟨i,n,B,s,d,C,t,q⟩:=v.k4 _ _ _ E;have w:=(ζ.1 s).1;have D:=v.lg;have I: ∀u,gh≠ .bB u:=by
  intro u e;rcases m with⟨_,c,h⟩|⟨_,h⟩<;>rw[h] at e<;>cases e
 refine⟨i,n,?_,?_,?_,?_,?_,?_⟩
 .rw[ξ0 (by omega)];exact B
 .rw[ξ0 w];exact s
 .refine⟨?_,d.hl,d.env,d.kZ,d.nm,?_,?_,?_⟩
  .rw[ow (ζc w)];exact d.hp
  .intro k a x b f G H;rcases fC f with j|⟨rfl,rfl⟩
   .exact d.dt k a x b j G H
   .omega
  .intro k a b f;rcases fC f with j|⟨rfl,rfl⟩
   .exact d.pre k a b j
   .omega
  .intro k a b f;rcases fC f with j|⟨rfl,rfl⟩
   .exact d.post k a b j
   .exact F
 .intro k o b;rcases fC b with l|⟨rfl,e⟩
  .exact C k o l
  .exact absurd e.symm (I o)
 .intro k g b;rcases fC b with l|⟨rfl,rfl⟩
  .have J:=(ζ.1 l).1;rcases m with⟨rfl,_⟩|⟨rfl,_⟩
   .exact t k g l
   .obtain⟨A,a2⟩:=t k g l;refine⟨A.imp id (κ _),λh=>?_⟩;rcases ψ.1 h with e|h
    .omega
    .exact a2 h
  .rcases m with⟨rfl,c,rfl⟩|⟨rfl,rfl⟩
   .exact⟨.inl ⟨c,rfl⟩,λh=>by have:=q _ h;omega⟩
   .exact⟨.inr (by rw[D];exact μ),λ_ c e=>by cases e⟩
 .intro k b;rw[ξ1];rcases m with⟨rfl,_⟩|⟨rfl,_⟩
  .have:=q k b;omega
  .rcases ψ.1 b with e|h
   .subst e;simp
   .have:=q k h;omega
end
section
variable {S:bh} {P:Program} {N:Nat} {ops:Array Oper} {bj:AS S} {R:Type} {z:R}
theorem abv {pn:Option (Γ×Value×AS S)} {cl:Γ} (h:vq pn cl=true): ∃dead u a,pn=some (dead,u,a)/\ ∃j∈dead,j∈cl:=by
 unfold vq at h;split at h
 .rename_i dead u a;rw[ζ0] at h;obtain⟨j,b,c⟩:=h;exact⟨dead,u,a,rfl,j,b,hv.1 c⟩
 .cases h
theorem Pd {l rd:Γ} (h:l.all (λi=>eD i rd)=true): ∀k∈l,k∈rd:=λk a=>hv.1 (ξ9.1 h k a)
theorem Sb {st:AS S} {o:Oper} {g:AV S} {k:AS S->Option R} (h:iw N o st g k=some z):
  ∃i,k {st with env:=i}=some z/\ ∀s b,a8.get i s=some b->(o.dst=some s/\b=g)\/(a8.get st.env s=some b/\o.dst≠some s):=by
 unfold iw at h;split at h
 .rename_i d c;cases hN:χ d N<;>rw[hN] at h
  .cases h
  .refine⟨(d,g)::st.env,h,λs b a=>?_⟩;simp only[a8.get] at a;cases f:ε d s with
   |true=>
    rw[f] at a;have:=δ f;subst this;simp only[cond_true,ι] at a;exact .inl ⟨c,a.symm⟩
   |false=>
    rw[f] at a;refine .inr ⟨a,λe=>?_⟩;rw[c] at e;cases e;simp at f
 .rename_i c;exact⟨st.env,h,λs b a=>.inr ⟨a,by rw[c];simp⟩⟩
theorem pg {G:bW S} (F:b9 G.K P) (E:ko G P) (hR:mX N ops) {af:Nat->List (aE S)->AH S->(Rs S->AH S->Γ->Option R)->Option R} (J:kn G.K P af) {aj:Value->AS S->Option R} {k:AS S->Option R}:
  ∀ {c:Nat} {acc:List (cu S)} {gs:List (Gh S)} {pn:Option (Γ×Value×AS S)} {st:AS S},fJ G.K P N ops bj acc gs pn st->acc.length+c=ops.size->kz G af N ops aj k c acc pn st=some z->
   ∃ae ao aa al e ab,fJ G.K P N ops bj ae ao aa al/\ae.length=ops.size/\q7 aj k e ab=some z/\((aa=none/\e= .go/\ab=al)\/ ∃dead u w,aa=some (dead,u,w)/\e= .bB u/\ab=w)
 |0,acc,gs,pn,st,d,hl,h=>by
  simp only[kz] at h;split at h
  .exact⟨acc,gs,none,st,.go,st,d,by omega,h,.inl ⟨rfl,rfl,rfl⟩⟩
  .rename_i dead u w;exact⟨acc,gs,_,st,.bB u,w,d,by omega,h,.inr ⟨dead,u,w,rfl,rfl,rfl⟩⟩
 |c+1,acc,gs,pn,st,d,hl,h=>by
  have X:=d.lg;simp only[kz] at h;split at h
  .cases h
  rename_i o Q;have aI:acc.length<ops.size:=by omega
  have L: ∀s,dp ops acc.length=some s↔o.dst=some s:=λs=>by unfold dp;rw[Q]
  cases ah:vq pn (eL ops acc.length)<;>rw[ah] at h
  rotate_left
  ·
   simp only[cond_true] at h;obtain⟨dead,u,w,rfl,j,ax,ay⟩:=abv ah;refine pg F E hR J (c:=c) (gs:=gs++[.never]) (d.snoc (λx=>rfl) rfl (by simp) (λs f q=>.inr ⟨q,λaG e=>by cases e⟩) ⟨rfl,rfl,rfl,rfl⟩ (λ_ h=>h) (λx l=>by cases l) ?_ (λe=>by cases e) ?_) (by rw[ξ1,ξt];omega) h
   .intro o' v;refine⟨⟨rfl,rfl⟩,j,ay,λf av=>?_⟩;obtain⟨i,r,_,_,_,_,ar,_⟩:=d.k4 _ _ _ rfl;exact(ar j _ av).2 ax f rfl
   .rintro aH an aN e;cases e;exact d.I1 ⟨rfl,rfl⟩ rfl (.inr ⟨rfl,rfl⟩)
  simp only[cond_false] at h;obtain⟨A,B,au⟩:=aaz h;have me: ∀ {gh:Gh S},(∃f,gh= .done f)->pn=none->pn=none/\ ∃f,gh=Gh.done f:=λh e=>⟨e,h⟩;rcases au with⟨D,hw⟩|⟨az,hw⟩
  .simp only at D;cases Y:(Jj G (e2 A (ft ops o)) (aM st.h) o).all (λi=>χ i st.h.length)<;>rw[Y] at D
   .cases D
   simp only[cond_true] at D;generalize aK:Jj G (e2 A (ft ops o)) (aM st.h) o=rd at D Y;have ai: ∀x∈rd,x<st.h.length:=λx l=>ξ.mp (ξ9.1 Y x l);obtain⟨res,up,nw,n,aA⟩:=RD F E J D;have ev: ∀s f,a8.get (e2 A (ft ops o)) s=some f->s∈ft ops o/\kp ops bj gs s f:=λs f q=>by
    obtain⟨p,t⟩:=H6 q;rw[B s] at t;exact⟨p,d.env s f t⟩
   have ag: ∀ {b:Bool},(e7 (aM st.h) up&&((keys up).all (λi=>eD i rd)&&(kC (eL ops acc.length) rd up acc 0&&b)))=true->
     b=true/\Want G.K P N ops bj acc gs acc.length o ⟨rd,up,st.h.length,nw⟩ res (e2 A (ft ops o)) (aM st.h)/\(∀k∈keys up,k<st.h.length):=by
    intro b y;simp only[η] at y;obtain⟨aC,ak,aD,aF⟩:=y;refine⟨aF,⟨aA,ev,hw,d.hp,lD aC,Pd ak,ai,λk aL m=>?_⟩,λk m=>?_⟩
    .have:=Nu aD m
     rwa [ξg] at this
    .exact ai k (Pd ak k m)
   cases res with
   |ret f=>
    simp only[j_] at n;cases y:(e7 (aM st.h) up&&((keys up).all (λi=>eD i rd)&&(kC (eL ops acc.length) rd up acc 0&&(pn.isNone||J3 up nw))))<;>rw[y] at n
    .cases n
    simp only[cond_true] at n;obtain⟨T,Z,O⟩:=ag y;obtain⟨U,W,V⟩:=Sb n;refine pg F E hR J (c:=c) (acc:=acc++[⟨rd,up,st.h.length,nw⟩]) (gs:=gs++[.done f]) (d.snoc (st1:= {st.ca up nw with env:=U}) (λx=>?_) rfl ?_ (λs b q=>?_) ⟨rfl,rfl,rfl,rfl⟩ (λx l=>jI l) (λx l C=>kG C l) (λo' v=>?_) (me ⟨f,rfl⟩) ?_) (by rw[ξ1,ξt];omega) W
    .exact congrFun (vv O) x
    .show(eG st.h up++nw).length=_;rw[ξ1,js]
    .rcases V s b q with⟨p,rfl⟩|⟨p,t⟩
     .exact .inl ⟨rfl,(L s).2 p⟩
     .exact .inr ⟨by rw[<-B s];exact p,λ_ _ e=>t ((L s).1 e)⟩
    .rw[Q] at v;cases v;exact .inl ⟨_,_,Z⟩
    .intro dead u w e;subst e;have aB:up=[]/\nw=[]:=by
      simp only[Option.isNone_some,ξX] at T;unfold J3 at T;split at T
      .exact⟨rfl,rfl⟩
      .cases T
     exact d.I1 aB rfl (.inl ⟨rfl,f,rfl⟩)
   |bB u=>
    simp only[j_] at n;cases aq:u.oneCell'<;>rw[aq] at n
    .cases n
    simp only[cond_true] at n;split at n
    .cases n
    cases y:(e7 (aM st.h) up&&((keys up).all (λi=>eD i rd)&&(kC (eL ops acc.length) rd up acc 0&&idle (eL ops acc.length) acc 0)))<;>rw[y] at n
    .cases n
    simp only[cond_true] at n;obtain⟨aw,Z,O⟩:=ag y;refine pg F E hR J (c:=c) (acc:=acc++[⟨rd,up,st.h.length,nw⟩]) (gs:=gs++[.bB u]) (d.snoc (st1:=({st with env:=A}:AS S).ca up nw) (λx=>?_) rfl ?_ (λs b q=>?_) ⟨rfl,rfl,rfl,rfl⟩ (λx l=>jI l) (λx l C=>kG C l) (λo' v=>?_) (λe=>by cases e) ?_) (by rw[ξ1,ξt];omega) n
    .exact congrFun (vv O) x
    .show(eG st.h up++nw).length=_;rw[ξ1,js]
    .exact .inr ⟨by rw[<-B s];exact q,λ_ e=>by cases e⟩
    .rw[Q] at v;cases v;exact⟨_,_,Z⟩
    .intro dead an w e;cases e;refine⟨acc.length,⟨rd,up,st.h.length,nw⟩,by rw[<-X,ξd (ξe _),ζr];rfl,by rw[ξd (ξe _),ζr];rfl,⟨?_,?_,?_,?_,?_,?_,?_,?_⟩,?_,?_,?_⟩
     .intro x;rw[ow (ξe _),ζ1];rw[show aM (({st with env:=A}:AS S).ca up nw).h x=b7 (aM st.h) (up++news st.h.length nw) x from congrFun (vv O) x];exact UA (d.hp x)
     .show(eG st.h up++nw).length=_;rw[ξ1,js]
     .intro s b q;obtain⟨ad,a2⟩:=aiJ q;refine⟨ad,?_⟩;rw[B s] at a2;rcases d.env s b a2 with⟨k,m,_⟩|⟨p,_⟩
      .exact absurd m (ad k)
      .exact p
     .exact d.kZ
     .exact λx l=>jI (d.nm x l)
     .intro k a x m H l C;rcases fC H with I|⟨rfl,rfl⟩
      .exact jI (d.dt k a x I l C)
      .exact kG (by show x<st.nb;rw[d.kZ.1];exact C) l
     .intro k a m H;rcases fC H with I|⟨rfl,rfl⟩
      .have:=OY aw I
       rwa [ξg] at this
      .omega
     .intro k a m H;rcases fC H with I|⟨rfl,rfl⟩
      .have:=(ζ.1 I).1;omega
      .omega
     .intro k an m;rcases fC m with M|⟨rfl,_⟩
      .obtain⟨f,e⟩:=d.me rfl k _ M;cases e
      .exact X
     .intro k g m;rcases fC m with M|⟨rfl,rfl⟩
      .have aJ:=(ζ.1 M).1;exact⟨.inl (d.me rfl k g M),λhm=>by simp at hm;omega⟩
      .exact⟨.inr (by rw[X];exact μ),λ_ f e=>by cases e⟩
     .intro k m;simp at m;subst m;simp
  .obtain⟨U,W,V⟩:=Sb az;refine pg F E hR J (c:=c) (acc:=acc++[⟨[],[],st.h.length,[]⟩]) (gs:=gs++[.done (.bG [])]) (d.snoc (st1:= {st with env:=U}) (λx=>rfl) rfl (by simp) (λs b q=>?_) ⟨rfl,rfl,rfl,rfl⟩ (λ_ h=>h) (λx l=>by cases l) (λo' v=>?_) (me ⟨_,rfl⟩) ?_) (by rw[ξ1,ξt];omega) W
   .rcases V s b q with⟨p,rfl⟩|⟨p,t⟩
    .exact .inl ⟨rfl,(L s).2 p⟩
    .exact .inr ⟨by rw[<-B s];exact p,λ_ _ e=>t ((L s).1 e)⟩
   .rw[Q] at v;cases v;refine .inr ⟨e2 A (ft ops o),λs f q=>?_,hw,rfl,rfl,rfl⟩;obtain⟨p,t⟩:=H6 q;rw[B s] at t;exact⟨p,d.env s f t⟩
   .intro dead u w e;exact d.I1 ⟨rfl,rfl⟩ e (.inl ⟨rfl,_,rfl⟩)
theorem fJ.start {K:bp S}:fJ K P N ops bj [] [] none bj:=by
 refine⟨rfl,λx=>rfl,ξe _,?_,?_,?_,⟨rfl,rfl,rfl,rfl⟩,λx h=>h,?_,?_,?_,?_⟩
 .intro i k r d _ h;simp at h
 .intro i r h;simp at h
 .exact λs b h=>.inr ⟨h,λk c _ a=>by simp at a⟩
 .intro i r x h;simp at h
 .intro i o r gh _ h;simp at h
 .intro _ k gh h;simp at h
 .intro dead u e h;cases h
theorem aay {G:bW S} (hm:P.follows .mixedOrders=true) (j:b9 G.K P) (i:ko G P) {g:Nat->List (aE S)->AH S->(Rs S->AH S->Γ->Option R)->Option R} (l:kn G.K P g) {n:List (aE S)->AS S->(Bool->AS S->Option R)->Option R} (q:uY G.K P n) {draw:Bool} {st:AS S} {m:Value->AS S->Option R} {k:AS S->Option R} {id:Nat}
  (h:Fv G g n N ops draw st m k=some z): ∃e b,q7 m k e b=some z/\ ∀B A O w a,bn G.K P N B A O w st a->(ζy id ops draw).wpIn (fw B.rr) 0 P (hJ G.K P N B e.x b) a w:=by
 unfold Fv at h;split at h
 .obtain⟨e,b,c,d⟩:=Fu j i l q h;refine⟨e,b,c,λB A O w a f=>?_⟩;exact wpIn_region (d B A O w a f)
 .cases hR:yj N ops<;>rw[hR] at h
  .cases h
  simp only[cond_true] at h;obtain⟨r,s,t,u,e,b,c,d,o,p⟩:=pg j i (SC hR) l fJ.start (by simp) h;exact⟨e,b,o,λB A O w a f=>aaJ hm (SC hR) c d p f⟩
end
section
variable {S:bh} {K:bp S} {P:Program} {N:Nat} {B:cP} {A A':Pl} {O O':Γ} {w w':World} {st:AS S} {a:Act}
theorem c'.cf {n0:Nat} {ρ:Nat->Option Nat} (hR:gk ρ A A'): ∀ {ds:List Deferred} {df b:List (LV S)},k8 ρ df=some b->c' n0 A O w df ds->c' n0 A' O w b ds
 |[],df,b,a,h=>by
  rw[show df=[] from h] at a;cases a;rfl
 |d::ds,df,b,a,h=>by
  rcases h with⟨D,m,l,e,g⟩|⟨i,r,f,u,c,rfl,e,g,n⟩
  .exact .inl ⟨D,m,l,e,c'.cf hR a g⟩
  .simp only[k8,LV.cf] at a;split at a
   .rename_i x k;split at a
    .rename_i y p;cases a;split at k
     .rename_i j o;cases k;exact .inr ⟨j,y,f,u,c,rfl,hR.pl _ _ _ o e,g,c'.cf hR p n⟩
     .cases k
    .cases a
   .cases a
theorem bn.gc {sl:Γ} (h:bn K P N B A O w st a): ∃A',bn K P N B A' O w (gc sl st) a:=by
 unfold Vx.gc;simp only;obtain⟨d,k⟩: ∃d,d=kept (aM st.h) st.nb (od (st.h.take st.nb)++(Ju (e2 st.env sl)++oe st.df)):=⟨_,rfl⟩;rw[<-k];split
 .rename_i df r;obtain⟨A',e⟩: ∃A':Pl,A'=⟨λj=>(d[j]?).bind A.pl,A.ls⟩:=⟨_,rfl⟩;have hR:gk (λi=>posOf i d 0) A A':=⟨λi j p hi hp=>by
   rw[e];simp only[n_ hi,ξ8];exact hp,by rw[e]⟩
  have n: ∀i,i<B.nb->d[i]? =some i:=λi hi=>by rw[k];exact Pa (by rw[h.nb];exact hi)
  have t: ∀i j,B.nb<=j->d[j]? =some i->B.nb<=i:=λi j m hi=>by rw[k,h.nb] at hi;exact O9 m hi
  have u: ∀i,i<B.nb->A'.pl i=A.pl i:=λi hi=>by rw[e];simp[n i hi]
  refine⟨A',h.size,ag' hR h.env,?_,h.ob,h.dc,?_,h.nb,?_,h.tr,λi hi=>(u i hi).trans (h.pl i hi),by rw[e];exact h.ls,?_,?_,c'.cf hR r h.df,h.lp,h.dl,h.hi,h.o0,h.rr,?_⟩
  .exact h.rel.cf (idx:=λj=>d[j]?) (λj=>by rw[e]) (by rw[e]) (λi j y c f=>xQ (by rw[k];exact Pb) c f) (λi j hi=>n_ hi) (λj x m=>j4 m)
  .intro i hi;have:d.length<=i:=by simpa[ml,n8] using hi
   rw[e];simp[ξh this]
  .show B.nb<=(e4 _ (gb _ d)).length;rw[ml,n8,k,<-h.nb];exact O_
  .intro i X hi hX;obtain⟨i0,g,c,f,_⟩:=j4 hX;rw[n i hi] at c;cases c;exact h.lv i g hi f
  .intro b o v q;obtain⟨c1,c2,c3⟩:=h.cl b o v q;refine⟨c1,c2,λi X p hi hX hp=>?_⟩;obtain⟨i0,g,c,f,l⟩:=j4 hX;rw[e] at hp;simp only[c,ξ8] at hp;exact λs=>c3 i0 g p (t i0 i hi c) f hp (Ob.mn l s)
  .intro i X hi hX;obtain⟨i0,g,c,f,l⟩:=j4 hX;rw[n i hi] at c;cases c;rw[Ob.yl l];exact h.nt i g hi f
 .exact⟨A,h⟩
theorem er.put {l m:Nat} {o o' u:Obj} (h:er O w m u) (a:m≠l):er O (w.putObj l o') m u:=⟨⟨(ξo a).trans h.1.1,h.1.2⟩,h.2.1,h.2.2⟩
theorem pz {l:Nat} {o o':Obj} (hl:er O w l o):Tr O w O (w.putObj l o'):=(Ng (n0:=0) o' hl.1.1 hl.1.2 hl.2.2 (ζh _)).tr
theorem bS.book {g:Nat->Option (Ob S)} {l:Nat} {o o':Obj} (h:bS A O w g) (hl:er O w l o):bS A O (w.putObj l o') g:=by
 have same: ∀ {i:Nat} {X:Ob S} {p:Value} {b:Nat},g i=some X->A.pl i=some p->cI w X p b->(w.putObj l o').heap[b]? =w.heap[b]? :=λ{i X p b} hi hp a=>by
  obtain⟨s,k,hR,_⟩:=h.al i X hi;rw[hp] at k;cases k;exact ξo λe=>hR.Rq hl.1.1 hl.2.1 (by rw[<-e];exact a)
 refine⟨λi X hi=>?_,λi j X Y p q b r hi f hp n u v=>h.fW i j X Y p q b r hi f hp n (jX (λc d=>same hi hp (.inl d)) u) (jX (λc d=>same f n (.inl d)) v)⟩;obtain⟨p,hp,hR,a⟩:=h.al i X hi;exact⟨p,hp,hR.keep (pz hl) (Pl.le.refl A) λb m=>⟨same hi hp m,h.hU hi hp m⟩,a⟩
theorem bn.book {l:Nat} {o o':Obj} {lp':Option (hH S)} {a':Act} (h:bn K P N B A O w st a) (hl:er O w l o) (hex:l∉B.O0\/B.ex=some l) (v:jA P B O (w.putObj l o') lp') (t:(lp'.isSome||st.inr)=true->a'.defers=[]) (r:c' B.w0.heap.size A O (w.putObj l o') st.df a'.defers) (f:a'.tmps=a.tmps):
  bn K P N B A O (w.putObj l o') {st with lp:=lp'} a':=by
 have d:Tr O w O (w.putObj l o'):=pz hl;refine⟨by rw[f];exact h.size,?_,h.rel.book hl,?_,h.dc.tr d,h.free,h.nb,h.le,h.tr.trans d,h.pl,h.ls,h.lv,?_,r,v,t,h.hi,h.o0,h.rr,h.nt⟩
 .intro s m y;rw[f];exact(h.env s m y).tr d (Pl.le.refl A)
 .exact(Ng (n0:=0) o' hl.1.1 hl.1.2 hl.2.2 (ζh _)).ob h.ob
 .intro b g k q;obtain⟨c1,c2,c3⟩:=h.cl b g k q;refine⟨?_,c2,λi X p hi hX hp u=>c3 i X p hi hX hp (jX (λc n=>?_) u)⟩
  rotate_left
  .obtain⟨z,j,hR,_⟩:=h.rel.al i X hX;rw[hp] at j;cases j;exact ξo λe=>hR.It hl.1.1 hl.2.1 (by rw[<-e];exact n)
  have x:b≠l:=by
   rintro rfl;rcases hex with hex|hex
   .exact hex g
   .exact k hex
  exact(ξo x).trans c1
theorem c'.rO {n0:Nat} {A2:Pl} {k:Γ} {w2:World} (g: ∀i p,A.pl i=some p->A2.pl i=some p) (j: ∀D,er O w D (.deferred (some []))->er k w2 D (.deferred (some []))): ∀ {ds:List Deferred} {df:List (LV S)},c' n0 A O w df ds->c' n0 A2 k w2 df ds
 |[],df,h=>h
 |d::ds,df,h=>by
  rcases h with⟨D,a,l,b,e⟩|⟨i,r,f,u,c,a,b,e,m⟩
  .exact .inl ⟨D,a,l,j D b,c'.rO g j e⟩
  .exact .inr ⟨i,r,f,u,c,a,g _ _ b,e,c'.rO g j m⟩
def cP.of (A:Pl) (O:Γ) (w:World) (h:AH S) (ex rr:Option Nat):cP:=⟨A,O,w,h.length,λi=> ∃X,aM h i=some X,ex,rr⟩
theorem bn.init {h:AH S} {ex rr:Option Nat} {env:a8 S} {lp:Option (hH S)} {inr:Bool} {dt:Γ} (j:bS A O w (aM h)) (c:OB O w) (f:cB K O w) (e: ∀i,h.length<=i->A.pl i=none) (n:a.tmps.size=N) (he:cM A O w env a) (k:jA P (cP.of A O w h ex rr) O w lp) (m:inr=false->rr=none) (d:a.defers=[]) (l: ∀i X,aM h i=some X->X.nt=true):
  bn K P N (cP.of A O w h ex rr) A O w ⟨env,h,h.length,lp,inr,[],dt⟩ a:=
 ⟨n,he,j,c,f,e,rfl,ξe _,Tr.refl _ _,λ_ _=>rfl,rfl,λi X _ hX=>⟨X,hX⟩,λb g _ _=>⟨rfl,g,λi X p hi hX=>absurd (fk hX) (Nat.not_lt.mpr hi)⟩,by rw[d];rfl,k,λ_=>d,e,c,m,λi X _ hX=>l i X hX⟩
theorem bn.inner {J:Nat} {O1 f:Γ} {s e:World} {A1 A2:Pl} {ex rr:Option Nat} {st2:AS S} {a2:Act} (h:bn K P N B A O w st a) (Q:Tr O w O1 s) (M: ∀b∈O,b∈O1/\s.heap[b]? =w.heap[b]?) (G:A1.pl=A.pl) (V: ∀b∈O,ex≠some b) (d:bn K P J (cP.of A1 O1 s st.h ex rr) A2 f e st2 a2) {dt':Γ} (R: ∀x∈st.dt,x∈dt') (T: ∀x∈st2.dt,x<st.nb->x∈dt') (U:bS ⟨A2.pl,A.ls⟩ f e (aM st2.h)):
  bn K P N B ⟨A2.pl,A.ls⟩ f e {st with h:=st2.h,dt:=dt'} a/\(∀l o,er O w l o->er f e l o)/\Pl.le A ⟨A2.pl,A.ls⟩:=by
 have C: ∀i,i<st.h.length->A2.pl i=A.pl i:=λi hi=>by rw[d.pl i hi];exact congrFun G i
 have L: ∀i p,A.pl i=some p->A2.pl i=some p:=λi p hp=>by
  rcases ξ2 i st.h.length with c|c
  .rw[C i c];exact hp
  .rw[h.free i c] at hp;cases hp
 have t:Pl.le A ⟨A2.pl,A.ls⟩:=⟨L,rfl⟩;have u:Tr O w f e:=Q.trans d.tr;have H: ∀b∈O,(∀i∈st2.dt,(∃X,aM st.h i=some X)-> ∀p,A.pl i=some p->b2 p≠some b)->e.heap[b]? =w.heap[b]? /\b∈f/\ ∀i X p,st.h.length<=i->aM st2.h i=some X->A2.pl i=some p-> ¬cI e X p b:=by
  intro b m q;obtain⟨s1,s2⟩:=M b m;obtain⟨g,j,E⟩:=d.cl b s1 (V b m) λi hi hl p hp=>q i hi hl p (by rw[<-congrFun G i];exact hp);exact⟨g.trans s2,j,E⟩
 have n: ∀l o,er O w l o->er f e l o:=by
  rintro l o ⟨k,r,F⟩;obtain⟨g,j,_⟩:=H l F λi _ ⟨X,hX⟩ p hp=>by
   obtain⟨ae,I,hR,_⟩:=h.rel.al i X hX;rw[hp] at I;cases I;exact hR.It k.1 r
  exact⟨⟨g.trans k.1,k.2⟩,r,j⟩
 refine⟨⟨h.size,h.env.tr u t,U,d.ob,d.dc,d.free,h.nb,ξP h.le d.le,h.tr.trans u,λi hi=>(C i (by have:=h.le;omega)).trans (h.pl i hi),h.ls,?_,?_,h.df.rO t.at_ (λD=>n D _),?_,h.dl,h.hi,h.o0,h.rr,λi X hi hX=>d.nt i X (by have:=h.le;show i<st.h.length;omega) hX⟩,n,t⟩
 .intro i X hi hX;obtain⟨Y,v⟩:=d.lv i X (by have:=h.le;show i<st.h.length;omega) hX;exact h.lv i Y hi v
 .intro b m W q;obtain⟨c1,c2,c3⟩:=h.cl b m W λi hi=>q i (R i hi);obtain⟨g,j,E⟩:=H b c2 λi hi ⟨X,hX⟩ p hp=>by
   rcases ξ2 i B.nb with c|c
   .exact q i (T i hi (by rw[h.nb];exact c)) (h.lv i X c hX) p (by rw[<-h.pl i c];exact hp)
   .exact λy=>c3 i X p c hX hp (.inl y)
  refine⟨g.trans c1,j,λi X p hi hX hp=>?_⟩;rcases ξ2 i st.h.length with c|c
  .obtain⟨Y,v⟩:=d.lv i X c hX;have hp:A2.pl i=some p:=hp;rw[C i c] at hp;exact λy=>c3 i Y p hi v hp (.inl (fZ (d.nt i X c hX) y))
  .exact E i X p c hX hp
 .have z:=h.lp
  revert z
  generalize st.lp=lp;intro z;cases lp with
  |none=>trivial
  |some ad=>
   obtain⟨l,fn,tm,D,k,Z,r,F,aa,ab⟩:=z;exact⟨l,fn,tm,D,k,Z,n _ _ r,n _ _ F,aa.tr u (Pl.le.refl _),ab⟩
variable {A1 A2:Pl}
theorem LV.rel.ga {l:LV S} {xs:Γb} (hn:l.ga=true) (j:A2.pl=A1.pl) (h:l.rel A1 O w xs):l.rel A2 O w xs:=by
 cases l with
 |v u=>exact h
 |aG t d=>exact h
 |ptr t d q=>exact h
 |bl i q=>obtain⟨m,a,g⟩:=h;exact⟨m,by rw[j];exact a,g⟩
 |fh i q n y=>obtain⟨m,a,g⟩:=h;exact⟨m,by rw[j];exact a,g⟩
 |own i=>obtain⟨m,a,g⟩:=h;exact⟨m,by rw[j];exact a,g⟩
 |eU e i y q=>obtain⟨b,n,c,a,g⟩:=h;exact⟨b,n,c,by rw[j];exact a,g⟩
 |fK i q n=>obtain⟨m,a,g⟩:=h;exact⟨m,by rw[j];exact a,g⟩
 |mp i=>obtain⟨m,a,g⟩:=h;exact⟨m,by rw[j];exact a,g⟩
 |bA i=>obtain⟨f,u,c,a,g⟩:=h;exact⟨f,u,c,by rw[j];exact a,g⟩
 |c_=>cases hn
 |cW i=>obtain⟨m,a,g⟩:=h;exact⟨m,by rw[j];exact a,g⟩
 |sc i q=>obtain⟨m,bs,a,g⟩:=h;exact⟨m,bs,by rw[j];exact a,g⟩
 |br k n gs=>exact h
 |c7 n bs=>exact h
theorem Iu (a:A2.pl=A1.pl): ∀ {ls:List (LV S)} {xs:Γb},kW ls=true->bz A1 O w ls xs->bz A2 O w ls xs
 |[],_,_,h=>h
 |l::r,_,hn,⟨y,ys,e,b,c⟩=>by
  simp only[kW,η] at hn;exact⟨y,ys,e,b.ga hn.1 a,Iu a hn.2 c⟩
theorem Ru (b:A2.pl=A1.pl) {a:aE S} {x:Value} (hn:kW a.cells=true) (h:a.rel A1 O w x):a.rel A2 O w x:=by
 cases a with
 |one l=>
  simp only[aE.cells,kW,ζn] at hn;exact LV.rel.ga hn b h
 |agg ls=>obtain⟨xs,c,d⟩:=h;exact⟨xs,c,Iu b hn d⟩
theorem q6 (a:A2.pl=A1.pl): ∀ {ls:List (aE S)} {xs:Γb},l6 ls=true->cG A1 O w ls xs->cG A2 O w ls xs
 |[],_,_,h=>h
 |l::r,_,hn,⟨y,ys,e,b,c⟩=>by
  simp only[l6,η] at hn;exact⟨y,ys,e,Ru a hn.1 b,q6 a hn.2 c⟩
theorem AV.Iv (b:A2.pl=A1.pl) {a:AV S} {x:Value} (hn:a.ga=true) (h:a.rel A1 O w x):a.rel A2 O w x:=by
 cases a with
 |s l=>exact Ru b hn h
 |bG ls=>obtain⟨xs,c,d⟩:=h;exact⟨xs,c,q6 b hn d⟩
theorem Ob.Iv (g:A2.pl=A1.pl) {X:Ob S} {p:Value} (hn:X.ga=true) (h:dD A1 O w X p):dD A2 O w X p:=by
 cases X with
 |box t cs=>obtain⟨b,vs,a,c,d⟩:=h;exact⟨b,vs,a,c,Iu g hn d⟩
 |row e xs=>exact h
 |map i j m=>exact h
 |bA f fs cs=>
  simp only[Ob.ga,η] at hn;obtain⟨us,vs,a,c,d⟩:=h;exact⟨us,vs,a,q6 g hn.1 c,q6 g hn.2 d⟩
 |cW s pos=>exact h
 |st t x=>cases hn
theorem Ob.Rv {X:Ob S} (hn:X.ga=true):X.nt=true:=by cases X<;>first|rfl|cases hn
theorem nZ: ∀ {h:AH S} {i:Nat} {X:Ob S},h0 h=true->aM h i=some X->X.ga=true
 |[],i,X,_,hi=>by simp[aM] at hi
 |none::r,0,X,_,hi=>by simp[aM] at hi
 |some Y::r,0,X,hn,hi=>by
  simp only[h0,η] at hn;simp only[aM,ξz,ι] at hi;subst hi;exact hn.1
 |none::r,i+1,X,hn,hi=>nZ (h:=r) (i:=i) hn (by simpa[aM] using hi)
 |some Y::r,i+1,X,hn,hi=>by
  simp only[h0,η] at hn;exact nZ (h:=r) (i:=i) hn.2 (by simpa[aM] using hi)
theorem Rt (a:A2.pl=A1.pl) {h:AH S} (hn:h0 h=true) (c:bS A1 O w (aM h)):bS A2 O w (aM h):=by
 refine⟨λi X hi=>?_,λi j X Y p q b e hi f hp g=>c.fW i j X Y p q b e hi f (by rw[<-a];exact hp) (by rw[<-a];exact g)⟩;obtain⟨p,hp,hR,d⟩:=c.al i X hi;exact⟨p,by rw[a];exact hp,Ob.Iv a (nZ hn hi) hR,d⟩
theorem xS: ∀ {h:AH S} {i:Nat} {X:Ob S},j1 h=true->aM h i=some X->X.nt=true
 |[],i,X,_,hi=>by simp[aM] at hi
 |none::r,0,X,_,hi=>by simp[aM] at hi
 |some Y::r,0,X,hn,hi=>by
  simp only[j1,η] at hn;simp only[aM,ξz,ι] at hi;subst hi;exact hn.1
 |none::r,i+1,X,hn,hi=>xS (h:=r) (i:=i) hn (by simpa[aM] using hi)
 |some Y::r,i+1,X,hn,hi=>by
  simp only[j1,η] at hn;exact xS (h:=r) (i:=i) hn.2 (by simpa[aM] using hi)
theorem Rr: ∀ {env:a8 S} {s:Nat} {a:AV S},nY env=true->a8.get env s=some a->a.ga=true
 |[],s,a,_,h=>by cases h
 |(t,b)::r,s,a,hn,h=>by
  simp only[nY,η] at hn;simp only[a8.get] at h;cases c:ε t s with
  |true=>rw[c] at h;simp only[cond_true,ι] at h;subst h;exact hn.1
  |false=>rw[c] at h;exact Rr hn.2 h
theorem ad5 (d:A2.pl=A1.pl) {env:a8 S} {a:Act} (hn:nY env=true) (he:cM A1 O w env a):cM A2 O w env a:=λs c b=>AV.Iv d (Rr hn b) (he s c b)
end
section
variable {S:bh} {K:bp S} {P:Program} {N:Nat} {B:cP} {A A':Pl} {O O':Γ} {w w':World} {st:AS S} {a:Act} {R:Type} {z:R}
theorem Ui {ajF:List (aE S)} {vs:Γb} (h:cG A O w ajF vs):(rP ajF).rel A O w (h7 vs):=by
 match ajF,vs,h with
 |[],vs,h=>rw[show vs=[] from h];exact⟨[],rfl,rfl⟩
 |[x],vs,⟨y,ys,e,a,b⟩=>subst e;rw[show ys=[] from b];exact a
 |x::x'::r,vs,h=>
  obtain⟨y,ys,rfl,a,c,zs,rfl,b,d⟩:=h;exact⟨y::c::zs,by simp[h7],y,_,rfl,a,c,_,rfl,b,d⟩
theorem JF (y:b9 K P) {fn:Func} {env:a8 S} {h:AH S} {ajF:List (aE S)} (G:j8 K env h fn.results.toList=some ajF) (he:cM A O w env a) (D:bS A O w (aM h)): ∃vs,cG A O w ajF vs/\(results fn a.tmps).run P w= .ok (h7 vs) w:=by
 have key: ∀(l:List ResultVar) (ajF:List (aE S)),j8 K env h l=some ajF-> ∃vs,cG A O w ajF vs/\ ∀(F:ResultVar->Sem Value) (_: ∀t,F (.tmp t)=pure (a.tmps.getD t undef)) (_: ∀b t,F (.cell b t)=do loadVar t (<-asAddr (a.tmps.getD b undef))),(l.mapM F).run P w= .ok vs w:=by
  intro l
  induction l with
  |nil=>intro ajF d;cases d;exact⟨[],rfl,λF _ _=>by simp⟩
  |cons x l s=>
   intro ajF d;cases x with
   |tmp t=>
    simp only[j8] at d;split at d
    .rename_i b n;split at d
     .rename_i bs o;cases d;obtain⟨vs,f,g⟩:=s bs o;refine⟨a.tmps.getD t undef::vs,⟨_,_,rfl,he t _ n,f⟩,λF k m=>?_⟩;simp only[ζE,k,τ,ξj,φ,g F k m]
     .cases d
    .cases d
   |cell c t=>
    simp only[j8] at d;split at d
    rotate_left
    .cases d
    rename_i b n;split at d
    rotate_left
    .cases d
    rename_i i R cs hi B;cases r:ε (dX cs) i.size<;>rw[r] at d
    .cases d
    simp only[cond_true] at d;split at d
    rotate_left
    .cases d
    rename_i N z;split at d
    rotate_left
    .cases d
    rename_i bs o;cases d;obtain⟨us,f,g⟩:=s bs o;obtain⟨bI,I,J⟩:=he c _ n;obtain⟨p,p1,⟨Q,vs,p2,p3,p4⟩,_⟩:=D.al b _ B;rw[I] at p1;cases p1;cases p2;have hlen:vs.length=i.size:=(gT p4).trans (δ r);obtain⟨L,M⟩:=FJ z p4;have C:dJ w ⟨bI,0,none⟩ vs:=λj u E=>by
     have:(⟨bI,0,none⟩:Addr).add j=⟨bI,j,none⟩:=by unfold ζR;split<;>simp_all
     rw[this,p3.cell];exact E
    have q:=j' (P:=P) (y.Θ.fits hi) hlen C (λe=>by have:=M e;omega);simp only[Instr.loadAt,Instr.sureAddr,τ,ξj,φ] at q;have H:a.tmps.getD c undef= .pointer (some ⟨bI,0,none⟩):=by simpa using J
    refine⟨_::us,⟨_,_,rfl,L,f⟩,λF k m=>?_⟩;simp only[ζE,m,τ,H,asAddr,ξj,φ,q,g F k m]
 obtain⟨vs,f,g⟩:=key _ _ G;refine⟨vs,f,?_⟩;unfold results;rw[Array.mapM_eq_mapM_toList];simp only[τ,Sem.run_map];rw[g _ (λt=>rfl) (λb t=>rfl)];simp only[φ,ξj]
 congr 1
 match vs with
 |[]=>rfl
 |[v]=>rfl
 |v::u::vs=>simp[h7]
end
section
variable {S:bh} {K:bp S} {P:Program} {N:Nat} {B:cP} {A A':Pl} {O O':Γ} {w w':World} {st:AS S} {a:Act} {R:Type} {z:R}
theorem adI {D a:Nat} (h:Dc.mark D=Dc.mark a):D=a:=by
 unfold Dc.mark at h;simp only[Deferred.mk.injEq,ζL,and_true] at h;exact h
theorem c'.put {n0 D:Nat} {o':Obj}: ∀ {ds:List Deferred} {df:List (LV S)},Dc.mark D∉ds->c' n0 A O w df ds->c' n0 A O (w.putObj D o') df ds
 |[],df,_,h=>h
 |d::ds,df,hn,h=>by
  have j:Dc.mark D∉ds:=λhm=>hn (κ _ hm);rcases h with⟨k,a,l,b,g⟩|⟨i,r,f,u,c,a,b,g,m⟩
  .exact .inl ⟨k,a,l,b.put (o:=.deferred (some [])) (λe=>hn (by rw[a,e];exact μ)),c'.put j g⟩
  .exact .inr ⟨i,r,f,u,c,a,b,g,c'.put j m⟩
theorem bn.take {tm:Array Value} {D:Nat} {ds:List Deferred} (h:bn K P N B A O w st {tmps:=tm,defers:=Dc.mark D::ds}) (c:B.w0.heap.size<=D/\Dc.mark D∉ds) (d:er O w D (.deferred (some []))) (e:c' B.w0.heap.size A O w st.df ds):
  bn K P N B A O (w.putObj D (.deferred none)) st {tmps:=tm,defers:=ds}:=by
 have a:=h.dl;have b:st.lp=none:=by
  cases hl:st.lp with
  |none=>rfl
  |some g=>rw[hl] at a;have:=a rfl;cases this
 have f:st.inr=false:=by
  cases hl:st.inr with
  |false=>rfl
  |true=>rw[hl,ξv] at a;have:=a rfl;cases this
 refine h.book (lp':=st.lp) d (.inl λhD=>?_) ?_ (λh=>?_) (e.put c.2) rfl
 .have:=h.o0 D hD;omega
 .rw[b];trivial
 .rw[b,f] at h;cases h
theorem xJ {fn:Func} {e:Ending->World->Prop} {u:FrameMode} (hu:u≠ .run) (j:st.df=[]) {tm:Array Value}: ∀ {ds:List Deferred} {w:World},bn K P N B A O w st {tmps:=tm,defers:=ds}->(∀w',bn K P N B A O w' st {tmps:=tm,defers:=[]}->LeavesIn (fw none) 0 P fn tm e [] u w')->LeavesInM (fw none) 0 P fn tm e ds u w
 |[],w,h,b=>b w h
 |d::ds,w,h,b=>by
  rcases h.df with⟨D,a,k,g,l⟩|⟨i,r,f,m,c,a,_⟩
  .subst a;exact⟨hu,.inl ⟨D,_,rfl,run_takeDeferred g.1.1,xJ hu j (h.take k g l) b⟩⟩
  .rw[j] at a;cases a
def ly:Option Value->FrameMode->Prop
 |none,u=>u= .returning
 |some v,u=>u= .panicking [{v:=v,recovered:=false}]
theorem ly.out {p:Option Value} {u:FrameMode} (h:ly p u):u≠ .run:=by
 cases p<;>rw[show u=_ from h]<;>simp
def mS (K:bp S) (P:Program) (g:Nat) (cs:List (aE S)) (p:Option Value) (a:Nat->Option (Ob S)) (q:Option Value) (up:Up S):Prop:=et P g/\ ∀(A:Pl) (O:Γ) (w:World) (xs:Γb) (u:FrameMode),cG A O w cs xs->bS A O w a->OB O w->cB K O w->ly p u->CallsDIn (fw none) 0 P g xs.toArray u w (λe b w'=>(∃v,e= .returned v)/\ly q (settle b)/\ ∃A' O',b_ A O w a up A' O' w')
theorem Ii {fn:Func} {o:Ending->World->Prop} {i g:Nat} {cs:List (aE S)} {p q:Option Value} {up:Up S} (m:st.df=[.bA i]) (y:aM st.h i=some (.bA g [] cs)) (hD:mS K P g cs p (aM st.h) q up) (s:e7 (aM st.h) up=true) {tm:Array Value}:
  ∀ {ds:List Deferred} {w:World} {u:FrameMode},ly p u->bn K P N B A O w st {tmps:=tm,defers:=ds}->(∀A' O' w' k,ly q k->bn K P N B A' O' w' {st.ca up [] with df:=[]} {tmps:=tm,defers:=[]}->LeavesIn (fw none) 0 P fn tm o [] k w')->LeavesInM (fw none) 0 P fn tm o ds u w
 |[],w,u,hm,h,n=>by have:=h.df;rw[m] at this;cases this
 |d::ds,w,u,hm,h,n=>by
  rcases h.df with⟨D,j,E,b,l⟩|⟨U,r,f,V,c,j,b,l,F⟩
  .subst j;exact⟨hm.out,.inl ⟨D,_,rfl,run_takeDeferred b.1.1,Ii m y hD s hm (h.take E b l) n⟩⟩
  .rw[m] at j;cases j;obtain⟨L,G⟩:=hD;obtain⟨pp,p1,⟨us,vs,p2,p3,p4⟩,_⟩:=h.rel.al i _ y;rw[b] at p1;cases p1;rw[show us=[] from p3] at p2;cases p2;subst l;have t:=G A O w vs u p4 h.rel h.ob h.dc hm;refine⟨hm.out,.inr ⟨λh=>by simp[fw] at h,.func g,vs.toArray,g,vs.toArray,rfl,?_,λ_ _=>trivial,t.1,λc C H Q=>?_⟩⟩
   .show(invoke (.fn (.func g) vs.toArray) #[]).run P w=_;have:=L vs.toArray w;simpa[invoke] using this
   .obtain⟨e,k,w',fr,⟨⟨v,rfl⟩,z,A',O',x⟩,T⟩:=t.2 c C H Q;refine⟨.returned v,k,w',fr,?_,T⟩;have a:bn K P N B A' O' w' (st.ca up []) {tmps:=tm,defers:= {target:=.fn (.func g) vs.toArray,args:= #[]}::ds}:=h.ca s (by simpa[news] using x);have R:bn K P N B A' O' w' {st.ca up [] with df:=[]} {tmps:=tm,defers:=ds}:=by
     have I:c' B.w0.heap.size A' O' w' ([]:List (LV S)) ds:=c'.ca h.rel x F;have J:=h.dl;refine⟨a.size,a.env,a.rel,a.ob,a.dc,a.free,a.nb,a.le,a.tr,a.pl,a.ls,a.lv,a.cl,I,a.lp,λM=>?_,a.hi,a.o0,a.rr,a.nt⟩;have:=J M;cases this
    exact xJ z.out rfl R λw2 b=>n A' O' w2 _ z b
structure Kt (G:bW S) (P:Program):Prop where
 K:b9 G.K P
 C:ko G P
 H: ∀f c,qb G.H f=some c-> ∀ {R:Type} (ajF:List (aE S)) (h:AH S) (k:Rs S->AH S->Γ->Option R) (z:R),c.out ajF h k=some z-> ∃r h' dt,k r h' dt=some z/\eu G.K P f ajF h r h' dt
 D: ∀g a,qa G.D g=some a-> ∀ {R:Type} (cs:List (aE S)) (p:Option Value) (b:Nat->Option (Ob S)) (k:Option Value->Up S->Option R) (z:R),a.out cs p b k=some z-> ∃q up,k q up=some z/\mS G.K P g cs p b q up
 T: ∀f J,G.T f=some J->P.funcs[f]? =some J.fn
 E: ∀f J,G.T f=some J->et P f
 M:P.follows .mixedOrders=true
theorem ahe {G:bW S} (s:Kt G P) {fn:Func} {e:AX} {k:Rs S->AS S->Option R} (h:rE G fn e st k=some z):
  ∃r j,k r j=some z/\j.nb=st.nb/\ ∀(N:Nat) (B:cP) (A:Pl) (O:Γ) (w:World) (a:Act) (b:Ending->World->Prop),bn G.K P N B A O w st a->
   (∀A' O' w' a' l,bn G.K P N B A' O' w' j a'->ic A' O' w' r l->b l w')->bodyPostM (fw none) 0 P fn b e.of a w:=by
 unfold rE at h;split at h
 .rename_i m;split at h
  .cases h
  .rename_i u;refine⟨.bB u,st,h,rfl,λN B A O w a b f d=>?_⟩;show LeavesInM (fw none) 0 P fn a.tmps b a.defers (.panicking _) w;exact xJ (by simp) m (tm:=a.tmps) f λw' h'=>d A O w' _ _ h' rfl
  .rename_i v x;split at h
   rotate_left
   .cases h
   rename_i ajF has;refine⟨.ret (rP ajF),st,h,rfl,λN B A O w a b f d=>?_⟩;have fin:LeavesInM (fw none) 0 P fn a.tmps b a.defers .returning w:=xJ (by simp) m (tm:=a.tmps) f λw' h'=>by
    obtain⟨vs,C,E⟩:=JF s.K (a:= {tmps:=a.tmps,defers:=[]}) has h'.env h'.rel;exact⟨_,E,d A O w' _ _ h' ⟨_,rfl,Ui C⟩⟩
   cases e with
   |normal=>exact fin
   |ret=>exact fin
   |exit id=>exact absurd rfl (v id)
   |bB u=>exact absurd rfl (x u)
 .rename_i i m;split at h
  rotate_left
  .cases h
  rename_i g cs J;split at h
  rotate_left
  .cases h
  rename_i H L;have main: ∀ {p:Option Value},H.out cs p (aM st.h) (λp up=>bif !(e7 (aM st.h) up) then none else(match p with
     |some u=>k (.bB u) {st.ca up [] with df:=[]}
     |none=>(match j8 G.K st.env (eG st.h up) fn.results.toList with|some ajF=>k (.ret (rP ajF)) {st.ca up [] with df:=[]}|none=>none)))=some z->
    ∃r j,k r j=some z/\j.nb=st.nb/\ ∀(N:Nat) (B:cP) (A:Pl) (O:Γ) (w:World) (a:Act) (b:Ending->World->Prop) (u:FrameMode),ly p u->bn G.K P N B A O w st a->
   (∀A' O' w' a' l,bn G.K P N B A' O' w' j a'->ic A' O' w' r l->b l w')->LeavesInM (fw none) 0 P fn a.tmps b a.defers u w:=by
   intro p hp;obtain⟨q,up,c,I⟩:=s.D g H L _ _ _ _ _ hp;cases t:e7 (aM st.h) up<;>rw[t] at c
   .cases c
   simp only[ξK,cond_false] at c;cases q with
   |some u=>
    refine⟨_,_,c,rfl,λN B A O w a b Q hm f d=>?_⟩;refine Ii m J I t (tm:=a.tmps) hm f λA' O' w' F y h'=>?_;rw[show F=_ from y];exact d A' O' w' _ _ h' rfl
   |none=>
    simp only at c;split at c
    rotate_left
    .cases c
    rename_i ajF has;refine⟨_,_,c,rfl,λN B A O w a b Q hm f d=>?_⟩;refine Ii m J I t (tm:=a.tmps) hm f λA' O' w' F y h'=>?_;rw[show F=_ from y];have M:bS A' O' w' (aM (eG st.h up)):=by
     have:=h'.rel;simpa[AS.ca] using this
    obtain⟨vs,C,E⟩:=JF s.K (a:= {tmps:=a.tmps,defers:=[]}) has h'.env M;exact⟨_,E,d A' O' w' _ _ h' ⟨_,rfl,Ui C⟩⟩
  simp only at h;split at h
  .cases h
  .rename_i u;obtain⟨r,j,c,n,o⟩:=main h;exact⟨r,j,c,n,λN B A O w a b f d=>o N B A O w a b _ rfl f d⟩
  .rename_i v x;obtain⟨r,j,c,n,o⟩:=main h;refine⟨r,j,c,n,λN B A O w a b f d=>?_⟩;have fin:=o N B A O w a b .returning rfl f d;cases e with
   |normal=>exact fin
   |ret=>exact fin
   |exit id=>exact absurd rfl (v id)
   |bB u=>exact absurd rfl (x u)
 .cases h
theorem aeU {r:Rs S} {k:Rs S->AH S->Γ->Option R} (h:ri r st k=some z):
  ∃y h' dt,k y h' dt=some z/\ ∀(N:Nat) (B:cP) (A:Pl) (O:Γ) (w:World) (a:Act) (e:Ending),B.ex=none->bn K P N B A O w st a->ic A O w r e-> ∃A',ic A' O w y e/\zi B.A0 B.O0 B.w0 B.nb h' dt A' O w:=by
 unfold ri at h;simp only at h;obtain⟨d,g⟩: ∃d,d=kept (aM st.h) st.nb (od (st.h.take st.nb)++(match r with| .ret a=>a.refs| .bB _=>[])):=⟨_,rfl⟩;have key: ∀(N:Nat) (B:cP) (A:Pl) (O:Γ) (w:World) (a:Act),B.ex=none->bn K P N B A O w st a-> ∃A',gk (λi=>posOf i d 0) A A'/\zi B.A0 B.O0 B.w0 B.nb (e4 (λi=>posOf i d 0) (gb (aM st.h) d)) (st.dt.filter λi=>χ i st.nb) A' O w:=by
  intro N B A O w a hex h;obtain⟨A',f⟩: ∃A':Pl,A'=⟨λj=>(d[j]?).bind A.pl,A.ls⟩:=⟨_,rfl⟩;have hR:gk (λi=>posOf i d 0) A A':=⟨λi j p hi hp=>by
   rw[f];simp only[n_ hi,ξ8];exact hp,by rw[f]⟩
  have t: ∀i,i<B.nb->d[i]? =some i:=λi hi=>by rw[g];exact Pa (by rw[h.nb];exact hi)
  have G: ∀i j,B.nb<=j->d[j]? =some i->B.nb<=i:=λi j m hi=>by rw[g,h.nb] at hi;exact O9 m hi
  refine⟨A',hR,?_,h.ob,h.tr,λi hi=>?_,λj m=>?_,by rw[f];exact h.ls,?_,?_,?_,?_⟩
  .exact h.rel.cf (idx:=λj=>d[j]?) (λj=>by rw[f]) (by rw[f]) (λi j J c l=>xQ (by rw[g];exact Pb) c l) (λi j hi=>n_ hi) (λj H m=>j4 m)
  .rw[f];simp only[t i hi,ξ8];exact h.pl i hi
  .have:=(ξm.1 m).2;rw[<-h.nb];exact ξ.mp this
  .rw[ml,n8,g,<-h.nb];exact O_
  .intro i hi;rw[ml,n8] at hi;rw[f];simp[ξh hi]
  .intro b D E;obtain⟨c1,c2,c3⟩:=h.cl b D (by rw[hex];simp) λi hi _ p hp=>by
    rcases ξ2 i B.nb with c|c
    .exact E i (ξm.2 ⟨hi,ξ.mpr (by rw[h.nb];exact c)⟩) p hp
    .rw[h.hi i c] at hp;cases hp
   refine⟨c1,c2,λi X p hi hX hp=>?_⟩;obtain⟨i0,n,c,l,o⟩:=j4 hX;rw[f] at hp;simp only[c,ξ8] at hp;exact λF=>c3 i0 n p (G i0 i hi c) l hp (Ob.mn o F)
  .intro i X hi hX;obtain⟨i0,n,c,l,o⟩:=j4 hX;rw[t i hi] at c;cases c;rw[Ob.yl o];exact h.nt i n hi l
 cases r with
 |ret I=>
  simp only at h g;rw[<-g] at h;split at h
  .rename_i a' C;refine⟨_,_,_,h,λN B A O w a e hex q ⟨v,c,l⟩=>?_⟩;obtain⟨A',x,s⟩:=key N B A O w a hex q;exact⟨A',⟨v,c,AV.h4 x C l⟩,s⟩
  .cases h
 |bB u=>
  simp only at h g;rw[<-g] at h;refine⟨_,_,_,h,λN B A O w a e hex q he=>?_⟩;obtain⟨A',x,s⟩:=key N B A O w a hex q;exact⟨A',he,s⟩
end
section
variable {S:bh} {K:bp S} {P:Program} {N:Nat} {B:cP} {A A':Pl} {O O':Γ} {w w':World} {st:AS S} {a:Act} {R:Type} {z:R}
inductive Sub:Code->Code->Prop
 |refl (c):Sub c c
 |seq1 {x y d}:Sub x d->Sub (.seq x y) d
 |TO {x y d}:Sub y d->Sub (.seq x y) d
 |NH {o x y d}:Sub x d->Sub (.cond o x y) d
 |NI {o x y d}:Sub y d->Sub (.cond o x y) d
 |block {id x d}:Sub x d->Sub (.block id x) d
 |loop {x d}:Sub x d->Sub (.loop x) d
 |scope {x d}:Sub x d->Sub (.scope x) d
def aO (K:bp S) (P:Program) (I:dw S) (c:Code):Prop:= ∀(x:Code) (lc:a7 S),Sub c (.loop x)->gp I.lc (dP x)=some lc-> ∀ {R:Type} (st:AS S) (k:AX->AS S->Option R) (z:R),lc.out st k=some z-> ∃e b,k e b=some z/\ ∀B A O w a,bn K P I.fn.ntmps B A O w st a->(Code.loop x).wpIn (fw B.rr) 0 P (hJ K P I.fn.ntmps B e b) a w
theorem aO.nil {I:lq} {c:Code}:aO K P (⟨I,[]⟩:dw S) c:=λx lc _ h=>by cases h
theorem aO.sub {I:dw S} {c d:Code} (h:aO K P I c) (e: ∀x,Sub d x->Sub c x):aO K P I d:=λx lc a b=>h x lc (e _ a) b
def jB (K:bp S) (P:Program) (run: {R:Type}->dw S->Code->AS S->(AX->AS S->Option R)->Option R):Prop:= ∀ {R:Type} (I:dw S) (c:Code) (st:AS S) (k:AX->AS S->Option R) (z:R),aO K P I c->run I c st k=some z-> ∃e b,k e b=some z/\ ∀B A O w a,bn K P I.fn.ntmps B A O w st a->c.wpIn (fw B.rr) 0 P (hJ K P I.fn.ntmps B e b) a w
theorem U9: ∀ {ps:Γ} {ajF:List (aE S)} {b:a8 S},km ps ajF=some b->ps.length=ajF.length
 |[],[],_,_=>rfl
 |p::ps,a::ajF,b,h=>by
  simp only[km] at h;split at h
  .rename_i e he;simp[U9 he]
  .cases h
 |[],_::_,_,h=>by cases h
 |_::_,[],_,h=>by cases h
theorem Ol: ∀ {l:List (Nat×Value)} {tm:Array Value},(l.foldl (λt p=>t.setIfInBounds p.1 p.2) tm).size=tm.size
 |[],tm=>rfl
 |(p,v)::l,tm=>by simp[Ol]
theorem Hg {s:Nat}: ∀ {l:List (Nat×Value)} {tm:Array Value},(∀p∈l,p.1≠s)->(l.foldl (λt p=>t.setIfInBounds p.1 p.2) tm).getD s undef=tm.getD s undef
 |[],tm,_=>rfl
 |(p,v)::l,tm,h=>by
  rw[ζz,Hg λq b=>h q (κ _ b)];have a:p≠s:=h (p,v) μ;simp only[θ,ξ3 a]
theorem U_ {s:Nat} {b:AV S}: ∀ {ps:Γ} {ajF:List (aE S)} {g:a8 S} {xs:Γb} {tm:Array Value},km ps ajF=some g->n' tm.size ps=true->cG A O w ajF xs->a8.get g s=some b->b.rel A O w (((ps.zip xs).foldl (λt p=>t.setIfInBounds p.1 p.2) tm).getD s undef)
 |[],[],g,xs,tm,d,_,v,f=>by cases d;cases f
 |p::ps,c::ajF,g,xs,tm,d,hp,⟨y,ys,e,j,k⟩,f=>by
  subst e;simp only[km] at d;split at d
  rotate_left
  .cases d
  rename_i x u;cases d;simp only[n',η] at hp;obtain⟨o,i,r⟩:=hp;have l:p<tm.size:=ξ.mp o;have m:p∉ps:=λhm=>by rw[hv.2 hm] at i;cases i
  have n: ∀q∈ps.zip ys,q.1≠p:=λq h e=>m (by rw[<-e];exact(ζA (a:=q.1) (b:=q.2) h).1);simp only[a8.get] at f;show b.rel A O w (((ps.zip ys).foldl (λt p=>t.setIfInBounds p.1 p.2) (tm.setIfInBounds p y)).getD s undef);cases h:ε p s with
  |true=>
   rw[h] at f;have:=δ h;subst this;simp only[cond_true,ι] at f;subst f;rw[Hg n];have e:(tm.setIfInBounds p y).getD p undef=y:=by simp[θ,l]
   rw[e];exact j
  |false=>
   rw[h] at f;exact U_ u (by simpa using r) k f
 |[],_::_,g,xs,tm,d,_,_,_=>by cases d
 |_::_,[],g,xs,tm,d,_,_,_=>by cases d
theorem U' {s:Nat}: ∀ {ps:Γ} {ajF:List (aE S)} {b:a8 S},km ps ajF=some b->a8.get b s=none->s∉ps
 |[],[],b,a,_=>by simp
 |p::ps,c::ajF,b,a,d=>by
  simp only[km] at a;split at a
  rotate_left
  .cases a
  rename_i h g;cases a;simp only[a8.get] at d;cases f:ε p s with
  |true=>rw[f] at d;cases d
  |false=>
   rw[f] at d;intro hm;rcases ψ.1 hm with e|hm
   .subst e;simp at f
   .exact U' g d hm
 |[],_::_,b,a,_=>by cases a
 |_::_,[],b,a,_=>by cases a
theorem Ou {env:a8 S} {s:Nat}: ∀ {a:a8 S},a8.get (a++env) s=(match a8.get a s with|some b=>some b|none=>a8.get env s)
 |[]=>rfl
 |(t,b)::r=>by
  simp only[ξZ,a8.get];cases ε t s with
  |true=>rfl
  |false=>exact Ou
theorem ajB {env:a8 S} {ps:Γ} {ajF:List (aE S)} {g:a8 S} {xs:Γb} {tm:Array Value} (f:km ps ajF=some g) (hp:n' tm.size ps=true) (j:cG A O w ajF xs) (he:cM A O w env {tmps:=tm,defers:=[]}):cM A O w (g++env) {tmps:=(ps.zip xs).foldl (λt p=>t.setIfInBounds p.1 p.2) tm,defers:=[]}:=by
 intro s d c;rw[Ou] at c;split at c
 .rename_i b h;cases c;exact U_ f hp j h
 .rename_i hn;have hn:=U' f hn;show d.rel A O w (((ps.zip xs).foldl (λt p=>t.setIfInBounds p.1 p.2) tm).getD s undef);rw[Hg λq i e=>hn (by rw[<-e];exact(ζA (a:=q.1) (b:=q.2) i).1)];exact he s d c
theorem ajz {run: {R:Type}->dw S->Code->AS S->(AX->AS S->Option R)->Option R} (an:jB K P run) {R:Type}:uY (R:=R) K P (Kr run):=by
 intro ajF st k z h;unfold Kr at h;split at h
 rotate_left
 .cases h
 rename_i d Q;split at h
 rotate_left
 .cases h
 rename_i au al ar;cases T:(n' d.J.fn.ntmps d.ps&&j1 st.h)<;>rw[T] at h
 .cases h
 simp only[cond_true] at h;rw[η] at T;obtain⟨aW,aV⟩:=T;obtain⟨f,st1,m,aZ⟩:=an _ _ _ _ _ aO.nil h;split at m
 rotate_left
 .cases m
 rename_i aP;cases aj:j1 st1.h<;>rw[aj] at m
 .cases m
 simp only[cond_true] at m;obtain⟨n,st2,C,a1⟩:=an _ _ _ _ _ aO.nil m;obtain⟨dt',G⟩: ∃dt',dt'=e9 st.nb st.dt (st1.dt++st2.dt):=⟨_,rfl⟩;rw[<-G] at C;obtain⟨b,j,aQ,aL⟩: ∃b j,k b {st with h:=st2.h,dt:=dt',lp:=some {d with fm:=j}}=some z/\(n= .normal/\b=true/\j=none\/n= .ret/\b=false/\j=some .ret\/ ∃id,n= .exit id/\b=false/\j=some (.exit id)):=by
  split at C
  .refine⟨true,none,?_,.inl ⟨rfl,rfl,rfl⟩⟩;have:({d with fm:=none}:hH S)=d:=by rw[<-al]
   rw[this,<-Q];exact C
  .cases C
  .exact⟨false,_,C,.inr (.inl ⟨rfl,rfl,rfl⟩)⟩
  .exact⟨false,_,C,.inr (.inr ⟨_,rfl,rfl,rfl⟩)⟩
 refine⟨b,_,aQ,?_⟩;intro N B o c x A O w a l ak aH q aU ab g;have ah:=g.lp;rw[Q] at ah;obtain⟨l',fn,tm,D,aw,U,ax,ay,az,V⟩:=ah;have aT:l'=l:=by
  have:=g.ls;rw[aU,aw] at this;exact ξs this.symm
 subst aT;have L:a.defers=[]:=g.dl (by rw[Q];rfl);have aC: ∀i p,B.A0.pl i=some p->A.pl i=some p:=λi p hp=>by
  rcases ξ2 i B.nb with m|m
  .rw[g.pl i m];exact hp
  .rw[g.hi i m] at hp;cases hp
 have aB:Pl.le B.A0 A:=⟨aC,g.ls⟩;have ag:w.heap[l']? =some (.loop (eF d fn tm D)):=ax.1.1;have a6:(c.args.map a.eval).size=(eF d fn tm D).params.size:=by
  have f:=yk ab;simp only[ξx,Array.length_toList] at f;simp[eF,f,U9 ar]
 have a7:=run_yield (P:=P) ag a6;obtain⟨s,ao⟩: ∃s,s=((eF d fn tm D).params.zip (c.args.map a.eval)).foldl (λtmps (t,a)=>tmps.setIfInBounds t a) tm:=⟨_,rfl⟩;have aq:s=(d.ps.zip (c.args.toList.map a.eval)).foldl (λt p=>t.setIfInBounds p.1 p.2) tm:=by
  rw[ao,<-ξO];simp[eF]
 have a8:(Instr.yield l' (c.args.map a.eval)).run P w= .ok (.round l' fn s d.gG d.body) w:=by rw[a7,ao];rfl
 have aY:(execOp a.eval o).run P w= .ok (.round l' fn s d.gG d.body) w:=by
  simp only[execOp,ak,τ,resolve,aH,q,ξY,ξj,φ,invoke];simpa using a8
 refine⟨λ_ _=>trivial,?_⟩;rw[ζl _ _ _ (by rw[ak];simp),aY,Oper.uponIn_round];refine⟨λh=>by simp[fw] at h,roundIn_of_wpIn trivial ?_⟩;have aM:cM A O w (au++d.env) {tmps:=s,defers:=[]}:=by
  rw[aq];exact ajB ar (by rw[V];exact aW) ab (az.tr (Tr.refl _ _) aB)
 have i1:bn K P d.J.fn.ntmps (cP.of A O w st.h none (some l')) A O w ⟨au++d.env,st.h,st.h.length,none,true,[],[]⟩ {tmps:=s,defers:=[]}:=
  bn.init g.rel g.ob g.dc g.free (by show s.size=_;rw[aq,Ol,V]) aM trivial (λh=>by cases h) rfl (λi X hX=>xS aV hX)
 refine wpIn_mono (aZ _ A O w _ i1) ?_;rintro e Y w1 ⟨rfl,⟨av,a_⟩,O1,r⟩;have aR:a_=A.ls:=r.ls;subst aR;show ∃bj,_;have aI: ∀x∈st.dt,x∈dt':=λx q=>by rw[G];exact jI q
 have aJ: ∀x∈st1.dt,x<st.nb->x∈dt':=λx q hn=>by rw[G];exact kG hn (υ _ q)
 have aK: ∀x∈st2.dt,x<st.nb->x∈dt':=λx q hn=>by rw[G];exact kG hn (ω _ q)
 obtain⟨bd,Z,bg⟩:=g.inner (Tr.refl O w) (λb I=>⟨I,rfl⟩) rfl (λ_ _ h=>by cases h) r aI aJ r.rel;have u:=Z _ _ ax;refine⟨_,run_beginRound u.1.1 (by simp[eF,al]),?_⟩;obtain⟨busy,ad⟩: ∃busy,busy=({eF d fn tm D with state:=.busy}:Loop):=⟨_,rfl⟩;rw[<-ad];have ae: ∀ {w':World} {A':Pl} {O':Γ},c' B.w0.heap.size A' O' w' st.df a.defers:=λ{w' A' O'}=>by
  have:=g.df;rw[L] at this ⊢;exact this
 have W:=bd.book (o':=.loop busy) (lp':=none) (a':=a) u (.inr U) trivial (λ_=>L) ae rfl;have aF:Y.defers=[]:=r.dl (by rw[aP,ξv]);have i2:bn K P d.J.fn.ntmps (cP.of ⟨av,A.ls⟩ O1 (w1.putObj l' (.loop busy)) st1.h none (some l')) ⟨av,A.ls⟩ O1 (w1.putObj l' (.loop busy)) ⟨st1.env,st1.h,st1.h.length,none,true,[],[]⟩ Y:=
  bn.init (r.rel.book u) W.ob W.dc r.free r.size (r.env.tr (pz u) (Pl.le.refl _)) trivial (λh=>by cases h) aF (λi X hX=>xS aj hX)
 refine wpIn_mono (a1 _ _ _ _ _ i2) ?_;rintro e a2 w2 ⟨rfl,⟨bb,ba⟩,aA,H⟩;have aS:ba=A.ls:=H.ls;subst aS;obtain⟨bf,aa,bh⟩:=W.inner (st2:=st2) (Tr.refl O1 _) (λb I=>⟨I,rfl⟩) rfl (λ_ _ h=>by cases h) H (dt':=dt') (λx q=>q) aK H.rel;have aD:=Z _ _ ay;have ai:D≠l':=by
  rintro rfl;have f:=ay.1.1;rw[ag] at f;cases f
 have bc:er O1 (w1.putObj l' (.loop busy)) l' (.loop busy):=⟨⟨ζ4 u.1.lt,rfl⟩,rfl,u.2.2⟩;have F:=aa _ _ bc;have aE:=aa _ _ (aD.put (o:=.loop (eF d fn tm D)) (o':=.loop busy) ai);have M: ∀jump:Option Code,jump=j.bind AX.code->(j=none↔jump=none)-> ∃v w',(Instr.endRound l' jump).run P w2= .ok v w'/\v= .bool jump.isNone/\ ∃A' O',bn K P N B A' O' w' {st with h:=st2.h,dt:=dt',lp:=some {d with fm:=j}} a:=by
  intro jump af aN;refine⟨_,_,run_endRound jump F.1.1,rfl,⟨bb,A.ls⟩,aA,?_⟩;have aX:({busy with state:=if jump.isNone then .ready else .done,pending:=jump}:Loop)=eF {d with fm:=j} fn tm D:=by
   rw[ad,af];unfold eF;cases j with
   |none=>rfl
   |some x=>
    have: ¬(jump=none):=λe=>by cases aN.2 e
    rw[af] at this;cases aG:(some x).bind AX.code with
    |none=>exact absurd aG this
    |some y=>rfl
  rw[aX];refine bf.book (o':=.loop (eF {d with fm:=j} fn tm D)) (lp':=some {d with fm:=j}) F (.inr U) ?_ (λ_=>L) ae rfl;exact⟨l',fn,tm,D,aw,U,⟨⟨ζ4 F.1.lt,rfl⟩,rfl,F.2.2⟩,aE.put (o:=.loop busy) ai,(((az.tr r.tr (Pl.le.refl _)).tr (pz u) (Pl.le.refl _)).tr H.tr (Pl.le.refl _)).tr (pz F) (Pl.le.refl _),V⟩
 rcases aL with⟨rfl,rfl,rfl⟩|⟨rfl,rfl,rfl⟩|⟨id,rfl,rfl,rfl⟩
 .obtain⟨v,w',f,n,E⟩:=M none rfl (by simp);exact⟨v,w',f,v,rfl,by rw[n];rfl,E⟩
 .obtain⟨v,w',f,n,E⟩:=M (some .ret) rfl (by simp);exact⟨v,w',f,v,rfl,by rw[n];rfl,E⟩
 .obtain⟨v,w',f,n,E⟩:=M (some (.exit id)) rfl (by simp);exact⟨v,w',f,v,rfl,by rw[n];rfl,E⟩
end
section
variable {S:bh} {P:Program} {N:Nat} {B:cP} {A A':Pl} {O O':Γ} {w w':World} {st:AS S} {a:Act} {R:Type} {z:R}
theorem M9 {s:Nat} {c:AV S}: ∀ {ajF:List (aE S)} {i:Nat} {xs:Γb},cG A O w ajF xs->a8.get (iP i ajF) s=some c-> ∃x,i<=s/\xs[s-i]? =some x/\c.rel A O w x
 |[],i,xs,_,h=>by cases h
 |b::r,i,xs,⟨y,ys,e,d,f⟩,h=>by
  subst e;simp only[iP,a8.get] at h;cases a:ε i s with
  |true=>
   rw[a] at h;have:=δ a;subst this;simp only[cond_true,ι] at h;subst h;exact⟨y,ξe _,by simp,d⟩
  |false=>
   rw[a] at h;obtain⟨x,k,g,j⟩:=M9 (i:=i+1) f h;refine⟨x,by omega,?_,j⟩;rw[show s-i=(s-(i+1))+1 by omega];simpa using g
theorem M_ {ajF:List (aE S)} {xs:Γb} {n:Nat} (h:cG A O w ajF xs):cM A O w (iP 0 ajF) {tmps:=xs.toArray++ξc n undef,defers:=[]}:=by
 intro s b f;obtain⟨x,_,a,c⟩:=M9 h f;simp only[ζO] at a;have d:=(ζ.1 a).1;have e:(xs.toArray++ξc n undef).getD s undef=x:=by
  rw[θ,Array.getElem?_append_left (by simpa using d)];simp[a]
 show b.rel A O w ((xs.toArray++ξc n undef).getD s undef);rw[e];exact c
structure aX (G:bW S) (P:Program):Prop extends Kt G P where
 L: ∀f J c,G.T f=some J->J.fn.body=some c->aO G.K P J c
theorem Ni {G:bW S} (a:aX G P) {run: {R:Type}->dw S->Code->AS S->(AX->AS S->Option R)->Option R} (y:jB G.K P run) {f:Nat} {J:dw S} {c:Code} {ajF:List (aE S)} {h:AH S} {k:Rs S->AH S->Γ->Option R} (b:G.T f=some J) (g:J.fn.body=some c) (hl:ξF ajF.length J.fn.ntmps=true)
  (v:run J c ⟨iP 0 ajF,h,h.length,none,false,[],[]⟩ (λe Q=>rE G J.fn e Q λr U=>ri r U k)=some z): ∃r h' dt,k r h' dt=some z/\eu G.K P f ajF h r h' dt:=by
 obtain⟨e,st1,l,B⟩:=y _ _ _ _ _ (a.L f J c b g) v;obtain⟨r,st2,m,Y,C⟩:=ahe a.toKt l;obtain⟨I,h',dt,o,D⟩:=aeU (K:=G.K) (P:=P) m;refine⟨I,h',dt,o,a.E f J b,λA O w xs d t q p s u=>?_⟩;refine(callsIn_wide (n:=0)).1 (callsIn_of_wp_marks (a.T f J b) g trivial ?_);have hlen:=yk d;have hle:=ξa hl;have i1:bn G.K P J.fn.ntmps (cP.of A O w h none none) A O w ⟨iP 0 ajF,h,h.length,none,false,[],[]⟩ {tmps:=xs.toArray++ξc (J.fn.ntmps-xs.toArray.size) undef,defers:=[]}:=
  bn.init t q p s (by simp;omega) (M_ d) trivial (λ_=>rfl) rfl u
 refine wpIn_mono (B _ A O w _ i1) ?_;rintro W V w1 ⟨rfl,A1,O1,M⟩;refine C _ _ _ _ _ _ _ M λA2 j w2 a2 X N x=>?_;obtain⟨i,F,H⟩:=D _ _ _ _ _ _ _ rfl N x;exact⟨i,j,F,H⟩
theorem agX {G:bW S} (ae:aX G P) {run: {R:Type}->dw S->Code->AS S->(AX->AS S->Option R)->Option R} (bc:jB G.K P run) {I:dw S} {fo:Operand} {ps:Array Nat} {gG body:Code} {k:AX->AS S->Option R} (h:Jb G run I fo ps gG body st k=some z):
  ∃e aG,k e aG=some z/\ ∀B A O w a,bn G.K P I.fn.ntmps B A O w st a->(Code.rangeFunc fo ps gG body).wpIn (fw B.rr) 0 P (hJ G.K P I.fn.ntmps B e aG) a w:=by
 unfold Jb at h;split at h
 rotate_left
 .cases h
 rename_i ax aw;split at h
 rotate_left
 .cases h
 rename_i i aW;split at h
 rotate_left
 .cases h
 rename_i g cs az;split at h
 rotate_left
 .cases h
 rename_i J ah;split at h
 rotate_left
 .cases h
 rename_i aJ au ba;cases ai:(ξF (1+cs.length) J.fn.ntmps&&(nY st.env&&h0 st.h))<;>rw[ai] at h
 .cases h
 simp only[cond_true] at h;simp only[η] at ai;obtain⟨hle,a6,af⟩:=ai;obtain⟨ag,st1,q,bd⟩:=bc _ _ _ _ _ (ae.L g J aJ ah au) h;obtain⟨e,f,y,U,bt,a1,aU,aV⟩: ∃e f,k e {st with h:=st1.h,dt:=e9 st.nb st.dt st1.dt}=some z/\st1.lp=some f/\st1.df=[]/\h0 st1.h=true/\(ag= .normal\/ag= .ret)/\(f.fm=none/\e= .normal\/f.fm=some .ret/\e= .ret\/ ∃id,f.fm=some (.exit id)/\e= .exit id):=by
  have tail:ya st st1 k=some z-> ∃e f,k e {st with h:=st1.h,dt:=e9 st.nb st.dt st1.dt}=some z/\st1.lp=some f/\st1.df=[]/\h0 st1.h=true/\(f.fm=none/\e= .normal\/f.fm=some .ret/\e= .ret\/ ∃id,f.fm=some (.exit id)/\e= .exit id):=by
   intro q;unfold ya at q;split at q
   .rename_i f aj U;cases hn:h0 st1.h<;>rw[hn] at q
    .cases q
    simp only[cond_true] at q;split at q
    .rename_i hp;exact⟨.normal,f,q,U,aj,rfl,.inl ⟨hp,rfl⟩⟩
    .rename_i hp;exact⟨.ret,f,q,U,aj,rfl,.inr (.inl ⟨hp,rfl⟩)⟩
    .rename_i id hp;exact⟨.exit id,f,q,U,aj,rfl,.inr (.inr ⟨id,hp,rfl⟩)⟩
    .cases q
   .cases q
  cases ag with
  |normal=>obtain⟨e,f,t1,t2,t3,t4,t5⟩:=tail q;exact⟨e,f,t1,t2,t3,t4,.inl rfl,t5⟩
  |ret=>obtain⟨e,f,t1,t2,t3,t4,t5⟩:=tail q;exact⟨e,f,t1,t2,t3,t4,.inr rfl,t5⟩
  |exit id=>cases q
  |bB u=>cases q
 refine⟨e,_,y,λB A O w a l=>?_⟩;have bb:=l.rr aw;rw[bb];refine wpIn_rangeFunc λfn _=>?_;obtain⟨f0,bp,aI,p1,p2⟩:=dS l.env l.dc aW;have p2:a.eval fo= .func f0 bp aI:=by simpa using p2
 obtain⟨p,aE,⟨us,vs,aF,bk,bl⟩,_⟩:=l.rel.al i _ az;rw[p1] at aE;cases aE;rw[show us=[] from bk] at aF;cases aF;obtain⟨rec,aA⟩: ∃rec:Loop,rec=eF ⟨I.tolq,ps.toList,gG,body,st.env,none⟩ fn a.tmps w.heap.size:=⟨_,rfl⟩;obtain⟨m,Z⟩: ∃m,(w.alloc (.deferred (some []))).alloc (.loop rec)=m:=⟨_,rfl⟩;have aN:m.heap[w.heap.size+1]? =some (.loop rec):=by
  rw[<-Z];have:=ζf (w.alloc (.deferred (some []))) (.loop rec);rwa [World.size_alloc] at this
 have ao:m.heap[w.heap.size]? =some (.deferred (some [])):=by
  rw[<-Z];exact(ζ2 _ _ _ (by simp)).trans (ζf w _)
 have Q:Fr [] w m:=by
  rw[<-Z];exact⟨rfl,rfl,rfl,by simp;omega,λk y _=>(ζ2 _ _ _ (by simp;omega)).trans (ζ2 _ _ _ y)⟩
 have bz:m.heap.size=w.heap.size+2:=by rw[<-Z];simp
 obtain⟨O1,W⟩: ∃O1,O1=w.heap.size::(w.heap.size+1)::O:=⟨_,rfl⟩;have ak: ∀b∈O,b∈O1:=λb r=>by rw[W];exact κ _ (κ _ r)
 have Y:Tr O w O1 m:=⟨Q.os,Q.tape,Q.output,Q.size,λk y a8=>⟨by rw[W];simp;exact⟨by omega,by omega,a8⟩,Q.block k y (by simp)⟩⟩;have aO:OB O1 m:=λk y=>by
  rw[W] at y;simp at y;rcases y with rfl|rfl|y
  .omega
  .omega
  .have:=l.ob k y;omega
 have aq: ∀b∈O,b∈O1/\m.heap[b]? =w.heap[b]? :=λb r=>⟨ak b r,Q.block b (l.ob b r) (by simp)⟩;obtain⟨A1,ad⟩: ∃A1:Pl,A1=⟨A.pl,some (w.heap.size+1)⟩:=⟨_,rfl⟩;have N:A1.pl=A.pl:=by rw[ad]
 refine⟨w.heap.size+1,[{target:=.collected w.heap.size,args:= #[]}],m,{target:=.fn (.func g) vs.toArray,args:= #[.func (.yield (w.heap.size+1)) #[] #[]]},m,g,
  #[.func (.yield (w.heap.size+1)) #[] #[]]++vs.toArray,m,?_,?_,?_,?_,λh=>by simp[fw] at h,?_⟩
 .rw[<-Z,aA];exact run_enterLoop_outer _ _ _ _ _
 .simp only[resolve,p2];simp[go_sem]
 .intro aL bu;trivial
 .have aK: ∀(vs:Array Value) (u:World),(callFunc g vs).run P u= .ok (.enter g vs) u:=ae.E g J ah;simp[invoke,go_sem,aK]
 ·
  have aB:cG A1 O1 m (.one .c_::cs) (.func (.yield (w.heap.size+1)) #[] #[]::vs):=by
   refine⟨_,_,rfl,⟨w.heap.size+1,by rw[ad],rfl⟩,?_⟩;have aS:l6 cs=true:=by
    have:=nZ af az;simp only[Ob.ga,η] at this;exact this.2
   exact q6 N aS (mi Y (Pl.le.refl A) bl)
  have hlen:=yk aB;simp only[ξu] at hlen;have bw:=ξa hle;have aY:bS A O1 m (aM st.h):=by
   refine bS.xO (λj X s=>Ob.Rv (nZ af s)) (λj X s=>?_) l.rel.dj;obtain⟨p,hp,hR,r⟩:=l.rel.al j X s;exact⟨p,hp,hR.keep Y (Pl.le.refl A) λb V=>⟨(aq b (l.rel.hU s hp V)).2,ak b (l.rel.hU s hp V)⟩,λb V=>ak b (r b V)⟩
  have aQ:er O1 m (w.heap.size+1) (.loop rec):=⟨⟨aN,rfl⟩,rfl,by rw[W];simp⟩;have ar:er O1 m w.heap.size (.deferred (some [])):=⟨⟨ao,rfl⟩,rfl,by rw[W];simp⟩;have i1:bn G.K P J.fn.ntmps (cP.of A1 O1 m st.h (some (w.heap.size+1)) none) A1 O1 m ⟨iP 0 (.one .c_::cs),st.h,st.h.length,some ⟨I.tolq,ps.toList,gG,body,st.env,none⟩,false,[],[]⟩ {tmps:=(#[ζp (.yield (w.heap.size+1)) #[] #[]]++vs.toArray)++ξc (J.fn.ntmps-(#[ζp (.yield (w.heap.size+1)) #[] #[]]++vs.toArray).size) undef,defers:=[]}:=by
   refine bn.init (Rt N af aY) aO (l.dc.tr Y) (λj s=>by rw[N];exact l.free j s) (by simp at hlen ⊢;omega) ?_ ?_ (λ_=>rfl) rfl (λj X s=>Ob.Rv (nZ af s))
   .have:=M_ (n:=J.fn.ntmps-(#[ζp (.yield (w.heap.size+1)) #[] #[]]++vs.toArray).size) aB;have e:(ζp (.yield (w.heap.size+1)) #[] #[]::vs).toArray= #[.func (.yield (w.heap.size+1)) #[] #[]]++vs.toArray:=by simp
    rw[e] at this;exact this
   .refine⟨w.heap.size+1,fn,a.tmps,w.heap.size,by rw[cP.of,ad],rfl,by rw[<-aA];exact aQ,ar,?_,l.size⟩;exact ad5 N a6 (l.env.tr Y (Pl.le.refl A))
  refine callsIn_of_wp_marks (ae.T g J ah) au trivial (wpIn_mono (bd _ A1 O1 m _ i1) ?_);rintro bs a2 t ⟨rfl,A2,ab,C⟩;have bx:A2.ls=some (w.heap.size+1):=by rw[C.ls,cP.of,ad]
  have av:a2.defers=[]:=C.dl (by rw[U];rfl);have aa: ∀b∈O,some (w.heap.size+1)≠some b:=λb r e=>by
   cases e;have:=l.ob _ r;omega
  have a':bS ⟨A2.pl,A.ls⟩ ab t (aM st1.h):=Rt (A1:=A2) (A2:=⟨A2.pl,A.ls⟩) rfl a1 C.rel;obtain⟨bo,aH,bj⟩:=l.inner Y aq N aa C (dt':=e9 st.nb st.dt st1.dt) (λx aa=>jI aa) (λx aa hn=>kG hn aa) a';have ay:=C.lp;rw[U] at ay;obtain⟨l',F,H,D,s1,s0,s2,bD,bE,bF⟩:=ay;have:l'=w.heap.size+1:=by
   have:some (w.heap.size+1)=some l':=s0;exact(ξs this).symm
  subst this;have aP:er ab t w.heap.size (.deferred (some [])):=by
   obtain⟨bg,bh,_⟩:=C.cl w.heap.size ar.2.2 (λe=>by have e:some (w.heap.size+1)=some w.heap.size:=e;have:=ξs e;omega) λj _ hl p hp=>by
    obtain⟨X,hX⟩:=hl;obtain⟨bC,a_,hR,r⟩:=l.rel.al j X hX;have hp:A1.pl j=some p:=hp;rw[N,a_] at hp;cases hp;intro V;have:=l.ob _ (r _ V);omega
   exact⟨⟨bg.trans ao,rfl⟩,rfl,bh⟩
  have fin: ∀v,rangePost (fw none) 0 P (w.heap.size+1) (hJ G.K P I.fn.ntmps B e {st with h:=st1.h,dt:=e9 st.nb st.dt st1.dt}) {a with defers:=[{target:=.collected w.heap.size,args:= #[]}]++a.defers} (.returned v) t:=by
   intro v;refine⟨_,_,run_endLoop s2.1.1 ?_,?_⟩
   .unfold eF;cases f.fm<;>simp
   .have a7:w.heap.size≠w.heap.size+1:=by omega
    have bf:B.w0.heap.size<=w.heap.size:=l.tr.size;have aZ:Dc.mark w.heap.size∉a.defers:=by
     have: ∀(ds:List Deferred) (df:List (LV S)),c' B.w0.heap.size A O w df ds->Dc.mark w.heap.size∉ds:=by
      intro ds
      induction ds with
      |nil=>intro df _ hm;cases hm
      |cons d ds aD=>
       intro df aT hm;rcases aT with⟨M,d1,d0,d2,d3⟩|⟨bA,bm,aL,bG,br,d1,d2,d3,d4⟩
       .rcases ψ.1 hm with e|hm
        .rw[d1] at e;have:=adI e;have:=d2.1.lt;omega
        .exact aD df d3 hm
       .rcases ψ.1 hm with e|hm
        .rw[d3] at e;unfold Dc.mark at e;cases e
        .exact aD bm d4 hm
     exact this _ _ l.df
    have aR: ∀M,er O w M (.deferred (some []))->M≠w.heap.size+1:=λM h e=>by
     have:=h.1.lt;omega
    have an:bn G.K P I.fn.ntmps B ⟨A2.pl,A.ls⟩ ab (t.putObj (w.heap.size+1) (.loop {eF f F H D with state:=.exhausted})) {st with h:=st1.h,dt:=e9 st.nb st.dt st1.dt} {a with defers:=[{target:=.collected w.heap.size,args:= #[]}]++a.defers}:=by
     refine bo.book (o':=.loop {eF f F H D with state:=.exhausted}) (lp':=st.lp) s2 (.inl λhm=>?_) (by rw[ax];trivial) (λh=>by rw[ax,show st.inr=false from aw] at h;cases h) ?_ rfl
     .have:=l.o0 _ hm;have:=l.tr.size;omega
     .refine .inl ⟨w.heap.size,rfl,⟨bf,aZ⟩,aP.put (o:=.loop (eF f F H D)) a7,?_⟩;exact l.df.rO bj.at_ λM r=>(aH _ _ r).put (o:=.loop (eF f F H D)) (aR M r)
    have go: ∀j:Option Code,j=(eF f F H D).pending->(match j with
      |none=>hJ G.K P I.fn.ntmps B e {st with h:=st1.h,dt:=e9 st.nb st.dt st1.dt} .normal {a with defers:=[{target:=.collected w.heap.size,args:= #[]}]++a.defers} (t.putObj (w.heap.size+1) (.loop {eF f F H D with state:=.exhausted}))
      |some c=>c.wpIn (fw none) 0 P (hJ G.K P I.fn.ntmps B e {st with h:=st1.h,dt:=e9 st.nb st.dt st1.dt}) {a with defers:=[{target:=.collected w.heap.size,args:= #[]}]++a.defers} (t.putObj (w.heap.size+1) (.loop {eF f F H D with state:=.exhausted}))):=by
     intro j s;rcases aV with⟨hp,rfl⟩|⟨hp,rfl⟩|⟨id,hp,rfl⟩
     .have:j=none:=by rw[s];unfold eF;rw[hp];rfl
      subst this;exact⟨rfl,_,_,an⟩
     .have:j=some .ret:=by rw[s];unfold eF;rw[hp];rfl
      subst this;exact wpIn_ret ⟨rfl,_,_,an⟩
     .have:j=some (.exit id):=by rw[s];unfold eF;rw[hp];rfl
      subst this;exact wpIn_exit ⟨rfl,_,_,an⟩
    exact go _ rfl
  have aC:(results J.fn a2.tmps).run P t= .ok (h7 []) t:=by
   obtain⟨bq,t1,t2⟩:=JF (A:=A2) (O:=ab) (w:=t) (a:=a2) (env:=st1.env) (h:=st1.h) (ajF:=[]) (fn:=J.fn) ae.K (by rw[ba];rfl) C.env C.rel;rw[show bq=[] from t1] at t2;exact t2
  rcases aU with rfl|rfl
  .show LeavesInM (fw none) 0 P J.fn a2.tmps _ a2.defers .returning t;rw[av];exact⟨_,aC,fin _⟩
  .show LeavesInM (fw none) 0 P J.fn a2.tmps _ a2.defers .returning t;rw[av];exact⟨_,aC,fin _⟩
theorem ae9 {K:bp S} {I:dw S} {x:Code} (h:bn K P N B A O w st a): ∃A',bn K P N B A' O w (R9 I x st) a:=by
 cases x<;>first|exact⟨A,h⟩|exact h.gc
def tJ (K:bp S) (P:Program) (n:Nat) (run: {R:Type}->dw S->Code->AS S->(AX->AS S->Option R)->Option R):Prop:= ∀ {R:Type} (I:dw S) (x:Code) (st:AS S) (k:AX->AS S->Option R) (z:R),aO K P I (.loop x)->gp I.lc (dP x)=none->run I (.loop x) st k=some z-> ∃e b,k e b=some z/\ ∀B A O w a,bn K P I.fn.ntmps B A O w st a->Code.roundsIn (fw B.rr) 0 P x (hJ K P I.fn.ntmps B e b) n a w
theorem aaU {G:bW S} (b:aX G P) {run: {R:Type}->dw S->Code->AS S->(AX->AS S->Option R)->Option R} (i:jB G.K P run):kn (R:=R) G.K P (FH G run):=by
 intro f ajF h k z a;unfold FH at a;split at a
 .rename_i e g;exact b.H f e g ajF h k z a
 .split at a
  .rename_i J c;split at a
   .rename_i j d;cases hl:ξF ajF.length J.fn.ntmps<;>rw[hl] at a
    .cases a
    .exact Ni b i c d hl a
   .cases a
  .cases a
theorem Q7 {G:bW S} {n:Nat} (p:jB G.K P (λ{_}=>cn G n)) (q:tJ G.K P n (λ{_}=>cn G n)):tJ G.K P (n+1) (λ{_}=>cn G (n+1)):=by
 intro R I x st k z f g h;simp only[cn,g] at h;obtain⟨e,st1,d,i⟩:=p _ _ _ _ _ (f.sub λ_ h=>.loop h) h
 by_cases he:e= .normal
 .subst he;obtain⟨j,st2,l,o⟩:=q _ _ _ _ _ f g d;refine⟨j,st2,l,λB A O w a b=>wpIn_mono (i B A O w a b) ?_⟩;rintro x' a' w' ⟨rfl,A',O',c⟩;obtain⟨A2,m⟩:=c.gc (sl:=I.L (dP x));exact o B A2 O' w' a' m
 .refine⟨e,st1,by cases e<;>first|exact d|exact absurd rfl he,λB A O w a b=>wpIn_mono (i B A O w a b) ?_⟩;rintro x' a' w' ⟨rfl,A',O',c⟩;cases e<;>first|exact⟨rfl,A',O',c⟩|exact absurd rfl he
theorem ah' {G:bW S} (q:aX G P) {n:Nat} (j:jB G.K P (λ{_}=>cn G n)) (J:tJ G.K P (n+1) (λ{_}=>cn G (n+1))):jB G.K P (λ{_}=>cn G (n+1)):=by
 intro R I c st k z m h;cases c with
 |loop x=>
  cases s:gp I.lc (dP x) with
  |some lc=>
   simp only[cn,s] at h;exact m x lc (.refl _) s st k z h
  |none=>
   obtain⟨e,st1,f,i⟩:=J _ _ _ _ _ m s h;exact⟨e,st1,f,λB A O w a d=>wpIn_loop_rounds (n+1) (i B A O w a d)⟩
 |skip=>simp only[cn] at h;exact⟨.normal,st,h,λB A O w a d=>wpIn_skip ⟨rfl,A,O,d⟩⟩
 |label l=>simp only[cn] at h;exact⟨.normal,st,h,λB A O w a d=>wpIn_label ⟨rfl,A,O,d⟩⟩
 |exit id=>simp only[cn] at h;exact⟨.exit id,st,h,λB A O w a d=>wpIn_exit ⟨rfl,A,O,d⟩⟩
 |ret=>simp only[cn] at h;exact⟨.ret,_,h,λB A O w a d=>wpIn_ret (have⟨A2,t⟩:=d.gc (sl:=I.L 1000000);⟨rfl,A2,O,t⟩)⟩
 |seq x y=>
  simp only[cn] at h;obtain⟨e,st1,f,i⟩:=j _ _ _ _ _ (m.sub λ_ h=>.seq1 h) h
  by_cases he:e= .normal
  .subst he;obtain⟨D,st2,E,H⟩:=j _ _ _ _ _ (m.sub λ_ h=>.TO h) f;refine⟨D,st2,E,λB A O w a d=>wpIn_seq (wpIn_mono (i B A O w a d) ?_)⟩;rintro x' a' w' ⟨rfl,A',O',g⟩;exact H B A' O' w' a' g
  .refine⟨e,st1,by cases e<;>first|exact f|exact absurd rfl he,λB A O w a d=>wpIn_seq (wpIn_mono (i B A O w a d) ?_)⟩;rintro x' a' w' ⟨rfl,A',O',g⟩;cases e<;>first|exact⟨rfl,A',O',g⟩|exact absurd rfl he
 |cond o x y=>
  simp only[cn] at h;split at h
  rotate_left
  .cases h
  rename_i b p;cases b with
  |true=>
   simp only[cond_true] at h;obtain⟨e,st1,f,i⟩:=j _ _ _ _ _ (m.sub λ_ h=>.NH h) h;exact⟨e,st1,f,λB A O w a d=>wpIn_cond_true (ep (S:=S) (A:=A) (O:=O) (w:=w) (dS d.env d.dc p)) (i B A O w a d)⟩
  |false=>
   simp only[cond_false] at h;obtain⟨e,st1,f,i⟩:=j _ _ _ _ _ (m.sub λ_ h=>.NI h) h;exact⟨e,st1,f,λB A O w a d=>wpIn_cond_false (ep (S:=S) (A:=A) (O:=O) (w:=w) (dS d.env d.dc p)) (i B A O w a d)⟩
 |block id x=>
  simp only[cn] at h;obtain⟨e,st1,f,i⟩:=j _ _ _ _ _ (m.sub λ_ h=>.block h) h;have body: ∀B A O w a,bn G.K P I.fn.ntmps B A O w st a->x.wpIn (fw B.rr) 0 P (hJ G.K P I.fn.ntmps B e st1) a w:=λB A O w a d=>by
   obtain⟨A',g⟩:=ae9 (I:=I) (x:=x) d;exact i B A' O w a g
  cases e with
  |exit r=>
   cases p:ε r id with
   |true=>
    simp only[p,cond_true] at f;refine⟨.normal,_,f,λB A O w a d=>wpIn_block (wpIn_mono (body B A O w a d) ?_)⟩;rintro x' a' w' ⟨rfl,A',O',g⟩;show if r=id then _ else _;rw[if_pos (δ p)];obtain⟨A2,t⟩:=g.gc (sl:=I.L (1000001+id));exact⟨rfl,A2,O',t⟩
   |false=>
    simp only[p,cond_false] at f;refine⟨.exit r,st1,f,λB A O w a d=>wpIn_block (wpIn_mono (body B A O w a d) ?_)⟩;rintro x' a' w' ⟨rfl,A',O',g⟩;show if r=id then _ else _;rw[if_neg (λe=>by subst e;simp at p)];exact⟨rfl,A',O',g⟩
  |normal=>
   refine⟨.normal,st1,f,λB A O w a d=>wpIn_block (wpIn_mono (body B A O w a d) ?_)⟩;rintro x' a' w' ⟨rfl,A',O',g⟩;exact⟨rfl,A',O',g⟩
  |ret=>
   refine⟨.ret,st1,f,λB A O w a d=>wpIn_block (wpIn_mono (body B A O w a d) ?_)⟩;rintro x' a' w' ⟨rfl,A',O',g⟩;exact⟨rfl,A',O',g⟩
  |bB u=>
   refine⟨.bB u,st1,f,λB A O w a d=>wpIn_block (wpIn_mono (body B A O w a d) ?_)⟩;rintro x' a' w' ⟨rfl,A',O',g⟩;exact⟨rfl,A',O',g⟩
 |scope x=>
  simp only[cn] at h;cases v:st.inr<;>rw[v] at h
  rotate_left
  .cases h
  simp only[cond_false] at h;obtain⟨e,st1,f,i⟩:=j _ _ _ _ _ (m.sub λ_ h=>.scope h) h;refine⟨e,st1,f,λB A O w a d=>?_⟩;have F:=d.rr v;have:=i B A O w a d;rw[F] at this ⊢;rw[aco] at this ⊢;refine wpIn_wide.2 (wp_scope_straight (wpIn_wide.1 (wpIn_mono this ?_)));rintro x' a' w' ⟨rfl,A',O',g⟩;cases e<;>exact⟨rfl,A',O',g⟩
 |rangeFunc fo ps gG body=>
  simp only[cn] at h;obtain⟨e,st1,f,i⟩:=agX q j h;refine⟨e,st1,f,λB A O w a d=>?_⟩;obtain⟨A',g⟩:=d.gc (sl:=I.L (2000001+dP body));exact i B A' O w a g
 |region id ops draw=>
  simp only[cn] at h;obtain⟨e,st1,f,i⟩:=aay q.M q.K q.C (aaU q j) (ajz j) (id:=id) h;cases e with
  |go=>exact⟨.normal,st1,f,i⟩
  |bB u=>exact⟨.bB u,st1,f,i⟩
 |_=>simp only[cn] at h;cases h
theorem m9 {G:bW S} (a:aX G P): ∀n,jB G.K P (λ{_}=>cn G n)/\tJ G.K P n (λ{_}=>cn G n)
 |0=>⟨λI c st k z _ h=>(by cases h),λI c st k z _ _ h=>(by cases h)⟩
 |n+1=>
  ⟨ah' a (m9 a n).1 (Q7 (m9 a n).1 (m9 a n).2),Q7 (m9 a n).1 (m9 a n).2⟩
theorem Fq {G:bW S} (a:aX G P) (n:Nat):jB G.K P (λ{_}=>cn G n):=(m9 a n).1
theorem Fs {G:bW S} (b:aX G P) {n f:Nat} {ajF:List (aE S)} {h:AH S} {k:Rs S->AH S->Γ->Option R} (a:gE G n f ajF h k=some z): ∃r h' dt,k r h' dt=some z/\eu G.K P f ajF h r h' dt:=by
 unfold gE at a;split at a
 .rename_i J c;split at a
  .rename_i e d;cases hl:ξF ajF.length J.fn.ntmps<;>rw[hl] at a
   .cases a
   .exact Ni b (Fq b n) c d hl a
  .cases a
 .cases a
end
section
variable {S:bh} {P:Program}
def iu:Code->List Code
 | .loop x=>x::iu x
 | .seq x y=>iu x++iu y
 | .cond _ x y=>iu x++iu y
 | .block _ x=>iu x
 | .scope x=>iu x
 |_=>[]
def l3 (c:Code) (id:Nat):Code:=match(iu c).filter (λx=>ε (dP x) id) with|[x]=>x|_=>.skip
def xW (c:Code) (id:Nat):Bool:=match(iu c).filter (λx=>ε (dP x) id) with|[_]=>true|_=>false
theorem aia {c d x:Code} (b:d= .loop x) (h:Vx.Sub c d):x∈iu c:=by
 induction h with
 |refl c=>subst b;exact μ
 |seq1 _ a=>exact υ _ (a b)
 |TO _ a=>exact ω _ (a b)
 |NH _ a=>exact υ _ (a b)
 |NI _ a=>exact ω _ (a b)
 |block _ a=>exact a b
 |loop _ a=>exact κ _ (a b)
 |scope _ a=>exact a b
theorem adC {c x:Code} {id:Nat} (h:xW c id=true) (a:Vx.Sub c (.loop x)) (hi:dP x=id):x=l3 c id:=by
 have hm:x∈(iu c).filter (λx=>ε (dP x) id):=ξm.2 ⟨aia rfl a,by rw[hi];exact ξD id⟩;unfold xW at h;unfold l3;split at h
 .rename_i y b;rw[b] at hm;simpa using hm
 .cases h
def aW (K:bp S) (P:Program) (J:lq) (x:Code) (lc:a7 S):Prop:= ∀ {R:Type} (st:AS S) (k:AX->AS S->Option R) (z:R),lc.out st k=some z-> ∃e b,k e b=some z/\ ∀B A O w a,bn K P J.fn.ntmps B A O w st a->(Code.loop x).wpIn (fw B.rr) 0 P (hJ K P J.fn.ntmps B e b) a w
theorem aO.cons {K:bp S} {J:lq} {lc:a7 S} {lcs:List (a7 S)} {c:Code} (h:aO K P ⟨J,lcs⟩ c) (e:xW c lc.id=true) (f:aW K P J (l3 c lc.id) lc):aO K P ⟨J,lc::lcs⟩ c:=by
 intro x g d a;simp only[gp] at a;cases b:ε lc.id (dP x) with
 |true=>
  rw[b] at a;simp only[cond_true,ι] at a;subst a;rw[adC e d (δ b).symm];exact f
 |false=>
  rw[b] at a;exact h x g d a
def mB (P:Program) (L:Nat->Nat->Γ) (f:Nat):Option (dw S):=
 match P.funcs[f]? with
 |some fn=>(match fn.body with|some _=>some ⟨⟨fn,L f⟩,[]⟩|none=>none)
 |none=>none
def h8 (T:Nat->Option (dw S)) (f:Nat) (J:dw S):Nat->Option (dw S):=λh=>bif ε h f then some J else T h
def oL (P:Program):Prop:= ∀(f:Nat) (fn:Func),P.funcs[f]? =some fn->fn.body.isSome=true->(fn.name== "runtime.NumGoroutine")=false
theorem cp (h:oL P) {f:Nat} {fn:Func} (d:P.funcs[f]? =some fn) (a:fn.body.isSome=true):et P f:=by
 intro vs u;have e:fn.name≠ "runtime.NumGoroutine" :=by simpa using h f fn d a
 cases b:fn.body with
 |none=>rw[b] at a;cases a
 |some c=>simp[callFunc,d,e,b,mark]
structure aj (G:bW S) (P:Program):Prop where
 K:b9 G.K P
 C:ko G P
 H: ∀f c,qb G.H f=some c-> ∀ {R:Type} (ajF:List (aE S)) (h:AH S) (k:Rs S->AH S->Γ->Option R) (z:R),c.out ajF h k=some z-> ∃r h' dt,k r h' dt=some z/\eu G.K P f ajF h r h' dt
 D: ∀g a,qa G.D g=some a-> ∀ {R:Type} (cs:List (aE S)) (p:Option Value) (b:Nat->Option (Ob S)) (k:Option Value->Up S->Option R) (z:R),a.out cs p b k=some z-> ∃q up,k q up=some z/\mS G.K P g cs p b q up
 M:P.follows .mixedOrders=true
 N:oL P
theorem aj.all {G:bW S} (h:aj G P) {L:Nat->Nat->Γ} (b:G.T=mB P L):aX G P where
 K:=h.K
 C:=h.C
 H:=h.H
 D:=h.D
 M:=h.M
 T f J a:=by
  rw[b] at a;unfold mB at a;split at a
  .rename_i fn d;split at a
   .cases a;exact d
   .cases a
  .cases a
 E f J a:=by
  rw[b] at a;unfold mB at a;split at a
  .rename_i fn d;split at a
   .rename_i c e;exact cp h.N d (by rw[e];rfl)
   .cases a
  .cases a
 L f J c a e:=by
  rw[b] at a;unfold mB at a;split at a
  .split at a
   .cases a;exact aO.nil
   .cases a
  .cases a
theorem aX.fu {G:bW S} (h:aX G P) {f:Nat} {J:dw S} (i:P.funcs[f]? =some J.fn) (b:J.fn.body.isSome=true) (hN:oL P) (j: ∀c,J.fn.body=some c->aO G.K P J c):aX {G with T:=h8 G.T f J} P where
 K:=h.K
 C:=⟨h.C.C,h.C.X⟩
 H:=h.H
 D:=h.D
 M:=h.M
 T g I a:=by
  simp only[h8] at a;cases b:ε g f<;>rw[b] at a
  .exact h.T g I a
  .cases a;rw[δ b];exact i
 E g I a:=by
  simp only[h8] at a;cases d:ε g f<;>rw[d] at a
  .exact h.E g I a
  .cases a;rw[δ d];exact cp hN i b
 L g I c a e:=by
  simp only[h8] at a;cases d:ε g f<;>rw[d] at a
  .exact h.L g I c a e
  .cases a;exact j c e
def x0 (K:bp S) {R:Type} (k:Rs S->Option R) (r:Rs S) (h:AH S) (_:Γ):Option R:=
 match r with
 | .ret (.s a)=>(match lV K (aM h) a with|some (a',_)=>k (.ret (.s a'))|none=>none)
 | .ret (.bG ajF)=>(match kM K (aM h) ajF with|some (b,_)=>k (.ret (.bG b))|none=>none)
 | .bB u=>k (.bB u)
variable {A A':Pl} {O O':Γ} {w w':World}
theorem LV.rq {l:LV S} {xs:Γb} (hp:l.pure=true) (c:Tr O w O' w') (h:l.rel A O w xs):l.rel A' O' w' xs:=by
 cases l with
 |v u=>exact h
 |aG t d=>obtain⟨x,a,b,e⟩:=h;exact⟨x,a,b.tr c,e⟩
 |ptr t d o=>obtain⟨x,a,b⟩:=h;exact⟨x,a,Ty.is.tr b c⟩
 |br k n gs=>exact h
 |c7 n gs=>exact h
 |_=>cases hp
theorem R' (a:Tr O w O' w'): ∀ {ls:List (LV S)} {xs:Γb},ls.all LV.pure=true->bz A O w ls xs->bz A' O' w' ls xs
 |[],_,_,h=>h
 |l::ls,_,hp,⟨y,ys,h,b,c⟩=>by
  simp only[ξA,η] at hp;exact⟨y,ys,h,LV.rq hp.1 a b,R' a hp.2 c⟩
theorem aE.rq (b:Tr O w O' w') {a:aE S} {x:Value} (hp:a.pure=true) (h:a.rel A O w x):a.rel A' O' w' x:=by
 cases a with
 |one l=>exact LV.rq hp b h
 |agg ls=>obtain⟨xs,c,d⟩:=h;exact⟨xs,c,R' b hp d⟩
theorem I7 (a:Tr O w O' w'): ∀ {ls:List (aE S)} {xs:Γb},ls.all aE.pure=true->cG A O w ls xs->cG A' O' w' ls xs
 |[],_,_,h=>h
 |l::ls,_,hp,⟨y,ys,h,b,c⟩=>by
  simp only[ξA,η] at hp;exact⟨y,ys,h,aE.rq a hp.1 b,I7 a hp.2 c⟩
theorem d_.Rz {K:bp S} (I:b9 K P) {f:Nat} {ajF:List (aE S)} {r:Rs S} {h':AH S} {dt:Γ} (hp:ajF.all aE.pure=true) (h:eu K P f ajF [] r h' dt) {R:Type} {k:Rs S->Option R} {z:R} (c:x0 K k r h' dt=some z): ∃M,k M=some z/\d_ K P f ajF M:=by
 obtain⟨C,T⟩:=h;have key: ∀(A:Pl) (O:Γ) (w:World) (xs:Γb),cG A O w ajF xs->OB O w->cB K O w->Calls P f xs.toArray w (λe w'=> ∃A' O',ic A' O' w' r e/\bS A' O' w' (aM h')/\(∀rs:Γ,(∀r∈rs,∃Z,aM h' r=some Z)->Tr (ej A' rs O') w' O w')/\Fr [] w w'):=by
  intro A O w xs n m l;refine(T ⟨λ_=>none,none⟩ O w xs (I7 (Tr.refl O w) hp n) ⟨λi X hi=>by simp[aM] at hi,λi j X Y p q b _ hi=>by simp[aM] at hi⟩ m l (λ_ _=>rfl) (λi X hi=>by simp[aM] at hi)).mono ?_;rintro e w' ⟨A',O',d,g⟩;have V: ∀i,i∉dt:=λi hi=>by have:=g.lt i hi;simp at this
  have L: ∀b∈O,w'.heap[b]? =w.heap[b]? /\b∈O'/\ ∀i X p,aM h' i=some X->A'.pl i=some p-> ¬cI w' X p b:=λb t=>by
   obtain⟨c1,c2,c3⟩:=g.cl b t λi hi=>absurd hi (V i);exact⟨c1,c2,λi X p=>c3 i X p (ζh _)⟩
  refine⟨A',O',d,g.rel,λrs ab=>Tr.less λb t=>?_,?_⟩
  .obtain⟨c1,c2,c3⟩:=L b t;refine je.2 ⟨c2,λr d p aa=>?_⟩;obtain⟨Z,U⟩:=ab r d;exact λW=>c3 r Z p U aa (.inl W)
  .refine⟨g.tr.os,g.tr.tape,g.tr.output,g.tr.size,λb t _=>?_⟩
   by_cases J:b∈O
   .exact(L b J).1
   .exact(g.tr.keep b t J).2
 cases r with
 |bB u=>
  refine⟨.bB u,c,C,λA O w xs n m l=>(key A O w xs n m l).mono ?_⟩;rintro e w' ⟨A',O',d,_,_,o⟩;exact⟨d,o⟩
 |ret N=>
  cases N with
  |s a=>
   simp only[x0] at c;split at c
   .rename_i a' rs B;refine⟨_,c,C,λA O w xs n m l=>(key A O w xs n m l).mono ?_⟩;rintro e w' ⟨A',O',⟨v,x,y⟩,D,E,o⟩;obtain⟨F,G,H⟩:=Ow I D (all:=rs) B y (λr d=>d);exact⟨⟨v,x,aE.rq (E rs H) G F⟩,o⟩
   .cases c
  |bG bs=>
   simp only[x0] at c;split at c
   .rename_i ad rs B;refine⟨_,c,C,λA O w xs n m l=>(key A O w xs n m l).mono ?_⟩;rintro e w' ⟨A',O',⟨v,x,ys,y,Q⟩,D,E,o⟩;obtain⟨F,G,H⟩:=nI I D (all:=rs) B Q (λr d=>d);exact⟨⟨v,x,ys,y,I7 (E rs H) G F⟩,o⟩
   .cases c
def shape (a b:aE S):Bool:=match a,b with| .one _,.one _=>true| .agg _,.agg _=>true|_,_=>false
def yb (K:bp S) (t:Nat) (a:aE S):Option (S.El t):=match K.cls t a.cells with|some x=>bif shape a (K.bg t x) then some x else none|none=>none
theorem Sm {K:bp S} (g:b9 K P) {t:Nat} {a:aE S} {x:S.El t} {v:Value} (h:yb K t a=some x) (f:a.rel A O w v):(K.bg t x).rel A O w v:=by
 unfold yb at h;split at h
 .rename_i y k;cases d:shape a (K.bg t y)<;>rw[d] at h
  .cases h
  .cases h;have b:=g.bg A O w t x _ (g.cls A O w t _ x _ k (aE.rel.cells f));cases a with
   |one l=>
    have j:=ad' (LV.rel.one f v μ);rw[j] at b;cases c:K.bg t x with
    |one l'=>
     rw[c] at b;obtain⟨ys,zs,e,i,m⟩:=b;rw[show zs=[] from m,ξl] at e;rw[<-e] at i;exact i
    |agg ls=>rw[c] at d;cases d
   |agg ls=>
    obtain⟨xs,rfl,q⟩:=f;cases c:K.bg t x with
    |one l'=>rw[c] at d;cases d
    |agg n=>
     rw[c] at b;exact⟨xs,rfl,by simpa[Value.cells,aE.cells] using b⟩
 .cases h
inductive h_ (S:bh):Γ->Type
 |nil:h_ S []
 |cons {t a} (x:S.El t) (r:h_ S a):h_ S (t::a)
def ry (K:bp S):(b:Γ)->List (aE S)->Option (h_ S b)
 |[],[]=>some .nil
 |t::b,a::ajF=>(match yb K t a with|some x=>(match ry K b ajF with|some r=>some (.cons x r)|none=>none)|none=>none)
 |_,_=>none
def kX (K:bp S): {a:Γ}->h_ S a->List (aE S)
 |_,.nil=>[]
 |_,.cons (t:=t) x r=>K.bg t x::kX K r
theorem yc {K:bp S} (d:b9 K P): ∀ {c:Γ} {ajF:List (aE S)} {xs:h_ S c} {vs:Γb},ry K c ajF=some xs->cG A O w ajF vs->cG A O w (kX K xs) vs
 |[],[],xs,vs,h,b=>by cases h;exact b
 |t::c,a::ajF,xs,vs,h,⟨y,ys,e,f,g⟩=>by
  simp only[ry] at h;split at h
  .rename_i x i;split at h
   .rename_i r b;cases h;exact⟨y,ys,e,Sm d i f,yc d b g⟩
   .cases h
  .cases h
 |[],_::_,xs,vs,h,_=>by cases h
 |_::_,[],xs,vs,h,_=>by cases h
def hd (K:bp S) (f:Nat) (a:Γ) (spec: {R:Type}->h_ S a->(Rs S->Option R)->Option R):fe S:=⟨f,λajF k=>match ry K a ajF with|some xs=>bif (kX K xs).all aE.pure then spec xs k else none|none=>none⟩
theorem aj.hO {G:bW S} (h:aj G P) {c:fe S} (i: ∀ {R:Type} (ajF:List (aE S)) (k:Rs S->Option R) (z:R),ajF.all aE.pure=true->c.out ajF k=some z-> ∃r,k r=some z/\d_ G.K P c.f ajF r):aj {G with C:=c::G.C} P where
 K:=h.K
 H:=h.H
 D:=h.D
 M:=h.M
 N:=h.N
 C:=⟨λf e a=>by
  simp only[wc] at a;cases d:ε c.f f<;>rw[d] at a
  .exact h.C.C f e a
  .cases a;intro R ajF k z hp j;obtain⟨r,g,b⟩:=i ajF k z hp j;rw[δ d] at b;exact⟨r,g,b⟩,h.C.X⟩
theorem aj.ajy {G:bW S} (h:aj G P) {l:List (gD S)} (hl: ∀c∈l,jC G.K P c):aj {G with X:=l} P:=⟨h.K,⟨h.C.C,hl⟩,h.H,h.D,h.M,h.N⟩
theorem aj.gM {G:bW S} (h:aj G P) {c:e0 S} (j: ∀ {R:Type} (ajF:List (aE S)) (b:AH S) (k:Rs S->AH S->Γ->Option R) (z:R),c.out ajF b k=some z-> ∃r h' dt,k r h' dt=some z/\eu G.K P c.f ajF b r h' dt):aj {G with H:=c::G.H} P where
 K:=h.K
 C:=⟨h.C.C,h.C.X⟩
 D:=h.D
 M:=h.M
 N:=h.N
 H f g a:=by
  simp only[qb] at a;cases e:ε c.f f<;>rw[e] at a
  .exact h.H f g a
  .cases a;intro R ajF b k z l;obtain⟨r,h',dt,i,d⟩:=j ajF b k z l;rw[δ e] at d;exact⟨r,h',dt,i,d⟩
theorem aj.NK {G:bW S} (h:aj G P) {c:mR S} (j: ∀ {R:Type} (cs:List (aE S)) (p:Option Value) (a:Nat->Option (Ob S)) (k:Option Value->Up S->Option R) (z:R),c.out cs p a k=some z-> ∃q up,k q up=some z/\mS G.K P c.g cs p a q up):aj {G with D:=c::G.D} P where
 K:=h.K
 C:=⟨h.C.C,h.C.X⟩
 H:=h.H
 M:=h.M
 N:=h.N
 D g f b:=by
  simp only[qa] at b;cases e:ε c.g g<;>rw[e] at b
  .exact h.D g f b
  .cases b;intro R cs p a k z l;obtain⟨q,up,i,d⟩:=j cs p a k z l;rw[δ e] at d;exact⟨q,up,i,d⟩
end
def hb (k:IntKind) (n:Nat):Ty (Γa) where
 agg:=true
 n:=n
 rep _ _ cs xs:=xs.length=n/\cs=xs.map (ξ6 k)
 tr _ h:=h
 len h:=by rw[h.2,ξx];exact h.1
 one h u hu:=by
  rw[h.2] at hu;obtain⟨x,_,rfl⟩:=ζq.1 hu;rfl
 e6 h:=by cases h
def Ix {α:Type} (R:Γ) (T:Ty α):Ty α where
 agg:=T.agg
 n:=T.n
 rep O w cs x:=T.rep (O++R) w cs x
 tr a h:=T.tr ⟨a.os,a.tape,a.output,a.size,λk c hn=>⟨λhm=>by
  rcases ξ5.1 hm with hm|hm
  .exact(a.keep k c λb=>hn (υ _ b)).1 hm
  .exact hn (ω _ hm),(a.keep k c λb=>hn (υ _ b)).2⟩⟩ h
 len h:=T.len h
 one h:=T.one h
 e6:=T.e6
abbrev eH {α:Type} (T:Ty α):Ty (List α):=Ix [0] (Ty.slice T)
section
variable {S:bh} {α β γ:Type}
def dK (T:Ty α) (f:α->List (LV S)):Prop:= ∀(A:Pl) (O:Γ) (w:World) (x:α) (cs:Γb),T.rep O w cs x->bz A O w (f x) cs
theorem c0 {k:IntKind}:dK (S:=S) (Ty.int k) λx=>[.v (.int k x)]:=λA O w x cs h=>by subst h;exact⟨_,[],rfl,⟨rfl,rfl⟩,rfl⟩
theorem IQ:dK (S:=S) Ty.bool λx=>[.v (.bool x)]:=λA O w x cs h=>by subst h;exact⟨_,[],rfl,⟨rfl,rfl⟩,rfl⟩
theorem aer:dK (S:=S) Ty.str λx=>[.v (.string x)]:=λA O w x cs h=>by subst h;exact⟨_,[],rfl,⟨rfl,rfl⟩,rfl⟩
theorem cw {t:Nat} (a:(S.ty t).agg=false):dK (S:=S) (S.ty t) λx=>[.aG t x]:=λA O w x cs h=>by
 have hl:=(S.ty t).len h;rw[(S.ty t).e6 a] at hl
 match cs,hl with
 |[c],_=>exact⟨[c],[],rfl,⟨c,rfl,⟨[c],h,by unfold Ty.mk';rw[a];rfl⟩,a⟩,rfl⟩
theorem l9 {k:IntKind} {n:Nat}:dK (S:=S) (hb k n) λx=>[.br k n x]:=λA O w x cs h=>⟨cs,[],(ξl _).symm,h,rfl⟩
theorem cN {X:Ty α} {Y:Ty β} {f:α->List (LV S)} {g:β->List (LV S)} (c:dK X f) (d:dK Y g):dK (Ty.pair X Y) λx=>f x.1++g x.2:=λA O w x cs ⟨c1,c2,h,a,b⟩=>by
 subst h;exact SF (c A O w _ _ a) (d A O w _ _ b)
theorem dV {X:Ty α} {f:α->List (LV S)} {e:β->α} (a:dK X f):dK (X.ei e) λx=>f (e x):=λA O w x cs h=>a A O w _ _ h
def dE (T:Ty α) (f:List (LV S)->Option (α×List (LV S))):Prop:= ∀(A:Pl) (O:Γ) (w:World) (ls:List (LV S)) (x:α) (r:List (LV S)) (cs:Γb),f ls=some (x,r)->bz A O w ls cs-> ∃c1 c2,cs=c1++c2/\T.rep O w c1 x/\bz A O w r c2
def ec (k:IntKind):List (LV S)->Option (Int×List (LV S))
 | .v (.int a x)::r=>bif sameKind k a then some (x,r) else none
 |_=>none
def yd:List (LV S)->Option (Bool×List (LV S))
 | .v (.bool x)::r=>some (x,r)
 |_=>none
def Jk:List (LV S)->Option (ByteArray×List (LV S))
 | .v (.string x)::r=>some (x,r)
 |_=>none
def h2 (k:IntKind) (n:Nat) (ls:List (LV S)):Option (Γa×List (LV S)):=
 match ls with
 | .br a b x::r=>bif sameKind k a&&ε n b then some (x,r) else none
 |ls=>(match jc (ls.take n) with|some (a,gs)=>bif sameKind k a&&ε gs.length n then some (gs,ls.drop n) else none|none=>none)
def c8 (t:Nat) (nl:Option (S.El t)):List (LV S)->Option (S.El t×List (LV S))
 | .aG t' x::r=>(match ζP t' t with| .isTrue p=>some (p▸x,r)| .isFalse _=>none)
 | .v (.slice none 0 0)::r=>(match nl with|some x=>some (x,r)|none=>none)
 |_=>none
def rdPair (f:List (LV S)->Option (α×List (LV S))) (g:List (LV S)->Option (β×List (LV S))) (ls:List (LV S)):Option ((α×β)×List (LV S)):=
 match f ls with|some (a,r)=>(match g r with|some (b,c)=>some ((a,b),c)|none=>none)|none=>none
def fa (f:List (LV S)->Option (α×List (LV S))) (m:α->β) (ls:List (LV S)):Option (β×List (LV S)):=match f ls with|some (a,r)=>some (m a,r)|none=>none
def b0:Option (α×List (LV S))->Option α
 |some (x,[])=>some x
 |_=>none
theorem eE {k:IntKind}:dE (S:=S) (Ty.int k) (ec k):=λA O w ls x r cs h d=>by
 unfold ec at h;split at h
 .rename_i e y f;cases a:sameKind k e<;>rw[a] at h
  .cases h
  .simp only[cond_true,ι,ξn] at h;obtain⟨rfl,rfl⟩:=h;obtain⟨ys,zs,rfl,⟨b,_⟩,c⟩:=d;refine⟨ys,zs,rfl,?_,c⟩;rw[e5 a];exact b
 .cases h
theorem Sv:dE (S:=S) Ty.bool yd:=λA O w ls x r cs h c=>by
 unfold yd at h;split at h
 .cases h;obtain⟨ys,zs,rfl,⟨a,_⟩,b⟩:=c;exact⟨ys,zs,rfl,a,b⟩
 .cases h
theorem ag5:dE (S:=S) Ty.str Jk:=λA O w ls x r cs h c=>by
 unfold Jk at h;split at h
 .cases h;obtain⟨ys,zs,rfl,⟨a,_⟩,b⟩:=c;exact⟨ys,zs,rfl,a,b⟩
 .cases h
theorem SG {A:Pl} {O:Γ} {w:World}: ∀ {b a:List (LV S)} {cs:Γb},bz A O w (b++a) cs-> ∃c1 c2,cs=c1++c2/\bz A O w b c1/\bz A O w a c2
 |[],a,cs,h=>⟨[],cs,rfl,rfl,h⟩
 |l::b,a,cs,⟨ys,zs,e,c,d⟩=>by
  obtain⟨c1,c2,q,f,g⟩:=SG d;subst q;exact⟨ys++c1,c2,by rw[e,ξk],⟨ys,c1,rfl,c,f⟩,g⟩
theorem O4 {A:Pl} {O:Γ} {w:World} {k:IntKind}: ∀ {ls:List (LV S)} {gs:Γa} {cs:Γb},jc ls=some (k,gs)->bz A O w ls cs->cs=gs.map (ξ6 k)
 |[],gs,cs,h,_=>by simp[jc] at h
 |l::r,gs,cs,h,⟨ys,zs,e,a,b⟩=>by
  unfold jc at h;split at h
  .rename_i f x i heq;cases heq;split at h
   .cases h;rw[e,show zs=[] from b,a.1];rfl
   .split at h
    .rename_i g xs d;cases c:sameKind f g<;>rw[c] at h
     .cases h
     .simp only[cond_true,ι,ξn] at h;obtain⟨rfl,rfl⟩:=h;have:=e5 c;subst this;rw[e,a.1,O4 d b];rfl
    .cases h
  .cases h
theorem jq {k:IntKind} {n:Nat}:dE (S:=S) (hb k n) (h2 k n):=λA O w ls x r cs h c=>by
 unfold h2 at h;split at h
 .rename_i d l y p;cases a:(sameKind k d&&ε n l)<;>rw[a] at h
  .cases h
  .simp only[cond_true,ι,ξn] at h;obtain⟨rfl,rfl⟩:=h;simp only[η] at a;obtain⟨ys,zs,rfl,g,i⟩:=c;refine⟨ys,zs,rfl,?_,i⟩;have b:=e5 a.1;have f:=δ a.2;subst b;subst f;exact g
 .split at h
  .rename_i d gs j;cases a:(sameKind k d&&ε gs.length n)<;>rw[a] at h
   .cases h
   .simp only[cond_true,ι,ξn] at h;obtain⟨rfl,rfl⟩:=h;simp only[η] at a;rw[<-ξb n ls] at c;obtain⟨c1,c2,e,m,o⟩:=SG c;have b:=e5 a.1;subst b;exact⟨c1,c2,e,⟨δ a.2,O4 j m⟩,o⟩
  .cases h
theorem di {t:Nat} {nl:Option (S.El t)} (e: ∀x,nl=some x-> ∀O w,(S.ty t).rep O w [.slice none 0 0] x):dE (S:=S) (S.ty t) (c8 t nl):=λA O w ls x r cs h c=>by
 unfold c8 at h;split at h
 .rename_i t' y f;split at h
  .rename_i p hp;cases h;subst p;obtain⟨ys,zs,rfl,⟨v,rfl,a,d⟩,b⟩:=c;exact⟨[v],zs,rfl,gf d a,b⟩
  .cases h
 .split at h
  .rename_i y;cases h;obtain⟨ys,zs,rfl,⟨a,_⟩,b⟩:=c;exact⟨ys,zs,rfl,by rw[a];exact e _ rfl O w,b⟩
  .cases h
 .cases h
theorem gQ {T:Ty α} (O:Γ) (w:World):(Ty.slice T).rep O w [.slice none 0 0] []:=⟨none,0,rfl,⟨ξe _,ζh _⟩,λk x a=>by simp at a⟩
theorem fD {T:Ty α} (O:Γ) (w:World):(eH T).rep O w [.slice none 0 0] []:=gQ _ w
theorem rI {T T':Ty α} {O:Γ} {w:World} (hn:T'.n=T.n) (h: ∀(cs:Γb) (x:α),T.rep O w cs x->T'.rep O w cs x) {cs:Γb} {xs:List α} (m:(Ty.slice T).rep O w cs xs):(Ty.slice T').rep O w cs xs:=by
 obtain⟨A,c,g,i,j⟩:=m;refine⟨A,c,g,i,λk x l=>?_⟩;obtain⟨ad,es,a,b,d,e,f⟩:=j k x l;exact⟨ad,es,a,b,d,h es x e,by rw[hn];exact f⟩
theorem bO {T:Ty α} {O:Γ} {w:World} {v:Value} {x:List α} (h:(eH T).is O w v x):(Ty.slice T).is O w v x:=
 let⟨cs,a,b⟩:=h;⟨cs,(Ty.slice T).tr (Tr.less λk c=>υ _ c) a,b⟩
theorem ajC {T:Ty α} (O:Γ) (w:World) (cs:Γb) (x:List α) (h:(eH T).rep O w cs x):(eH T).rep (O++[0]) w cs x:=(Ty.slice T).tr (Tr.less λk a=>by simpa using a) h
theorem ek {X:Ty α} {Y:Ty β} {f:List (LV S)->Option (α×List (LV S))} {g:List (LV S)->Option (β×List (LV S))} (i:dE X f) (j:dE Y g):dE (Ty.pair X Y) (rdPair f g):=λA O w ls x r cs h k=>by
 unfold rdPair at h;split at h
 .rename_i a c d;split at h
  .rename_i b n e;cases h;obtain⟨c1,c2,rfl,p1,p2⟩:=i A O w ls a c cs d k;obtain⟨c3,c4,rfl,l,m⟩:=j A O w c b r c2 e p2;exact⟨c1++c3,c4,(ξk _ _ _).symm,⟨c1,c3,rfl,p1,l⟩,m⟩
  .cases h
 .cases h
theorem fF {X:Ty α} {f:List (LV S)->Option (α×List (LV S))} {e:β->α} {m:α->β} (c:dE X f) (hm: ∀a,e (m a)=a):dE (X.ei e) (fa f m):=λA O w ls x r cs h d=>by
 unfold fa at h;split at h
 .rename_i a g b;cases h;obtain⟨c1,c2,rfl,p1,p2⟩:=c A O w ls a r cs b d;exact⟨c1,c2,rfl,by show X.rep O w c1 (e (m a));rw[hm];exact p1,p2⟩
 .cases h
theorem fQ {X:Ty α} {f:List (LV S)->Option (α×List (LV S))} (a:dE X f) {A:Pl} {O:Γ} {w:World} {ls:List (LV S)} {x:α} {cs:Γb} (h:b0 (f ls)=some x) (b:bz A O w ls cs):X.rep O w cs x:=by
 unfold b0 at h;split at h
 .rename_i y c;cases h;obtain⟨c1,c2,rfl,p1,p2⟩:=a A O w ls x [] cs c b;rw[show c2=[] from p2,ξl];exact p1
 .cases h
end
theorem M7: ∀(xs ys:Γa),xs.length=ys.length->((ξC xs.length).all λi=>xs.getD i 0==ys.getD i 0)=(xs==ys)
 |[],[],_=>rfl
 |x::xs,y::ys,h=>by
  have a:=M7 xs ys (by simpa using h);rw[ξu,List.range_succ_eq_map,ξA,List.all_map];simp only[List.getD_cons_zero,Function.comp_def,List.getD_cons_succ,a];simp[List.cons_beq_cons]
 |[],_::_,h=>by simp at h
 |_::_,[],h=>by simp at h
section
variable {P:Program} (w:World)
theorem Tf (d:Nat) (t e:TypeId) (n:Nat) (k b:IntKind) (g:P.underlying t=some (.array n e)) (he:P.underlying e=some (.int b)) (f: ∀w,(sizeOf e).run P w= .ok 1 w)
  (xs ys:Γa) (a:xs.length=n) (h:ys.length=n):
  (ζH (d+2) t (.agg (xs.map (ξ6 k)).toArray) (.agg (ys.map (ξ6 k)).toArray)).run P w= .ok (xs==ys) w:=by
 rw[<-M7 xs ys (a.trans h.symm),a,List.range_eq_range',ζH];simp only[τ,run_underlying g,φ,f,ζd,ζQ,ζO,Nat.add_sub_cancel,Nat.div_one];have hl: ∀i∈ζB 0 n 1,i<n:=λi hi=>by simpa using(List.mem_range'_1.1 hi).2
 generalize ζB 0 n 1=l at hl ⊢
 induction l with
 |nil=>simp
 |cons i l m=>
  have hi:i<n:=hl i (by simp);have p:(part e (xs.map (ξ6 k)).toArray (i*1)).run P w= .ok (.int k (xs.getD i 0)) w:=by
   simp[part,isAgg,run_underlying he,List.getD,ο (show i<xs.length by omega)]
  have q:(part e (ys.map (ξ6 k)).toArray (i*1)).run P w= .ok (.int k (ys.getD i 0)) w:=by
   simp[part,isAgg,run_underlying he,List.getD,ο (show i<ys.length by omega)]
  have o:(ζH (d+1) e (.int k (xs.getD i 0)) (.int k (ys.getD i 0))).run P w= .ok (xs.getD i 0==ys.getD i 0) w:=run_equalIn_int w d e k b _ _ he;simp only[List.forIn_cons,τ,p,q,o,φ,ξA];cases r:(xs.getD i 0==ys.getD i 0)
  .simp
  .simp only[ξK,ζm,if_false,ξj,φ,ξJ];exact m λj c=>hl j (by simp[c])
theorem Tk (t e:TypeId) (n:Nat) (k a:IntKind) (d:P.underlying t=some (.array n e)) (he:P.underlying e=some (.int a)) (c: ∀w,(sizeOf e).run P w= .ok 1 w) (b:P.eqGuardType P.depth t=false)
  (xs ys:Γa) (f:xs.length=n) (g:ys.length=n) (ox oy:Operand):
  (do eqGuard .eql t ox oy (.agg (xs.map (ξ6 k)).toArray) (.agg (ys.map (ξ6 k)).toArray);binOp .eql t (.agg (xs.map (ξ6 k)).toArray) (.agg (ys.map (ξ6 k)).toArray):Sem Value).run P w= .ok (.bool (xs==ys)) w/\
  (do eqGuard .neq t ox oy (.agg (xs.map (ξ6 k)).toArray) (.agg (ys.map (ξ6 k)).toArray);binOp .neq t (.agg (xs.map (ξ6 k)).toArray) (.agg (ys.map (ξ6 k)).toArray):Sem Value).run P w= .ok (.bool (!(xs==ys))) w:=by
 constructor
 .simp only[τ];rw[run_eqGuard_agg w .eql t ox oy _ _ b];simp only[φ];rw[run_eql_struct,show(10000:Nat)=9998+2 from rfl,Tf w 9998 t e n k a d he c xs ys f g];rfl
 .simp only[τ];rw[run_eqGuard_agg w .neq t ox oy _ _ b];simp only[φ];rw[run_neq_struct,show(10000:Nat)=9998+2 from rfl,Tf w 9998 t e n k a d he c xs ys f g];rfl
end
section
variable {S:bh} {K:bp S} {P:Program} {A:Pl} {O:Γ} {w w1 w2:World} {g:Nat->Option (Ob S)}
theorem b_.two {i j:Nat} {X Y:Ob S} (E:bS A O w g) (f:i≠j) (m:b_ A O w g [(i,some X)] A O w1) (o:b_ A O w1 (b7 g [(i,some X)]) [(j,some Y)] A O w2) (ag:OB O w):b_ A O w g [(i,some X),(j,some Y)] A O w2:=by
 have R:=E.ca ag m;have L:b7 g [(i,some X)] i=some X:=by simp[b7]
 have v: ∀ {k:Nat} {Z:Option (Ob S)},(k,Z)∈[(i,some X),(j,some Y)]->(k=i/\Z=some X)\/(k=j/\Z=some Y):=by
  intro k Z h;simp only[ψ,ξn,List.not_mem_nil,or_false] at h;exact h
 have one: ∀ {k l:Nat} {Z W:Option (Ob S)},(k,Z)∈[(l,W)]->k=l/\Z=W:=by
  intro k l Z W h;simpa using h
 obtain⟨p,hp,ak,P⟩:=m.al i X (by simp);obtain⟨q,F,aq,Q⟩:=o.al j Y (by simp);obtain⟨Z,M⟩:=o.lv j (some Y) q (by simp) F;have J: ∀b,cI w1 X p b->w2.heap[b]? =w1.heap[b]? /\b∈O:=λb n=>o.keep b (P b n).1 λk V r a d x u=>by
  obtain⟨rfl,rfl⟩:=one a;exact R.fW i k X x p r b f L u hp d n
 have ai:dD A O w2 X p:=ak.keep o.tr (Pl.le.refl A) J;have N: ∀b,cI w2 X p b->cI w1 X p b:=λb=>jX λc z=>(J c (.inl z)).1;have an: ∃Z,g j=some Z:=by
  have:b7 g [(i,some X)] j=g j:=ed λV t=>f (one t).1.symm;rw[this] at M;exact⟨Z,M⟩
 obtain⟨ad,au⟩:=an;refine⟨Pl.le.refl A,m.tr.trans o.tr,o.ob,λb n hn=>?_,λk V a=>?_,λk l V W r s b T a hl d H U=>?_,λk V W a hl=>?_,λk V r a d=>?_,λ_=>.inl rfl,λk V x a u hn=>?_⟩
 .obtain⟨C,a2⟩:=m.keep b n λk V r a d=>hn k V r (by obtain⟨rfl,rfl⟩:=one a;simp) d;obtain⟨ae,af⟩:=o.keep b a2 λk V r a d x u av=>by
   obtain⟨rfl,rfl⟩:=one a;rw[ed (λV t=>f (one t).1.symm)] at u;obtain⟨az,G,hR,hm⟩:=E.al k x u;rw[d] at G;cases G;refine hn k (some Y) r (by simp) d x u (jX (λc z=>?_) av);refine(m.keep c (hm c z) λB aB aA ax ay y ar K=>?_).1;obtain⟨rfl,rfl⟩:=one ax;exact E.fW B k y x aA r c f ar u ay d K (.inl z)
  exact⟨ae.trans C,af⟩
 .rcases v a with⟨rfl,e⟩|⟨rfl,e⟩
  .cases e;refine⟨p,hp,ai,λb n=>⟨(J b (N b n)).2,(P b (N b n)).2.imp id ?_⟩⟩;rintro ⟨B,ab,I,y,C,a2,a3,a4⟩;obtain⟨rfl,rfl⟩:=one C;exact⟨B,some X,I,y,by simp,a2,a3,a4⟩
  .cases e;refine⟨q,F,aq,λb n=>⟨(Q b n).1,(Q b n).2.elim (λh=>.inl (ξP m.tr.size h)) ?_⟩⟩;rintro ⟨B,ab,I,y,C,a2,a3,a4⟩;obtain⟨rfl,rfl⟩:=one C;rw[ed (λV t=>f (one t).1.symm)] at a2;refine .inr ⟨B,some Y,I,y,by simp,a2,a3,?_⟩;obtain⟨az,G,hR,hm⟩:=E.al B y a2;rw[a3] at G;cases G;refine jX (λc z=>?_) a4;refine(m.keep c (hm c z) λk V r a d aa ah K=>?_).1;obtain⟨rfl,rfl⟩:=one a;exact E.fW k B aa y r I c f ah a2 d a3 K (.inl z)
 .have aw:=R.ca m.ob o;have ao:b7 (b7 g [(i,some X)]) [(j,some Y)] j=some Y:=by simp[b7]
  have aj:b7 (b7 g [(i,some X)]) [(j,some Y)] i=some X:=by
   rw[ed (λV t=>f (one t).1)];exact L
  have key: ∀b,cI w2 X p b-> ¬cI w2 Y q b:=λb=>aw.fW i j X Y p q b f aj ao hp F;rcases v a with⟨rfl,e⟩|⟨rfl,e⟩
  .rcases v hl with⟨rfl,D⟩|⟨rfl,D⟩
   .exact absurd rfl T
   .cases e;cases D;rw[hp] at d;cases d;rw[F] at H;cases H;exact key b U
  .rcases v hl with⟨rfl,D⟩|⟨rfl,D⟩
   .cases e;cases D;rw[F] at d;cases d;rw[hp] at H;cases H;exact λh=>key b h U
   .exact absurd rfl T
 .rcases v a with⟨rfl,rfl⟩|⟨rfl,rfl⟩
  .rcases v hl with⟨e,rfl⟩|⟨e,rfl⟩
   .rfl
   .exact absurd e f
  .rcases v hl with⟨e,rfl⟩|⟨e,rfl⟩
   .exact absurd e.symm f
   .rfl
 .rcases v a with⟨rfl,rfl⟩|⟨rfl,rfl⟩
  .exact m.lv k (some X) r (by simp) d
  .exact⟨ad,au⟩
 .rcases v a with⟨rfl,e⟩|⟨rfl,e⟩
  .cases e;exact m.nt k X x (by simp) u hn
  .cases e;refine o.nt k Y x (by simp) ?_ hn;rw[ed (λV t=>f (one t).1.symm)];exact u
theorem vt {i b t:Nat} {Z:Ob S} {cs:List (LV S)} {vs:Γb} (h:bS A O w g) (e:OB O w) (hi:g i=some Z) (hp:A.pl i=some (.pointer (some ⟨b,0,none⟩))) (d:Fr [b] w w1) (c:bK w1 b t vs) (j:bz A O w1 cs vs):b_ A O w g [(i,some (.box t cs))] A O w1:=by
 obtain⟨p,a,_,f⟩:=h.al i Z hi;rw[hp] at a;cases a;exact nr e (f b rfl) hi hp rfl d ⟨b,vs,rfl,c,j⟩
theorem q' {i t:Nat} {cs:List (LV S)} (e:bS A O w g) (hi:g i=some (.box t cs)): ∃b vs,A.pl i=some (.pointer (some ⟨b,0,none⟩))/\bK w b t vs/\bz A O w cs vs/\b∈O:=by
 obtain⟨p,hp,⟨b,vs,rfl,a,c⟩,d⟩:=e.al i _ hi;exact⟨b,vs,hp,a,c,d b rfl⟩
theorem SK: ∀ {ls:List (LV S)} {vs:Γb},bz A O w ls vs-> ∀u∈vs,u.oneCell'=true
 |[],vs,h,u,hu=>by rw[show vs=[] from h] at hu;cases hu
 |l::ls,vs,⟨ys,zs,e,a,b⟩,u,hu=>by
  subst e;rcases ξ5.1 hu with h|h
  .exact a.one u h
  .exact SK b u h
theorem SO: ∀ {vs:Γb},(∀u∈vs,u.oneCell'=true)->bz (S:=S) A O w (vs.map .v) vs
 |[],_=>rfl
 |v::vs,h=>⟨[v],vs,rfl,⟨rfl,h v (by simp)⟩,SO λu hu=>h u (by simp[hu])⟩
end
section
variable {S:bh} {R:Type}
noncomputable def qi (p:Prop) (x:Option R):Option R:=open Classical in if p then x else none
theorem OO {p:Prop} {x:Option R} {z:R} (h:qi p x=some z):p/\x=some z:=by
 unfold qi at h;split at h
 .exact⟨by assumption,h⟩
 .cases h
noncomputable def gd {α:Type} (a:α) (x:Option R):Option R:=qi (a=a) x
theorem acq {α:Type} (a:α) (x:Option R):gd a x=x:=by unfold gd qi;simp
def db:Option (LV S)->Option Int
 |some (.v (.int _ x))=>some x
 |_=>none
def hS:Option (LV S)->Option Bool
 |some (.v (.bool x))=>some x
 |_=>none
def jO:Option (LV S)->Option ByteArray
 |some (.v (.string x))=>some x
 |_=>none
def dO:Option (LV S)->Option (Γa)
 |some (.br _ _ x)=>some x
 |_=>none
def ez (t:Nat):Option (LV S)->Option (S.El t)
 |some (.aG t' x)=>(match ζP t' t with| .isTrue p=>some (p▸x)| .isFalse _=>none)
 |_=>none
def c9 (st:AS S) (s n:Nat):Option (LV S):=match a8.get st.env s with
 |some (.s (.one l))=>some l
 |some (.s (.agg ls))=>ls[n]?
 |_=>none
def dQ (st:AS S) (j n:Nat):Option (LV S):=match aM st.h j with
 |some (.box _ cs)=>cs[n]?
 |_=>none
def eh (st:AS S) (j e:Nat):Option (List (S.El e)):=match aM st.h j with
 |some (.row a xs)=>(match ζP a e with| .isTrue p=>some (lG p xs)| .isFalse _=>none)
 |_=>none
def hq (st:AS S) (j:Nat):Option (Γc):=match aM st.h j with
 |some (.map _ _ m)=>some m
 |_=>none
def lpL (st:AS S) (s n:Nat):Option (LV S):=match st.lp with
 |some a=>(match a8.get a.env s with
  |some (.s (.one l))=>some l
  |some (.s (.agg ls))=>ls[n]?
  |_=>none)
 |none=>none
def dd (st:AS S) (j g:Nat):Option Unit:=match aM st.h j with
 |some (.bA a _ _)=>bif ε a g then some () else none
 |_=>none
def gv (st:AS S) (m n:Nat):Option Unit:=match st.lp with
 |some a=>bif ε a.J.fn.ntmps m&&ε (dP a.body) n then some () else none
 |none=>none
def pq (c:AS S->Option Unit) (a b:a7 S):a7 S:=⟨a.id,λst k=>match c st with|some _=>a.out st k|none=>b.out st k⟩
end
def ct (fn:Func):Code:=match fn.body with|some c=>c|none=>.skip
def k_:Code->List (Code×Code)
 | .rangeFunc _ _ x y=>[(x,y)]
 | .loop x=>k_ x
 | .seq x y=>k_ x++k_ y
 | .cond _ x y=>k_ x++k_ y
 | .block _ x=>k_ x
 | .scope x=>k_ x
 |_=>[]
def SY (c:Code) (id:Nat):Code×Code:=match(k_ c).filter (λx=>ε (dP x.2) id) with|[x]=>x|_=>(.skip,.skip)
def eW (c:Code) (id:Nat):Code:=(SY c id).1
def eX (c:Code) (id:Nat):Code:=(SY c id).2
theorem Pc {S:bh} {l:List (a7 S)} {n:Nat} (h:(match gp l n with|some _=>false|none=>true)=true):gp l n=none:=by
 cases a:gp l n with
 |none=>rfl
 |some c=>rw[a] at h;cases h
section
variable {S:bh} {P:Program} {R:Type}
def xZ (K:bp S) (b:Γ) (k:Rs S->Option R):Rs S->Option R
 | .bB u=>k (.bB u)
 | .ret (.s a)=>(match b with|[t]=>(match yb K t a with|some x=>k (.ret (.s (K.bg t x)))|none=>none)|_=>none)
 | .ret (.bG ajF)=>(match ry K b ajF with|some xs=>k (.ret (.bG (kX K xs)))|none=>none)
theorem RU {K:bp S} (n:b9 K P) {f:Nat} {ajF:List (aE S)} {t:Γ} {k:Rs S->Option R} {r:Rs S} {z:R} (h:xZ K t k r=some z) (b:d_ K P f ajF r): ∃o,k o=some z/\d_ K P f ajF o:=by
 cases r with
 |bB u=>exact⟨_,h,b⟩
 |ret p=>
  cases p with
  |s a=>
   simp only[xZ] at h;split at h
   .split at h
    .rename_i x m;refine⟨_,h,b.1,λA O w xs l j i=>(b.2 A O w xs l j i).mono ?_⟩;rintro e w' ⟨⟨v,c,d⟩,g⟩;exact⟨⟨v,c,Sm n m d⟩,g⟩
    .cases h
   .cases h
  |bG bs=>
   simp only[xZ] at h;split at h
   .rename_i y m;refine⟨_,h,b.1,λA O w xs l j i=>(b.2 A O w xs l j i).mono ?_⟩;rintro e w' ⟨⟨v,c,ys,d,q⟩,g⟩;exact⟨⟨v,c,ys,d,yc n m q⟩,g⟩
   .cases h
def k1 (K:bp S) (a:Γ) (k:Rs S->Option R) (r:Rs S) (h:AH S) (dt:Γ):Option R:=x0 K (xZ K a k) r h dt
theorem vm {G:bW S} (b:aX G P) {f:Nat} {c rs:Γ} {spec: {R:Type}->h_ S c->(Rs S->Option R)->Option R}
  (h: ∀ {R:Type} (xs:h_ S c) (k:Rs S->Option R) (z:R),spec xs k=some z-> ∃n,gE G n f (kX G.K xs) [] (k1 G.K rs k)=some z) {ajF:List (aE S)} {k:Rs S->Option R} {z:R} (a:(hd G.K f c spec).out ajF k=some z): ∃r,k r=some z/\d_ G.K P f ajF r:=by
 simp only[hd] at a;split at a
 rotate_left
 .cases a
 rename_i xs s;cases hp:(kX G.K xs).all aE.pure<;>rw[hp] at a
 .cases a
 simp only[cond_true] at a;obtain⟨n,hn⟩:=h xs k z a;obtain⟨r,h',dt,d,e⟩:=Fs b hn;obtain⟨u,g,i⟩:=d_.Rz b.K hp e d;obtain⟨t,j,l,m⟩:=RU b.K g i;exact⟨t,j,l,λA O w vs q p o=>m A O w vs (yc b.K s q) p o⟩
end
section
variable {S:bh} {P:Program} {G:bW S} {I:dw S} {x:Code} {R:Type}
def q5 (G:bW S) (n:Nat) (I:dw S) (x:Code) (k:AX->AS S->Option R):AX->AS S->Option R:=λe a=>match e with| .normal=>cn G n I (.loop x) (gc (I.L (dP x)) a) k|e=>k e a
theorem Im (a:gp I.lc (dP x)=none) {n:Nat} {st:AS S} {k:AX->AS S->Option R}:cn G (n+1) I (.loop x) st k=cn G n I x st (q5 G n I x k):=by
 show(match gp I.lc (dP x) with|some lc=>lc.out st k|none=>_)=_;rw[a];rfl
theorem adF {i n:Nat} (h:i<n):decide ((i:Int)<(n:Int))=true:=by simp;exact h
theorem adE {n:Nat}:decide ((n:Int)<(n:Int))=false:=by simp
theorem HP {α:Type} {l:List α} {i:Nat} {z:α} (h:l[i]? =some z):idx l (i:Int)=some z:=by
 unfold idx;rw[if_pos (Int.natCast_nonneg i),Int.toNat_natCast,h]
theorem aW.alt {K:bp S} {J:lq} {c:AS S->Option Unit} {a b:a7 S} (d:aW K P J x a) (e:aW K P J x b):aW K P J x (pq c a b):=by
 intro R st k z h;simp only[pq] at h;split at h
 .exact d st k z h
 .exact e st k z h
theorem bQ {α:Type} {T:Ty α} {A:Pl} {O:Γ} {w:World} {N:Nat} {C:cP} {K:bp S} {st:AS S} {a:Act} {sl t:Nat} {d:S.El t} (f:bn K P N C A O w st a) (g:a8.get st.env sl=some (.s (.one (.aG t d)))) {l:List α} (e: ∀v,(S.ty t).is O w v d->T.slice.is O w v l):l.length<=maxLen:=by
 obtain⟨x,b,c,_⟩:=f.env sl _ g;cases b;obtain⟨_,_,_,h,i⟩:=dr (e _ c);omega
theorem SI {A:Pl} {O:Γ} {w:World}: ∀ {ls:List (LV S)} {xs:Γb} {n:Nat} {l:LV S},bz A O w ls xs->ls[n]? =some l-> ∃ys,l.rel A O w ys
 |[],_,n,l,_,h=>by simp at h
 |a::ls,_,0,l,⟨ys,_,_,b,_⟩,h=>by
  have h:a=l:=by simpa using h
  subst h;exact⟨ys,b⟩
 |a::ls,_,n+1,l,⟨_,_,_,_,c⟩,h=>SI c (by simpa using h)
theorem Ik {α:Type} {T:Ty α} {A:Pl} {O:Γ} {w:World} {N:Nat} {C:cP} {K:bp S} {st:AS S} {a:Act} {j k n t:Nat} {cs:List (LV S)} {d:S.El t} (g:bn K P N C A O w st a) (i:aM st.h j=some (.box k cs)) (hn:cs[n]? =some (.aG t d)) {l:List α} (f: ∀v,(S.ty t).is O w v d->T.slice.is O w v l):l.length<=maxLen:=by
 obtain⟨p,_,⟨b,vs,_,_,e⟩,_⟩:=g.rel.al j _ i;obtain⟨ys,x,_,c,_⟩:=SI e hn;obtain⟨_,_,_,m,o⟩:=dr (f _ c);omega
theorem kP {e j:Nat} {xs:List (S.El e)} {A:Pl} {O:Γ} {w:World} {N:Nat} {C:cP} {K:bp S} {st:AS S} {a:Act} (c:bn K P N C A O w st a) (d:aM st.h j=some (.row e xs)):xs.length<=maxLen:=by
 obtain⟨p,_,b,_⟩:=c.rel.al j _ d;obtain⟨_,_,_,f,g⟩:=Dc.Own.form b;omega
end
end Go.Vx
end
section
namespace Go.Vx
open Go.RowKit Go.Dc
inductive T (X:Type):Type 1
 |no
 |ok (x:X)
 |bf (c:Bool) (a b:T X)
 |bd {α:Type} (o:Option α) (f:α->T X)
 |cs {α β:Type} (x:α⊕β) (f:α->T X) (g:β->T X)
 |gd {α:Type} (a:α) (t:T X)
namespace T
variable {X R:Type}
noncomputable def run (t:T X) (k:X->Option R):Option R:=T.rec none (λx=>k x) (λc _ _ a b=>bif c then a else b) (λo _ f=>o.bind f) (λx _ _ f g=>Sum.rec f g x) (λa _ r=>Go.Vx.gd a r) t
noncomputable def val (t:T X):Option X:=T.rec none (λx=>some x) (λc _ _ a b=>bif c then a else b) (λo _ f=>o.bind f) (λx _ _ f g=>Sum.rec f g x) (λ_ _ r=>r) t
@[simp] theorem mI:(T.no:T X).val=none:=rfl
@[simp] theorem aD (x:X):(T.ok x).val=some x:=rfl
@[simp] theorem aH (c:Bool) (a b:T X):(T.bf c a b).val=bif c then a.val else b.val:=rfl
@[simp] theorem aN {α:Type} (o:Option α) (f:α->T X):(T.bd o f).val=o.bind λy=>(f y).val:=rfl
@[simp] theorem cx {α β:Type} (x:α⊕β) (f:α->T X) (g:β->T X):(T.cs x f g).val=match x with| .inl a=>(f a).val| .inr b=>(g b).val:=by cases x<;>rfl
@[simp] theorem bt {α:Type} (a:α) (t:T X):(T.gd a t).val=t.val:=rfl
theorem oo (t:T X) (k:X->Option R):t.run k=t.val.bind k:=by
 induction t with
 |no=>rfl
 |ok x=>rfl
 |bf c a b i j=>cases c<;>assumption
 |bd o f h=>
  cases o with
  |none=>rfl
  |some y=>exact h y
 |cs x f g d e=>
  cases x with
  |inl a=>exact d a
  |inr b=>exact e b
 |gd a t h=>rw[bt,<-h];exact acq a (t.run k)
end T
def hpS {S:bh} (st:AS S) (j:Nat):Option ByteArray:=match aM st.h j with
 |some (.cW s _)=>some s
 |_=>none
def OT {S:bh} (st:AS S) (j:Nat):Option Nat:=match aM st.h j with
 |some (.cW _ n)=>some n
 |_=>none
structure Sh where
 s:(α:Type)->α->α
theorem TV: ∃f:Sh,f=⟨λ_ a=>a⟩:=⟨_,rfl⟩
noncomputable def shut:Sh:=Classical.choose TV
abbrev ae:Sh:=⟨λ_ a=>a⟩
theorem ot:shut=ae:=Classical.choose_spec TV
theorem wg {X R:Type} {t:T X} {kf:X->Option R} {z:R} (h:(shut.s _ t.val).bind kf=some z):t.run kf=some z:=by
 rw[ot] at h;rw[T.oo];exact h
def bF {α σ X:Type} (step:Int->α->σ->Option (σ⊕X)) (fin:Int->σ->Option X):Nat->List α->σ->Option X
 |i,[],a=>fin i a
 |i,z::r,a=>(step i z a).bind λy=>match y with| .inl a'=>bF step fin (i+1) r a'| .inr x=>some x
def cm {σ X:Type} (step:σ->Option (σ⊕X)):Nat->σ->Option X
 |0,_=>none
 |n+1,a=>(step a).bind λy=>match y with| .inl a'=>cm step n a'| .inr x=>some x
noncomputable def bC (U:Sh) {α σ X:Type} (S:Int->α->σ->T (σ⊕X)) (F:Int->σ->T X) (l:List α) (a:σ):Option X:=U.s _ (bF (λi z a=>(S i z a).val) (λi a=>(F i a).val) 0 l a)
noncomputable def bU (U:Sh) {σ X:Type} (S:σ->T (σ⊕X)) (n:Nat) (a:σ):Option X:=U.s _ (cm (λa=>(S a).val) n a)
theorem ahh {α σ X:Type} (S:Int->α->σ->T (σ⊕X)) (F:Int->σ->T X) (l:List α) (a:σ):bC shut S F l a=bF (λi z a=>(S i z a).val) (λi a=>(F i a).val) 0 l a:=by unfold bC;rw[ot]
theorem ai_ {σ X:Type} (S:σ->T (σ⊕X)) (n:Nat) (a:σ):bU shut S n a=cm (λa=>(S a).val) n a:=by unfold bU;rw[ot]
section
variable {S:bh} {P:Program} {G:bW S} {I:dw S} {x:Code}
noncomputable def bc {π X:Type} (id:Nat) (ext:AS S->Option π) (s:π->AS S) (L:π->Option X) (out: {R:Type}->(AX->AS S->Option R)->π->X->Option R):a7 S:=⟨id,λst k=>(ext st).bind λp=>qi (st=s p) ((L p).bind (out k p))⟩
noncomputable def xP {σ X R:Type} (f:σ->Option R) (g:X->Option R):σ⊕X->Option R:=λy=>Sum.rec f g y
theorem JP {α R:Type} {o:Option α} {f:α->Option R} {z:R} (h:o.bind f=some z): ∃y,o=some y/\f y=some z:=bind_some h
theorem S7 {π σ X α R:Type} (N:Nat) {k:AX->AS S->Option R} (c:gp I.lc (dP x)=none) {l:List α} (hm:l.length<=maxLen) {s:Int->σ->AS S} {St:Int->α->σ->T (σ⊕X)} {F:Int->σ->T X} {ex:X->Option R}
  (b: ∀m (i:Int) a,cn G (m+N) I x (s i a) (q5 G (m+N) I x k)=bif decide (i<(l.length:Int)) then(idx l i).bind λz=>(St i z a).run (xP (λa'=>cn G (m+N) I (.loop x) (s (ζC.wrap (i+1)) a') k) ex) else(F i a).run ex):
  ∀(r pre:List α) (a:σ),l=pre++r->cn G (r.length+N+1) I (.loop x) (s (pre.length:Int) a) k=(bF (λi z a=>(St i z a).val) (λi a=>(F i a).val) pre.length r a).bind ex
 |[],pre,a,h=>by
  rw[ξl] at h;subst h;rw[Im c,b,adE,cond_false,T.oo];rfl
 |z::r,pre,a,h=>by
  have f:l[pre.length]? =some z:=by rw[h];simp
  have d:pre.length<l.length:=by rw[h];simp
  rw[Im c,b,adF d,cond_true,HP f,ξ8,T.oo];show _=(((St (pre.length:Int) z a).val).bind λy=>match y with| .inl a'=>bF _ _ (pre.length+1) r a'| .inr x=>some x).bind ex;cases (St (pre.length:Int) z a).val with
  |none=>rfl
  |some y=>
   cases y with
   |inr x=>rfl
   |inl a'=>
    show cn G (r.length+1+N) I (.loop x) (s (ζC.wrap ((pre.length:Int)+1)) a') k=(bF _ _ (pre.length+1) r a').bind ex;rw[hG d hm];have e:=S7 (π:=π) N c hm b r (pre++[z]) a' (by rw[h];simp);rw[show(pre++[z]).length=pre.length+1 by simp] at e;rw[<-e,show r.length+1+N=r.length+N+1 by omega]
theorem aW.bH {π σ X α:Type} (j:aX G P) {id:Nat} {ext:AS S->Option π} {L:π->Option X} {out: {R:Type}->(AX->AS S->Option R)->π->X->Option R}
  (n:aO G.K P I (.loop x)) (q:(match gp I.lc (dP x) with|some _=>false|none=>true)=true) (N:Nat) (s:π->Int->σ->AS S) (l:π->List α) (a0:π->σ) {St:π->Int->α->σ->T (σ⊕X)} {F:π->Int->σ->T X}
  (r: ∀p,L p=bC shut (St p) (F p) (l p) (a0 p))
  (o: ∀ {R:Type} m (p:π) (i:Int) a (k:AX->AS S->Option R),cn G (m+N) I x (s p i a) (q5 G (m+N) I x k)=bif decide (i<((l p).length:Int)) then(idx (l p) i).bind λz=>(St p i z a).run (xP (λa'=>cn G (m+N) I (.loop x) (s p (ζC.wrap (i+1)) a') k) (out k p)) else(F p i a).run (out k p))
  (hex: ∀(p:π) (x:X),∃e c,∀ {R:Type} (k:AX->AS S->Option R),out k p x=k e c)
  (g: ∀(p:π) (N:Nat) (C:cP) (A:Pl) (O:Γ) (w:World) (a:Act),bn G.K P N C A O w (s p 0 (a0 p)) a->(l p).length<=maxLen):
  aW G.K P I.tolq x (bc id ext (λp=>s p 0 (a0 p)) L out):=by
 intro R st k z b;obtain⟨p,_,d⟩:=JP b;clear b;obtain⟨f,b⟩:=OO d;clear d;subst f
 by_cases hm:(l p).length<=maxLen
 .rw[r,ahh] at b;have h:=(S7 (π:=π) N (Pc q) hm (λm i a=>o m p i a k) (l p) [] (a0 p) rfl).trans b;exact Fq j _ I (.loop x) (s p 0 (a0 p)) k z n h
 .obtain⟨y,_,u⟩:=JP b;obtain⟨e,c,he⟩:=hex p y;exact⟨e,c,(he k).symm.trans u,λC A O w a t=>absurd (g p _ C A O w a t) hm⟩
theorem UY {σ X R:Type} (N:Nat) {k:AX->AS S->Option R} (c:gp I.lc (dP x)=none) {s:σ->AS S} {St:σ->T (σ⊕X)} {ex:X->Option R}
  (b: ∀m a,cn G (m+N) I x (s a) (q5 G (m+N) I x k)=(St a).run (xP (λa'=>cn G (m+N) I (.loop x) (s a') k) ex)):
  ∀(n:Nat) (a:σ) {z:R},(cm (λa=>(St a).val) n a).bind ex=some z->cn G (n+N) I (.loop x) (s a) k=some z
 |0,a,z,h=>by cases h
 |n+1,a,z,h=>by
  rw[show n+1+N=n+N+1 by omega,Im c,b,T.oo]
  change (((St a).val).bind λy=>match y with| .inl a'=>cm _ n a'| .inr x=>some x).bind ex=some z at h
  revert h
  cases (St a).val with
  |none=>intro h;cases h
  |some y=>
   cases y with
   |inr x=>intro h;exact h
   |inl a'=>intro h;exact UY N c b n a' h
theorem aW.bU {π σ X:Type} (e:aX G P) {id:Nat} {ext:AS S->Option π} {L:π->Option X} {out: {R:Type}->(AX->AS S->Option R)->π->X->Option R}
  (f:aO G.K P I (.loop x)) (h:(match gp I.lc (dP x) with|some _=>false|none=>true)=true) (N:Nat) (s:π->σ->AS S) (a0:π->σ) {St:π->σ->T (σ⊕X)} (n:π->Nat)
  (i: ∀p,L p=Vx.bU shut (St p) (n p) (a0 p))
  (g: ∀ {R:Type} m (p:π) a (k:AX->AS S->Option R),cn G (m+N) I x (s p a) (q5 G (m+N) I x k)=(St p a).run (xP (λa'=>cn G (m+N) I (.loop x) (s p a') k) (out k p))):
  aW G.K P I.tolq x (bc id ext (λp=>s p (a0 p)) L out):=by
 intro R st k z b;obtain⟨p,_,c⟩:=JP b;clear b;obtain⟨d,b⟩:=OO c;clear c;subst d;rw[i,ai_] at b;exact Fq e _ I (.loop x) (s p (a0 p)) k z f (UY N (Pc h) (λm a=>g m p a k) (n p) (a0 p) b)
end
end Go.Vx
end
section
namespace Go.Vx
open Go.RowKit Go.Dc
section
variable {α σ X:Type}
theorem gW {step:Int->α->σ->Option (σ⊕X)} {fin:Int->σ->Option X} {i:Nat} {z:α} {r:List α} {a:σ}:bF step fin i (z::r) a=(step i z a).bind λy=>match y with| .inl a'=>bF step fin (i+1) r a'| .inr x=>some x:=rfl
theorem h5 {step:Int->α->Unit->Option (Unit⊕X)} {fin:Int->Unit->Option X} {p:α->Bool} {e:α->X}:
  ∀ {l:List α} {i:Nat},(∀i z,z∈l->step i z ()=bif p z then some (.inr (e z)) else some (.inl ()))->bF step fin i l ()=match l.find? p with|some z=>some (e z)|none=>fin ((i+l.length:Nat):Int) ()
 |[],i,_=>by simp[bF]
 |z::r,i,h=>by
  rw[gW,h _ z μ,ζD];cases hp:p z with
  |true=>rfl
  |false=>
   simp only[cond_false,ξ8];rw[h5 λi z a=>h i z (κ _ a)];cases r.find? p with
   |some _=>rfl
   |none=>simp only[ξu];rw[show i+1+r.length=i+(r.length+1) by omega]
def allI (q:Nat->α->Bool):Nat->List α->Bool
 |_,[]=>true
 |i,z::r=>q i z&&allI q (i+1) r
theorem jD {q:Nat->α->Bool}: ∀ {l:List α} {i:Nat},allI q i l=true↔ ∀k z,l[k]? =some z->q (i+k) z=true
 |[],i=>by simp[allI]
 |z::r,i=>by
  simp only[allI,η];rw[jD];constructor
  .rintro ⟨b,c⟩ k y a;cases k with
   |zero=>simp at a;subst a;exact b
   |succ k=>rw[show i+(k+1)=i+1+k by omega];exact c k y (by simpa using a)
  .intro h;refine⟨h 0 z rfl,λk y a=>?_⟩;rw[show i+1+k=i+(k+1) by omega];exact h (k+1) y (by simpa using a)
theorem S5 {step:Int->α->Unit->Option (Unit⊕X)} {fin:Int->Unit->Option X} {q:Nat->α->Bool} {x:X} {l:List α} (h: ∀(i:Nat) z,l[i]? =some z->step i z ()=bif q i z then some (.inl ()) else some (.inr x)):
  ∀(r pre:List α),l=pre++r->bF step fin pre.length r ()=bif allI q pre.length r then fin (l.length:Int) () else some x
 |[],pre,e=>by
  rw[ξl] at e;subst e;rfl
 |z::r,pre,e=>by
  rw[gW,h pre.length z (by rw[e];simp)];unfold allI;cases q pre.length z with
  |false=>rfl
  |true=>
   simp only[cond_true,ξ8,ξJ];have:=S5 (fin:=fin) h r (pre++[z]) (by rw[e];simp);rw[show(pre++[z]).length=pre.length+1 by simp] at this;exact this
theorem gV {step:Int->α->Unit->Option (Unit⊕X)} {fin:Int->Unit->Option X} {q:Nat->α->Bool} {x:X} {l:List α} (h: ∀(i:Nat) z,l[i]? =some z->step i z ()=bif q i z then some (.inl ()) else some (.inr x)):
 bF step fin 0 l ()=bif allI q 0 l then fin (l.length:Int) () else some x:=S5 h l [] rfl
theorem mr {step:Int->α->σ->Option (σ⊕X)} {fin:Int->σ->Option X} {g:σ->α->σ}: ∀ {l:List α} {i:Nat} {a:σ},(∀i z a,z∈l->step i z a=some (.inl (g a z)))->bF step fin i l a=fin ((i+l.length:Nat):Int) (l.foldl g a)
 |[],i,a,_=>by simp[bF]
 |z::r,i,a,h=>by
  rw[gW,h _ z _ μ];show bF step fin (i+1) r (g a z)=_;rw[mr λi z a b=>h i z a (κ _ b),ξu,ζz,show i+1+r.length=i+(r.length+1) by omega]
theorem mJ {step:Int->Option (Int⊕X)} {q:Nat->Bool} {x:Nat->X} {y:X} {N:Nat} (h: ∀a:Nat,a<N->step (a:Int)=bif q a then some (.inl ((a+1:Nat):Int)) else some (.inr (x a))) (hN:step (N:Int)=some (.inr y)):
  ∀ {k n a:Nat},a+k=N->k<n->cm step n (a:Int)=some (match(ζB a k).find? (λb=>!q b) with|some b=>x b|none=>y)
 |0,n+1,a,e,_=>by
  obtain rfl:a=N:=by omega
  unfold cm;rw[hN];rfl
 |k+1,n+1,a,e,hn=>by
  unfold cm;rw[h a (by omega),List.range'_succ,ζD];cases q a with
  |false=>rfl
  |true=>
   simp only[cond_true,ξ8,ξK];exact mJ h hN (by omega) (by omega)
theorem He {p:α->Bool} {l:List α}:(l.find? p).isSome=l.any p:=by rw[Bool.eq_iff_iff,List.find?_isSome,ζ0]
end
section
variable {S:bh} {K:bp S} {P:Program}
def K5 {α:Type} (T:Ty α):Prop:= ∀(O:Γ) (w:World) (O':Γ) (w':World) (cs:Γb) (x:α),T.rep O w cs x->T.rep O' w' cs x
theorem Og {α:Type} {T:Ty α} (a:K5 T) {O O':Γ} {w w':World}: ∀ {xs:List α} {cs:Γb},bN T O w cs xs->bN T O' w' cs xs
 |[],_,h=>h
 |_::_,_,⟨c,r,e,b,d⟩=>⟨c,r,e,a O w O' w' c _ b,Og a d⟩
def hZ (K:bp S) (f e:Nat) (cl:List (S.El e)->Option (List (S.El e))):e0 S:=⟨f,λajF h k=>match ajF with
 |[.one l]=>(match dU K (aM h) e l with|some xs=>(cl xs).bind λzs=>k (.ret (.s (.one (.own h.length)))) (h++[some (.row e zs)]) []|none=>none)
 |_=>none⟩
theorem j2 {h:AH S} {X:Ob S} {i:Nat} {Y:Ob S} (hi:aM (h++[some X]) i=some Y):aM h i=some Y\/(i=h.length/\Y=X):=by
 rw[ji] at hi;rcases fC hi with a|⟨a,b⟩
 .exact .inl (ji.2 a)
 .exact .inr ⟨a,ξs b⟩
theorem jg (ag:b9 K P) {f e:Nat} {cl:List (S.El e)->Option (List (S.El e))} (ah:et P f) (ai:K5 (S.ty e))
  (ae: ∀(O:Γ) (w:World) (v:Value) (xs zs:List (S.El e)),OB O w->(S.ty e).slice.is O w v xs->cl xs=some zs->Calls P f #[v] w (eR (S.ty e) e w.heap.size O w (.slice none 0 0) zs))
  {R:Type} (ajF:List (aE S)) (h:AH S) (k:Rs S->AH S->Γ->Option R) (z:R) (y:(hZ K f e cl).out ajF h k=some z): ∃r h' dt,k r h' dt=some z/\eu K P f ajF h r h' dt:=by
 simp only[hZ] at y;split at y
 rotate_left
 .cases y
 rename_i l;split at y
 rotate_left
 .cases y
 rename_i xs ax;obtain⟨zs,ay,aj⟩:=bind_some y;refine⟨_,_,_,aj,ah,λA O w vs av x u af N ao=>?_⟩;obtain⟨v,rest,rfl,aw,au⟩:=av;rw[show rest=[] from au];have M:=jK ag x ax aw;obtain⟨O1,L⟩: ∃O1,O1=ej A (j6 l) O:=⟨_,rfl⟩;rw[<-L] at M;have V:Dc.Sub O1 O:=by rw[L];exact fM
 refine(ae O1 w v xs zs (λb a=>u b (V b a)) M ay).mono ?_;rintro aC w' ⟨s,B,rfl,m⟩;obtain⟨A',E⟩: ∃A':Pl,A'=⟨λi=>bif ε i h.length then some s else A.pl i,A.ls⟩:=⟨_,rfl⟩;have C: ∀i,i≠h.length->A'.pl i=A.pl i:=λi hi=>by
  rw[E];have:ε i h.length=false:=by
   cases a:ε i h.length with
   |false=>rfl
   |true=>exact absurd (δ a) hi
  simp only[this,cond_false]
 have D:A'.pl h.length=some s:=by rw[E];simp
 have hle:A.le A':=⟨λi p hp=>by
  rw[C i (λe=>by subst e;rw[N _ (ξe _)] at hp;cases hp)];exact hp,by rw[E]⟩
 have J: ∀b,b<w.heap.size->w'.heap[b]? =w.heap[b]? :=λb a=>m.fr b a (by simp[Value.ownBlock]);have aq:OB (B++O) w':=λb a=>by
  rcases ξ5.1 a with a|a
  .exact m.ob b a
  .exact Nat.lt_of_lt_of_le (u b a) m.tr.size
 have W:Tr O w (B++O) w':=⟨m.tr.os,m.tr.tape,m.tr.output,m.tr.size,λb a hn=>⟨λhm=>by
  rcases ξ5.1 hm with hm|hm
  .exact(m.tr.keep b a λd=>hn (V b d)).1 hm
  .exact hn hm,J b a⟩⟩
 have F: ∀b,b2 s=some b->w.heap.size<=b/\b∈B:=by
  intro b a;have Z:s.ownBlock=some b:=by
   rcases h1 m.own with⟨t,_⟩|⟨aa,c,t⟩
   .rw[t] at a;cases a
   .rw[t] at a ⊢;cases a;rfl
  exact⟨(m.own.lt b Z).1,m.own.mem b Z⟩
 have ar:s.oneCell'=true:=by
  rcases h1 m.own with⟨t,_⟩|⟨aa,c,t⟩<;>rw[t]<;>rfl
 have an:Dc.Own (S.ty e) e 1 (B++O) w' s zs:=by
  obtain⟨cs,⟨ab,d⟩,o⟩:=m.own.ex;refine⟨⟨cs,⟨ab,?_⟩,Og ai o⟩,λb a=>υ _ (m.own.mem b a)⟩;rcases d with d|⟨g,cap,cur,az,aA,aB⟩
  .exact .inl d
  .exact .inr ⟨g,cap,cur,az,ξP af.1 aA,aB⟩
 have T: ∀i X,aM (h++[some (.row e zs)]) i=some X->X.nt=true:=λi X hi=>by
  rcases j2 hi with d|⟨_,rfl⟩
  .exact ao i X d
  .rfl
 refine⟨A',B++O,⟨s,rfl,⟨s,D,rfl,ar⟩⟩,⟨bS.xO T ?_ ?_,aq,W,λi hi=>C i (by omega),(λj G=>by cases G),by rw[E],by simp,?_,?_,λi X _=>T i X⟩⟩
 .intro i X hi;rcases j2 hi with d|⟨rfl,rfl⟩
  .obtain⟨p,hp,hR,a⟩:=x.al i X d;have ak:=fk d;exact⟨p,by rw[C i (by omega)];exact hp,hR.keep W hle λb n=>⟨J b (u b (x.hU d hp n)),ω _ (x.hU d hp n)⟩,λb n=>ω _ (a b n)⟩
  .exact⟨s,D,an,λb a=>υ _ (F b a).2⟩
 .intro i j X Y p q b Q hi G hp H n I;have dA: ∀ {i:Nat} {X:Ob S} {p:Value},aM h i=some X->A'.pl i=some p->b2 p=some b->b<w.heap.size/\A.pl i=some p:=by
   intro i X p d o ad;have ak:=fk d;rw[C i (by omega)] at o;obtain⟨aD,U,_,a⟩:=x.al i X d;rw[o] at U;cases U;exact⟨u b (a b ad),o⟩
  rcases j2 hi with d|⟨rfl,rfl⟩
  .rcases j2 G with o|⟨rfl,rfl⟩
   .exact x.dj i j X Y p q b Q d o (dA d hp n).2 (dA o H I).2 n I
   .rw[D] at H;cases H;have:=(dA d hp n).1;have:=(F b I).1;omega
  .rcases j2 G with o|⟨rfl,rfl⟩
   .rw[D] at hp;cases hp;have:=(dA o H I).1;have:=(F b n).1;omega
   .exact absurd rfl Q
 .intro i hi;simp at hi;rw[C i (by omega)];exact N i (by omega)
 .intro b a _;refine⟨J b (u b a),ω _ a,λi X p hi hX hp n=>?_⟩;rcases j2 hX with d|⟨rfl,rfl⟩
  .have:=fk d;omega
  .rw[D] at hp;cases hp;have:=(F b (fZ rfl n)).1;have:=u b a;omega
end
end Go.Vx
end
