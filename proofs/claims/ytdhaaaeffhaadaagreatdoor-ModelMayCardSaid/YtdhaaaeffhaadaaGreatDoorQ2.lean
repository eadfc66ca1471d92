/- A part of the proof that ModelMay returns true for every input: the machine of values, its soundness, the program and the document as plain functions, the laws. Conditions: those of the given row. -/
import Derived.Test.YtdhaaaeffhaadaaGreatDoorQ1
import Derived.Recover
import Derived.LoopNIn
import Derived.Stop.BytesEq
import Derived.KernelRfl
import Derived.RecoverIn
set_option linter.unusedVariables false
set_option linter.unusedSimpArgs false
noncomputable section
section
namespace Go.Vx
open Go.RowKit Go.Dc
section
variable {S:bL} {K:bQ S} {P:Program} {rr:Option Nat} {o:Oper} {env:aW S} {g:Nat->Option (Ob S)} {nx:Nat} {R:Type} {z:R} {k:AV S->Up S->AH S->Option R}
def m8 (a:Act):List Nat->Env
 |[]=>[]
 |s::r=>(s,a.tmps.getD s undef)::m8 a r
theorem Sd (a:Act) (l:List Nat):Has a.tmps.size (m8 a l) a.defers a:=by
 refine⟨rfl,rfl,?_⟩
 induction l with
 |nil=>intro i v h;simp[m8,Env.get] at h
 |cons s r ih=>
  intro i v h
  simp only[m8,Env.get] at h
  cases hq:Nat.beq s i with
  |true=>
   rw[hq] at h
   have e1:=Nat.eq_of_beq_eq_true hq
   subst e1
   simp only[cond_true,Option.some.injEq] at h
   exact h
  |false=>rw[hq] at h;exact ih i v h
theorem Sc {a:Act} {s:Nat}: ∀ {l:List Nat},s∈l->(m8 a l).get s=some (a.tmps.getD s undef)
 |t::r,h=>by
  simp only[m8,Env.get]
  cases hq:Nat.beq t s with
  |true=>have e1:=Nat.eq_of_beq_eq_true hq;subst e1;rfl
  |false=>
   rcases List.mem_cons.1 h with rfl|h
   ·simp at hq
   ·exact Sc h
theorem Sb {a:Act} {x:Operand} {l:List Nat} (h: ∀s∈slotsOf [x],s∈l):ev (m8 a l) x=some (a.eval x):=by
 cases x with
 |tmp t=>exact Sc (h t (by simp[slotsOf]))
 |const v=>rfl
 |global g=>rfl
 |func f=>rfl
theorem MB {x:Operand}: ∀ {l:List Operand},x∈l-> ∀s∈slotsOf [x],s∈slotsOf l
 |y::r,h,s,hs=>by
  rcases List.mem_cons.1 h with rfl|h
  ·cases x<;>simp[slotsOf] at hs ⊢
   exact .inl hs
  ·have:=MB h s hs
   cases y<;>simp[slotsOf,this]
theorem U5: ∀ {ps:List (Nat×Operand)} {n:Nat} {xs:List Operand},Ds n ps=some xs-> ∀ {E:Env} {f:Operand->Value},(∀x∈xs,ev E x=some (f x))->nY E n ps=some (xs.map f)
 |[],n,xs,h,E,f,hf=>by cases h;rfl
 |(i,x)::r,n,xs,h,E,f,hf=>by
  simp only[Ds] at h
  cases hb:Nat.beq i n<;>rw[hb] at h
  ·cases h
  simp only[cond_true] at h
  split at h
  rotate_left
  ·cases h
  rename_i ys dE
  cases h
  simp only[nY,hb,cond_true,hf x List.mem_cons_self,U5 dE (λy hy=>hf y (List.mem_cons_of_mem _ hy)),List.map_cons]
theorem Sa (hK:cI K P) {A:Pl} {O:List Nat} {w:World} {t:Nat}: ∀ {aqJ:List (aE S)} {ys:List (S.El t)} {vs:List Value},BN K t aqJ=some ys->di A O w aqJ vs->cf (S.ty t) O w (kG vs) ys/\vs.length=ys.length/\ ∀v∈vs,v.cells.size=(S.ty t).n
 |[],ys,vs,h,hr=>by cases h;rw[show vs=[] from hr];exact⟨rfl,rfl,λv h=>by cases h⟩
 |a::r,ys,vs,h,⟨v,MR,hv,h1,h2⟩=>by
  subst hv
  simp only[BN] at h
  split at h
  rotate_left
  ·cases h
  rename_i y hy
  split at h
  rotate_left
  ·cases h
  rename_i ED dE
  cases h
  have eN:=hK.cls A O w t _ y _ hy h1.cells
  obtain⟨k1,k2,k3⟩:=Sa hK dE h2
  refine⟨⟨v.cells.toList,kG MR,by simp[kG],eN,k1⟩,by simp[k2],λu hu=>?_⟩
  rcases List.mem_cons.1 hu with rfl|hu
  ·have:=(S.ty t).len eN;simpa using this
  ·exact k3 u hu
theorem aiI (hK:cI K P) {t n:Nat} {ps:Array (Nat×Operand)} (ak:o.op= .buildSlice t n ps) (h:Lr K env g nx k t n ps.toList=some z):Good K P rr o env g nx k z:=by
 have hc: ∀c,o.op≠ .defer c:=λc=>by rw[ak];simp
 unfold Lr at h
 split at h
 rotate_left
 ·cases h
 rename_i i hi
 split at h
 rotate_left
 ·cases h
 rename_i ie xs dR eE
 split at h
 rotate_left
 ·cases h
 rename_i aqJ has
 split at h
 rotate_left
 ·cases h
 rename_i jL rs lT
 split at h
 rotate_left
 ·cases h
 rename_i ys dE
 cases hb:(Nat.beq i.tag 5&&(Nat.beq ys.length n&&(Nat.beq (S.ty i.e).n ie.size&&(Nat.beq ie.zero.cells.size ie.size&&(Nat.ble (n*ie.size) 16777216&&Nat.ble n 16777216)))))<;>rw[hb] at h
 ·cases h
 simp only[cond_true,Bool.and_eq_true] at h hb
 obtain⟨h5,hlen,bt,hz,dV,jx⟩:=hb
 have bt:=Nat.eq_of_beq_eq_true bt
 refine kb hc h λA O w a he hg hO hG hf=>?_
 have cp:A.pl nx=none:=hf 0 (by simp)
 obtain⟨q1,q2,q3⟩:=sv hK hg (all:=rs) lT (qb he hG has) (λr hr=>hr)
 obtain⟨r1,r2,r3⟩:=Sa hK dE q1
 have hk:=Sm (A:=A) hO q3
 have hn:n=ys.length:=(Nat.eq_of_beq_eq_true hlen).symm
 have qH:n<=maxLen:=by have:=Nat.le_of_ble_eq_true jx;unfold maxLen;omega
 have fi:=pt hk.ob i.e (kG (xs.map a.eval))
 have hL:Dc.Lit (S.ty i.e) i.e (fV A rs O) w w.heap.size n ys (w.alloc (.cells (kG (xs.map a.eval)).toArray i.e)):=⟨⟨kG (xs.map a.eval),fi,r1.tr fi.tr,by rw[r1.len,hn]⟩,hn.symm,qH⟩
 have jw:=hL.own (B:=0) (Nat.zero_le _)
 have J':nx∉rs:=λhr=>by
  obtain⟨Z,hZ⟩:=q3 nx hr
  obtain⟨p,hp,_⟩:=hg.al nx Z hZ
  rw[cp] at hp;cases hp
 refine⟨.slice (some ⟨w.heap.size,0,none⟩) n n,_,_,_,?_,⟨_,Pl.kK A nx (.slice (some ⟨w.heap.size,0,none⟩) n n),rfl,rfl⟩,
  hk.RI (sd (p:= .slice (some ⟨w.heap.size,0,none⟩) n n) hk.ob cp fi.fr fi.tr fi.ob fi.ge jw (λc hc=>by cases hc;rfl)) (λi X hi=>by obtain⟨rfl,_⟩:=dM hi;exact J')⟩
 simp only[execOp,ak,Sem.run_bind]
 have kB:=U5 eE (E:=m8 a (slotsOf xs)) (f:=a.eval) λx hx=>Sb (MB hx)
 rw[Ml hK.Θ (Sd a _) hi (Nat.eq_of_beq_eq_true h5) dR (Nat.eq_of_beq_eq_true hz) kB (λv hv=>(r3 v hv).trans bt) (r2.trans hn.symm) (Nat.le_of_ble_eq_true dV)]
 rfl
theorem aiW (hK:cI K P) {t:Nat} {x y:Operand} (ak:o.op= .makeSlice t x y) (h:Ly K env nx k t x y=some z):Good K P rr o env g nx k z:=by
 have hc: ∀c,o.op≠ .defer c:=λc=>by rw[ak];simp
 unfold Ly at h
 split at h
 rotate_left
 ·cases h
 rename_i i hi
 split at h
 rotate_left
 ·cases h
 rename_i ie dR
 split at h
 rotate_left
 ·cases h
 rename_i n c y0 hx hy bS
 cases hb:(Nat.beq i.tag 5&&(Nat.beq (S.ty i.e).n ie.size&&(Nat.beq ie.zero.cells.size ie.size&&ie.zero.cells.toList.all Value.oneCell')))<;>rw[hb] at h
 ·cases h
 simp only[cond_true,Bool.and_eq_true] at h hb
 obtain⟨h5,bt,hz,h1⟩:=hb
 have hn:=Nat.eq_of_beq_eq_true bt
 have hz:=Nat.eq_of_beq_eq_true hz
 obtain⟨zs,hm,h3⟩:=bind_some h
 refine kb hc h3 λA O w a he hg hO hG hf=>?_
 have cp:A.pl nx=none:=hf 0 (by simp)
 have l4:=hK.Θ.fits dR
 obtain⟨x',jT,hs,qy,sW⟩:=l4.info
 have hr:(S.ty i.e).rep O w ie.zero.cells.toList y0:=hK.cls A O w i.e _ y0 _ bS (xO h1)
 unfold DE at hm
 split at hm
 rotate_left
 ·cases hm
 rename_i qA
 obtain⟨h0,nj,h2,h3'⟩:=qA
 simp only[Option.some.injEq] at hm
 subst hm
 obtain⟨kn,qG⟩:=po he hG hx
 obtain⟨kc,hkc⟩:=po he hG hy
 have hu:=(hK.Θ.fits hi).slice (Nat.eq_of_beq_eq_true h5)
 have bC:=run_make (P:=P) w t i.e x' ie.zero hu jT sW kn kc n c h0 nj (by rw[qy];exact h2) (by omega)
 rw[hs] at bC
 have fi:=pt hO i.e (madeCells ie.zero.cells (c.toNat*ie.size)).toList
 have jw:Dc.Own (S.ty i.e) i.e 0 (w.heap.size::O) (w.alloc (.cells (madeCells ie.zero.cells (c.toNat*ie.size)).toList.toArray i.e)) (.slice (some ⟨w.heap.size,0,none⟩) n.toNat c.toNat) (List.replicate n.toNat y0):=by
  have wC:c.toNat<=maxLen:=by unfold maxLen;omega
  have dd:=(ann hr n.toNat).tr fi.tr
  have Kf:=dd.len
  simp only[List.length_replicate] at Kf
  have hle:n.toNat*ie.size<=c.toNat*ie.size:=Nat.mul_le_mul_right _ (by omega)
  refine⟨⟨_,⟨by rw[Kf];simp,.inr ⟨w.heap.size,c.toNat,madeCells ie.zero.cells (c.toNat*ie.size),by simp,Nat.zero_le _,?_,by simp;omega,wC,by simp[madeCells,hn],?_⟩⟩,dd⟩,λg hg=>by cases hg;exact List.mem_cons_self⟩
  ·have:=fi.bV
   unfold b9 at this
   simpa using this
  ·apply List.ext_getElem?
   intro j
   simp only[List.getElem?_take,List.length_replicate,hn]
   by_cases hj:j<n.toNat*ie.size
   ·rw[if_pos hj,akH _ _ _ (by omega) hz,aiu (by simpa using hz) _ _ hj]
   ·rw[if_neg hj]
    symm
    rw[List.getElem?_eq_none_iff,Kf,hn]
    omega
 refine⟨.slice (some ⟨w.heap.size,0,none⟩) n.toNat c.toNat,_,_,_,?_,⟨_,Pl.kK A nx (.slice (some ⟨w.heap.size,0,none⟩) n.toNat c.toNat),rfl,rfl⟩,
  sd (p:= .slice (some ⟨w.heap.size,0,none⟩) n.toNat c.toNat) hO cp fi.fr fi.tr fi.ob fi.ge jw (λc hc=>by cases hc;rfl)⟩
 simp only[execOp,ak,Sem.run_bind,qG,hkc,bC]
 simp
theorem m_ (hK:cI K P) {A:Pl} {O:List Nat} {w:World} (hg:cC A O w g) {e:Nat} {l:LV S} {xs:List (S.El e)} {u:Value} (h:fh K g e l=some xs) (hr:l.rel A O w [u]):(S.ty e).slice.is (fV A (n3 l) O) w u xs:=by
 have less:Tr O w (fV A (n3 l) O) w:=Tr.less iW
 unfold fh at h
 split at h
 ·rename_i r
  split at h
  rotate_left
  ·cases h
  rename_i e' ys hy
  split at h
  rotate_left
  ·cases h
  rename_i p _
  subst p
  cases h
  obtain⟨v,h1,h2,h3⟩:=hr
  have h2:u=v:=by simpa using h2
  subst h2
  obtain⟨p,hp,hB,hm⟩:=hg.al r _ hy
  rw[h1] at hp
  cases hp
  exact Dc.Own.share hB iW λb hb c6=>(mJ.1 c6).2 r (by simp[n3]) u h1 (lI hb)
 ·rename_i t y
  split at h
  rotate_left
  ·cases h
  rename_i I hI
  split at h
  rotate_left
  ·cases h
  rename_i p _
  subst p
  cases h
  obtain⟨v,h1,h2,h3⟩:=hr
  have h1:u=v:=by simpa using h1
  subst h1
  exact((hK.sl t I hI).2.1 O w u y h2).tr less
 ·cases h
  have:=fq hr
  subst this
  exact j4 _ _ _
 ·cases h
theorem ant {c:Go.Call} {x y:Operand} {ty:Nat} {a:Act} {w w':World} {u v r:Value} (ak:o.op= .call c) (cV:c.callee= .builtin .append) (fA:c.args.toList=[x,y]) (fj:c.argTypes.toList=[ty,ty]) (hx:a.eval x=u) (hy:a.eval y=v)
  (h:(Builtin.append_ #[ty,ty] o.type #[u,v]).run P w= .ok r w'):(execOp a.eval o).run P w= .ok (.value r) w':=by
 refine xW ak cV λcs=>?_
 rw[jb fA,jb fj]
 simp only[builtin,Sem.run_bind]
 have e:(#[x,y].map a.eval)= #[u,v]:=by simp[hx,hy]
 rw[show([x,y]:List Operand).toArray.map a.eval= #[u,v] from e,show([ty,ty]:List Nat).toArray= #[ty,ty] from rfl,h]
 rfl
theorem aiE (hK:cI K P) {ty:Nat} {c:Go.Call} {x y:Operand} (ak:o.op= .call c) (cV:c.callee= .builtin .append) (fA:c.args.toList=[x,y]) (fj:c.argTypes.toList=[ty,ty]) (h:Lo K env g nx k ty x y=some z):Good K P rr o env g nx k z:=by
 have hc: ∀c,o.op≠ .defer c:=λc=>by rw[ak];simp
 unfold Lo at h
 split at h
 rotate_left
 ·cases h
 rename_i i hi
 split at h
 rotate_left
 ·cases h
 rename_i ie dR
 split at h
 rotate_left
 ·cases h
 rename_i lx ly hx hy
 have key: ∀ {l:LV S} {xs ys:List (S.El i.e)} {kl:List Nat},cQ K env x=some l->(∀r∈kl,∃Z,g r=some Z)->(∀(A:Pl) (O:List Nat) (w:World) (u:Value),cC A O w g->l.rel A O w [u]->Dc.Own (S.ty i.e) i.e 0 (fV A kl O) w u xs/\u.oneCell'=true)->
   (∀(A:Pl) (O:List Nat) (w:World) (u:Value),cC A O w g->ly.rel A O w [u]->(S.ty i.e).slice.is (fV A kl O) w u ys)->
   ∀ {ef0:Up S},(∀(A:Pl) (O:List Nat) (w:World) (u:Value),cC A O w g->l.rel A O w [u]->(∀i X,(i,X)∈ef0->X=none/\A.pl i=some u/\ ∃Z,g i=some Z)/\((∃i,(i,none)∈ef0)\/u.ownBlock=none))->(∀i X,(i,X)∈ef0->i∉kl)->
   (Nat.beq i.tag 5&&(Nat.beq (S.ty i.e).n ie.size&&(Nat.beq ie.zero.cells.size ie.size&&(Nat.blt 0 ie.size&&Nat.blt 0 ie.bytes))))=true->
   ∀ {up:Up S},up=kF kl++ef0->((app ie.bytes xs ys).bind λzs=>k (.s (.one (.own nx))) up [some (.row i.e zs)])=some z->Good K P rr o env g nx k z:=by
  intro l xs ys kl hx iT jw dE ef0 kg ajp hb up hup h
  simp only[Bool.and_eq_true] at hb
  obtain⟨h5,bt,hz,lZ,CZ⟩:=hb
  obtain⟨zs,fT,h3⟩:=bind_some h
  obtain⟨hlen,rfl⟩:=BF fT
  subst hup
  refine kb hc h3 λA O w a he hg hO hG hf=>?_
  have cp:A.pl nx=none:=hf 0 (by simp)
  have hk:=Sm (A:=A) (w:=w) hO iT
  obtain⟨o1,o2⟩:=jw A O w _ hg (cR he hG hx)
  have o3:=dE A O w _ hg (cR he hG hy)
  obtain⟨v',w',O',bC,iu⟩:=Mk (P:=P) (ty:=o.type) hK.Θ hi (Nat.eq_of_beq_eq_true h5) dR (Nat.eq_of_beq_eq_true bt) (Nat.blt_eq.mp lZ) (Nat.eq_of_beq_eq_true hz) (Nat.zero_le _) hk.ob o1 o3 hlen (Nat.blt_eq.mp CZ)
  obtain⟨e1,e2⟩:=kg A O w _ hg (cR he hG hx)
  have Kn:v'.oneCell'=true:=by
   rcases l7 iu.own with⟨rfl,_⟩|⟨_,_,rfl⟩<;>rfl
  have ga:=hk.RI (ah5 (g:=g) hk.ob cp e1 e2 iu) (λi X hi=>by
   rcases List.mem_append.1 hi with hi|hi
   ·exact ajp i X hi
   ·obtain⟨rfl,_⟩:=dM hi
    intro hr
    obtain⟨Z,hZ⟩:=iT _ hr
    obtain⟨p,hp,_⟩:=hg.al _ Z hZ
    rw[cp] at hp;cases hp)
  refine⟨v',w',_,O',ant ak cV fA fj rfl rfl bC,⟨v',Pl.kK A nx v',rfl,Kn⟩,?_⟩
  rw[<-List.append_assoc] at ga
  exact ga
 have W_: ∀ {r:Nat} {xs:List (S.El i.e)} {kl:List Nat},fh K g i.e (.own r)=some xs->r∉kl->(∀q∈kl,∃Z,g q=some Z)-> ∀(A:Pl) (O:List Nat) (w:World) (u:Value),cC A O w g->(LV.own r:LV S).rel A O w [u]->Dc.Own (S.ty i.e) i.e 0 (fV A kl O) w u xs/\u.oneCell'=true:=by
  intro r xs kl eE hr iT A O w u hg iB
  unfold fh at eE
  simp only at eE
  split at eE
  rotate_left
  ·cases eE
  rename_i e' ys hy
  split at eE
  rotate_left
  ·cases eE
  rename_i p _
  subst p
  cases eE
  obtain⟨v,h1,h2,h3⟩:=iB
  have h2:u=v:=by simpa using h2
  subst h2
  obtain⟨p,hp,hB,hm⟩:=hg.al r _ hy
  rw[h1] at hp
  cases hp
  refine⟨Dc.Own.keep hB (Tr.less iW) λb hb=>⟨rfl,mJ.2 ⟨hB.mem b hb,λq hq p hp b6=>?_⟩⟩,h3⟩
  obtain⟨Z,hZ⟩:=iT q hq
  exact hg.dj r q _ Z u p b (λe=>hr (e▸hq)) hy hZ h1 hp (lI hb) b6
 have live: ∀ {r:Nat} {xs:List (S.El i.e)},fh K g i.e (.own r)=some xs-> ∃Z,g r=some Z:=by
  intro r xs h
  unfold fh at h
  simp only at h
  split at h
  ·rename_i e ys hy;exact⟨_,hy⟩
  ·cases h
 have Sp: ∀ {r:Nat} {xs:List (S.El i.e)},fh K g i.e (.own r)=some xs-> ∀(A:Pl) (O:List Nat) (w:World) (u:Value),cC A O w g->(LV.own r:LV S).rel A O w [u]->(∀j X,(j,X)∈([(r,none)]:Up S)->X=none/\A.pl j=some u/\ ∃Z,g j=some Z)/\((∃j,(j,none)∈([(r,none)]:Up S))\/u.ownBlock=none):=by
  intro r xs eE A O w u hg ⟨v,h1,h2,h3⟩
  have h2:u=v:=by simpa using h2
  subst h2
  refine⟨λj X hj=>?_,.inl ⟨r,List.mem_cons_self⟩⟩
  obtain⟨rfl,rfl⟩:=dM hj
  exact⟨rfl,h1,live eE⟩
 split at h
 ·rename_i r
  split at h
  ·rename_i r'
   cases hq:Nat.beq r r'<;>rw[hq] at h
   ·simp only[cond_false] at h
    have aV:r≠r':=λe=>by subst e;simp at hq
    split at h
    rotate_left
    ·cases h
    rename_i xs ys eE dE
    cases hb:(Nat.beq i.tag 5&&(Nat.beq (S.ty i.e).n ie.size&&(Nat.beq ie.zero.cells.size ie.size&&(Nat.blt 0 ie.size&&Nat.blt 0 ie.bytes))))<;>rw[hb] at h
    ·cases h
    refine key (kl:=[r']) hx (λq hq=>by simp at hq;subst hq;exact live dE) (W_ eE (by simpa using aV) (λq hq=>by simp at hq;subst hq;exact live dE)) (λA O w u hg hr=>?_) (Sp eE) (λj X hj=>by obtain⟨rfl,_⟩:=dM hj;simpa using aV) hb rfl h
    exact m_ hK hg dE hr
   ·cases h
  ·rename_i iU
   split at h
   rotate_left
   ·cases h
   rename_i xs ys eE dE
   cases hb:(Nat.beq i.tag 5&&(Nat.beq (S.ty i.e).n ie.size&&(Nat.beq ie.zero.cells.size ie.size&&(Nat.blt 0 ie.size&&Nat.blt 0 ie.bytes))))<;>rw[hb] at h
   ·cases h
   have lW:n3 ly=[]:=by cases ly<;>first|rfl|exact absurd rfl (iU _)
   refine key (kl:=[]) hx (λq hq=>by cases hq) (W_ eE (by simp) (λq hq=>by cases hq)) (λA O w u hg hr=>?_) (Sp eE) (λj X hj=>by simp) hb rfl h
   have:=m_ hK hg dE hr
   rw[lW] at this
   exact this
 ·split at h
  rotate_left
  ·cases h
  rename_i ys dE
  cases hb:(Nat.beq i.tag 5&&(Nat.beq (S.ty i.e).n ie.size&&(Nat.beq ie.zero.cells.size ie.size&&(Nat.blt 0 ie.size&&Nat.blt 0 ie.bytes))))<;>rw[hb] at h
  ·cases h
  have hl: ∀q∈n3 ly,∃Z,g q=some Z:=by
   intro q hq
   cases ly<;>simp[n3] at hq
   subst hq
   exact live dE
  refine key (kl:=n3 ly) (xs:=[]) (ef0:=[]) hx hl (λA O w u hg hr=>?_) (λA O w u hg hr=>m_ hK hg dE hr) (λA O w u hg hr=>⟨(λi X h=>nomatch h),.inr ?_⟩) (λj X hj=>nomatch hj) hb (by simp) h
  ·rw[fq hr];exact⟨Dc.Own.kH,rfl⟩
  ·rw[fq hr];rfl
 ·cases h
end
section
variable {S:bL} {K:bQ S} {P:Program} {rr:Option Nat} {o:Oper} {env:aW S} {g:Nat->Option (Ob S)} {nx:Nat} {R:Type} {z:R} {k:AV S->Up S->AH S->Option R}
theorem KM (hK:cI K P) {O:List Nat} {w:World} {e:Nat} {kk:IntKind}: ∀ {ys:List (S.El e)} {zs:List Int} {cs:List Value},mF K e kk ys=some zs->cf (S.ty e) O w cs ys->cs=zs.map (Value.int kk)
 |[],zs,cs,h,hr=>by cases h;exact hr
 |y::ys,zs,cs,h,⟨c,r,e1,h1,h2⟩=>by
  simp only[mF] at h
  split at h
  ·rename_i k x hx
   cases hb:sameKind kk k<;>rw[hb] at h
   ·cases h
   simp only[cond_true] at h
   split at h
   ·rename_i zs' hz
    cases h
    have q:=hK.aa ⟨λ_=>none,none⟩ O w e y c h1
    rw[hx] at q
    obtain⟨y1,z1,q1,q2,q3⟩:=q
    rw[e1,q1,q2.1,show z1=[] from q3,KM hK hz h2,<-gC hb]
    rfl
   ·cases h
  ·cases h
theorem alR {vs us:List Value} {off n:Nat} (h1:us.length<=n) (h2:off+n<=vs.length):putAt vs off (us++((vs.drop off).take n).drop us.length)=putAt vs off us:=by
 unfold putAt
 rw[List.append_assoc,List.append_assoc,List.append_assoc]
 congr 2
 have hl:(us++List.drop us.length (List.take n (List.drop off vs))).length=n:=by
  rw[List.length_append,List.length_drop,List.length_take,List.length_drop]
  omega
 rw[hl]
 have e:List.drop (off+us.length) vs=List.drop us.length (List.drop off vs):=by rw[List.drop_drop]
 rw[e,<-List.drop_drop]
 conv=>rhs;rw[<-List.take_append_drop n (List.drop off vs)]
 rw[List.drop_append,List.length_take,List.length_drop]
 have:us.length-min n (vs.length-off)=0:=by omega
 rw[this,List.drop_zero]
theorem aiK (hK:cI K P) {ty gO:Nat} {c:Go.Call} {x y:Operand} (ak:o.op= .call c) (cV:c.callee= .builtin .copy) (fA:c.args.toList=[x,y]) (fj:c.argTypes.toList=[ty,gO]) {i ie:TI} (hi:K.Θ.get ty=some i) (dR:K.Θ.get i.e=some ie) {b off n:Nat} {ly:LV S} (hx:cQ K env x=some (.gV b off n)) (hy:cQ K env y=some ly)
  (h:Lt K g k i ie b off n ly=some z):Good K P rr o env g nx k z:=by
 have hc: ∀c,o.op≠ .defer c:=λc=>by rw[ak];simp
 unfold Lt at h
 split at h
 rotate_left
 ·cases h
 rename_i tb cs hb
 split at h
 rotate_left
 ·cases h
 rename_i ls eC
 split at h
 rotate_left
 ·cases h
 rename_i kk gs kj
 split at h
 rotate_left
 ·cases h
 rename_i zs fT
 split at h
 rotate_left
 ·cases h
 rename_i cm qB
 cases hq:(Nat.beq i.tag 5&&(Nat.beq (S.ty i.e).n ie.size&&(Nat.beq ie.size 1&&Nat.beq gs.length n)))<;>rw[hq] at h
 ·cases h
 simp only[cond_true,Bool.and_eq_true] at h hq
 have h5:=Nat.eq_of_beq_eq_true hq.1
 have hn:=Nat.eq_of_beq_eq_true hq.2.1
 have h1:=Nat.eq_of_beq_eq_true hq.2.2.1
 have wJ:=Nat.eq_of_beq_eq_true hq.2.2.2
 refine kb hc h λA O w a he hg hO hG hf=>?_
 obtain⟨bV,q1,q2⟩:=cR he hG hx
 have q2:a.eval x= .slice (some ⟨bV,off,none⟩) n n:=by simpa using q2
 obtain⟨p,hp,⟨ady,vs,p1,p2,p3⟩,hm⟩:=hg.al b _ hb
 rw[q1] at hp
 cases hp
 cases p1
 obtain⟨r1,r2⟩:=j9 eC p3
 have hold:=vm kj r1
 have iC:=(hK.Θ.fits hi).slice h5
 have cd:=hK.Θ.fits dR
 obtain⟨us,eD⟩: ∃us,us=(zs.take n).map (Value.int kk):=⟨_,rfl⟩
 have iV:us.length=Nat.min zs.length n:=by rw[eD,List.length_map,List.length_take];exact Nat.min_comm _ _
 have aj1:us.length<=n:=by rw[iV];exact Nat.min_le_right _ _
 have aj4: ∀u∈us,u.oneCell'=true:=λu hu=>by
  rw[eD] at hu
  obtain⟨x,_,rfl⟩:=List.mem_map.1 hu
  rfl
 have fS:=run_storeCells_at (P:=P) bV off tb us 0 vs.toArray w p2 (by simp;omega) aj4
 have ajY:(vs.toArray.toList.take (off+0)++us++vs.toArray.toList.drop (off+0+us.length)).toArray=(putAt vs off us).toArray:=by simp[putAt]
 rw[ajY] at fS
 have bC:(Builtin.copy_ #[ty,gO] o.type #[.slice (some ⟨bV,off,none⟩) n n,a.eval y]).run P w= .ok (goInt (Nat.min zs.length n)) (w.setRow bV (putAt vs off us).toArray):=by
  have UX:=cR he hG hy
  unfold Eo at fT
  split at fT
  ·rename_i s
   cases hk:(sameKind kk .u8&&Nat.ble s.size n)<;>rw[hk] at fT
   ·cases fT
   simp only[cond_true,Option.some.injEq] at fT
   simp only[Bool.and_eq_true] at hk
   have wO:=gC hk.1
   have fP:=Nat.le_of_ble_eq_true hk.2
   have xj:a.eval y= .string s:=fq (S:=S) (A:=A) (O:=O) (w:=w) UX
   have gJ:zs.length=s.size:=by rw[<-fT];simp
   obtain⟨xi,hxi,bt,_,_⟩:=cd.info
   have bC:=Lib.run_copy_row_string (P:=P) w ty gO o.type i.e bV off n n s vs.toArray tb iC (by rw[hxi,Option.map_some,bt,h1]) p2 fP (by simp;omega)
   have aj3:us=Lib.byteCells s.data.toList:=by
    rw[eD,<-fT,List.take_of_length_le (by simp;exact fP),wO]
    simp[Lib.byteCells]
   rw[xj,bC,gJ,show Nat.min s.size n=s.size from Nat.min_eq_left fP]
   congr 2
   have kC:us.length=s.size:=by rw[iV,gJ];exact Nat.min_eq_left fP
   simp[putAt,<-aj3,kC]
  ·split at fT
   rotate_left
   ·cases fT
   rename_i ys dE
   have hu:=m_ hK hg dE UX
   obtain⟨A',c',hv,hyc,_⟩:=fm hu
   rw[hv]
   rcases A' with _|ad
   ·have lW:ys=[]:=pL (by rw[hv] at hu;exact hu)
    subst lW
    cases fT
    have Dh:us=[]:=by rw[eD];simp
    rw[Dh] at fS ⊢
    have:putAt vs off []=vs:=by simp[putAt]
    rw[this]
    have ajV:w.setRow bV vs.toArray=w:=setRow_self w bV vs.toArray tb (0,0) p2
    rw[ajV]
    simp[Builtin.copy_,run_underlying iC,Builtin.lenOf,Builtin.firstCells,fe cd,storeCells]
   ·rw[hv] at hu
    obtain⟨_,ds,gZ,kV⟩:=xZ hu
    have aX:=KM hK fT gZ
    have gJ:zs.length=ys.length:=by
     have nj:=gZ.len
     rw[hn,h1,Nat.mul_one,aX,List.length_map] at nj
     exact nj
    obtain⟨m,hm⟩: ∃m,m=Nat.min ys.length n:=⟨_,rfl⟩
    have aj5:us=ds.take m:=by
     rw[eD,aX,<-List.map_take]
     congr 1
     rw[hm,<-gJ]
     rcases Nat.le_total zs.length n with h|h
     ·rw[show Nat.min zs.length n=zs.length from Nat.min_eq_left h,List.take_of_length_le h,List.take_of_length_le (Nat.le_refl _)]
     ·rw[show Nat.min zs.length n=n from Nat.min_eq_right h]
    have nz: ∀j v,us[j]? =some v->w.cell? (ad.add j)=some v:=λj v hj=>by
     rw[aj5,List.getElem?_take] at hj
     split at hj
     ·exact kV j v hj
     ·cases hj
    have lV:=run_loadCells_list (P:=P) w ad _ nz
    have hum:us.length=m:=by rw[iV,hm,gJ]
    rw[hum] at lV
    simp only[Builtin.copy_,Sem.run_bind,List.getElem?_toArray,List.getElem?_cons_zero,List.getElem?_cons_succ,run_underlying iC,Result.andThen_ok,Builtin.lenOf,Sem.run_pure,<-hm,fe cd,Builtin.firstCells]
    rw[h1,Nat.mul_one,lV]
    simp only[Result.andThen_ok,fS,Sem.run_bind,Sem.run_pure]
    rw[gJ,<-hm]
 have aji:b9 (w.setRow bV (putAt vs off us).toArray) bV tb (putAt vs off us):=by
  unfold b9
  rw[setRow_heap w bV _ _ _ _ p2]
 have hF:Fr [bV] w (w.setRow bV (putAt vs off us).toArray):=od p2
 have iB:bT A O (w.setRow bV (putAt vs off us).toArray) cm (putAt vs off us):=by
  have hcp:((cU gs zs).length=n):=by
   simp only[cU,List.length_append,List.length_take,List.length_drop]
   omega
  have nj:=(mO qB p3 ⟨(cU gs zs).map (Value.int kk),[],(List.append_nil _).symm,⟨hcp,rfl⟩,rfl⟩).1
  have e:(cU gs zs).map (Value.int kk)=us++((vs.drop off).take n).drop us.length:=by
   rw[hold]
   show _=us++List.drop us.length (gs.map (Value.int kk))
   rw[iV,cU,List.map_append,wJ,eD,<-List.map_drop]
   congr 2
   rcases Nat.le_total zs.length n with h|h
   ·rw[show Nat.min zs.length n=zs.length from Nat.min_eq_left h]
   ·rw[show Nat.min zs.length n=n from Nat.min_eq_right h,List.drop_of_length_le (by omega),List.drop_of_length_le (by omega)]
  rw[e,alR aj1 r2] at nj
  exact pH (hF.tr (kI (hm bV rfl))) (Pl.le.refl A) nj
 refine⟨_,_,A,O,?_,⟨rfl,rfl⟩,by simpa[news] using se (X:= .box tb cm) hO (hm bV rfl) hb q1 rfl hF ⟨bV,putAt vs off us,rfl,aji,iB⟩⟩
 refine xW ak cV λje=>?_
 rw[jb fA,jb fj]
 simp only[builtin,Sem.run_bind]
 have e:(([x,y]:List Operand).toArray.map a.eval)= #[.slice (some ⟨bV,off,none⟩) n n,a.eval y]:=by simp[q2]
 rw[e,show([ty,gO]:List Nat).toArray= #[ty,gO] from rfl,bC]
 rfl
theorem aiL (hK:cI K P) {ty gO:Nat} {c:Go.Call} {x y:Operand} (ak:o.op= .call c) (cV:c.callee= .builtin .copy) (fA:c.args.toList=[x,y]) (fj:c.argTypes.toList=[ty,gO]) {i ie:TI} (hi:K.Θ.get ty=some i) (dR:K.Θ.get i.e=some ie) {r r':Nat} (hx:cQ K env x=some (.own r)) (hy:cQ K env y=some (.own r'))
  {xs ys:List (S.El i.e)} (hr:g r=some (.row i.e xs)) (dE:fh K g i.e (.own r')=some ys) (hb:Nat.beq i.tag 5=true/\Nat.beq (S.ty i.e).n ie.size=true) (h:k (.s (.one (.v (goInt (Nat.min ys.length xs.length))))) [(r,some (.row i.e (cU xs ys)))] []=some z):Good K P rr o env g nx k z:=by
 have hc: ∀c,o.op≠ .defer c:=λc=>by rw[ak];simp
 refine kb hc h λA O w a he hg hO hG hf=>?_
 obtain⟨v,h1,h2,h3⟩:=cR he hG hx
 have h2:a.eval x=v:=by simpa using h2
 obtain⟨p,hp,hB,hm⟩:=hg.al r _ hr
 rw[h1] at hp
 cases hp
 have ajX:Dc.Src (S.ty i.e) O w (a.eval y) ys:=by
  obtain⟨u,u1,u2,u3⟩:=cR he hG hy
  have u2:a.eval y=u:=by simpa using u2
  rw[u2]
  simp only[fh] at dE
  split at dE
  rotate_left
  ·cases dE
  rename_i e' ED dd
  split at dE
  rotate_left
  ·cases dE
  rename_i q _
  subst q
  cases dE
  obtain⟨p',dx,oO,_⟩:=hg.al r' _ dd
  rw[u1] at dx
  cases dx
  have oO:Dc.Own (S.ty i.e) i.e 0 O w u ED:=oO
  rcases l7 oO with⟨e1,e2⟩|⟨b,cc,e1⟩
  ·subst e1;subst e2;exact .inl ⟨0,rfl,rfl⟩
  ·subst e1
   obtain⟨cs,cur,q1,q2,q3,_,_,_,_,_⟩:=DS oO
   refine .inr ⟨⟨b,0,none⟩,cc,cs,rfl,q3,λj v hj=>?_⟩
   have JZ:cur.toList[j]? =some v:=by
    rw[<-q2,List.getElem?_take] at hj
    split at hj
    ·exact hj
    ·cases hj
   have ead:(⟨b,0,none⟩:Addr).add j=⟨b,j,none⟩:=by unfold Addr.add;split<;>simp_all
   rw[ead]
   have Jt:b9 w b i.e cur.toList:=by unfold b9;simpa using q1
   rw[Jt.cell]
   exact JZ
 obtain⟨w',bC,iu⟩:=X3 (P:=P) (t':=gO) (ty:=o.type) hK.Θ hi (Nat.eq_of_beq_eq_true hb.1) dR (Nat.eq_of_beq_eq_true hb.2) hO hB ajX
 refine⟨_,w',A,O,?_,⟨rfl,rfl⟩,So hO hr h1 iu.tr iu.ob (λq hq aV=>iu.fr q hq λe=>aV (lI e)) iu.own hm⟩
 refine xW ak cV λcs=>?_
 rw[jb fA,jb fj]
 simp only[builtin,Sem.run_bind]
 have e:(([x,y]:List Operand).toArray.map a.eval)= #[v,a.eval y]:=by simp[h2]
 rw[e,show([ty,gO]:List Nat).toArray= #[ty,gO] from rfl,bC]
 rfl
theorem aiJ (hK:cI K P) {ty gO:Nat} {c:Go.Call} {x y:Operand} (ak:o.op= .call c) (cV:c.callee= .builtin .copy) (fA:c.args.toList=[x,y]) (fj:c.argTypes.toList=[ty,gO]) (h:Ls K env g k ty x y=some z):Good K P rr o env g nx k z:=by
 have hc: ∀c,o.op≠ .defer c:=λc=>by rw[ak];simp
 unfold Ls at h
 split at h
 rotate_left
 ·cases h
 rename_i i hi
 split at h
 rotate_left
 ·cases h
 rename_i ie dR
 split at h
 ·rename_i b off n ly hx hy
  exact aiK hK ak cV fA fj hi dR hx hy h
 rotate_left
 ·rename_i r r' hx hy
  cases aV:Nat.beq r r'<;>rw[aV] at h
  rotate_left
  ·cases h
  simp only[cond_false] at h
  split at h
  rotate_left
  ·cases h
  rename_i e xs ys hr dE
  split at h
  rotate_left
  ·cases h
  rename_i p _
  subst p
  cases hb:(Nat.beq i.tag 5&&Nat.beq (S.ty i.e).n ie.size)<;>rw[hb] at h
  ·cases h
  simp only[cond_true,Bool.and_eq_true] at h hb
  exact aiL hK ak cV fA fj hi dR hx hy hr dE hb h
 ·cases h
 rename_i r t ys hx hy
 split at h
 rotate_left
 ·cases h
 rename_i e xs ED hr dE
 split at h
 rotate_left
 ·cases h
 rename_i p _
 subst p
 cases hb:(Nat.beq i.tag 5&&Nat.beq (S.ty i.e).n ie.size)<;>rw[hb] at h
 ·cases h
 simp only[cond_true,Bool.and_eq_true] at h hb
 refine kb hc h λA O w a he hg hO hG hf=>?_
 obtain⟨v,h1,h2,h3⟩:=cR he hG hx
 have h2:a.eval x=v:=by simpa using h2
 obtain⟨p,hp,hB,hm⟩:=hg.al r _ hr
 rw[h1] at hp
 cases hp
 have hu:=m_ hK hg dE (cR he hG hy)
 have hu:(S.ty i.e).slice.is O w (a.eval y) ED:=hu.tr ⟨rfl,rfl,rfl,Nat.le_refl _,λk hk ho=>⟨λc6=>ho (mJ.2 ⟨c6,λr hr=>by cases hr⟩),rfl⟩⟩
 obtain⟨w',bC,iu⟩:=anw (P:=P) (t':=gO) (ty:=o.type) hK.Θ hi (Nat.eq_of_beq_eq_true hb.1) dR (Nat.eq_of_beq_eq_true hb.2) hO hB hu
 refine⟨_,w',A,O,?_,⟨rfl,rfl⟩,So hO hr h1 iu.tr iu.ob (λq hq aV=>iu.fr q hq λe=>aV (lI e)) iu.own hm⟩
 refine xW ak cV λcs=>?_
 rw[jb fA,jb fj]
 simp only[builtin,Sem.run_bind]
 have e:(([x,y]:List Operand).toArray.map a.eval)= #[v,a.eval y]:=by simp[h2]
 rw[e,show([ty,gO]:List Nat).toArray= #[ty,gO] from rfl,bC]
 rfl
theorem To (hK:cI K P) {t:Nat} {x y q:Operand} (ak:o.op= .mapUpdate t x y q\/o.op= .insert t x y q) (h:DL K env g k t x y q=some z):Good K P rr o env g nx k z:=by
 have hc: ∀c,o.op≠ .defer c:=λc=>by rcases ak with ak|ak<;>rw[ak]<;>simp
 unfold DL at h
 split at h
 rotate_left
 ·cases h
 rename_i i b ky j kz u hi hx hy hq
 split at h
 rotate_left
 ·cases h
 rename_i ik kk kv m wN hb
 cases l3:(Nat.beq i.tag 7&&(Nat.beq ik.tag 2&&(sameKind (Dc.noKind ik.k) kk&&(sameKind ky kk&&sameKind kz kv))))<;>rw[l3] at h
 ·cases h
 simp only[cond_true] at h
 simp only[Bool.and_eq_true] at l3
 obtain⟨h7,h2,h3,h4,h5⟩:=l3
 have e4:=gC h4
 have e5:=gC h5
 subst e4;subst e5
 refine Iy hc h λA O w a he hg hO hG=>?_
 obtain⟨m',hA,hv⟩:=cR he hG hx
 obtain⟨p,hp,⟨m2,rfl,hM⟩,hm⟩:=hg.al b _ hb
 rw[hA] at hp
 cases hp
 have hv:a.eval x= .map (some m'):=by simpa using hv
 have nQ:a.eval y= .int ky j:=fq (S:=S) (A:=A) (O:=O) (w:=w) (eR he hG hy)
 have l3:a.eval q= .int kz u:=fq (S:=S) (A:=A) (O:=O) (w:=w) (eR he hG hq)
 obtain⟨w',bC,hM',hF⟩:=anL (P:=P) hK.Θ hi (Nat.eq_of_beq_eq_true h7) wN (Nat.eq_of_beq_eq_true h2) (gC h3) hM j u
 refine⟨w',A,O,?_,se hO (hm m' rfl) hb hA rfl hF ⟨m',rfl,hM'⟩⟩
 unfold execOp
 rcases ak with ak|ak<;>rw[ak]<;>simp only[Sem.run_bind,hv,nQ,l3,bC]<;>rfl
theorem Yd {t:Nat} {x y:Operand} {i:TI} {a:Act} {w:World} {b off tb:Nat} {cs:List Value} (ak:o.op= .store t x y) (h:i.fits P t) (hx:a.eval x= .pointer (some ⟨b,off,none⟩)) (hb:b9 w b tb cs) (hv:(a.eval y).cells.size=i.size) (h1: ∀u∈(a.eval y).cells.toList,u.oneCell'=true) (hl:off+i.size<=cs.length):
  ∃w',(execOp a.eval o).run P w= .ok .skip w'/\b9 w' b tb (putAt cs off (a.eval y).cells.toList)/\Fr [b] w w':=by
 obtain⟨w',h2,h3,h4⟩:=Ye h hb hv h1 hl
 refine⟨w',?_,h3,h4⟩
 unfold execOp
 rw[ak]
 simp only[Sem.run_bind,hx,h2]
 rfl
theorem XR {α:Type} {T:Ty α} {O:List Nat} {w:World}: ∀ {xs:List α} {cs:List Value} {j:Nat} {x y:α} {us:List Value} {off:Nat},cf T O w cs xs->xs[j]? =some x->off+us.length<=T.n->
  (∀c,T.rep O w c x->(cs.drop (j*T.n)).take T.n=c->T.rep O w (putAt c off us) y)->cf T O w (putAt cs (j*T.n+off) us) (xs.set j y)
 |[],cs,j,x,y,us,off,h,hj,hl,hp=>by simp at hj
 |q::xs,cs,0,x,y,us,off,⟨c,r,hc,h1,h2⟩,hj,hl,hp=>by
  subst hc
  simp at hj
  subst hj
  have hlen:=T.len h1
  rw[Nat.zero_mul,Nat.zero_add,xK (by omega)]
  exact⟨_,r,rfl,hp c h1 (by simp[<-hlen]),h2⟩
 |q::xs,cs,j+1,x,y,us,off,⟨c,r,hc,h1,h2⟩,hj,hl,hp=>by
  subst hc
  have hlen:=T.len h1
  have ih:=XR (j:=j) h2 (by simpa using hj) hl (λc' kd e=>hp c' kd (by
   rw[<-e,Nat.succ_mul,List.drop_append,List.drop_eq_nil_of_le (by omega),hlen]
   simp))
  rw[tw hlen (by rw[Nat.succ_mul];omega)]
  refine⟨c,_,rfl,h1,?_⟩
  have e:(j+1)*T.n+off-T.n=j*T.n+off:=by rw[Nat.succ_mul];omega
  rw[e]
  exact ih
theorem DZ {vs us:List Value} {q:Nat} (h:q+us.length<=vs.length):(putAt vs q us).length=vs.length:=by
 unfold putAt;simp;omega
theorem alP {x y c us:List Value} {jj:Nat} (h2:jj+us.length<=y.length):putAt (x++(y++c)) x.length (putAt y jj us)=putAt (x++(y++c)) (x.length+jj) us:=by
 have hl:=DZ h2
 rw[tw rfl (Nat.le_refl _),tw rfl (Nat.le_add_right _ _),Nat.sub_self,Nat.add_sub_cancel_left,xK h2]
 have:=DY (ys:=y) (zs:=c) (us:=putAt y jj us) (vs:=[]) hl
 rw[List.append_nil] at this
 rw[this,D2]
theorem Xn {vs us:List Value} {q n jj:Nat} (h:q+n<=vs.length) (h2:jj+us.length<=n):putAt vs q (putAt ((vs.drop q).take n) jj us)=putAt vs (q+jj) us:=by
 have e:vs=vs.take q++((vs.drop q).take n++vs.drop (q+n)):=by
  rw[<-List.drop_drop,List.take_append_drop,List.take_append_drop]
 have l1:(vs.take q).length=q:=by rw[List.length_take];omega
 have l2:((vs.drop q).take n).length=n:=by rw[List.length_take,List.length_drop];omega
 have:=alP (x:=vs.take q) (y:=(vs.drop q).take n) (c:=vs.drop (q+n)) (us:=us) (jj:=jj) (by omega)
 rw[<-e,l1] at this
 exact this
theorem alS {cur us:List Value} {p L:Nat} (h:p+us.length<=L) (hL:L<=cur.length):(putAt cur p us).take L=putAt (cur.take L) p us:=by
 have l1:(cur.take L).length=L:=by rw[List.length_take];omega
 conv=>lhs;rw[<-List.take_append_drop L cur]
 rw[xK (by omega),List.take_append_of_le_length (by rw[DZ (by omega)];omega),List.take_of_length_le (by rw[DZ (by omega)];omega)]
theorem ai2 (hK:cI K P) {t:Nat} {x y:Operand} (ak:o.op= .store t x y) (h:LA K env g k t x y=some z):Good K P rr o env g nx k z:=by
 have hc: ∀c,o.op≠ .defer c:=λc=>by rw[ak];simp
 unfold LA at h
 split at h
 rotate_left
 ·cases h
 rename_i i l b hi hx hy
 cases bt:Nat.beq (eX b.cells) i.size<;>rw[bt] at h
 ·cases h
 simp only[cond_true] at h
 have bt:=Nat.eq_of_beq_eq_true bt
 have val: ∀ {A:Pl} {O:List Nat} {w:World} {a:Act},dw A O w env a->dq K O w->bT A O w b.cells (a.eval y).cells.toList/\(a.eval y).cells.size=i.size/\ ∀u∈(a.eval y).cells.toList,u.oneCell'=true:=by
  intro A O w a he hG
  have h1:=aE.rel.cells (eR he hG hy)
  have h2:=j2 h1
  exact⟨h1,by rw[<-bt,<-h2];simp,XN h1⟩
 have box: ∀ {j q:Nat} {cs cm ns:List (LV S)} {tb:Nat},g j=some (.box tb cs)->fl cs q ns=some cm->k (.aY []) [(j,some (.box tb cm))] []=some z->
   (∀(A:Pl) (O:List Nat) (w:World) (a:Act),dw A O w env a->dq K O w-> ∃m off,A.pl j=some (.pointer (some ⟨m,0,none⟩))/\a.eval x= .pointer (some ⟨m,off,none⟩)/\ ∀vs,bT A O w cs vs-> ∃us,bT A O w ns us/\putAt vs q us=putAt vs off (a.eval y).cells.toList/\(q+us.length<=vs.length->off+i.size<=vs.length))->Good K P rr o env g nx k z:=by
  intro j q cs cm ns tb hj eM hk ajs
  refine Iy hc hk λA O w a he hg hO hG=>?_
  obtain⟨m,off,h1,h2,h3⟩:=ajs A O w a he hG
  obtain⟨p,hp,⟨m2,vs,rfl,hB,hr⟩,hm⟩:=hg.al j _ hj
  rw[h1] at hp
  cases hp
  obtain⟨us,h4,h5,h6⟩:=h3 vs hr
  obtain⟨r1,r2⟩:=mO eM hr h4
  obtain⟨v1,v2,v3⟩:=val he hG
  obtain⟨w',bC,oO,hF⟩:=Yd ak (hK.Θ.fits hi) h2 hB v2 v3 (h6 r2)
  refine⟨w',A,O,bC,se hO (hm m rfl) hj h1 rfl hF ⟨m,_,rfl,oO,?_⟩⟩
  rw[<-h5]
  exact pH (hF.tr (kI (hm m rfl))) (Pl.le.refl A) r1
 split at h
 ·rename_i j q
  split at h
  rotate_left
  ·cases h
  rename_i tb cs hj
  split at h
  rotate_left
  ·cases h
  rename_i cm eM
  refine box hj eM h λA O w a he hG=>?_
  obtain⟨m,h1,h2⟩:=cR he hG hx
  obtain⟨v1,v2,v3⟩:=val he hG
  refine⟨m,q,h1,by simpa using h2,λvs ej=>⟨_,v1,rfl,λhl=>?_⟩⟩
  rw[<-v2];simpa using hl
 ·rename_i j q n jj
  split at h
  rotate_left
  ·cases h
  rename_i tb cs hj
  split at h
  rotate_left
  ·cases h
  rename_i ls eC
  split at h
  ·rename_i kk gs k' v kj _
   split at h
   rotate_left
   ·cases h
   rename_i cm eM
   cases hq:(sameKind kk k'&&Nat.beq gs.length n)<;>rw[hq] at h
   ·cases h
   simp only[cond_true,Bool.and_eq_true] at h hq
   have ek:=gC hq.1
   subst ek
   have hl:=Nat.eq_of_beq_eq_true hq.2
   refine box hj eM h λA O w a he hG=>?_
   obtain⟨m,h1,h2,Ul⟩:=cR he hG hx
   have xj:a.eval y= .int kk v:=fq (S:=S) (A:=A) (O:=O) (w:=w) (eR he hG hy)
   refine⟨m,q+jj,h1,by simpa using h2,λvs ej=>⟨(gs.set jj v).map (Value.int kk),⟨_,[],by simp,⟨by simp[hl],rfl⟩,rfl⟩,?_,λhle=>?_⟩⟩
   ·obtain⟨c1,c2⟩:=j9 eC ej
    have bC:=vm kj c1
    rw[xj,<-Em _ _ _ _ (by omega),show(gs.map (Value.int kk))=me.cells (.i kk gs) from rfl,<-bC]
    exact Xn c2 (by simp;omega)
   ·have dV:i.size=1:=by rw[<-bt];rfl
    simp at hle
    omega
  ·rename_i gs v kj _
   split at h
   rotate_left
   ·cases h
   rename_i cm eM
   cases hq:(Nat.beq gs.length n)<;>rw[hq] at h
   ·cases h
   simp only[cond_true] at h
   have hl:=Nat.eq_of_beq_eq_true hq
   refine box hj eM h λA O w a he hG=>?_
   obtain⟨m,h1,h2,Ul⟩:=cR he hG hx
   have xj:a.eval y= .bool v:=fq (S:=S) (A:=A) (O:=O) (w:=w) (eR he hG hy)
   refine⟨m,q+jj,h1,by simpa using h2,λvs ej=>⟨(gs.set jj v).map (Value.bool),⟨_,[],by simp,⟨by simp[hl],rfl⟩,rfl⟩,?_,λhle=>?_⟩⟩
   ·obtain⟨c1,c2⟩:=j9 eC ej
    have bC:=vm kj c1
    rw[xj,<-Em _ _ _ _ (by omega),show(gs.map (Value.bool))=me.cells (.b gs) from rfl,<-bC]
    exact Xn c2 (by simp;omega)
   ·have dV:i.size=1:=by rw[<-bt];rfl
    simp at hle
    omega
  ·cases h
 ·rename_i e r j q
  split at h
  rotate_left
  ·cases h
  rename_i e' xs hr
  cases qC:Nat.beq e e'<;>rw[qC] at h
  ·cases h
  simp only[cond_true] at h
  have JF:=Nat.eq_of_beq_eq_true qC
  subst JF
  obtain⟨y0,Ku,h⟩:=bind_some h
  split at h
  rotate_left
  ·cases h
  rename_i cm eM
  split at h
  rotate_left
  ·cases h
  rename_i z' bS
  cases pd:b.pure<;>rw[pd] at h
  ·cases h
  simp only[cond_true] at h
  refine Iy hc h λA O w a he hg hO hG=>?_
  obtain⟨m,n,c,h1,h2⟩:=cR he hG hx
  have h2:a.eval x= .pointer (some ⟨m,j*(S.ty e).n+q,none⟩):=by simpa using h2
  obtain⟨p,hp,hB,hm⟩:=hg.al r _ hr
  rw[h1] at hp
  cases hp
  obtain⟨v1,v2,v3⟩:=val he hG
  obtain⟨cs,cur,e1,e2,e3,e4,e5,e6,e7,e8⟩:=DS hB
  have ai9:b9 w m e cur.toList:=by unfold b9;simpa using e1
  have iy:=(List.getElem?_eq_some_iff.1 Ku).1
  have Ue:=e3.at_ Ku
  have Jy:=(S.ty e).len Ue
  obtain⟨p1,p2⟩:=mO eM (hK.aa A O w e y0 _ Ue) v1
  rw[Jy] at p2
  have Jx:cs.length=n*(S.ty e).n:=by rw[e4];exact e3.len
  have eD:(a.eval y).cells.toList.length=i.size:=by simpa using v2
  have hmul:(j+1)*(S.ty e).n<=n*(S.ty e).n:=Nat.mul_le_mul_right _ (by omega)
  have aqo:n*(S.ty e).n<=c*(S.ty e).n:=Nat.mul_le_mul_right _ e5
  rw[Nat.succ_mul] at hmul
  have ke:cur.toList.length=c*(S.ty e).n:=by simpa using e7
  obtain⟨w',bC,oO,hF⟩:=Yd ak (hK.Θ.fits hi) h2 ai9 v2 v3 (by omega)
  have J6:=hm m rfl
  refine⟨w',A,O,bC,se hO J6 hr h1 rfl hF ?_⟩
  have ht:=hF.tr (kI J6)
  have eN:cf (S.ty e) O w' (putAt cs (j*(S.ty e).n+q) (a.eval y).cells.toList) (xs.set j z'):=by
   refine cf.tr ht (XR e3 Ku (by omega) λc' kd ec=>?_)
   rw[<-ec]
   exact hK.cls A O w e cm z' _ bS p1
  have ajS:(putAt cur.toList (j*(S.ty e).n+q) (a.eval y).cells.toList).take (n*(S.ty e).n)=putAt cs (j*(S.ty e).n+q) (a.eval y).cells.toList:=by
   have e2':cur.toList.take (n*(S.ty e).n)=cs:=by rw[<-Jx];exact e2
   rw[alS (by omega) (by omega),e2']
  refine⟨⟨_,⟨by rw[eN.len],.inr ⟨m,c,(putAt cur.toList (j*(S.ty e).n+q) (a.eval y).cells.toList).toArray,by simp[e4],Nat.zero_le _,oO,by simp;omega,e6,?_,?_⟩⟩,eN⟩,λg hg=>by cases hg;exact J6⟩
  ·have:=DZ (vs:=cur.toList) (us:=(a.eval y).cells.toList) (q:=j*(S.ty e).n+q) (by omega)
   simp only[List.size_toArray,this]
   exact ke
  ·simp only[List.length_set,<-e4]
   exact ajS
 ·cases h
end
section
variable {S:bL} {K:bQ S} {P:Program} {rr:Option Nat} {o:Oper} {env:aW S} {g:Nat->Option (Ob S)} {nx:Nat} {R:Type} {z:R} {k:AV S->Up S->AH S->Option R}
theorem SY {A:Pl} {O:List Nat} {w:World} {a:Act} {E:Env} {fs:List (Nat×Nat)} (he:dw A O w env a) (hG:dq K O w): ∀ {ps:List (Nat×Operand)} {cs cm:List (LV S)} {xs:Array Value},(∀p∈ps,ev E p.2=some (a.eval p.2))->Cb K env fs ps cs=some cm->bT A O w cs xs.toList-> ∃jl,oM fs K.Θ E ps xs=some jl/\bT A O w cm jl.toList
 |[],cs,cm,xs,hE,h,hr=>by cases h;exact⟨xs,rfl,hr⟩
 |(i,x)::r,cs,cm,xs,hE,h,hr=>by
  simp only[Cb] at h
  split at h
  rotate_left
  ·cases h
  rename_i t off wI
  split at h
  rotate_left
  ·cases h
  rename_i b hb
  split at h
  rotate_left
  ·cases h
  rename_i ti hti
  cases bt:Nat.beq (eX b.cells) ti.size<;>rw[bt] at h
  ·cases h
  simp only[cond_true] at h
  split at h
  rotate_left
  ·cases h
  rename_i jo eM
  have hv:=aE.rel.cells (eR he hG hb)
  obtain⟨r1,r2⟩:=mO eM hr hv
  have hlen:(a.eval x).cells.size=ti.size:=by rw[<-Nat.eq_of_beq_eq_true bt,<-j2 hv];simp
  have hle:off+(a.eval x).cells.size<=xs.size:=by simpa using r2
  have oV:=It (a.eval x).cells.toList 0 off xs (by simpa using hle)
  have e:((a.eval x).cells.zipIdx.foldl (λcs (c,j)=>cs.setIfInBounds (off+j) c) xs).toList=putAt xs.toList off (a.eval x).cells.toList:=by
   rw[Nat.add_zero] at oV
   rw[<-oV]
   congr 1
   rw[<-Array.foldl_toList]
   simp
  simp only[oM,wI,hE (i,x) List.mem_cons_self,hti,hlen,Nat.beq_refl,Bool.true_and]
  rw[hlen] at hle
  rw[Nat.ble_eq.mpr hle]
  simp only[cond_true]
  refine SY he hG (λp hp=>hE p (List.mem_cons_of_mem _ hp)) h ?_
  rw[e]
  exact r1
theorem SX {A:Pl} {O:List Nat} {w:World} {a:Act} {size:Nat} (he:dw A O w env a) (hG:dq K O w): ∀ {ps:List (Nat×Operand)} {cs cm:List (LV S)} {xs:Array Value},Ca K env size ps cs=some cm->bT A O w cs xs.toList-> ∃jl,Instr.fill (λi=>some (i*size,size)) xs (ps.map λp=>(p.1,a.eval p.2))=some jl/\bT A O w cm jl.toList
 |[],cs,cm,xs,h,hr=>by cases h;exact⟨xs,rfl,hr⟩
 |(i,x)::r,cs,cm,xs,h,hr=>by
  simp only[Ca] at h
  split at h
  rotate_left
  ·cases h
  rename_i b hb
  cases bt:Nat.beq (eX b.cells) size<;>rw[bt] at h
  ·cases h
  simp only[cond_true] at h
  split at h
  rotate_left
  ·cases h
  rename_i jo eM
  have hv:=aE.rel.cells (eR he hG hb)
  obtain⟨r1,r2⟩:=mO eM hr hv
  have hlen:(a.eval x).cells.size=size:=by rw[<-Nat.eq_of_beq_eq_true bt,<-j2 hv];simp
  have hle:i*size+(a.eval x).cells.size<=xs.size:=by simpa using r2
  have oV:=It (a.eval x).cells.toList 0 (i*size) xs (by simpa using hle)
  have e:((a.eval x).cells.zipIdx.foldl (λcs (c,j)=>cs.setIfInBounds (i*size+j) c) xs).toList=putAt xs.toList (i*size) (a.eval x).cells.toList:=by
   rw[Nat.add_zero] at oV
   rw[<-oV]
   congr 1
   rw[<-Array.foldl_toList]
   simp
  simp only[List.map_cons,Instr.fill]
  have iU: ¬((a.eval x).cells.size≠size\/i*size+(a.eval x).cells.size>xs.size):=by omega
  rw[if_neg (by simpa using iU)]
  refine SX he hG h ?_
  rw[e]
  exact r1
theorem aiH (hK:cI K P) {t:Nat} {ps:Array (Nat×Operand)} (ak:o.op= .build t ps) (h:Lq K env k t ps.toList=some z):Good K P rr o env g nx k z:=by
 have hc: ∀c,o.op≠ .defer c:=λc=>by rw[ak];simp
 unfold Lq at h
 split at h
 rotate_left
 ·cases h
 rename_i i hi
 cases h8:Nat.beq i.tag 8<;>rw[h8] at h
 ·cases h6:Nat.beq i.tag 6<;>rw[h6] at h
  ·cases h
  simp only[cond_true,cond_false] at h
  split at h
  rotate_left
  ·cases h
  rename_i ie dR
  split at h
  rotate_left
  ·cases h
  rename_i cs JN
  cases hg:(i.zero.cells.toList.all Value.oneCell')<;>rw[hg] at h
  ·cases h
  simp only[cond_true] at h
  refine dH hc h λA O w a he ki hO hG=>?_
  obtain⟨jl,h1,h2⟩:=SX (xs:=i.zero.cells) he hG JN (xO hg)
  refine⟨.agg jl,?_,jl.toList,by simp,h2⟩
  unfold execOp
  rw[ak]
  simp only[Instr.build,Sem.run_bind,rI (hK.Θ.fits hi),Result.andThen_ok,run_underlying ((hK.Θ.fits hi).array (Nat.eq_of_beq_eq_true h6)),fe (hK.Θ.fits dR)]
  rw[Array.toList_map]
  have nj:Instr.fill (λi=>some (i*ie.size,ie.size)) i.zero.cells (ps.toList.map λx=>(x.1,a.eval x.2))=some jl:=h1
  rw[nj]
  rfl
 simp only[cond_true] at h
 split at h
 rotate_left
 ·cases h
 rename_i cs JN
 cases hg:(lO K.Θ (.build t ps.toList.toArray)&&i.zero.cells.toList.all Value.oneCell')<;>rw[hg] at h
 ·cases h
 simp only[cond_true,Bool.and_eq_true] at h hg
 refine dH hc h λA O w a he ki hO hG=>?_
 obtain⟨jl,h1,h2⟩:=SY (E:=m8 a (slotsOf (ps.toList.map (·.2)))) (xs:=i.zero.cells) he hG (λp hp=>Sb (MB (List.mem_map.2 ⟨p,hp,rfl⟩))) JN (xO hg.2)
 refine⟨.agg jl,Ei hK.Θ (Sd a (slotsOf (ps.toList.map (·.2)))) (by rw[ak];simpa using hg.1) ?_,jl.toList,by simp,h2⟩
 rw[ak]
 simp only[mr,hi,h8,cond_true,h1]
theorem Tn (hK:cI K P) {t t2:Nat} {x:Operand} {l:LV S} (ak:o.op= .convert t t2 x) (hx:cQ K env x=some l) (h:DK K g k t t2 l=some z):Good K P rr o env g nx k z:=by
 have hc: ∀c,o.op≠ .defer c:=λc=>by rw[ak];simp
 unfold DK at h
 split at h
 rotate_left
 ·cases h
 rename_i i i2 hi gX
 split at h
 rotate_left
 ·cases h
 rename_i ie dR
 cases hq:(Nat.beq i.tag 5&&(Nat.beq i2.tag 3&&(Nat.beq ie.tag 2&&sameKind (Dc.noKind ie.k) .u8)))<;>rw[hq] at h
 ·cases h
 simp only[cond_true] at h
 simp only[Bool.and_eq_true] at hq
 obtain⟨h5,h3,h2,hk⟩:=hq
 split at h
 rotate_left
 ·cases h
 rename_i ys dE
 split at h
 rotate_left
 ·cases h
 rename_i zs fT
 refine dH hc h λA O w a he hg hO hG=>?_
 have hv:=m_ hK hg dE (cR he hG hx)
 refine⟨.string (strOf zs),?_,rfl,rfl⟩
 obtain⟨B,c,pf,_,_⟩:=fm hv
 have US:=(hK.Θ.fits dR).int (Nat.eq_of_beq_eq_true h2)
 rw[gC hk] at US
 unfold execOp
 rw[ak]
 simp only[Sem.run_bind,pf]
 rw[run_convert_bytes_string w t t2 i.e B ys.length c ((hK.Θ.fits hi).slice (Nat.eq_of_beq_eq_true h5)) US ((hK.Θ.fits gX).string (Nat.eq_of_beq_eq_true h3))]
 rw[pf] at hv
 rcases B with _|ad
 ·have lW:=pL hv
  subst lW
  cases fT
  simp[Conv.bytesToString,strOf,Sem.run_pure]
 ·obtain⟨_,cs,hr,hcc⟩:=xZ hv
  have fb:=KM hK fT hr
  have hlen:zs.length=ys.length:=by
   have: ∀ {ys:List (S.El i.e)} {zs:List Int},mF K i.e .u8 ys=some zs->zs.length=ys.length:=by
    intro ys
    induction ys with
    |nil=>intro zs h;cases h;rfl
    |cons y ys ih=>
     intro zs h
     simp only[mF] at h
     split at h
     ·rename_i k' x' jT
      cases hb:sameKind .u8 k'<;>rw[hb] at h
      ·cases h
      simp only[cond_true] at h
      split at h
      ·rename_i zs' xk;cases h;simp[ih xk]
      ·cases h
     ·cases h
   exact this fT
  subst fb
  have hl:=run_loadCells_list (P:=P) w ad (zs.map (Value.int .u8)) hcc
  rw[List.length_map] at hl
  rw[<-hlen,run_bytesToString w ad zs.length c zs hl]
  rfl
theorem akZ (hK:cI K P) (h:xB K env g nx k o.type o.op=some z):Good K P rr o env g nx k z:=by
 unfold xB at h
 split at h
 ·rename_i x ak
  split at h
  ·rename_i av qw;exact Tp hK (.inl ak) qw h
  ·cases h
 ·rename_i x ak
  split at h
  ·split at h
   rotate_left
   ·cases h
   rename_i i hi
   cases h5:Nat.beq i.tag 5<;>rw[h5] at h
   ·cases h
   ·exact aiZ ak rfl h
  ·split at h
   ·rename_i av qw;exact Tp hK (.inr ak) qw h
   ·cases h
 ·rename_i x i ak
  split at h
  ·rename_i aqJ hx
   split at h
   ·rename_i b hb;exact aiM ak hx hb h
   ·cases h
  ·cases h
 ·rename_i x ak
  split at h
  ·rename_i hx;exact Cg ak hx rfl h
  ·rename_i hx;exact Cg ak hx rfl h
  ·rename_i hx;exact Cg ak hx rfl h
  ·rename_i hx;exact Cg ak hx rfl h
  ·cases h
 ·rename_i c x y ak
  split at h
  ·rename_i t hx
   cases t with
   |true=>
    simp only[cond_true] at h
    split at h
    ·rename_i av qw;exact Ts ak hx qw h
    ·cases h
   |false=>
    simp only[cond_false] at h
    split at h
    ·rename_i av qw;exact Ts ak hx qw h
    ·cases h
  ·cases h
 ·rename_i t x f ak
  split at h
  ·rename_i ls hx
   split at h
   ·rename_i off n ag hf
    split at h
    ·rename_i cW hl
     split at h
     ·rename_i b hb;exact aiN hK ak hx hf hl hb h
     ·cases h
    ·cases h
   ·cases h
  ·cases h
 ·rename_i t x f ak
  split at h
  ·rename_i off n ag hf
   cases hn:Nat.beq n 0<;>rw[hn] at h
   ·simp only[cond_false] at h
    split at h
    ·rename_i b q hx
     refine Ix hK ak hx hf hn (λA O w x hr=>?_) h
     obtain⟨m,h1,h2⟩:=hr
     exact⟨⟨m,q,none⟩,by simpa using h2,m,h1,by rw[ml]⟩
    ·rename_i e r j q hx
     refine Ix hK ak hx hf hn (λA O w x hr=>?_) h
     obtain⟨m,n',c,h1,h2⟩:=hr
     exact⟨⟨m,j*(S.ty e).n+q,none⟩,by simpa using h2,m,n',c,h1,by rw[ml,Nat.add_assoc]⟩
    ·rename_i t' x' q hx
     refine Ix hK ak hx hf hn (λA O w x hr=>?_) h
     obtain⟨ad,h1,h2⟩:=hr
     exact⟨ad.add q,by simpa using h1,ad,by rw[add_add],h2⟩
    ·cases h
   ·cases h
  ·cases h
 ·rename_i t x ak
  split at h
  ·rename_i i hi
   split at h
   ·rename_i l hx;exact aiS hK ak hi hx h
   ·cases h
  ·cases h
 ·rename_i t ak
  split at h
  ·rename_i i hi
   cases hz:i.zero.cells.toList.all Value.oneCell'<;>rw[hz] at h
   ·cases h
   ·exact aiD hK ak hi hz h
  ·cases h
 ·rename_i t x ak
  split at h
  ·rename_i b hb;exact aiG ak hb h
  ·cases h
 ·rename_i t ps ak;exact aiH hK ak h
 ·rename_i f fs cs ak
  split at h
  ·rename_i vM cm h1 h2;exact aiU ak h1 h2 h
  ·cases h
 ·rename_i t ak
  split at h
  ·rename_i i hi
   split at h
   ·rename_i p q hp hq
    cases hb:(Nat.beq i.tag 7&&(Nat.beq p.tag 2&&Nat.beq q.tag 2))<;>rw[hb] at h
    ·cases h
    ·exact aiV ak h
   ·cases h
  ·cases h
 ·rename_i t n c ak;exact aiW hK ak h
 ·rename_i t n ps ak;exact aiI hK ak h
 ·rename_i t x y ak;exact aiQ hK ak h
 ·rename_i t x y ak;exact aiP hK ak h
 ·rename_i t x lo hi mx ak;exact ai1 hK ak h
 ·rename_i t x y ok ak;exact aiT hK ak h
 ·rename_i b t x y t' ak;exact aiF hK ak h
 ·rename_i t x ak
  split at h
  ·rename_i i u hi hx
   cases h2:Nat.beq i.tag 2<;>rw[h2] at h
   ·cases h
   ·exact aiO hK ak hi (Nat.eq_of_beq_eq_true h2) hx h
  ·cases h
 ·rename_i t x ak
  split at h
  ·rename_i i s hi hx
   cases h3:Nat.beq i.tag 3<;>rw[h3] at h
   ·cases h
   ·exact ai0 hK ak hi (Nat.eq_of_beq_eq_true h3) hx h
  ·cases h
 ·rename_i x ak
  split at h
  ·rename_i i hx
   split at h
   ·rename_i s pos hi;exact aiY ak hx hi h
   ·cases h
  ·cases h
 ·rename_i t x y ak;exact ai2 hK ak h
 ·rename_i t x y q ak;exact To hK (.inl ak) h
 ·rename_i t x y q ak;exact To hK (.inr ak) h
 ·rename_i c ak
  split at h
  ·rename_i cV
   split at h
   ·rename_i x ty fA fj;exact aiR hK ak cV fA fj h
   ·cases h
  ·rename_i cV
   split at h
   ·rename_i x y ty gO fA fj
    cases hb:Nat.beq ty gO<;>rw[hb] at h
    ·cases h
    ·have e:=Nat.eq_of_beq_eq_true hb
     subst e
     exact aiE hK ak cV fA fj h
   ·cases h
  ·rename_i cV
   split at h
   ·rename_i x y ty gO fA fj;exact aiJ hK ak cV fA fj h
   ·cases h
  ·exact vP hK (λc=>by rw[ak];simp) (by rw[ak];exact h)
 ·rename_i t t2 x ak
  split at h
  ·rename_i r hx;exact Tn hK ak hx h
  ·rename_i t' d hx;exact Tn hK ak hx h
  ·exact vP hK (λc=>by rw[ak];simp) (by rw[ak];exact h)
 ·refine vP hK (λc hc=>?_) h
  rw[hc] at h
  simp[plain,lO,mr] at h
end
inductive AX|normal|exit (id:Nat)|ret|bN (u:Value)
structure pQ where
 fn:Func
 L:Nat->List Nat
structure kM (S:bL) where
 J:pQ
 ps:List Nat
 jM:Code
 body:Code
 env:aW S
 h_:Option AX
structure AS (S:bL) where
 env:aW S
 h:AH S
 nb:Nat
 lp:Option (kM S)
 inr:Bool
 df:List (LV S)
 dt:List Nat
structure bo (S:bL) where
 id:Nat
 out: {R:Type}->AS S->(AX->AS S->Option R)->Option R
structure ep (S:bL) extends pQ where
 lc:List (bo S)
structure bq (S:bL) where
 f:Nat
 out: {R:Type}->List (aE S)->(Rs S->Option R)->Option R
structure jd (S:bL) where
 f:Nat
 out: {R:Type}->List (aE S)->AH S->(Rs S->AH S->List Nat->Option R)->Option R
structure rJ (S:bL) where
 g:Nat
 out: {R:Type}->List (aE S)->Option Value->(Nat->Option (Ob S))->(Option Value->Up S->Option R)->Option R
structure az (S:bL) where
 K:bQ S
 C:List (bq S)
 H:List (jd S)
 D:List (rJ S)
 T:Nat->Option (ep S)
def Cc {S:bL}:List (bq S)->Nat->Option (bq S)
 |[],_=>none
 |c::r,f=>bif Nat.beq c.f f then some c else Cc r f
def vL {S:bL}:List (jd S)->Nat->Option (jd S)
 |[],_=>none
 |c::r,f=>bif Nat.beq c.f f then some c else vL r f
def vK {S:bL}:List (rJ S)->Nat->Option (rJ S)
 |[],_=>none
 |c::r,f=>bif Nat.beq c.g f then some c else vK r f
def jr {S:bL}:List (bo S)->Nat->Option (bo S)
 |[],_=>none
 |c::r,f=>bif Nat.beq c.id f then some c else jr r f
section
variable {S:bL}
def fG:AH S->Up S->AH S
 |h,[]=>h
 |h,(i,X)::r=>fG (h.set i X) r
def keys:Up S->List Nat
 |[]=>[]
 |(i,_)::r=>i::keys r
def gG (nb:Nat):List Nat->List Nat->List Nat
 |dt,[]=>dt
 |dt,i::r=>gG nb (bif Nat.blt i nb&&!(fC i dt) then dt++[i] else dt) r
def AS.cO (st:AS S) (up:Up S) (nw:AH S):AS S:= { st with h:=fG st.h up++nw,dt:=gG st.nb st.dt (keys up) }
def gF (g:Nat->Option (Ob S)) (up:Up S):Bool:=(keys up).all λi=>(g i).isSome
def kept (g:Nat->Option (Ob S)) (nb:Nat) (roots:List Nat):List Nat:=List.range nb++reach g nb 1000 roots []
def gc (sl:List Nat) (st:AS S):AS S:=
 let env:=gz st.env sl
 let kp:=kept (aJ st.h) st.nb (tA (st.h.take st.nb)++(Mb env++tB st.df))
 match pI (λi=>posOf i kp 0) st.df with
 |some df=> { st with env:=tC (λi=>posOf i kp 0) env,h:=gN (λi=>posOf i kp 0) (jF (aJ st.h) kp),df:=df }
 |none=>st
def oe (rs:List Nat) (ρ:Nat->Option Nat) (h:AH S):List Nat->Up S
 |[]=>[]
 |j::r=>(match rs[j]? with|some i=>(i,rh ρ (aJ h j))::oe rs ρ h r|none=>oe rs ρ h r)
section
variable (G:az S) {R:Type}
def BJ (cN:Nat->List (aE S)->AH S->(Rs S->AH S->List Nat->Option R)->Option R) (f:Nat) (aqJ:List (aE S)) (g:Nat->Option (Ob S)) (nx:Nat) (kp:Value->Up S->AH S->Option R) (k:AV S->Up S->AH S->Option R):Option R:=
 let rs:=reach g 0 1000 (n5 aqJ) []
 match re (λi=>posOf i rs 0) aqJ with
 |none=>none
 |some jL=>cN f jL (gN (λi=>posOf i rs 0) (jF g rs)) λr h' dt=>
  let ρ:=λj=>bif Nat.blt j rs.length then rs[j]? else some (nx+(j-rs.length))
  match r with
  | .ret a=>(match a.dk ρ with|some a'=>k a' (oe rs ρ h' dt) (gN ρ (h'.drop rs.length))|none=>none)
  | .bN u=>bif u.oneCell' then kp u (oe rs ρ h' dt) (gN ρ (h'.drop rs.length)) else none
def G' (cN:Nat->List (aE S)->AH S->(Rs S->AH S->List Nat->Option R)->Option R) (f:Nat) (aqJ:List (aE S)) (g:Nat->Option (Ob S)) (nx:Nat) (kp:Value->Up S->AH S->Option R) (k:AV S->Up S->AH S->Option R):Option R:=
 match Cc G.C f with
 |some cn=>(match oN G.K g aqJ with
  |some (jL,rs)=>cn.out jL λr=>(match r with
   | .ret a=>bif a.pure then(bif a.flat then k a [] [] else k a (kF rs) []) else none
   | .bN u=>bif u.oneCell' then kp u [] [] else none)
  |none=>BJ cN f aqJ g nx kp k)
 |none=>BJ cN f aqJ g nx kp k
def R6 (env:aW S) (g:Nat->Option (Ob S)) (c:Go.Call):Option (Nat×List (aE S)):=
 match c.callee with
 | .value x=>
  (match cQ G.K env x with
  |some (.bM i)=>(match g i with
   |some (.bM f fs cs)=>(match j8 G.K env c.args.toList with|some aqJ=>some (f,fs++aqJ++cs)|none=>none)
   |_=>none)
  |some (.v u)=>(match u with
   | .func (.func f) fs cs=>bif Nat.beq fs.size 0&&Nat.beq cs.size 0 then(match j8 G.K env c.args.toList with|some aqJ=>some (f,aqJ)|none=>none) else none
   |_=>none)
  |_=>none)
 |_=>none
def tf (cN:Nat->List (aE S)->AH S->(Rs S->AH S->List Nat->Option R)->Option R) (env:aW S) (g:Nat->Option (Ob S)) (nx:Nat) (o:Oper) (kp:Value->Up S->AH S->Option R) (k:AV S->Up S->AH S->Option R):Option R:=
 match o.op with
 | .call c=>
  (match c.callee with
  | .value _=>(match R6 G env g c with|some (f,aqJ)=>G' G cN f aqJ g nx kp k|none=>none)
  |_=>xB G.K env g nx k o.type o.op)
 | .panic _=>none
 |_=>xB G.K env g nx k o.type o.op
def l8 (N:Nat) (o:Oper) (st:AS S) (a:AV S) (k:AS S->Option R):Option R:=
 match o.dst with
 |some d=>bif Nat.blt d N then k { st with env:=(d,a)::st.env } else none
 |none=>k st
def rZ (N:Nat) (ops:Array Oper) (g:Option (Nat×Bool)) (st:AS S) (yes no:AS S->Option R):Option R:=
 match g with
 |none=>yes st
 |some (j,b)=>
  match ops[j]? with
  |some o=>
   match o.dst with
   |some d=>
    bif Nat.blt d N then
     match aW.get st.env d with
     |some (.s (.one (.v (.bool c))))=>
      bif c then(match b with|true=>yes|false=>no) { st with env:=(d,.s (.one (.v (.bool true))))::st.env }
      else(match b with|true=>no|false=>yes) { st with env:=(d,.s (.one (.v (.bool false))))::st.env }
     |some (.aY [])=>no st
     |_=>none
    else none
   |none=>none
  |none=>none
def Na (env:aW S) (c:Go.Call):Bool:=
 match c.callee with
 | .value x=>(match cQ G.K env x with|some .dF=>true|_=>false)
 |_=>false
def GV (cN:Nat->List (aE S)->AH S->(Rs S->AH S->List Nat->Option R)->Option R) (gQ:List (aE S)->AS S->(Bool->AS S->Option R)->Option R) (N:Nat) (o:Oper) (st:AS S) (kp:Value->AS S->Option R) (k:AS S->Option R):Option R:=
 match o.op with
 | .defer c=>(match c.callee with
  | .value x=>(match c.args.toList,cQ G.K st.env x,st.inr,st.lp,o.dst with
   |[],some (.bM i),false,none,none=>k { st with df:= .bM i::st.df }
   |_,_,_,_,_=>none)
  |_=>none)
 | .panic x=>(match cQ G.K st.env x with|some (.v (.iface t u))=>kp (.iface t u) st|_=>none)
 | .call c=>
  bif Na G st.env c then(match j8 G.K st.env c.args.toList with
   |some aqJ=>gQ aqJ st λb bm=>l8 N o bm (.s (.one (.v (.bool b)))) k
   |none=>none)
  else tf G cN st.env (aJ st.h) st.h.length o (λu up nw=>bif gF (aJ st.h) up then kp u (st.cO up nw) else none) λa up nw=>bif gF (aJ st.h) up then l8 N o (st.cO up nw) a k else none
 |_=>tf G cN st.env (aJ st.h) st.h.length o (λu up nw=>bif gF (aJ st.h) up then kp u (st.cO up nw) else none) λa up nw=>bif gF (aJ st.h) up then l8 N o (st.cO up nw) a k else none
def vg (cN:Nat->List (aE S)->AH S->(Rs S->AH S->List Nat->Option R)->Option R) (gQ:List (aE S)->AS S->(Bool->AS S->Option R)->Option R) (N:Nat) (ops:Array Oper) (kp:Value->AS S->Option R):List Nat->AS S->(AS S->Option R)->Option R
 |[],st,k=>k st
 |i::l,st,k=>
  match ops[i]? with
  |some o=>rZ N ops o.guard st (λst=>GV G cN gQ N o st kp λst=>vg cN gQ N ops kp l st k) (λst=>l8 N o st (.aY []) λst=>vg cN gQ N ops kp l st k)
  |none=>none
structure cY (S:bL) where
 rd:List Nat
 up:Up S
 nx:Nat
 nw:AH S
def dY (ops:Array Oper) (j:Nat):Option Nat:=match ops[j]? with|some o=>o.dst|none=>none
def Tu (ops:Array Oper) (g:Option (Nat×Bool)):List Nat:=match g with|some (j,_)=>(match dY ops j with|some d=>[d]|none=>[])|none=>[]
def ic (ops:Array Oper) (o:Oper):List Nat:=slotsOf o.op.operands.toList++Tu ops o.guard
def fL (ops:Array Oper) (i:Nat):List Nat:=match ops[i]? with|some o=>qd ops 12 (dC o)|none=>[]
def L4 (env:aW S) (g:Nat->Option (Ob S)) (o:Oper):List Nat:=
 match o.op with
 | .load _ x=>(match cQ G.K env x with|some l=>l.refs|none=>[])
 | .store _ x _=>(match cQ G.K env x with|some l=>l.refs|none=>[])
 | .indexAddr _ x _=>(match cQ G.K env x with|some (.own r)=>[r]|_=>[])
 | .lookup _ x _ _=>(match cQ G.K env x with|some l=>l.refs|none=>[])
 | .mapUpdate _ x _ _=>(match cQ G.K env x with|some l=>l.refs|none=>[])
 | .insert _ x _ _=>(match cQ G.K env x with|some l=>l.refs|none=>[])
 | .next x _=>(match cQ G.K env x with|some l=>l.refs|none=>[])
 | .convert _ _ x=>(match cQ G.K env x with|some l=>l.refs|none=>[])
 | .buildSlice _ _ ps=>(match j8 G.K env (ps.toList.map (·.2)) with|some aqJ=>n5 aqJ|none=>[])
 | .call c=>
  (match j8 G.K env c.args.toList with
  |some aqJ=>(match c.callee with
   | .value x=>(match cQ G.K env x with|some l=>l.refs++reach g 0 1000 (l.refs++n5 aqJ) []|none=>[])
   |_=>n5 aqJ)
  |none=>[])
 |_=>[]
def pM (rd:List Nat) (g:Nat->Option (Ob S)):Nat->Option (Ob S):=λi=>bif fC i rd then g i else none
def DI (l m:List Nat):Bool:=l.all λi=>!(fC i m)
def Lk (l:List Nat) (nx n:Nat):Bool:=l.all λi=>!(Nat.ble nx i&&Nat.blt i (nx+n))
def oF (cl rd:List Nat) (up:Up S):List (cY S)->Nat->Bool
 |[],_=>true
 |r::rs,k=>(fC k cl||(DI rd (keys r.up)&&(Lk rd r.nx r.nw.length&&DI (keys up) r.rd)))&&oF cl rd up rs (k+1)
def idle (cl:List Nat):List (cY S)->Nat->Bool
 |[],_=>true
 |r::rs,k=>(fC k cl||(match r.up,r.nw with|[],[]=>true|_,_=>false))&&idle cl rs (k+1)
def MA (ops:Array Oper) (i:Nat) (o:Oper) (s:Nat):Bool:=
 ((dC o).any λj=>match dY ops j with|some d=>Nat.beq d s|none=>false)||
 (List.range ops.size).all λk=>match dY ops k with|some d=>!(Nat.beq d s)||(Nat.beq k i||fC i (fL ops k))|none=>true
def WV (N:Nat) (ops:Array Oper) (i:Nat):Bool:=
 match ops[i]? with
 |some o=>kP i (dC o)&&(kP i (fL ops i)&&((match o.dst with
  |some d=>Nat.blt d N&&(List.range ops.size).all λk=>Nat.beq k i||(match dY ops k with|some e=>!(Nat.beq d e)|none=>true)
  |none=>true)&&(ic ops o).all (MA ops i o)))
 |none=>false
def Eb (N:Nat) (ops:Array Oper):Bool:=(List.range ops.size).all (WV N ops)
def MK (ops:Array Oper) (env:aW S):aW S:=env.filter λp=>(List.range ops.size).all λk=>match dY ops k with|some d=>!(Nat.beq d p.1)|none=>true
def ML (up:Up S) (nw:AH S):Bool:=match up,nw with|[],[]=>true|_,_=>false
def BR (pn:Option (List Nat×Value×AS S)) (cl:List Nat):Bool:=match pn with|some (dead,_,_)=>dead.any λj=>fC j cl|none=>false
def alM (pn:Option (List Nat×Value×AS S)) (i:Nat):Option (List Nat×Value×AS S):=match pn with|some (dead,u,st)=>some (i::dead,u,st)|none=>none
def oA (cN:Nat->List (aE S)->AH S->(Rs S->AH S->List Nat->Option R)->Option R) (N:Nat) (ops:Array Oper) (kp:Value->AS S->Option R) (k:AS S->Option R):Nat->List (cY S)->Option (List Nat×Value×AS S)->AS S->Option R
 |0,_,pn,st=>(match pn with|none=>k st|some (_,u,dv)=>kp u dv)
 |c+1,acc,pn,st=>
  match ops[acc.length]? with
  |none=>none
  |some o=>
   bif BR pn (fL ops acc.length) then oA cN N ops kp k c (acc++[⟨[],[],st.h.length,[]⟩]) (alM pn acc.length) st
   else rZ N ops o.guard st
    (λst=>
     let rd:=L4 G (gz st.env (ic ops o)) (aJ st.h) o
     bif rd.all λi=>Nat.blt i st.h.length then
      tf G cN (gz st.env (ic ops o)) (pM rd (aJ st.h)) st.h.length o
       (λu up nw=>match pn with
        |some _=>none
        |none=>bif gF (aJ st.h) up&&((keys up).all (λi=>fC i rd)&&(oF (fL ops acc.length) rd up acc 0&&idle (fL ops acc.length) acc 0)) then
          oA cN N ops kp k c (acc++[⟨rd,up,st.h.length,nw⟩]) (some ([acc.length],u,{ st.cO up nw with env:=MK ops st.env })) (st.cO up nw) else none)
       (λa up nw=>
        bif gF (aJ st.h) up&&((keys up).all (λi=>fC i rd)&&(oF (fL ops acc.length) rd up acc 0&&(pn.isNone||ML up nw))) then
         l8 N o (st.cO up nw) a λbm=>oA cN N ops kp k c (acc++[⟨rd,up,st.h.length,nw⟩]) pn bm
        else none)
     else none)
    (λst=>l8 N o st (.aY []) λbm=>oA cN N ops kp k c (acc++[⟨[],[],st.h.length,[]⟩]) pn bm)
def GX (cN:Nat->List (aE S)->AH S->(Rs S->AH S->List Nat->Option R)->Option R) (gQ:List (aE S)->AS S->(Bool->AS S->Option R)->Option R) (N:Nat) (ops:Array Oper) (draw:Bool) (st:AS S) (kp:Value->AS S->Option R) (k:AS S->Option R):Option R:=
 match draw with
 |false=>vg G cN gQ N ops kp (List.range ops.size) st k
 |true=>bif Eb N ops then oA G cN N ops kp k ops.size [] none st else none
def eK:Code->Nat
 | .region id _ _=>id+1
 | .seq x y=>(match eK x with|0=>eK y|n=>n)
 | .block _ x=>eK x
 | .loop x=>eK x
 | .scope x=>eK x
 |_=>0
def alN (I:ep S) (body:Code) (st:AS S):AS S:=gc (I.L (2000001+eK body)) st
def Xi (I:ep S):Code->AS S->AS S
 | .loop x,st=>gc (I.L (eK x)) st
 |_,st=>st
def mm:Nat->List (aE S)->aW S
 |_,[]=>[]
 |i,a::l=>(i,.s a)::mm (i+1) l
def yh:List (aE S)->AV S
 |[a]=> .s a
 |aqJ=> .aY aqJ
def n6 (K:bQ S) (env:aW S) (h:AH S):List ResultVar->Option (List (aE S))
 |[]=>some []
 | .tmp t::r=>(match aW.get env t with|some (.s a)=>(match n6 K env h r with|some aqJ=>some (a::aqJ)|none=>none)|_=>none)
 | .cell x t::r=>
  (match aW.get env x with
  |some (.s (.one (.br b 0)))=>(match K.Θ.get t,aJ h b with
   |some i,some (.box _ cs)=>bif Nat.beq (eX cs) i.size then
     (match m6 (TI.jA i) cs with
     |some a=>(match n6 K env h r with|some aqJ=>some (a::aqJ)|none=>none)
     |none=>none)
    else none
   |_,_=>none)
  |_=>none)
def oh:List Nat->List (aE S)->Option (aW S)
 |[],[]=>some []
 |p::ps,a::aqJ=>(match oh ps aqJ with|some e=>some ((p,.s a)::e)|none=>none)
 |_,_=>none
def LV.jC:LV S->Bool
 | .dF=>false
 |_=>true
def pw:List (LV S)->Bool
 |[]=>true
 |l::r=>l.jC&&pw r
def qX:List (aE S)->Bool
 |[]=>true
 |a::r=>pw a.cells&&qX r
def AV.jC:AV S->Bool
 | .s a=>pw a.cells
 | .aY aqJ=>qX aqJ
def Ob.jC:Ob S->Bool
 | .box _ cs=>pw cs
 | .bM _ fs cs=>qX fs&&qX cs
 |_=>true
def tc:aW S->Bool
 |[]=>true
 |(_,a)::r=>a.jC&&tc r
def lh:AH S->Bool
 |[]=>true
 |some X::r=>X.jC&&lh r
 |none::r=>lh r
def xS (fn:Func) (e:AX) (st:AS S) (k:Rs S->AS S->Option R):Option R:=
 match st.df with
 |[]=>(match e with
  | .exit _=>none
  | .bN u=>k (.bN u) st
  |_=>(match n6 G.K st.env st.h fn.results.toList with|some aqJ=>k (.ret (yh aqJ)) st|none=>none))
 |[.bM i]=>(match aJ st.h i with
  |some (.bM g [] cs)=>(match vK G.D g with
   |some dc=>
    let fin:Option Value->Up S->Option R:=λp up=>bif !(gF (aJ st.h) up) then none else(match p with
     |some u=>k (.bN u) { st.cO up [] with df:=[] }
     |none=>(match n6 G.K st.env (fG st.h up) fn.results.toList with|some aqJ=>k (.ret (yh aqJ)) { st.cO up [] with df:=[] }|none=>none))
    (match e with
    | .exit _=>none
    | .bN u=>dc.out cs (some u) (aJ st.h) fin
    |_=>dc.out cs none (aJ st.h) fin)
   |none=>none)
  |_=>none)
 |_=>none
def xI (r:Rs S) (st:AS S) (k:Rs S->AH S->List Nat->Option R):Option R:=
 let kp:=kept (aJ st.h) st.nb (tA (st.h.take st.nb)++(match r with| .ret a=>a.refs| .bN _=>[]))
 let h:=gN (λi=>posOf i kp 0) (jF (aJ st.h) kp)
 let dt:=st.dt.filter λi=>Nat.blt i st.nb
 match r with
 | .ret a=>(match a.dk (λi=>posOf i kp 0) with|some a'=>k (.ret a') h dt|none=>none)
 | .bN u=>k (.bN u) h dt
def tv (N:Nat):List Nat->Bool
 |[]=>true
 |p::r=>Nat.blt p N&&(!(fC p r)&&tv N r)
def M_ (run:ep S->Code->AS S->(AX->AS S->Option R)->Option R) (aqJ:List (aE S)) (st:AS S) (k:Bool->AS S->Option R):Option R:=
 match st.lp with
 |some lf=>(match lf.h_,oh lf.ps aqJ with
  |none,some pe=>bif tv lf.J.fn.ntmps lf.ps then
   run ⟨lf.J,[]⟩ lf.jM ⟨pe++lf.env,st.h,st.h.length,none,true,[],[]⟩ λe st1=>(match e,st1.inr with
   | .normal,true=>run ⟨lf.J,[]⟩ lf.body ⟨st1.env,st1.h,st1.h.length,none,true,[],[]⟩ λe st2=>(match e with
    | .normal=>k true { st with h:=st2.h,dt:=gG st.nb st.dt (st1.dt++st2.dt) }
    | .bN _=>none
    | .ret=>k false { st with h:=st2.h,dt:=gG st.nb st.dt (st1.dt++st2.dt),lp:=some { lf with h_:=some .ret } }
    | .exit id=>k false { st with h:=st2.h,dt:=gG st.nb st.dt (st1.dt++st2.dt),lp:=some { lf with h_:=some (.exit id) } })
   |_,_=>none) else none
  |_,_=>none)
 |none=>none
def D3 (st bm:AS S) (k:AX->AS S->Option R):Option R:=
 match bm.df,bm.lp with
 |[],some lf=>bif lh bm.h then(match lf.h_ with
  |none=>k .normal { st with h:=bm.h,dt:=gG st.nb st.dt bm.dt }
  |some .ret=>k .ret { st with h:=bm.h,dt:=gG st.nb st.dt bm.dt }
  |some (.exit id)=>k (.exit id) { st with h:=bm.h,dt:=gG st.nb st.dt bm.dt }
  |_=>none) else none
 |_,_=>none
def LW (run:ep S->Code->AS S->(AX->AS S->Option R)->Option R) (I:ep S) (fo:Operand) (ps:Array Nat) (jM body:Code) (st:AS S) (k:AX->AS S->Option R):Option R:=
 match st.lp,st.inr with
 |none,false=>(match dX G.K st.env fo with
  |some (.s (.one (.bM i)))=>(match aJ st.h i with
   |some (.bM g [] cs)=>(match G.T g with
    |some J=>(match J.fn.body,J.fn.results.toList with
     |some cb,[]=>bif Nat.ble (1+cs.length) J.fn.ntmps&&(tc st.env&&lh st.h) then
       run J cb ⟨mm 0 (.one .dF::cs),st.h,st.h.length,some ⟨I.topQ,ps.toList,jM,body,st.env,none⟩,false,[],[]⟩ λe bm=>
        (match e with
        | .normal=>D3 st bm k
        | .ret=>D3 st bm k
        |_=>none)
      else none
     |_,_=>none)
    |none=>none)
   |_=>none)
  |_=>none)
 |_,_=>none
def G_ (run:ep S->Code->AS S->(AX->AS S->Option R)->Option R) (f:Nat) (aqJ:List (aE S)) (h:AH S) (k:Rs S->AH S->List Nat->Option R):Option R:=
 match vL G.H f with
 |some hc=>hc.out aqJ h k
 |none=>(match G.T f with
  |some J=>(match J.fn.body with
   |some c=>bif Nat.ble aqJ.length J.fn.ntmps then run J c ⟨mm 0 aqJ,h,h.length,none,false,[],[]⟩ λe bm=>xS G J.fn e bm λr ya=>xI r ya k else none
   |none=>none)
  |none=>none)
def cT:Nat->ep S->Code->AS S->(AX->AS S->Option R)->Option R
 |0,_,_,_,_=>none
 |n+1,I,c,st,k=>
  let cN:Nat->List (aE S)->AH S->(Rs S->AH S->List Nat->Option R)->Option R:=G_ G (cT n)
  let gQ:List (aE S)->AS S->(Bool->AS S->Option R)->Option R:=M_ (cT n)
  match c with
  | .skip=>k .normal st
  | .label _=>k .normal st
  | .scope x=>bif st.inr then none else cT n I x st k
  | .region _ ops draw=>GX G cN gQ I.fn.ntmps ops draw st (λu st=>k (.bN u) st) λst=>k .normal st
  | .seq x y=>cT n I x st λe st=>(match e with| .normal=>cT n I y st k|e=>k e st)
  | .cond o x y=>
   (match dX G.K st.env o with
   |some (.s (.one (.v (.bool b))))=>bif b then cT n I x st k else cT n I y st k
   |_=>none)
  | .block id x=>cT n I x (Xi I x st) λe st=>(match e with| .exit qS=>bif Nat.beq qS id then k .normal (gc (I.L (1000001+id)) st) else k (.exit qS) st|e=>k e st)
  | .loop x=>(match jr I.lc (eK x) with
   |some lc=>lc.out st k
   |none=>cT n I x st λe bm=>(match e with| .normal=>cT n I (.loop x) (gc (I.L (eK x)) bm) k|e=>k e bm))
  | .rangeFunc fo ps jM body=>LW G (cT n) I fo ps jM body (alN I body st) k
  | .exit id=>k (.exit id) st
  | .ret=>k .ret (gc (I.L 1000000) st)
  |_=>none
def bu (n f:Nat) (aqJ:List (aE S)) (h:AH S) (k:Rs S->AH S->List Nat->Option R):Option R:=
 match G.T f with
 |some J=>(match J.fn.body with
  |some c=>bif Nat.ble aqJ.length J.fn.ntmps then cT G n J c ⟨mm 0 aqJ,h,h.length,none,false,[],[]⟩ λe bm=>xS G J.fn e bm λr ya=>xI r ya k else none
  |none=>none)
 |none=>none
end
end
section
variable {S:bL} {A A':Pl} {O:List Nat} {w:World} {ρ:Nat->Option Nat}
structure jn (ρ:Nat->Option Nat) (A A':Pl):Prop where
 pl: ∀i j p,ρ i=some j->A.pl i=some p->A'.pl j=some p
 ls:A'.ls=A.ls
theorem LV.lr (h:jn ρ A A') {l l':LV S} {xs:List Value} (hr:l.dk ρ=some l') (hl:l.rel A O w xs):l'.rel A' O w xs:=by
 cases l with
 |v u=>cases hr;exact hl
 |aP t d=>cases hr;exact hl
 |ptr t d q=>cases hr;exact hl
 |br i q=>simp only[LV.dk] at hr;split at hr<;>cases hr;rename_i j hj;obtain⟨m,h1,h2⟩:=hl;exact⟨m,h.pl _ _ _ hj h1,h2⟩
 |gU i q n y=>simp only[LV.dk] at hr;split at hr<;>cases hr;rename_i j hj;obtain⟨m,h1,h2⟩:=hl;exact⟨m,h.pl _ _ _ hj h1,h2⟩
 |own i=>simp only[LV.dk] at hr;split at hr<;>cases hr;rename_i j hj;obtain⟨m,h1,h2⟩:=hl;exact⟨m,h.pl _ _ _ hj h1,h2⟩
 |f_ e i y q=>simp only[LV.dk] at hr;split at hr<;>cases hr;rename_i j hj;obtain⟨b,n,c,h1,h2⟩:=hl;exact⟨b,n,c,h.pl _ _ _ hj h1,h2⟩
 |gV i q n=>simp only[LV.dk] at hr;split at hr<;>cases hr;rename_i j hj;obtain⟨m,h1,h2⟩:=hl;exact⟨m,h.pl _ _ _ hj h1,h2⟩
 |mp i=>simp only[LV.dk] at hr;split at hr<;>cases hr;rename_i j hj;obtain⟨m,h1,h2⟩:=hl;exact⟨m,h.pl _ _ _ hj h1,h2⟩
 |bM i=>simp only[LV.dk] at hr;split at hr<;>cases hr;rename_i j hj;obtain⟨f,u,c,h1,h2⟩:=hl;exact⟨f,u,c,h.pl _ _ _ hj h1,h2⟩
 |dF=>cases hr;obtain⟨m,h1,h2⟩:=hl;exact⟨m,h.ls.trans h1,h2⟩
 |dy i=>simp only[LV.dk] at hr;split at hr<;>cases hr;rename_i j hj;obtain⟨m,h1,h2⟩:=hl;exact⟨m,h.pl _ _ _ hj h1,h2⟩
 |bR k n gs=>cases hr;exact hl
 |dQ n bs=>cases hr;exact hl
theorem Mg (h:jn ρ A A'): ∀ {ls cW:List (LV S)} {xs:List Value},pI ρ ls=some cW->bT A O w ls xs->bT A' O w cW xs
 |[],_,_,hr,hl=>by cases hr;exact hl
 |l::r,_,_,hr,⟨y,ys,e,h1,h2⟩=>by
  simp only[pI] at hr
  split at hr
  ·rename_i x hx
   split at hr
   ·rename_i z hz
    cases hr
    exact⟨y,ys,e,LV.lr h hx h1,Mg h hz h2⟩
   ·cases hr
  ·cases hr
theorem aE.lr (h:jn ρ A A') {a a':aE S} {x:Value} (hr:a.dk ρ=some a') (hl:a.rel A O w x):a'.rel A' O w x:=by
 cases a with
 |one l=>
  simp only[aE.dk] at hr
  split at hr<;>cases hr
  rename_i y hy
  exact LV.lr h hy hl
 |agg ls=>
  simp only[aE.dk] at hr
  split at hr<;>cases hr
  rename_i y hy
  obtain⟨xs,h1,h2⟩:=hl
  exact⟨xs,h1,Mg h hy h2⟩
theorem xP (h:jn ρ A A'): ∀ {ls cW:List (aE S)} {xs:List Value},re ρ ls=some cW->di A O w ls xs->di A' O w cW xs
 |[],_,_,hr,hl=>by cases hr;exact hl
 |l::r,_,_,hr,⟨y,ys,e,h1,h2⟩=>by
  simp only[re] at hr
  split at hr
  ·rename_i x hx
   split at hr
   ·rename_i z hz
    cases hr
    exact⟨y,ys,e,aE.lr h hx h1,xP h hz h2⟩
   ·cases hr
  ·cases hr
theorem AV.lr (h:jn ρ A A') {a a':AV S} {x:Value} (hr:a.dk ρ=some a') (hl:a.rel A O w x):a'.rel A' O w x:=by
 cases a with
 |s l=>
  simp only[AV.dk] at hr
  split at hr<;>cases hr
  rename_i y hy
  exact aE.lr h hy hl
 |aY ls=>
  simp only[AV.dk] at hr
  split at hr<;>cases hr
  rename_i y hy
  obtain⟨xs,h1,h2⟩:=hl
  exact⟨xs,h1,xP h hy h2⟩
theorem Ob.lr (h:jn ρ A A') {X X':Ob S} {p:Value} (hr:X.dk ρ=some X') (hl:ig A O w X p):ig A' O w X' p:=by
 cases X with
 |box t cs=>
  simp only[Ob.dk] at hr
  split at hr<;>cases hr
  rename_i y hy
  obtain⟨b,vs,h1,h2,h3⟩:=hl
  exact⟨b,vs,h1,h2,Mg h hy h3⟩
 |row e xs=>cases hr;exact hl
 |map kk kv m=>cases hr;exact hl
 |bM f fs cs=>
  simp only[Ob.dk] at hr
  split at hr<;>cases hr
  rename_i y y' hy nQ
  obtain⟨us,vs,h1,h2,h3⟩:=hl
  exact⟨us,vs,h1,xP h hy h2,xP h nQ h3⟩
 |dy s pos=>cases hr;exact hl
theorem get_mem {l:aW S} {s:Nat} {a:AV S}:aW.get l s=some a->(s,a)∈l:=by
 induction l with
 |nil=>intro h;cases h
 |cons p l ih=>
  intro h
  obtain⟨t,b⟩:=p
  simp only[aW.get] at h
  cases hb:Nat.beq t s with
  |true=>
   rw[hb] at h
   simp only[cond_true,Option.some.injEq] at h
   have:=Nat.eq_of_beq_eq_true hb
   subst this;subst h
   exact List.mem_cons_self
  |false=>rw[hb] at h;exact List.mem_cons_of_mem _ (ih h)
theorem Dx {env:aW S} {s:Nat} {a:AV S}: ∀ {l:List Nat},(s,a)∈gz env l->s∈l/\aW.get env s=some a
 |[],h=>by cases h
 |t::r,h=>by
  simp only[gz] at h
  split at h
  ·rename_i b hb
   rcases List.mem_cons.1 h with e|h
   ·cases e;exact⟨List.mem_cons_self,hb⟩
   ·obtain⟨h1,h2⟩:=Dx h;exact⟨List.mem_cons_of_mem _ h1,h2⟩
  ·obtain⟨h1,h2⟩:=Dx h;exact⟨List.mem_cons_of_mem _ h1,h2⟩
theorem Me {s:Nat} {a':AV S}: ∀ {l:aW S},(s,a')∈tC ρ l-> ∃a,(s,a)∈l/\a.dk ρ=some a'
 |[],h=>by cases h
 |(t,b)::r,h=>by
  simp only[tC] at h
  split at h
  ·rename_i x hx
   rcases List.mem_cons.1 h with e|h
   ·cases e;exact⟨b,List.mem_cons_self,hx⟩
   ·obtain⟨a,h1,h2⟩:=Me h;exact⟨a,List.mem_cons_of_mem _ h1,h2⟩
  ·obtain⟨a,h1,h2⟩:=Me h;exact⟨a,List.mem_cons_of_mem _ h1,h2⟩
theorem ank (h:jn ρ A A') {a:Act} {env:aW S} {sl:List Nat} (he:dw A O w env a):dw A' O w (tC ρ (gz env sl)) a:=λs av hs=>by
 obtain⟨b,h1,h2⟩:=Me (get_mem hs)
 exact AV.lr h h2 (he s b (Dx h1).2)
theorem cC.dk {g g':Nat->Option (Ob S)} {idx:Nat->Option Nat} (h:cC A O w g) (hA: ∀j,A'.pl j=(idx j).bind A.pl) (eC:A'.ls=A.ls) (inj: ∀i j j',idx j=some i->idx j'=some i->j=j') (hρ: ∀i j,ρ i=some j->idx j=some i)
  (hg: ∀j X',g' j=some X'-> ∃i X,idx j=some i/\g i=some X/\X.dk ρ=some X'):cC A' O w g':=by
 have hR:jn ρ A A':=⟨λi j p hi hp=>by rw[hA,hρ i j hi];exact hp,eC⟩
 have back: ∀j X' p,g' j=some X'->A'.pl j=some p-> ∃i X,idx j=some i/\g i=some X/\A.pl i=some p:=by
  intro j X' p hj hp
  obtain⟨i,X,h1,h2,h3⟩:=hg j X' hj
  rw[hA,h1] at hp
  exact⟨i,X,h1,h2,hp⟩
 constructor
 ·intro j X' hj
  obtain⟨i,X,h1,h2,h3⟩:=hg j X' hj
  obtain⟨p,q1,q2,q3⟩:=h.al i X h2
  exact⟨p,by rw[hA,h1];exact q1,Ob.lr hR h3 q2,q3⟩
 ·intro j j' X Y p q b aV h1 h2 hp hq
  obtain⟨i,X',a1,a2,a3⟩:=back j X p h1 hp
  obtain⟨i',Y',b1,b2,b3⟩:=back j' Y q h2 hq
  exact h.dj i i' X' Y' p q b (λe=>aV (by subst e;exact inj i j j' a1 b1)) a2 b2 a3 b3
theorem k_ {i:Nat}: ∀ {l:List Nat},fC i l=true↔i∈l
 |[]=>by simp[fC]
 |j::r=>by
  simp only[fC,List.mem_cons]
  cases hb:Nat.beq i j with
  |true=>have:=Nat.eq_of_beq_eq_true hb;simp[this]
  |false=>
   have aV:i≠j:=λe=>by subst e;simp at hb
   simp[aV,k_]
theorem Xg {i j:Nat}: ∀ {l:List Nat} {n:Nat},posOf i l n=some j->n<=j/\l[j-n]? =some i
 |[],n,h=>by cases h
 |t::r,n,h=>by
  simp only[posOf] at h
  cases hb:Nat.beq i t with
  |true=>
   rw[hb] at h
   have:=Nat.eq_of_beq_eq_true hb
   simp only[cond_true,Option.some.injEq] at h
   subst h;subst this
   simp
  |false=>
   rw[hb] at h
   obtain⟨h1,h2⟩:=Xg (n:=n+1) h
   refine⟨by omega,?_⟩
   rw[show j-n=(j-(n+1))+1 by omega]
   simpa using h2
theorem tt {i j:Nat} {l:List Nat} (h:posOf i l 0=some j):l[j]? =some i:=by simpa using(Xg h).2
structure Reach (g:Nat->Option (Ob S)) (nb:Nat) (l:List Nat):Prop where
 nd:l.Nodup
 ge: ∀i∈l,nb<=i
 al: ∀i∈l,∃X,g i=some X
theorem q_ {g:Nat->Option (Ob S)} {nb:Nat}: ∀ {n:Nat} {t seen:List Nat},Reach g nb seen->Reach g nb (reach g nb n t seen)
 |0,t,seen,h=>h
 |n+1,[],seen,h=>h
 |n+1,i::t,seen,h=>by
  simp only[reach]
  cases hb:Nat.blt i nb with
  |true=>exact q_ h
  |false=>
   simp only[cond_false]
   cases hm:fC i seen with
   |true=>exact q_ h
   |false=>
    simp only[cond_false]
    split
    ·rename_i X hX
     have hni:i∉seen:=λc6=>by rw[k_.2 c6] at hm;cases hm
     have dr:nb<=i:=by
      rcases Nat.lt_or_ge i nb with h1|h1
      ·rw[Nat.blt_eq.mpr h1] at hb;cases hb
      ·exact h1
     refine q_ ⟨?_,?_,?_⟩
     ·rw[List.nodup_append]
      exact⟨h.nd,by simp,λa ha b fa=>by simp at fa;subst fa;exact λe=>hni (e▸ha)⟩
     ·intro j hj
      rcases List.mem_append.1 hj with hj|hj
      ·exact h.ge j hj
      ·simp at hj;subst hj;exact dr
     ·intro j hj
      rcases List.mem_append.1 hj with hj|hj
      ·exact h.al j hj
      ·simp at hj;subst hj;exact⟨X,hX⟩
    ·exact q_ h
theorem Ma {g:Nat->Option (Ob S)} {nb:Nat}:Reach g nb []:=⟨List.nodup_nil,(λi h=>nomatch h),(λi h=>nomatch h)⟩
theorem DG {l:List Nat} (h:l.Nodup) {i j j':Nat} (h1:l[j]? =some i) (h2:l[j']? =some i):j=j':=by
 obtain⟨a1,a2⟩:=List.getElem?_eq_some_iff.1 h1
 obtain⟨b1,b2⟩:=List.getElem?_eq_some_iff.1 h2
 have hp:=List.pairwise_iff_getElem.1 h
 rcases Nat.lt_trichotomy j j' with aH|he|wL
 ·exact absurd (a2.trans b2.symm) (hp j j' a1 b1 aH)
 ·exact he
 ·exact absurd (b2.trans a2.symm) (hp j' j b1 a1 wL)
theorem Vf {g:Nat->Option (Ob S)} {nb:Nat} {roots:List Nat}:(kept g nb roots).Nodup:=by
 have:=q_ (g:=g) (nb:=nb) (n:=1000) (t:=roots) Ma
 unfold kept
 rw[List.nodup_append]
 exact⟨List.nodup_range,this.nd,λa ha b hb e=>by have:=this.ge b hb;simp at ha;omega⟩
theorem Ve {g:Nat->Option (Ob S)} {nb i:Nat} {roots:List Nat} (h:i<nb):(kept g nb roots)[i]? =some i:=by
 unfold kept
 rw[List.getElem?_append_left (by simpa using h)]
 simp[h]
theorem Vc {g:Nat->Option (Ob S)} {nb i j:Nat} {roots:List Nat} (h:nb<=j) (hj:(kept g nb roots)[j]? =some i):nb<=i:=by
 unfold kept at hj
 rw[List.getElem?_append_right (by simpa using h)] at hj
 exact(q_ (g:=g) (nb:=nb) (n:=1000) (t:=roots) Ma).ge i (List.mem_of_getElem? hj)
theorem Vd {g:Nat->Option (Ob S)} {nb:Nat} {roots:List Nat}:nb<=(kept g nb roots).length:=by unfold kept;simp
theorem Xd {g:Nat->Option (Ob S)}: ∀ {l:List Nat} {j:Nat},(jF g l)[j]? =(l[j]?).map g
 |[],j=>by simp[jF]
 |i::r,0=>by simp[jF]
 |i::r,j+1=>by simp[jF,Xd]
theorem Mf: ∀ {h:AH S} {j:Nat},(gN ρ h)[j]? =(h[j]?).map (rh ρ)
 |[],j=>by simp[gN]
 |i::r,0=>by simp[gN]
 |i::r,j+1=>by simp[gN,Mf]
theorem rf: ∀ {h:AH S},(gN ρ h).length=h.length
 |[]=>rfl
 |i::r=>by simp[gN,rf]
theorem tl {g:Nat->Option (Ob S)}: ∀ {l:List Nat},(jF g l).length=l.length
 |[]=>rfl
 |i::r=>by simp[jF,tl]
theorem mM {h:AH S} {i:Nat} {X:Ob S}:aJ h i=some X↔h[i]? =some (some X):=by
 unfold aJ
 split
 ·rename_i Y hY;rw[hY];simp
 ·rename_i hn
  constructor
  ·intro h;cases h
  ·intro h;exact absurd h (hn X)
theorem Ed {X:Option (Ob S)} {X':Ob S} (h:rh ρ X=some X'): ∃Y,X=some Y/\Y.dk ρ=some X':=by
 cases X with
 |none=>cases h
 |some Y=>exact⟨Y,rfl,h⟩
theorem tp {g:Nat->Option (Ob S)} {l:List Nat} {j:Nat} {X':Ob S} (h:aJ (gN ρ (jF g l)) j=some X'): ∃i X,l[j]? =some i/\g i=some X/\X.dk ρ=some X':=by
 rw[mM,Mf,Xd] at h
 cases hl:l[j]? with
 |none=>rw[hl] at h;cases h
 |some i=>
  rw[hl] at h
  simp only[Option.map_some,Option.some.injEq] at h
  obtain⟨Y,h1,h2⟩:=Ed h
  exact⟨i,Y,rfl,h1,h2⟩
theorem hU {h:AH S} {i:Nat} {X:Ob S} (hi:aJ h i=some X):i<h.length:=(List.getElem?_eq_some_iff.1 (mM.1 hi)).1
end
section
variable {S:bL} {K:bQ S} {P:Program} {R:Type} {z:R}
def fI (P:Program) (f:Nat):Prop:= ∀(vs:Array Value) (u:World),(callFunc f vs).run P u= .ok (.enter f vs) u
def mj (A:Pl) (O:List Nat) (w:World):Rs S->Ending->Prop
 | .ret a,e=> ∃v,e= .returned v/\a.rel A O w v
 | .bN u,e=>e= .panicked [{ v:=u,recovered:=false }]
structure ES (A:Pl) (O:List Nat) (w:World) (n:Nat) (h':AH S) (dt:List Nat) (A':Pl) (O':List Nat) (w':World):Prop where
 rel:cC A' O' w' (aJ h')
 ob:OB O' w'
 tr:Tr O w O' w'
 pl: ∀i,i<n->A'.pl i=A.pl i
 lt: ∀j∈dt,j<n
 ls:A'.ls=A.ls
 len:n<=h'.length
 free: ∀i,h'.length<=i->A'.pl i=none
 cl: ∀b,b∈O->(∀i∈dt,∀p,A.pl i=some p->cq p≠some b)->w'.heap[b]? =w.heap[b]? /\b∈O'/\ ∀i X p,n<=i->aJ h' i=some X->A'.pl i=some p->cq p≠some b
def gR (K:bQ S) (P:Program) (f:Nat) (aqJ:List (aE S)) (h:AH S) (r:Rs S) (h':AH S) (dt:List Nat):Prop:=
 fI P f/\ ∀(A:Pl) (O:List Nat) (w:World) (xs:List Value),di A O w aqJ xs->cC A O w (aJ h)->OB O w->dq K O w->(∀i,h.length<=i->A.pl i=none)->
  Calls P f xs.toArray w (λe w'=> ∃A' O',mj A' O' w' r e/\ES A O w h.length h' dt A' O' w')
def om (K:bQ S) (P:Program) (cN:Nat->List (aE S)->AH S->(Rs S->AH S->List Nat->Option R)->Option R):Prop:=
 ∀(f:Nat) (aqJ:List (aE S)) (h:AH S) (k:Rs S->AH S->List Nat->Option R) (z:R),cN f aqJ h k=some z-> ∃r h' dt,k r h' dt=some z/\gR K P f aqJ h r h' dt
def Nf (K:bQ S) (P:Program) (f:Nat) (aqJ:List (aE S)) (g:Nat->Option (Ob S)) (nx:Nat) (r:Rs S) (up:Up S) (nw:AH S):Prop:=
 fI P f/\ ∀(A:Pl) (O:List Nat) (w:World) (xs:List Value),di A O w aqJ xs->cC A O w g->OB O w->dq K O w->(∀j,j<nw.length->A.pl (nx+j)=none)->
  Calls P f xs.toArray w (λe w'=> ∃A' O',mj A' O' w' r e/\cM A O w g (up++news nx nw) A' O' w')
def n_ (kp:Value->Up S->AH S->Option R) (k:AV S->Up S->AH S->Option R):Rs S->Up S->AH S->Option R
 | .ret a,up,nw=>k a up nw
 | .bN u,up,nw=>bif u.oneCell' then kp u up nw else none
theorem mL {i n:Nat} {X:Option (Ob S)}: ∀ {nw:AH S},(i,X)∈news n nw↔ ∃j,nw[j]? =some X/\i=n+j:=by
 intro nw
 induction nw generalizing n with
 |nil=>simp[news]
 |cons Y r ih=>
  simp only[news,List.mem_cons,Prod.mk.injEq,ih]
  constructor
  ·rintro (⟨rfl,rfl⟩|⟨j,h1,rfl⟩)
   ·exact⟨0,rfl,rfl⟩
   ·exact⟨j+1,by simpa using h1,by omega⟩
  ·rintro ⟨j,h1,rfl⟩
   cases j with
   |zero=>simp at h1;exact .inl ⟨rfl,h1.symm⟩
   |succ j=>exact .inr ⟨j,by simpa using h1,by omega⟩
theorem MM {rs:List Nat} {ρ:Nat->Option Nat} {h:AH S} {i:Nat} {X:Option (Ob S)}: ∀ {dt:List Nat},(i,X)∈oe rs ρ h dt↔ ∃j∈dt,rs[j]? =some i/\X=rh ρ (aJ h j):=by
 intro dt
 induction dt with
 |nil=>simp[oe]
 |cons j r ih=>
  simp only[oe]
  split
  ·rename_i i' iS
   simp only[List.mem_cons,Prod.mk.injEq,ih,exists_eq_or_imp,iS,Option.some.injEq]
   constructor
   ·rintro (⟨rfl,rfl⟩|h)
    ·exact .inl ⟨rfl,rfl⟩
    ·exact .inr h
   ·rintro (⟨rfl,rfl⟩|h)
    ·exact .inl ⟨rfl,rfl⟩
    ·exact .inr h
  ·rename_i hn
   rw[ih]
   constructor
   ·rintro ⟨j',h1,h2⟩;exact⟨j',List.mem_cons_of_mem _ h1,h2⟩
   ·rintro ⟨j',h1,h2⟩
    rcases List.mem_cons.1 h1 with rfl|h1
    ·rw[hn] at h2;cases h2.1
    ·exact⟨j',h1,h2⟩
theorem anl {ρ:Nat->Option Nat} {h:AH S} {m j:Nat} {X:Option (Ob S)} (hj:(gN ρ (h.drop m))[j]? =some X):m+j<h.length/\X=rh ρ (aJ h (m+j)):=by
 rw[Mf,List.getElem?_drop] at hj
 cases hq:h[m+j]? with
 |none=>rw[hq] at hj;cases hj
 |some Y=>
  rw[hq] at hj
  simp only[Option.map_some,Option.some.injEq] at hj
  refine⟨(List.getElem?_eq_some_iff.1 hq).1,?_⟩
  subst hj
  unfold aJ
  rw[hq]
  cases Y<;>rfl
theorem R5 {cN:Nat->List (aE S)->AH S->(Rs S->AH S->List Nat->Option R)->Option R} (cV:om K P cN) {f nx:Nat} {aqJ:List (aE S)} {g:Nat->Option (Ob S)} {kp:Value->Up S->AH S->Option R} {k:AV S->Up S->AH S->Option R}
  (h:BJ cN f aqJ g nx kp k=some z): ∃r up nw,n_ kp k r up nw=some z/\Nf K P f aqJ g nx r up nw:=by
 unfold BJ at h
 obtain⟨rs,sS⟩: ∃rs,rs=reach g 0 1000 (n5 aqJ) []:=⟨_,rfl⟩
 have hR:Reach g 0 rs:=by rw[sS];exact q_ Ma
 simp only[<-sS] at h
 split at h
 ·cases h
 rename_i jL has
 obtain⟨r,h',dt,hk,gv,hS⟩:=cV _ _ _ _ _ h
 obtain⟨lD,Dm⟩: ∃lD:Nat->Option Nat,lD=λj=>bif Nat.blt j rs.length then rs[j]? else some (nx+(j-rs.length)):=⟨_,rfl⟩
 simp only[<-Dm] at hk
 obtain⟨r',ko,k9⟩: ∃r',n_ kp k r' (oe rs lD h' dt) (gN lD (h'.drop rs.length))=some z/\(∀(A1 A':Pl) (O':List Nat) (w':World) (e:Ending),jn lD A1 A'->mj A1 O' w' r e->mj A' O' w' r' e):=by
  cases r with
  |ret a=>
   simp only at hk
   split at hk
   ·rename_i a' dD
    exact⟨.ret a',hk,λA1 A' O' w' e hR ⟨v,h1,h2⟩=>⟨v,h1,AV.lr hR dD h2⟩⟩
   ·cases hk
  |bN u=>exact⟨.bN u,hk,λA1 A' O' w' e hR h=>h⟩
 refine⟨r',_,_,ko,gv,λA O w xs ha hg hO hG cp=>?_⟩
 obtain⟨Ac,nq⟩: ∃Ac:Pl,Ac=⟨λj=>(rs[j]?).bind A.pl,A.ls⟩:=⟨_,rfl⟩
 have hRc:jn (λi=>posOf i rs 0) A Ac:=⟨λi j p hi hp=>by
  have:=tt hi
  rw[nq];simp only[this,Option.bind_some];exact hp,by rw[nq]⟩
 have hlen:(gN (λi=>posOf i rs 0) (jF g rs)).length=rs.length:=by rw[rf,tl]
 have hgc:cC Ac O w (aJ (gN (λi=>posOf i rs 0) (jF g rs))):=
  hg.dk (idx:=λj=>rs[j]?) (ρ:=λi=>posOf i rs 0) (λj=>by rw[nq]) (by rw[nq]) (λi j j' h1 h2=>DG hR.nd h1 h2) (λi j hi=>tt hi) (λj X' hj=>tp hj)
 refine(hS Ac O w xs (xP hRc has ha) hgc hO hG (λi hi=>by rw[hlen] at hi;rw[nq];simp[List.getElem?_eq_none hi])).mono ?_
 rintro e w' ⟨A1,O1,hr,hp⟩
 rw[hlen] at hp
 obtain⟨nw,J_⟩: ∃nw,nw=gN lD (h'.drop rs.length):=⟨_,rfl⟩
 rw[<-J_] at cp ⊢
 have aqq:nw.length=h'.length-rs.length:=by rw[J_,rf,List.length_drop]
 obtain⟨A',da⟩: ∃A':Pl,A'=⟨λi=>match A.pl i with|some p=>some p|none=>bif Nat.ble nx i&&Nat.blt i (nx+nw.length) then A1.pl (rs.length+(i-nx)) else none,A.ls⟩:=⟨_,rfl⟩
 have hold: ∀i p,A.pl i=some p->A'.pl i=some p:=λi p hp=>by rw[da];simp[hp]
 have ai8: ∀j,j<rs.length->A1.pl j=(rs[j]?).bind A.pl:=λj hj=>by rw[hp.pl j hj,nq]
 have fi: ∀c p,rs.length<=c->A1.pl c=some p->A'.pl (nx+(c-rs.length))=some p:=by
  intro c p hc kA
  have aH:c<h'.length:=by
   rcases Nat.lt_or_ge c h'.length with h1|h1
   ·exact h1
   ·rw[hp.free c h1] at kA;cases kA
  have hf:=cp (c-rs.length) (by omega)
  rw[da]
  simp only[hf]
  rw[Nat.ble_eq.mpr (Nat.le_add_right _ _),Nat.blt_eq.mpr (show nx+(c-rs.length)<nx+nw.length by omega)]
  simp only[Bool.and_self,cond_true]
  rw[show rs.length+(nx+(c-rs.length)-nx)=c by omega]
  exact kA
 have wb:jn lD A1 A':=⟨λc i p hc kA=>by
  rw[Dm] at hc
  simp only at hc
  cases hb:Nat.blt c rs.length with
  |true=>
   rw[hb] at hc
   simp only[cond_true] at hc
   rw[ai8 c (Nat.blt_eq.mp hb),hc] at kA
   exact hold i p kA
  |false=>
   rw[hb] at hc
   simp only[cond_false,Option.some.injEq] at hc
   subst hc
   refine fi c p ?_ kA
   rcases Nat.lt_or_ge c rs.length with h1|h1
   ·rw[Nat.blt_eq.mpr h1] at hb;cases hb
   ·exact h1,by rw[da];rw[hp.ls,nq]⟩
 have sf: ∀i X,(i,X)∈oe rs lD h' dt++news nx nw-> ∃c,lD c=some i/\X=rh lD (aJ h' c)/\((c<rs.length/\c∈dt/\rs[c]? =some i)\/(rs.length<=c/\i=nx+(c-rs.length)/\c-rs.length<nw.length)):=by
  intro i X hi
  rcases List.mem_append.1 hi with hi|hi
  ·obtain⟨c,h1,h2,h3⟩:=MM.1 hi
   have aH:=(List.getElem?_eq_some_iff.1 h2).1
   exact⟨c,by rw[Dm];simp only[Nat.blt_eq.mpr aH,cond_true];exact h2,h3,.inl ⟨aH,h1,h2⟩⟩
  ·obtain⟨j,h1,rfl⟩:=mL.1 hi
   have iy:=(List.getElem?_eq_some_iff.1 h1).1
   rw[J_] at h1
   obtain⟨h2,h3⟩:=anl h1
   refine⟨rs.length+j,?_,h3,.inr ⟨by omega,by omega,by omega⟩⟩
   rw[Dm]
   have:Nat.blt (rs.length+j) rs.length=false:=by
    cases hb:Nat.blt (rs.length+j) rs.length with
    |false=>rfl
    |true=>have:=Nat.blt_eq.mp hb;omega
   simp only[this,cond_false]
   congr 1;omega
 have live: ∀c i:Nat,rs[c]? =some i-> ∃Z p,g i=some Z/\A.pl i=some p:=by
  intro c i hc
  obtain⟨Z,hZ⟩:=hR.al i (List.mem_of_getElem? hc)
  obtain⟨p,hp,_⟩:=hg.al i Z hZ
  exact⟨Z,p,hZ,hp⟩
 have inj: ∀c c' i:Nat,lD c=some i->lD c'=some i->((c<rs.length/\rs[c]? =some i)\/(rs.length<=c/\i=nx+(c-rs.length)/\c-rs.length<nw.length))->((c'<rs.length/\rs[c']? =some i)\/(rs.length<=c'/\i=nx+(c'-rs.length)/\c'-rs.length<nw.length))->c=c':=by
  rintro c c' i _ _ (⟨h1,h2⟩|⟨h1,h2,h3⟩) (⟨k1,k2⟩|⟨k1,k2,k3⟩)
  ·exact DG hR.nd h2 k2
  ·obtain⟨Z,p,_,hp⟩:=live c i h2
   rw[k2,cp _ k3] at hp;cases hp
  ·obtain⟨Z,p,_,hp⟩:=live c' i k2
   rw[h2,cp _ h3] at hp;cases hp
  ·omega
 have src: ∀ {c i:Nat},((c<rs.length/\c∈dt/\rs[c]? =some i)\/(rs.length<=c/\i=nx+(c-rs.length)/\c-rs.length<nw.length))->((c<rs.length/\rs[c]? =some i)\/(rs.length<=c/\i=nx+(c-rs.length)/\c-rs.length<nw.length)):=
  λh=>h.imp (λ⟨a,_,b⟩=>⟨a,b⟩) id
 refine⟨A',O1,k9 A1 A' O1 w' e wb hr,⟨⟨hold,by rw[da]⟩,hp.tr,hp.ob,?_,?_,?_,?_,?_,?_⟩⟩
 ·intro b hb hk
  obtain⟨q1,q2,_⟩:=hp.cl b hb λc hc p kA=>by
   have aH:=hp.lt c hc
   rw[nq] at kA
   obtain⟨i,hi,Db⟩:=Option.bind_eq_some_iff.1 kA
   exact hk i _ p (List.mem_append_left _ (MM.2 ⟨c,hc,hi,rfl⟩)) Db
  exact⟨q1,q2⟩
 ·intro i X hi
  obtain⟨c,h1,h2,h3⟩:=sf i _ hi
  obtain⟨Y,h4,h5⟩:=Ed h2.symm
  obtain⟨p,q1,q2,q3⟩:=hp.rel.al c Y h4
  refine⟨p,wb.pl c i p h1 q1,Ob.lr wb h5 q2,λb hb=>⟨q3 b hb,?_⟩⟩
  rcases Nat.lt_or_ge b w.heap.size with aH|dr
  rotate_left
  ·exact .inl dr
  right
  have hbO:b∈O:=by
   rcases Decidable.em (b∈O) with h|h
   ·exact h
   ·exact absurd (q3 b hb) (hp.tr.keep b aH h).1
  rcases Classical.em (∀i∈dt,∀p,Ac.pl i=some p->cq p≠some b) with bS|bS
  ·obtain⟨_,_,h6⟩:=hp.cl b hbO bS
   rcases h3 with⟨k1,k2,k3⟩|⟨k1,k2,k3⟩
   ·exact absurd hb (bS c k2 p (by rw[<-hp.pl c k1];exact q1))
   ·exact absurd hb (h6 c Y p k1 h4 q1)
  ·simp only[Classical.not_forall,Decidable.not_not] at bS
   obtain⟨c',kd,q,hq,ew⟩:=bS
   rw[nq] at hq
   obtain⟨i',iS,ajQ⟩:=Option.bind_eq_some_iff.1 hq
   exact⟨i',_,q,List.mem_append_left _ (MM.2 ⟨c',kd,iS,rfl⟩),ajQ,ew⟩
 ·intro i j X Y p q b aV hi hj wZ Kd
  obtain⟨c,h1,h2,h3⟩:=sf i _ hi
  obtain⟨c',k1,k2,k3⟩:=sf j _ hj
  obtain⟨X0,h4,_⟩:=Ed h2.symm
  obtain⟨Y0,k4,_⟩:=Ed k2.symm
  obtain⟨p',q1,_⟩:=hp.rel.al c X0 h4
  obtain⟨q',r1,_⟩:=hp.rel.al c' Y0 k4
  have e1:=wb.pl c i p' h1 q1
  have e2:=wb.pl c' j q' k1 r1
  rw[wZ] at e1;rw[Kd] at e2
  cases e1;cases e2
  exact hp.rel.dj c c' X0 Y0 p q b (λe=>aV (by subst e;rw[h1] at k1;exact Option.some.inj k1)) h4 k4 q1 r1
 ·intro i X Y hi hj
  obtain⟨c,h1,h2,h3⟩:=sf i _ hi
  obtain⟨c',k1,k2,k3⟩:=sf i _ hj
  have:=inj c c' i h1 k1 (src h3) (src k3)
  subst this
  rw[h2,k2]
 ·intro i X p hi Db
  obtain⟨c,h1,h2,h3⟩:=sf i _ hi
  rcases h3 with⟨k1,k2,k3⟩|⟨k1,k2,k3⟩
  ·obtain⟨Z,_,hZ,_⟩:=live c i k3
   exact⟨Z,hZ⟩
  ·rw[k2,cp _ k3] at Db;cases Db
 ·intro i
  rw[da]
  cases hi:A.pl i with
  |some p=>left;simp[hi]
  |none=>
   simp only[hi]
   cases hb:(Nat.ble nx i&&Nat.blt i (nx+nw.length)) with
   |false=>left;rfl
   |true=>
    simp only[Bool.and_eq_true] at hb
    have h1:=Nat.le_of_ble_eq_true hb.1
    have h2:=Nat.blt_eq.mp hb.2
    have aH:i-nx<nw.length:=by omega
    exact .inr ⟨trivial,nw[i-nx],List.mem_append_right _ (mL.2 ⟨i-nx,List.getElem?_eq_getElem aH,by omega⟩)⟩
def fY (K:bQ S) (P:Program) (f:Nat) (aqJ:List (aE S)) (r:Rs S):Prop:=
 fI P f/\ ∀(A:Pl) (O:List Nat) (w:World) (xs:List Value),di A O w aqJ xs->OB O w->dq K O w->Calls P f xs.toArray w (λe w'=>mj A O w' r e/\Fr [] w w')
theorem LV.qp {A A':Pl} {O O':List Nat} {w w':World} {l:LV S} {xs:List Value} (hf:l.flat=true) (h:l.rel A O w xs):l.rel A' O' w' xs:=by
 cases l<;>first|exact h|cases hf
theorem S8 {A A':Pl} {O O':List Nat} {w w':World}: ∀ {ls:List (LV S)} {xs:List Value},ls.all LV.flat=true->bT A O w ls xs->bT A' O' w' ls xs
 |[],_,_,h=>h
 |l::ls,_,hp,⟨y,ys,h,h1,h2⟩=>by
  simp only[List.all_cons,Bool.and_eq_true] at hp
  exact⟨y,ys,h,LV.qp hp.1 h1,S8 hp.2 h2⟩
theorem aE.qp {A A':Pl} {O O':List Nat} {w w':World} {a:aE S} {x:Value} (hf:a.flat=true) (h:a.rel A O w x):a.rel A' O' w' x:=by
 cases a with
 |one l=>exact LV.qp hf h
 |agg ls=>obtain⟨xs,h1,h2⟩:=h;exact⟨xs,h1,S8 hf h2⟩
theorem S6 {A A':Pl} {O O':List Nat} {w w':World}: ∀ {ls:List (aE S)} {xs:List Value},ls.all aE.flat=true->di A O w ls xs->di A' O' w' ls xs
 |[],_,_,h=>h
 |l::ls,_,hp,⟨y,ys,h,h1,h2⟩=>by
  simp only[List.all_cons,Bool.and_eq_true] at hp
  exact⟨y,ys,h,aE.qp hp.1 h1,S6 hp.2 h2⟩
theorem AV.qp {A A':Pl} {O O':List Nat} {w w':World} {a:AV S} {x:Value} (hf:a.flat=true) (h:a.rel A O w x):a.rel A' O' w' x:=by
 cases a with
 |s l=>exact aE.qp hf h
 |aY ls=>obtain⟨xs,h1,h2⟩:=h;exact⟨xs,h1,S6 hf h2⟩
theorem ah6 {A:Pl} {O:List Nat} {w w':World} {g:Nat->Option (Ob S)} {rs:List Nat} (hO:OB O w) (hl: ∀r∈rs,∃Z,g r=some Z) (hF:Fr [] w w'):cM A O w g (kF rs) A (fV A rs O) w' where
 le:=Pl.le.refl A
 tr:=(Tr.less iW).trans hF.fp
 ob:=hF.ob λb hb=>hO b (iW b hb)
 keep c hc h:=⟨hF.block c (hO c hc) (by simp),mJ.2 ⟨hc,λr hr p hp=>h r none p (iX.2 ⟨hr,rfl⟩) hp⟩⟩
 al i Y h:=by have:=(iX.1 h).2;cases this
 dj i j Y Z q r c _ h:=by have:=(iX.1 h).2;cases this
 nd i Y Z h1 h2:=(iX.1 h1).2.trans (iX.1 h2).2.symm
 lv i Y q h _:=hl i (iX.1 h).1
 pl _:= .inl rfl
theorem Hq {A:Pl} {O:List Nat} {w w':World} {g:Nat->Option (Ob S)} (hO:OB O w) (hF:Fr [] w w'):cM A O w g [] A O w':=
 ⟨Pl.le.refl A,hF.fp,hF.ob hO,λb hb _=>⟨hF.block b (hO b hb) (by simp),hb⟩,(λ_ _ h=>nomatch h),(λ_ _ _ _ _ _ _ _ h=>nomatch h),(λ_ _ _ h=>nomatch h),(λ_ _ _ h=>nomatch h),(λ_=> .inl rfl)⟩
structure oo (G:az S) (P:Program):Prop where
 C: ∀f cn,Cc G.C f=some cn-> ∀ {R:Type} (aqJ:List (aE S)) (k:Rs S->Option R) (z:R),aqJ.all aE.pure=true->cn.out aqJ k=some z-> ∃r,k r=some z/\fY G.K P f aqJ r
theorem adF {G:az S} (hK:cI G.K P) (hC:oo G P) {cN:Nat->List (aE S)->AH S->(Rs S->AH S->List Nat->Option R)->Option R} (cV:om G.K P cN) {f nx:Nat} {aqJ:List (aE S)} {g:Nat->Option (Ob S)} {kp:Value->Up S->AH S->Option R} {k:AV S->Up S->AH S->Option R}
  (h:G' G cN f aqJ g nx kp k=some z): ∃r up nw,n_ kp k r up nw=some z/\Nf G.K P f aqJ g nx r up nw:=by
 unfold G' at h
 split at h
 ·rename_i cn wC
  split at h
  ·rename_i jL rs lT
   have ajR:jL.all aE.pure=true:=by
    exact Th lT
   obtain⟨r,hk,gv,hS⟩:=hC.C f cn wC jL _ z ajR h
   cases r with
   |ret a=>
    simp only at hk
    cases hp:a.pure<;>rw[hp] at hk
    ·cases hk
    simp only[cond_true] at hk
    cases C8:a.flat<;>rw[C8] at hk
    ·refine⟨.ret a,kF rs,[],hk,gv,λA O w xs ha hg hO hG cp=>?_⟩
     obtain⟨q1,q2,q3⟩:=sv hK hg (all:=rs) lT ha (λr hr=>hr)
     refine(hS A (fV A rs O) w xs q1 (λb hb=>hO b (iW b hb)) (hG.tr (Tr.less iW))).mono ?_
     rintro e w' ⟨⟨v,h1,h2⟩,hF⟩
     exact⟨A,fV A rs O,⟨v,h1,h2⟩,by simpa[news] using ah6 hO q3 hF⟩
    ·refine⟨.ret a,[],[],hk,gv,λA O w xs ha hg hO hG cp=>?_⟩
     obtain⟨q1,q2,q3⟩:=sv hK hg (all:=rs) lT ha (λr hr=>hr)
     refine(hS A (fV A rs O) w xs q1 (λb hb=>hO b (iW b hb)) (hG.tr (Tr.less iW))).mono ?_
     rintro e w' ⟨⟨v,h1,h2⟩,hF⟩
     exact⟨A,O,⟨v,h1,AV.qp C8 h2⟩,Hq hO hF⟩
   |bN u=>
    refine⟨.bN u,[],[],hk,gv,λA O w xs ha hg hO hG cp=>?_⟩
    obtain⟨q1,q2,q3⟩:=sv hK hg (all:=rs) lT ha (λr hr=>hr)
    refine(hS A (fV A rs O) w xs q1 (λb hb=>hO b (iW b hb)) (hG.tr (Tr.less iW))).mono ?_
    rintro e w' ⟨h1,hF⟩
    exact⟨A,O,h1,Hq hO hF⟩
  ·exact R5 cV h
 ·exact R5 cV h
theorem adG {rr:Option Nat} {n f:Nat} {args:Array Value} {w:World} {Q Q':Ending->World->Prop} (h:Calls P f args w Q) (hq: ∀e w',Q e w'->Q' e w'):CallsIn (fw rr) n P f args w Q':=by
 refine⟨trivial,λcs _=>?_⟩
 obtain⟨e,cE,fr,hr,hs,hf,hl⟩:=h cs
 refine⟨e,cE,fr,hq e cE hr,?_,hf,hl⟩
 cases e with
 |outgrown=>exact hs
 |returned v=>
  refine StepsIn.mono (λm _=>?_) (StepsIn.of_steps hs)
  intro g _
  exact⟨λh=>by simp[fw] at h,Or.inl trivial,λ_ _=>trivial,λ_ h=>by simp[fw] at h⟩
 |panicked ch=>
  refine StepsIn.mono (λm _=>?_) (StepsIn.of_steps hs)
  intro g _
  exact⟨λh=>by simp[fw] at h,Or.inl trivial,λ_ _=>trivial,λ_ h=>by simp[fw] at h⟩
theorem alB {rr:Option Nat} {o:Oper} {a:Act} {w:World} {f:Nat} {args:Array Value} {post bN:Value->World->Prop} {Q:Ending->World->Prop} (hc: ∀c,o.op≠ .defer c) (bC:(execOp a.eval o).run P w= .ok (.enter f args) w) (gu:Calls P f args w Q)
  (h: ∀e w',Q e w'->(∃v,e= .returned v/\post v w')\/(∃u,e= .panicked [{ v:=u,recovered:=false }]/\bN u w')):mi P rr o a w post bN:=by
 refine⟨λ_ _=>trivial,?_⟩
 rw[Oper.semAt_eq _ _ _ hc,bC,Oper.uponIn_enter]
 refine⟨λh=>by simp[fw] at h,adG gu λe w' hq=>?_⟩
 rcases h e w' hq with⟨v,rfl,h1⟩|⟨u,rfl,h1⟩
 ·exact⟨v,rfl,h1⟩
 ·exact⟨u,rfl,rfl,h1⟩
theorem anv {o:Oper} {c:Go.Call} {x:Operand} {a:Act} {w:World} {f:Nat} {fs cs:List Value} (ak:o.op= .call c) (cV:c.callee= .value x) (hx:a.eval x= .func (.func f) fs.toArray cs.toArray) (he:fI P f):
  (execOp a.eval o).run P w= .ok (.enter f (fs++c.args.toList.map a.eval++cs).toArray) w:=by
 unfold execOp
 rw[ak]
 have e1:fs.toArray++c.args.map a.eval++cs.toArray=(fs++c.args.toList.map a.eval++cs).toArray:=by
  rw[<-Array.toList_map]
  simp
 simp only[Sem.run_bind,resolve,cV,hx,Deferred.ofValue,Sem.run_pure,Result.andThen_ok,invoke]
 rw[e1]
 exact he _ w
theorem pN {F:Fence} {n:Nat} {o:Oper} {a:Act} {w:World} {X X':Act->World->Prop} {Q Q':Exit->Act->World->Prop} (h: ∀a w,X a w->X' a w) (hq: ∀e a w,Q e a w->Q' e a w) (hh:o.wpIn F n P a w X Q):o.wpIn F n P a w X' Q':=by
 obtain⟨h1,h2⟩:=hh
 refine⟨h1,?_⟩
 unfold Oper.uponIn at h2 ⊢
 split at h2
 ·exact h _ _ h2
 ·exact h _ _ h2
 ·exact h _ _ h2
 ·refine⟨h2.1,h2.2.1,λcs hr=>?_⟩
  obtain⟨e,w',fr,q1,q2⟩:=h2.2.2 cs hr
  refine⟨e,w',fr,?_,q2⟩
  cases e with
  |returned v=>exact h _ _ q1
  |panicked ch=>exact hq _ _ _ q1
  |outgrown=>obtain⟨a',w',q⟩:=q1;exact⟨a',w',hq _ _ _ q⟩
 ·exact⟨h2.1,h2.2.mono λv w' q=>h _ _ q⟩
 ·refine⟨h2.1,h2.2.mono λe w' q=>?_⟩
  cases e with
  |returned v=>exact h _ _ q
  |panicked ch=>exact hq _ _ _ q
  |outgrown=>obtain⟨a',w',q⟩:=q;exact⟨a',w',hq _ _ _ q⟩
 ·exact hq _ _ _ h2
 ·exact h2
theorem mi.mono {rr:Option Nat} {o:Oper} {a:Act} {w:World} {post Xh bN Xa:Value->World->Prop} (h:mi P rr o a w post bN) (h1: ∀v w',post v w'->Xh v w') (h2: ∀v w',bN v w'->Xa v w'):mi P rr o a w Xh Xa:=
 pN (λa' w' ⟨v,e,hv⟩=>⟨v,e,h1 v w' hv⟩) (λe a' w' hq=>by
  cases e with
  |panic ch=>obtain⟨u,e1,e2,e3⟩:=hq;exact⟨u,e1,e2,h2 u w' e3⟩
  |_=>exact hq.elim) h
def Av (K:bQ S) (P:Program) (o:Oper) (env:aW S) (g:Nat->Option (Ob S)) (nx:Nat) (r:Rs S) (up:Up S) (nw:AH S):Prop:=
 ∀(rr:Option Nat) (A:Pl) (O:List Nat) (w:World) (a:Act),dw A O w env a->cC A O w g->OB O w->dq K O w->(∀j,j<nw.length->A.pl (nx+j)=none)->
  mi P rr o a w (λv w'=> ∃av,r= .ret av/\ ∃A' O',av.rel A' O' w' v/\cM A O w g (up++news nx nw) A' O' w') (λu w'=>r= .bN u/\ ∃A' O',cM A O w g (up++news nx nw) A' O' w')
theorem Sound.r {rr:Option Nat} {o:Oper} {env:aW S} {g:Nat->Option (Ob S)} {nx:Nat} {av:AV S} {up:Up S} {nw:AH S} (h:Sound K P rr o env g nx av up nw):Av K P o env g nx (.ret av) up nw:=λrr A O w a h1 h2 h3 h4 h5=>by
 exact(h rr A O w a h1 h2 h3 h4 h5).mono (λv w' hv=>⟨av,rfl,hv⟩) (λu w' hu=>hu.elim)
theorem WU {G:az S} (hK:cI G.K P) (hC:oo G P) {cN:Nat->List (aE S)->AH S->(Rs S->AH S->List Nat->Option R)->Option R} (cV:om G.K P cN) {o:Oper} {env:aW S} {g:Nat->Option (Ob S)} {nx:Nat} {kp:Value->Up S->AH S->Option R} {k:AV S->Up S->AH S->Option R}
  (h:tf G cN env g nx o kp k=some z): ∃r up nw,n_ kp k r up nw=some z/\Av G.K P o env g nx r up nw:=by
 have Xf:xB G.K env g nx k o.type o.op=some z-> ∃r up nw,n_ kp k r up nw=some z/\Av G.K P o env g nx r up nw:=λh=>by
  obtain⟨av,up,nw,h1,h2⟩:=akZ (rr:=none) hK h
  exact⟨.ret av,up,nw,h1,h2.r⟩
 unfold tf at h
 split at h
 ·rename_i c ak
  split at h
  ·rename_i x hx
   split at h
   rotate_left
   ·cases h
   rename_i f aqJ iw
   obtain⟨r,up,nw,h1,gv,h2⟩:=adF hK hC cV h
   refine⟨r,up,nw,h1,λrr A O w a he hg hO hG cp=>?_⟩
   have hc: ∀c,o.op≠ .defer c:=λc=>by rw[ak];simp
   have key: ∀(fs cs:List Value),a.eval x= .func (.func f) fs.toArray cs.toArray->di A O w aqJ (fs++c.args.toList.map a.eval++cs)->mi P rr o a w (λv w'=> ∃av,r= .ret av/\ ∃A' O',av.rel A' O' w' v/\cM A O w g (up++news nx nw) A' O' w') (λu w'=>r= .bN u/\ ∃A' O',cM A O w g (up++news nx nw) A' O' w'):=by
    intro fs cs JM iB
    refine alB hc (anv ak hx JM gv) (h2 A O w _ iB hg hO hG cp) ?_
    rintro e w' ⟨A',O',hr,ga⟩
    cases r with
    |ret av=>
     obtain⟨v,rfl,hv⟩:=hr
     exact .inl ⟨v,rfl,av,rfl,A',O',hv,ga⟩
    |bN u=>exact .inr ⟨u,hr,rfl,A',O',ga⟩
   unfold R6 at iw
   rw[hx] at iw
   simp only at iw
   split at iw
   ·rename_i i hi
    split at iw
    rotate_left
    ·cases iw
    rename_i f' fs cs lS
    split at iw
    rotate_left
    ·cases iw
    rename_i as1 has
    cases iw
    obtain⟨f1,u1,c1,hA,hv⟩:=cR he hG hi
    obtain⟨p,hp,⟨us,vs,rfl,q1,q2⟩,_⟩:=hg.al i _ lS
    rw[hA] at hp
    cases hp
    exact key us vs (by simpa using hv) (Mc (Mc q1 (qb he hG has)) q2)
   ·rename_i u sI
    split at iw
    rotate_left
    ·cases iw
    rename_i f' fs cs
    cases hz:(Nat.beq fs.size 0&&Nat.beq cs.size 0)<;>rw[hz] at iw
    ·cases iw
    simp only[cond_true] at iw
    split at iw
    rotate_left
    ·cases iw
    rename_i as1 has
    cases iw
    simp only[Bool.and_eq_true] at hz
    have z1:=Array.eq_empty_of_size_eq_zero (Nat.eq_of_beq_eq_true hz.1)
    have z2:=Array.eq_empty_of_size_eq_zero (Nat.eq_of_beq_eq_true hz.2)
    subst z1;subst z2
    have hv:=fq (cR he hG sI)
    refine key [] [] hv ?_
    simpa using qb he hG has
   ·cases iw
  ·exact Xf h
 ·cases h
 ·exact Xf h
end
structure dz where
 A0:Pl
 O0:List Nat
 w0:World
 nb:Nat
 live:Nat->Prop
 ex:Option Nat
 rr:Option Nat
def AX.code:AX->Option Code
 | .exit id=>some (.exit id)
 | .ret=>some .ret
 |_=>none
def U_:Obj->Bool
 | .loop _=>true
 | .deferred _=>true
 |_=>false
section
variable {S:bL} {K:bQ S} {P:Program} {N:Nat} {A A':Pl} {O O':List Nat} {w w':World}
def fx (O:List Nat) (w:World) (l:Nat) (o:Obj):Prop:=Rec w l o/\U_ o=true/\l∈O
theorem ig.Ll {X:Ob S} {p:Value} {l:Nat} {o:Obj} (h:ig A O w X p) (hl:w.heap[l]? =some o) (hb:U_ o=true):cq p≠some l:=by
 intro hp
 cases X with
 |box t cs=>
  obtain⟨b,vs,rfl,h1,_⟩:=h
  cases hp
  unfold b9 at h1
  rw[hl] at h1;cases h1;cases hb
 |row e xs=>
  rcases l7 h with⟨rfl,_⟩|⟨b,c,rfl⟩
  ·cases hp
  ·cases hp
   obtain⟨cs,cur,h1,_⟩:=DS h
   rw[hl] at h1;cases h1;cases hb
 |map kk kv m=>
  obtain⟨b,rfl,es,c,h1,_⟩:=h
  cases hp
  rw[hl] at h1;cases h1;cases hb
 |bM f fs cs=>obtain⟨us,vs,rfl,_⟩:=h;cases hp
 |dy s pos=>
  obtain⟨b,rfl,h1⟩:=h
  cases hp
  rw[hl] at h1;cases h1;cases hb
theorem fx.cO {g:Nat->Option (Ob S)} {ef:Up S} {l:Nat} {o:Obj} (h:fx O w l o) (hg:cC A O w g) (e:cM A O w g ef A' O' w'):fx O' w' l o:=by
 obtain⟨h1,h2,h3⟩:=h
 obtain⟨k1,k2⟩:=e.keep l h3 λi X p hi hp=>by
  obtain⟨Z,hZ⟩:=e.lv i X p hi hp
  obtain⟨p',dx,hR,_⟩:=hg.al i Z hZ
  rw[hp] at dx;cases dx
  exact hR.Ll h1.1 h2
 exact⟨⟨k1.trans h1.1,h1.2⟩,h2,k2⟩
def dS (n0:Nat) (A:Pl) (O:List Nat) (w:World):List (LV S)->List Deferred->Prop
 |df,[]=>df=[]
 |df,d::ds=>(∃D,d=Dc.mark D/\(n0<=D/\Dc.mark D∉ds)/\fx O w D (.deferred (some []))/\dS n0 A O w df ds)\/
  (∃i r f u c,df= .bM i::r/\A.pl i=some (.func f u c)/\d= { target:= .fn f c,args:=u }/\dS n0 A O w r ds)
def fD (lf:kM S) (fn:Nat) (tm:Array Value) (D:Nat):Loop:=
 { state:=(match lf.h_ with|none=> .ready|some _=> .done),pending:=lf.h_.bind AX.code,fn:=fn,tmps:=tm,params:=lf.ps.toArray,assign:=lf.jM,body:=lf.body,defers:=D }
def mZ (P:Program) (B:dz) (O:List Nat) (w:World):Option (kM S)->Prop
 |none=>True
 |some lf=> ∃l fn tm D,B.A0.ls=some l/\B.ex=some l/\fx O w l (.loop (fD lf fn tm D))/\fx O w D (.deferred (some []))/\dw B.A0 O w lf.env { tmps:=tm,defers:=[] }/\tm.size=lf.J.fn.ntmps
structure bA (K:bQ S) (P:Program) (N:Nat) (B:dz) (A:Pl) (O:List Nat) (w:World) (st:AS S) (a:Act):Prop where
 size:a.tmps.size=N
 env:dw A O w st.env a
 rel:cC A O w (aJ st.h)
 ob:OB O w
 dT:dq K O w
 free: ∀i,st.h.length<=i->A.pl i=none
 nb:st.nb=B.nb
 le:B.nb<=st.h.length
 tr:Tr B.O0 B.w0 O w
 pl: ∀i,i<B.nb->A.pl i=B.A0.pl i
 ls:A.ls=B.A0.ls
 lv: ∀i X,i<B.nb->aJ st.h i=some X->B.live i
 cl: ∀b,b∈B.O0->B.ex≠some b->(∀i∈st.dt,B.live i-> ∀p,B.A0.pl i=some p->cq p≠some b)->w.heap[b]? =B.w0.heap[b]? /\b∈O/\ ∀i X p,B.nb<=i->aJ st.h i=some X->A.pl i=some p->cq p≠some b
 df:dS B.w0.heap.size A O w st.df a.defers
 lp:mZ P B O w st.lp
 dl:(st.lp.isSome||st.inr)=true->a.defers=[]
 hi: ∀i,B.nb<=i->B.A0.pl i=none
 o0:OB B.O0 B.w0
 rr:st.inr=false->B.rr=none
theorem dS.cO {n0:Nat} {g:Nat->Option (Ob S)} {ef:Up S} (hg:cC A O w g) (e:cM A O w g ef A' O' w'): ∀ {ds:List Deferred} {df:List (LV S)},dS n0 A O w df ds->dS n0 A' O' w' df ds
 |[],df,h=>h
 |d::ds,df,h=>by
  rcases h with⟨D,h1,h0,h2,h3⟩|⟨i,r,f,u,c,h1,h2,h3,h4⟩
  ·exact .inl ⟨D,h1,h0,h2.cO hg e,dS.cO hg e h3⟩
  ·exact .inr ⟨i,r,f,u,c,h1,e.le.at_ _ _ h2,h3,dS.cO hg e h4⟩
theorem mZ.cO {B:dz} {g:Nat->Option (Ob S)} {ef:Up S} (hg:cC A O w g) (e:cM A O w g ef A' O' w'): ∀ {lp:Option (kM S)},mZ P B O w lp->mZ P B O' w' lp
 |none,h=>h
 |some lf,⟨l,fn,tm,D,h1,h0,h2,h3,h4,h5⟩=>⟨l,fn,tm,D,h1,h0,h2.cO hg e,h3.cO hg e,h4.tr e.tr (Pl.le.refl _),h5⟩
theorem m9 {nb x:Nat}: ∀ {l dt:List Nat},x∈dt->x∈gG nb dt l
 |[],dt,h=>h
 |i::r,dt,h=>by
  simp only[gG]
  refine m9 ?_
  cases (Nat.blt i nb&&!(fC i dt)) with
  |true=>exact List.mem_append_left _ h
  |false=>exact h
theorem oG {nb x:Nat} (hx:x<nb): ∀ {l dt:List Nat},x∈l->x∈gG nb dt l
 |i::r,dt,h=>by
  simp only[gG]
  rcases List.mem_cons.1 h with e|h
  ·subst e
   refine m9 ?_
   rw[Nat.blt_eq.mpr hx,Bool.true_and]
   cases hm:fC x dt with
   |true=>exact k_.1 hm
   |false=>exact List.mem_append_right _ List.mem_cons_self
  ·exact oG hx h
theorem mQ: ∀ {up:Up S} {h:AH S},(fG h up).length=h.length
 |[],h=>rfl
 |(i,X)::r,h=>by simp[fG,mQ]
theorem Zg: ∀ {up:Up S} {h:AH S} {i:Nat},(∀j∈keys up,j<h.length)->i<h.length->aJ (fG h up) i=cK (aJ h) up i
 |[],h,i,_,_=>rfl
 |(j,X)::r,h,i,hk,hi=>by
  have hj:=hk j (by simp[keys])
  rw[fG,Zg (λq hq=>by rw[List.length_set];exact hk q (by simp[keys,hq])) (by rw[List.length_set];exact hi)]
  simp only[cK]
  congr 1
  funext q
  unfold aJ
  rw[List.getElem?_set]
  by_cases hq:j=q
  ·subst hq
   simp[hj]
   cases X<;>rfl
  ·have aV:Nat.beq j q=false:=by
    cases hb:Nat.beq j q with
    |false=>rfl
    |true=>exact absurd (Nat.eq_of_beq_eq_true hb) hq
   simp[hq,aV]
theorem s8 {i:Nat}: ∀ {up:Up S},i∈keys up↔ ∃X,(i,X)∈up
 |[]=>by simp[keys]
 |(j,X)::r=>by
  simp only[keys,List.mem_cons,s8,Prod.mk.injEq]
  constructor
  ·rintro (rfl|⟨Y,h⟩)
   ·exact⟨X,.inl ⟨rfl,rfl⟩⟩
   ·exact⟨Y,.inr h⟩
  ·rintro ⟨Y,⟨rfl,rfl⟩|h⟩
   ·exact .inl rfl
   ·exact .inr ⟨Y,h⟩
theorem Zw {g:Nat->Option (Ob S)}: ∀ {u v:Up S},cK g (u++v)=cK (cK g u) v
 |[],v=>rfl
 |(j,X)::r,v=>by
  funext i
  simp only[List.cons_append,cK]
  rw[Zw]
theorem akR {n:Nat} {nw:AH S} {i:Nat} {X Y:Option (Ob S)} (h1:(i,X)∈news n nw) (h2:(i,Y)∈news n nw):X=Y:=by
 obtain⟨j,a1,a2⟩:=mL.1 h1
 obtain⟨j',b1,b2⟩:=mL.1 h2
 have:j=j':=by omega
 subst this
 rw[a1] at b1
 exact Option.some.inj b1
theorem BX {h:AH S} {up:Up S} {nw:AH S} (hk: ∀j∈keys up,j<h.length):aJ (fG h up++nw)=cK (aJ h) (up++news h.length nw):=by
 funext i
 rw[Zw]
 by_cases hi: ∃X,(i,X)∈news h.length nw
 ·obtain⟨X,hX⟩:=hi
  rw[yi hX λY hY=>akR hY hX]
  obtain⟨j,h1,rfl⟩:=mL.1 hX
  unfold aJ
  rw[List.getElem?_append_right (by rw[mQ];omega),mQ,Nat.add_sub_cancel_left,h1]
  cases X<;>rfl
 ·rw[gP (λX hX=>hi ⟨X,hX⟩)]
  rcases Nat.lt_or_ge i h.length with aH|dr
  ·rw[<-Zg hk aH]
   unfold aJ
   rw[List.getElem?_append_left (by rw[mQ];exact aH)]
  ·have hn:(fG h up++nw)[i]? =none:=by
    rw[List.getElem?_append_right (by rw[mQ];omega),mQ,List.getElem?_eq_none_iff]
    rcases Nat.lt_or_ge (i-h.length) nw.length with h1|h1
    ·exact absurd ⟨nw[i-h.length],mL.2 ⟨i-h.length,List.getElem?_eq_getElem h1,by omega⟩⟩ hi
    ·exact h1
   have h0:aJ h i=none:=by unfold aJ;rw[List.getElem?_eq_none dr]
   rw[gP (λX hX=>by have:=hk i (s8.2 ⟨X,hX⟩);omega),h0]
   unfold aJ
   rw[hn]
theorem r6 {h:AH S} {up:Up S} (ha:gF (aJ h) up=true): ∀j∈keys up,∃X,aJ h j=some X:=by
 intro j hj
 unfold gF at ha
 rw[List.all_eq_true] at ha
 have:=ha j hj
 cases hq:aJ h j with
 |none=>rw[hq] at this;cases this
 |some X=>exact⟨X,rfl⟩
variable {B:dz} {st:AS S} {a:Act}
theorem bA.cO {up:Up S} {nw:AH S} (h:bA K P N B A O w st a) (ha:gF (aJ st.h) up=true) (e:cM A O w (aJ st.h) (up++news st.h.length nw) A' O' w'):bA K P N B A' O' w' (st.cO up nw) a:=by
 have hk: ∀j∈keys up,j<st.h.length:=λj hj=>by
  obtain⟨X,hX⟩:=r6 ha j hj
  exact hU hX
 have gY:=BX (nw:=nw) hk
 have hlen:(fG st.h up++nw).length=st.h.length+nw.length:=by rw[List.length_append,mQ]
 have KG: ∀i X,(i,X)∈up++news st.h.length nw->i∈keys up\/st.h.length<=i:=by
  intro i X hi
  rcases List.mem_append.1 hi with hi|hi
  ·exact .inl (s8.2 ⟨X,hi⟩)
  ·obtain⟨j,_,rfl⟩:=mL.1 hi;exact .inr (Nat.le_add_right _ _)
 have low: ∀i,i<st.h.length->A'.pl i=A.pl i:=by
  intro i hi
  rcases e.pl i with h1|⟨h1,X,hX⟩
  ·exact h1
  ·rcases KG i X hX with h2|h2
   ·obtain⟨Y,hY⟩:=r6 ha i h2
    obtain⟨p,hp,_⟩:=h.rel.al i Y hY
    rw[h1] at hp;cases hp
   ·omega
 have iB:=h.rel.cO h.ob e
 rw[<-gY] at iB
 refine⟨h.size,h.env.tr e.tr e.le,iB,e.ob,h.dT.tr e.tr,?_,h.nb,?_,h.tr.trans e.tr,?_,e.le.ls.trans h.ls,?_,?_,dS.cO h.rel e h.df,mZ.cO h.rel e h.lp,h.dl,h.hi,h.o0,h.rr⟩
 ·intro i hi
  have hi:st.h.length+nw.length<=i:=by rw[<-hlen];exact hi
  rcases e.pl i with h1|⟨h1,X,hX⟩
  ·rw[h1];exact h.free i (by omega)
  ·rcases List.mem_append.1 hX with hX|hX
   ·have:=hk i (s8.2 ⟨X,hX⟩);omega
   ·obtain⟨j,h2,rfl⟩:=mL.1 hX
    have:=(List.getElem?_eq_some_iff.1 h2).1
    omega
 ·show B.nb<=(fG st.h up++nw).length
  rw[hlen];have:=h.le;omega
 ·intro i hi
  have:=h.le
  rw[low i (by omega)]
  exact h.pl i hi
 ·intro i X hi hX
  rw[show aJ (st.cO up nw).h=cK (aJ st.h) (up++news st.h.length nw) from gY] at hX
  have:=h.le
  by_cases kg: ∃Y,(i,Y)∈up++news st.h.length nw
  ·obtain⟨Y,hY⟩:=kg
   rcases KG i Y hY with h1|h1
   ·obtain⟨Z,hZ⟩:=r6 ha i h1
    exact h.lv i Z hi hZ
   ·omega
  ·rw[gP λY hY=>kg ⟨Y,hY⟩] at hX
   exact h.lv i X hi hX
 ·intro b hb eC bS
  have Jx: ∀i∈st.dt,B.live i-> ∀p,B.A0.pl i=some p->cq p≠some b:=λi hi=>bS i (m9 hi)
  obtain⟨c1,c2,c3⟩:=h.cl b hb eC Jx
  have gj: ∀i X p,(i,X)∈up++news st.h.length nw->A.pl i=some p->cq p≠some b:=by
   intro i X p hi hp
   rcases KG i X hi with h1|h1
   ·rcases Nat.lt_or_ge i B.nb with aH|dr
    ·obtain⟨Y,hY⟩:=r6 ha i h1
     exact bS i (oG (by rw[h.nb];exact aH) h1) (h.lv i Y aH hY) p (by rw[<-h.pl i aH];exact hp)
    ·obtain⟨Y,hY⟩:=r6 ha i h1
     exact c3 i Y p dr hY hp
   ·rw[h.free i h1] at hp;cases hp
  obtain⟨k1,k2⟩:=e.keep b c2 gj
  refine⟨k1.trans c1,k2,?_⟩
  intro i X p hi hX hp b6
  rw[show aJ (st.cO up nw).h=cK (aJ st.h) (up++news st.h.length nw) from gY] at hX
  by_cases kg: ∃Y,(i,Y)∈up++news st.h.length nw
  ·obtain⟨Y,hY⟩:=kg
   rw[yi hY λZ hZ=>e.nd i Z Y hZ hY] at hX
   subst hX
   obtain⟨p',dx,_,eh⟩:=e.al i X hY
   rw[hp] at dx;cases dx
   rcases(eh b b6).2 with dr|⟨j,Z,q,hj,hq,ew⟩
   ·have:=h.ob b c2;omega
   ·exact gj j Z q hj hq ew
  ·have JG: ∀Y,(i,Y)∉up++news st.h.length nw:=λY hY=>kg ⟨Y,hY⟩
   rw[gP JG] at hX
   rw[low i (hU hX)] at hp
   exact c3 i X p hi hX hp b6
theorem bA.put {d:Nat} {av:AV S} {v:Value} (h:bA K P N B A O w st a) (hd:Nat.blt d N=true) (hv:av.rel A O w v):bA K P N B A O w { st with env:=(d,av)::st.env } (a.put (some d) v):=by
 have eU:d<a.tmps.size:=by rw[h.size];exact Nat.blt_eq.mp hd
 refine⟨by simp[Act.put,h.size],?_,h.rel,h.ob,h.dT,h.free,h.nb,h.le,h.tr,h.pl,h.ls,h.lv,h.cl,h.df,h.lp,h.dl,h.hi,h.o0,h.rr⟩
 intro s b hs
 simp only[aW.get] at hs
 cases hq:Nat.beq d s with
 |true=>
  rw[hq] at hs
  have e1:=Nat.eq_of_beq_eq_true hq
  subst e1
  simp only[cond_true,Option.some.injEq] at hs
  subst hs
  simpa[Act.put,Array.getD_eq_getD_getElem?,eU] using hv
 |false=>
  rw[hq] at hs
  have aV:d≠s:=λe=>by subst e;simp at hq
  have:=h.env s b hs
  simp only[Act.put,Array.getD_eq_getD_getElem?,Array.getElem?_setIfInBounds_ne aV] at this ⊢
  exact this
end
section
variable {S:bL} {P:Program} {R:Type} {z:R} {N:Nat}
def AX.of:AX->Exit
 | .normal=> .normal
 | .exit id=> .exit id
 | .ret=> .ret
 | .bN u=> .panic [{ v:=u,recovered:=false }]
def kN (K:bQ S) (P:Program) (N:Nat) (B:dz) (e:AX) (st:AS S) (x:Exit) (a:Act) (w:World):Prop:=x=e.of/\ ∃A O,bA K P N B A O w st a
inductive NP|go|bN (u:Value)
def NP.x:NP->AX
 | .go=> .normal
 | .bN u=> .bN u
def xA (kp:Value->AS S->Option R) (k:AS S->Option R):NP->AS S->Option R
 | .go,st=>k st
 | .bN u,st=>kp u st
def BB (K:bQ S) (P:Program) (gQ:List (aE S)->AS S->(Bool->AS S->Option R)->Option R):Prop:=
 ∀(aqJ:List (aE S)) (st:AS S) (k:Bool->AS S->Option R) (z:R),gQ aqJ st k=some z-> ∃b bm,k b bm=some z/\ ∀(N:Nat) (B:dz) (o:Oper) (c:Go.Call) (x:Operand) (A:Pl) (O:List Nat) (w:World) (a:Act) (l:Nat),
  o.op= .call c->c.callee= .value x->a.eval x= .func (.yield l) #[] #[]->A.ls=some l->di A O w aqJ (c.args.toList.map a.eval)->bA K P N B A O w st a->mi P B.rr o a w (λv w'=>v= .bool b/\ ∃A' O',bA K P N B A' O' w' bm a) (λ_ _=>False)
theorem ZQ {ops:Array Oper} {o:Oper} {a:Act} {j d:Nat} {b c:Bool} {oj:Oper} (hg:o.guard=some (j,b)) (hj:ops[j]? =some oj) (hd:oj.dst=some d) (hN:Nat.blt d a.tmps.size=true) (hv:a.tmps.getD d undef= .bool c):Region.wanted o (yielded ops a.tmps)=(c==b):=by
 have aH:d<a.tmps.size:=Nat.blt_eq.mp hN
 rw[Array.getD_eq_getD_getElem?,Array.getElem?_eq_getElem aH] at hv
 simp only[Option.getD_some] at hv
 unfold Region.wanted
 rw[hg]
 simp[yielded,hj,hd,aH,hv]
theorem Zv {ops:Array Oper} {o:Oper} {a:Act} {j d:Nat} {b:Bool} {oj:Oper} {xs:Array Value} (hg:o.guard=some (j,b)) (hj:ops[j]? =some oj) (hd:oj.dst=some d) (hN:Nat.blt d a.tmps.size=true) (hv:a.tmps.getD d undef= .tuple xs):Region.wanted o (yielded ops a.tmps)=false:=by
 have aH:d<a.tmps.size:=Nat.blt_eq.mp hN
 rw[Array.getD_eq_getD_getElem?,Array.getElem?_eq_getElem aH] at hv
 simp only[Option.getD_some] at hv
 unfold Region.wanted
 rw[hg]
 simp[yielded,hj,hd,aH,hv]
theorem bA.akr {K:bQ S} {B:dz} {A:Pl} {O:List Nat} {w:World} {st:AS S} {a:Act} {d:Nat} {c:Bool} (h:bA K P N B A O w st a) (hd:aW.get st.env d=some (.s (.one (.v (.bool c))))):bA K P N B A O w { st with env:=(d,.s (.one (.v (.bool c))))::st.env } a:=by
 refine⟨h.size,?_,h.rel,h.ob,h.dT,h.free,h.nb,h.le,h.tr,h.pl,h.ls,h.lv,h.cl,h.df,h.lp,h.dl,h.hi,h.o0,h.rr⟩
 intro s b hs
 simp only[aW.get] at hs
 cases hq:Nat.beq d s with
 |true=>
  rw[hq] at hs
  have e1:=Nat.eq_of_beq_eq_true hq
  subst e1
  simp only[cond_true,Option.some.injEq] at hs
  subst hs
  exact h.env _ _ hd
 |false=>rw[hq] at hs;exact h.env s b hs
theorem ado {K:bQ S} {ops:Array Oper} {o:Oper} {st:AS S} {yes no:AS S->Option R} (h:rZ N ops o.guard st yes no=some z):
  ∃bm,bm.h=st.h/\(∀B A O w a,bA K P N B A O w st a->bA K P N B A O w bm a)/\
   ((yes bm=some z/\ ∀B A O w a,bA K P N B A O w st a->Region.wanted o (yielded ops a.tmps)=true)\/(no bm=some z/\ ∀B A O w a,bA K P N B A O w st a->Region.wanted o (yielded ops a.tmps)=false)):=by
 unfold rZ at h
 split at h
 ·rename_i hg
  exact⟨st,rfl,λ_ _ _ _ _ h=>h,.inl ⟨h,λB A O w a _=>by unfold Region.wanted;rw[hg]⟩⟩
 ·rename_i j b hg
  split at h
  rotate_left
  ·cases h
  rename_i oj hj
  split at h
  rotate_left
  ·cases h
  rename_i d hd
  cases hN:Nat.blt d N<;>rw[hN] at h
  ·cases h
  simp only[cond_true] at h
  have TO: ∀ {B A O w a},bA K P N B A O w st a->Nat.blt d a.tmps.size=true:=λh=>by rw[h.size];exact hN
  split at h
  ·rename_i c hc
   have hv: ∀ {B A O w a},bA K P N B A O w st a->a.tmps.getD d undef= .bool c:=λ{B A O w a} h=>fq (S:=S) (A:=A) (O:=O) (w:=w) (h.env d _ hc)
   refine⟨{ st with env:=(d,.s (.one (.v (.bool c))))::st.env },rfl,λB A O w a h=>h.akr hc,?_⟩
   have w1: ∀ {B A O w a},bA K P N B A O w st a->Region.wanted o (yielded ops a.tmps)=(c==b):=λh=>ZQ hg hj hd (TO h) (hv h)
   cases c<;>cases b<;>simp only[cond_true,cond_false] at h
   ·exact .inl ⟨h,λB A O w a hr=>by rw[w1 hr];rfl⟩
   ·exact .inr ⟨h,λB A O w a hr=>by rw[w1 hr];rfl⟩
   ·exact .inr ⟨h,λB A O w a hr=>by rw[w1 hr];rfl⟩
   ·exact .inl ⟨h,λB A O w a hr=>by rw[w1 hr];rfl⟩
  ·rename_i hc
   refine⟨st,rfl,λB A O w a h=>h,.inr ⟨h,λB A O w a hr=>?_⟩⟩
   obtain⟨xs,hx,_⟩:=hr.env d _ hc
   exact Zv hg hj hd (TO hr) hx
  ·cases h
theorem LQ {K:bQ S} {o:Oper} {st:AS S} {av:AV S} {k:AS S->Option R} (h:l8 N o st av k=some z): ∃bm,k bm=some z/\bm.h=st.h/\bm.dt=st.dt/\ ∀B A O w a v,bA K P N B A O w st a->av.rel A O w v->bA K P N B A O w bm (a.put o.dst v):=by
 unfold l8 at h
 split at h
 ·rename_i d hd
  cases hN:Nat.blt d N<;>rw[hN] at h
  ·cases h
  ·exact⟨_,h,rfl,rfl,λB A O w a v hr hv=>by rw[hd];exact hr.put hN hv⟩
 ·rename_i hd
  exact⟨st,h,rfl,rfl,λB A O w a v hr hv=>by rw[hd];exact hr⟩
theorem adl {G:az S} (hK:cI G.K P) (hC:oo G P) {cN:Nat->List (aE S)->AH S->(Rs S->AH S->List Nat->Option R)->Option R} (cV:om G.K P cN) {gQ:List (aE S)->AS S->(Bool->AS S->Option R)->Option R} (qQ:BB G.K P gQ) {o:Oper} {st:AS S} {kp:Value->AS S->Option R} {k:AS S->Option R}
  (h:GV G cN gQ N o st kp k=some z): ∃e bm,xA kp k e bm=some z/\ ∀B A O w a,bA G.K P N B A O w st a->
   o.wpIn (fw B.rr) 0 P a w (λa' w'=>e= .go/\ ∃A' O',bA G.K P N B A' O' w' bm a') (λx a' w'=> ∃u,e= .bN u/\x=(AX.bN u).of/\ ∃A' O',bA G.K P N B A' O' w' bm a'):=by
 have plain:tf G cN st.env (aJ st.h) st.h.length o (λu up nw=>bif gF (aJ st.h) up then kp u (st.cO up nw) else none) (λa up nw=>bif gF (aJ st.h) up then l8 N o (st.cO up nw) a k else none)=some z-> ∃e bm,xA kp k e bm=some z/\ ∀B A O w a,bA G.K P N B A O w st a->
   o.wpIn (fw B.rr) 0 P a w (λa' w'=>e= .go/\ ∃A' O',bA G.K P N B A' O' w' bm a') (λx a' w'=> ∃u,e= .bN u/\x=(AX.bN u).of/\ ∃A' O',bA G.K P N B A' O' w' bm a'):=by
  intro h
  obtain⟨r,up,nw,h1,h2⟩:=WU hK hC cV h
  have go: ∀B A O w a,bA G.K P N B A O w st a->_:=λB A O w a hr=>h2 B.rr A O w a hr.env hr.rel hr.ob hr.dT (λj _=>hr.free _ (Nat.le_add_right _ _))
  cases r with
  |ret av=>
   simp only[n_] at h1
   cases fO:gF (aJ st.h) up<;>rw[fO] at h1
   ·cases h1
   simp only[cond_true] at h1
   obtain⟨bm,hk,_,_,eM⟩:=LQ (K:=G.K) (P:=P) h1
   refine⟨.go,bm,hk,λB A O w a hr=>pN ?_ ?_ (go B A O w a hr)⟩
   ·rintro a' w' ⟨v,rfl,ij,e,A',O',hv,ga⟩
    cases e
    exact⟨rfl,A',O',eM B A' O' w' a v (hr.cO fO ga) hv⟩
   ·intro x a' w' hq
    cases x with
    |panic ch=>obtain⟨u,_,_,e,_⟩:=hq;cases e
    |_=>exact hq.elim
  |bN u=>
   simp only[n_] at h1
   cases IA:u.oneCell'<;>rw[IA] at h1
   ·cases h1
   simp only[cond_true] at h1
   cases fO:gF (aJ st.h) up<;>rw[fO] at h1
   ·cases h1
   simp only[cond_true] at h1
   refine⟨.bN u,_,h1,λB A O w a hr=>pN ?_ ?_ (go B A O w a hr)⟩
   ·rintro a' w' ⟨v,rfl,ij,e,_⟩
    cases e
   ·intro x a' w' hq
    cases x with
    |panic ch=>
     obtain⟨u',rfl,rfl,e,A',O',ga⟩:=hq
     cases e
     exact⟨u,rfl,rfl,A',O',hr.cO fO ga⟩
    |_=>exact hq.elim
 unfold GV at h
 split at h
 ·
  rename_i c ak
  split at h
  rotate_left
  ·cases h
  rename_i x hx
  split at h
  rotate_left
  ·cases h
  rename_i i fA hl qE iA hd
  refine⟨.go,_,h,λB A O w a hr=>⟨λ_ _=>trivial,?_⟩⟩
  have k9:=hr.rr qE
  rw[k9]
  obtain⟨f,u,cc,hA,hv⟩:=cR hr.env hr.dT hl
  have hv:a.eval x= .func f u cc:=by simpa using hv
  have bC:(o.semAt (fw none).round a.eval).run P w= .ok (.defer { target:= .fn f cc,args:=u }) w:=by
   show(o.semAt none a.eval).run P w=_
   unfold Oper.semAt execOp
   rw[ak]
   have:c.args= #[]:=jb fA
   simp[resolve,hx,hv,Deferred.ofValue,this]
  rw[bC,Oper.uponIn_defer]
  refine⟨rfl,A,O,?_⟩
  rw[hd]
  exact⟨hr.size,hr.env,hr.rel,hr.ob,hr.dT,hr.free,hr.nb,hr.le,hr.tr,hr.pl,hr.ls,hr.lv,hr.cl,.inr ⟨i,st.df,f,u,cc,rfl,hA,rfl,hr.df⟩,hr.lp,(λh=>by rw[show((st.lp.isSome||st.inr)=true)=(((none:Option (kM S)).isSome||false)=true) by rw[iA,qE]] at h;cases h),hr.hi,hr.o0,hr.rr⟩
 ·
  rename_i x ak
  split at h
  rotate_left
  ·cases h
  rename_i t u hl
  refine⟨.bN (.iface t u),_,h,λB A O w a hr=>⟨λ_ _=>trivial,?_⟩⟩
  have hv:=fq (cR hr.env hr.dT hl)
  rw[Oper.semAt_eq _ _ _ (by rw[ak];simp)]
  have bC:(execOp a.eval o).run P w= .halt (.panic (.iface t u)) w:=by
   unfold execOp
   rw[ak]
   simp only[Sem.run_bind,hv,Instr.panic]
   rfl
  rw[bC,Oper.uponIn_panic]
  exact⟨_,rfl,rfl,A,O,hr⟩
 ·rename_i c ak
  cases hy:Na G st.env c<;>rw[hy] at h
  ·exact plain h
  ·simp only[cond_true] at h
   unfold Na at hy
   split at hy
   rotate_left
   ·cases hy
   rename_i x hx
   split at hy
   rotate_left
   ·cases hy
   rename_i hl
   split at h
   rotate_left
   ·cases h
   rename_i aqJ has
   obtain⟨b,st1,h1,h2⟩:=qQ _ _ _ _ h
   obtain⟨bm,hk,_,_,eM⟩:=LQ (K:=G.K) (P:=P) h1
   refine⟨.go,bm,hk,λB A O w a hr=>?_⟩
   obtain⟨l,eC,hv⟩:=cR hr.env hr.dT hl
   refine pN ?_ ?_ (h2 N B o c x A O w a l ak hx (by simpa using hv) eC (qb hr.env hr.dT has) hr)
   ·rintro a' w' ⟨v,rfl,rfl,A',O',dd⟩
    exact⟨rfl,A',O',eM B A' O' w' a _ dd ⟨rfl,rfl⟩⟩
   ·intro x a' w' hq
    cases x with
    |panic ch=>obtain⟨u,_,_,e⟩:=hq;exact e.elim
    |_=>exact hq.elim
 ·exact plain h
theorem GW {G:az S} (hK:cI G.K P) (hC:oo G P) {cN:Nat->List (aE S)->AH S->(Rs S->AH S->List Nat->Option R)->Option R} (cV:om G.K P cN) {gQ:List (aE S)->AS S->(Bool->AS S->Option R)->Option R} (qQ:BB G.K P gQ) {ops:Array Oper} {kp:Value->AS S->Option R}:
  ∀ {l:List Nat} {st:AS S} {k:AS S->Option R},vg G cN gQ N ops kp l st k=some z-> ∃e bm,xA kp k e bm=some z/\ ∀B A O w a,bA G.K P N B A O w st a->wpOpsIn (fw B.rr) 0 P ops (kN G.K P N B e.x bm) l a w
 |[],st,k,h=>⟨.go,st,h,λB A O w a hr=>⟨rfl,A,O,hr⟩⟩
 |i::l,st,k,h=>by
  simp only[vg] at h
  split at h
  rotate_left
  ·cases h
  rename_i o ho
  obtain⟨st1,hh1,Kk,Jv⟩:=ado (K:=G.K) (P:=P) h
  rcases Jv with⟨hy,hw⟩|⟨hn,hw⟩
  ·obtain⟨e,st2,hk,hs⟩:=adl hK hC cV qQ hy
   cases e with
   |bN u=>
    refine⟨.bN u,st2,hk,λB A O w a hr=>?_⟩
    simp only[wpOpsIn,ho]
    rw[if_pos (hw B A O w a hr)]
    refine pN ?_ ?_ (hs B A O w a (Kk B A O w a hr))
    ·rintro a' w' ⟨e,_⟩;cases e
    ·rintro x a' w' ⟨u',e,hx,A',O',dd⟩
     cases e
     exact⟨hx,A',O',dd⟩
   |go=>
    obtain⟨e3,MD,J1,xd⟩:=GW hK hC cV qQ hk
    refine⟨e3,MD,J1,λB A O w a hr=>?_⟩
    simp only[wpOpsIn,ho]
    rw[if_pos (hw B A O w a hr)]
    refine pN ?_ ?_ (hs B A O w a (Kk B A O w a hr))
    ·rintro a' w' ⟨_,A',O',dd⟩;exact xd B A' O' w' a' dd
    ·rintro x a' w' ⟨u',e,_⟩;cases e
  ·obtain⟨st2,fP,_,_,eM⟩:=LQ (K:=G.K) (P:=P) hn
   obtain⟨e3,MD,J1,xd⟩:=GW hK hC cV qQ fP
   refine⟨e3,MD,J1,λB A O w a hr=>?_⟩
   simp only[wpOpsIn,ho]
   rw[if_neg (by rw[hw B A O w a hr];simp)]
   exact⟨λ_ _=>trivial,xd B A O w _ (eM B A O w a undef (Kk B A O w a hr) ⟨[],rfl,rfl⟩)⟩
end
section
variable {S:bL} {K:bQ S} {P:Program} {N:Nat} {A A':Pl} {O O':List Nat} {w w':World} {B:dz}
structure jm (K:bQ S) (P:Program) (N:Nat) (B:dz) (A:Pl) (O:List Nat) (w:World) (g:Nat->Option (Ob S)) (free dt:Nat->Prop) (Wv:Option (kM S)) (inr:Bool) (df:List (LV S)) (a:Act):Prop where
 size:a.tmps.size=N
 rel:cC A O w g
 ob:OB O w
 dT:dq K O w
 ni: ∀i,free i->A.pl i=none
 low: ∀i,i<B.nb-> ¬free i
 tr:Tr B.O0 B.w0 O w
 pl: ∀i,i<B.nb->A.pl i=B.A0.pl i
 ls:A.ls=B.A0.ls
 lv: ∀i X,i<B.nb->g i=some X->B.live i
 cl: ∀b,b∈B.O0->B.ex≠some b->(∀i,dt i->B.live i-> ∀p,B.A0.pl i=some p->cq p≠some b)->w.heap[b]? =B.w0.heap[b]? /\b∈O/\ ∀i X p,B.nb<=i->g i=some X->A.pl i=some p->cq p≠some b
 df:dS B.w0.heap.size A O w df a.defers
 lp:mZ P B O w Wv
 dl:(Wv.isSome||inr)=true->a.defers=[]
 hi: ∀i,B.nb<=i->B.A0.pl i=none
 o0:OB B.O0 B.w0
 rr:inr=false->B.rr=none
variable {st:AS S} {a:Act}
theorem bA.toC (h:bA K P N B A O w st a):jm K P N B A O w (aJ st.h) (λi=>st.h.length<=i) (λi=>i∈st.dt) st.lp st.inr st.df a:=
 ⟨h.size,h.rel,h.ob,h.dT,h.free,λi hi h1=>absurd h1 (by have:=h.le;omega),h.tr,h.pl,h.ls,h.lv,h.cl,h.df,h.lp,h.dl,h.hi,h.o0,h.rr⟩
theorem jm.Zt {g:Nat->Option (Ob S)} {free dt:Nat->Prop} (h:jm K P N B A O w g free dt st.lp st.inr st.df a) (hg: ∀i,aJ st.h i=g i) (hf: ∀i,st.h.length<=i->free i) (hd: ∀i,i<B.nb->dt i->i∈st.dt) (hn:st.nb=B.nb) (hle:B.nb<=st.h.length) (he:dw A O w st.env a):bA K P N B A O w st a:=by
 have e:aJ st.h=g:=funext hg
 exact⟨h.size,he,by rw[e];exact h.rel,h.ob,h.dT,λi hi=>h.ni i (hf i hi),hn,hle,h.tr,h.pl,h.ls,by rw[e];exact h.lv,λb hb eC bS=>by
  rw[e];exact h.cl b hb eC λi hi hlv p hp=>(by
   rcases Nat.lt_or_ge i B.nb with h1|h1
   ·exact bS i (hd i h1 hi) hlv p hp
   ·rw[h.hi i h1] at hp;cases hp),h.df,h.lp,h.dl,h.hi,h.o0,h.rr⟩
theorem jm.cO {g:Nat->Option (Ob S)} {free dt:Nat->Prop} {lp:Option (kM S)} {inr:Bool} {df:List (LV S)} {ef:Up S} (h:jm K P N B A O w g free dt lp inr df a) (fO: ∀i X,(i,X)∈ef->(∃Z,g i=some Z)\/free i) (e:cM A O w g ef A' O' w'):
  jm K P N B A' O' w' (cK g ef) (λi=>free i/\ ∀X,(i,X)∉ef) (λi=>dt i\/((∃Z,g i=some Z)/\ ∃X,(i,X)∈ef)) lp inr df a:=by
 have akW: ∀i Z,g i=some Z-> ¬free i:=λi Z hZ hf=>by
  obtain⟨p,hp,_⟩:=h.rel.al i Z hZ
  rw[h.ni i hf] at hp;cases hp
 have low: ∀i,¬free i->A'.pl i=A.pl i:=by
  intro i hi
  rcases e.pl i with h1|⟨h1,X,hX⟩
  ·exact h1
  ·rcases fO i X hX with⟨Z,hZ⟩|hf
   ·obtain⟨p,hp,_⟩:=h.rel.al i Z hZ
    rw[h1] at hp;cases hp
   ·exact absurd hf hi
 refine⟨h.size,h.rel.cO h.ob e,e.ob,h.dT.tr e.tr,?_,λi hi hf=>h.low i hi hf.1,h.tr.trans e.tr,λi hi=>(low i (h.low i hi)).trans (h.pl i hi),e.le.ls.trans h.ls,?_,?_,dS.cO h.rel e h.df,mZ.cO h.rel e h.lp,h.dl,h.hi,h.o0,h.rr⟩
 ·rintro i ⟨h1,h2⟩
  rcases e.pl i with h3|⟨_,X,hX⟩
  ·rw[h3];exact h.ni i h1
  ·exact absurd hX (h2 X)
 ·intro i X hi hX
  by_cases kg: ∃Y,(i,Y)∈ef
  ·obtain⟨Y,hY⟩:=kg
   rcases fO i Y hY with⟨Z,hZ⟩|hf
   ·exact h.lv i Z hi hZ
   ·exact absurd hf (h.low i hi)
  ·rw[gP λY hY=>kg ⟨Y,hY⟩] at hX
   exact h.lv i X hi hX
 ·intro b hb eC bS
  obtain⟨c1,c2,c3⟩:=h.cl b hb eC λi hi=>bS i (.inl hi)
  have gj: ∀i X p,(i,X)∈ef->A.pl i=some p->cq p≠some b:=by
   intro i X p hi hp
   rcases fO i X hi with⟨Z,hZ⟩|hf
   ·rcases Nat.lt_or_ge i B.nb with aH|dr
    ·exact bS i (.inr ⟨⟨Z,hZ⟩,X,hi⟩) (h.lv i Z aH hZ) p (by rw[<-h.pl i aH];exact hp)
    ·exact c3 i Z p dr hZ hp
   ·rw[h.ni i hf] at hp;cases hp
  obtain⟨k1,k2⟩:=e.keep b c2 gj
  refine⟨k1.trans c1,k2,?_⟩
  intro i X p hi hX hp b6
  by_cases kg: ∃Y,(i,Y)∈ef
  ·obtain⟨Y,hY⟩:=kg
   rw[yi hY λZ hZ=>e.nd i Z Y hZ hY] at hX
   subst hX
   obtain⟨p',dx,_,eh⟩:=e.al i X hY
   rw[hp] at dx;cases dx
   rcases(eh b b6).2 with dr|⟨j,Z,q,hj,hq,ew⟩
   ·have:=h.ob b c2;omega
   ·exact gj j Z q hj hq ew
  ·have JG: ∀Y,(i,Y)∉ef:=λY hY=>kg ⟨Y,hY⟩
   rw[gP JG] at hX
   rw[low i (akW i X hX)] at hp
   exact c3 i X p hi hX hp b6
theorem jm.weaken {g:Nat->Option (Ob S)} {free Tb dt dt':Nat->Prop} {lp:Option (kM S)} {inr:Bool} {df:List (LV S)} (h:jm K P N B A O w g free dt lp inr df a) (hf: ∀i,Tb i->free i) (hd: ∀i,dt i->dt' i):jm K P N B A O w g Tb dt' lp inr df a:=
 ⟨h.size,h.rel,h.ob,h.dT,λi hi=>h.ni i (hf i hi),λi hi h1=>h.low i hi (hf i h1),h.tr,h.pl,h.ls,h.lv,λb hb eC bS=>h.cl b hb eC λi hi=>bS i (hd i hi),h.df,h.lp,h.dl,h.hi,h.o0,h.rr⟩
theorem jm.act {g:Nat->Option (Ob S)} {free dt:Nat->Prop} {lp:Option (kM S)} {inr:Bool} {df:List (LV S)} {a':Act} (h:jm K P N B A O w g free dt lp inr df a) (h1:a'.tmps.size=a.tmps.size) (h2:a'.defers=a.defers):jm K P N B A O w g free dt lp inr df a':=
 ⟨h1.trans h.size,h.rel,h.ob,h.dT,h.ni,h.low,h.tr,h.pl,h.ls,h.lv,h.cl,by rw[h2];exact h.df,h.lp,by rw[h2];exact h.dl,h.hi,h.o0,h.rr⟩
def cY.ef (r:cY S):Up S:=r.up++news r.nx r.nw
def du (L:Nat->Bool):Nat->List (cY S)->(Nat->Option (Ob S))->Nat->Option (Ob S)
 |_,[],g=>g
 |k,r::rs,g=>du L (k+1) rs (bif L k then cK g r.ef else g)
theorem yj {o:Nat}: ∀ {ef:Up S} {g g':Nat->Option (Ob S)},(∃X,(o,X)∈ef)->cK g ef o=cK g' ef o
 |[],g,g',⟨X,h⟩=>by cases h
 |(j,Y)::r,g,g',⟨X,h⟩=>by
  simp only[cK]
  by_cases hr: ∃Z,(o,Z)∈r
  ·exact yj hr
  ·rw[gP (λZ hZ=>hr ⟨Z,hZ⟩),gP (λZ hZ=>hr ⟨Z,hZ⟩)]
   rcases List.mem_cons.1 h with e|e
   ·cases e;simp
   ·exact absurd ⟨X,e⟩ hr
theorem Zx {o:Nat} {ef:Up S} {g g':Nat->Option (Ob S)} (h:g o=g' o):cK g ef o=cK g' ef o:=by
 by_cases ht: ∃X,(o,X)∈ef
 ·exact yj ht
 ·rw[gP (λZ hZ=>ht ⟨Z,hZ⟩),gP (λZ hZ=>ht ⟨Z,hZ⟩),h]
theorem qL {L L':Nat->Bool} {o:Nat}: ∀ {rs:List (cY S)} {k:Nat} {g g':Nat->Option (Ob S)},(∀j r,rs[j]? =some r->(∃X,(o,X)∈r.ef)->L (k+j)=L' (k+j))->g o=g' o->du L k rs g o=du L' k rs g' o
 |[],k,g,g',_,h=>h
 |r::rs,k,g,g',hl,h=>by
  simp only[du]
  refine qL (λj r' hj ht=>by have:=hl (j+1) r' (by simpa using hj) ht;rwa [show k+(j+1)=k+1+j by omega] at this) ?_
  by_cases ht: ∃X,(o,X)∈r.ef
  ·have:=hl 0 r rfl ht
   rw[Nat.add_zero] at this
   rw[this]
   cases L' k with
   |true=>exact yj ht
   |false=>exact h
  ·have out: ∀(c:Bool) (f:Nat->Option (Ob S)),(bif c then cK f r.ef else f) o=f o:=λc f=>by
    cases c with
    |true=>exact gP (λZ hZ=>ht ⟨Z,hZ⟩)
    |false=>rfl
   rw[out,out,h]
theorem Df {L:Nat->Bool}: ∀ {rs rl:List (cY S)} {k:Nat} {g:Nat->Option (Ob S)},du L k (rs++rl) g=du L (k+rs.length) rl (du L k rs g)
 |[],rl,k,g=>rfl
 |r::rs,rl,k,g=>by
  simp only[List.cons_append,du,List.length_cons]
  rw[Df,show k+1+rs.length=k+(rs.length+1) by omega]
theorem Kh {o:Nat} {L:Nat->Bool} {rs:List (cY S)} {k:Nat} {g:Nat->Option (Ob S)} (h: ∀j r,rs[j]? =some r->(∃X,(o,X)∈r.ef)->L (k+j)=false):du L k rs g o=g o:=by
 have h1:du L k rs g o=du (λ_=>false) k rs g o:=qL (λj r hj ht=>h j r hj ht) rfl
 rw[h1]
 clear h h1
 induction rs generalizing k with
 |nil=>rfl
 |cons r rs ih=>simp only[du,cond_false];exact ih
theorem UN {L:Nat->Bool} {i o:Nat} {acc:List (cY S)} {r:cY S} {g:Nat->Option (Ob S)} (hr:acc[i]? =some r) (hL:L i=false) (ajC:(∃X,(o,X)∈r.ef)-> ∀k r',i<k->acc[k]? =some r'->(∃X,(o,X)∈r'.ef)->L k=false):
  du (λk=>Nat.beq k i||L k) 0 acc g o=cK (du L 0 acc g) r.ef o:=by
 by_cases ht: ∃X,(o,X)∈r.ef
 ·obtain⟨hi,he⟩:=List.getElem?_eq_some_iff.1 hr
  have Kj:acc=acc.take i++r::acc.drop (i+1):=by
   rw[<-he,<-List.drop_eq_getElem_cons hi,List.take_append_drop]
  have hlen:(acc.take i).length=i:=by rw[List.length_take];omega
  have lhs:du (λk=>Nat.beq k i||L k) 0 acc g o=cK (du (λk=>Nat.beq k i||L k) 0 (acc.take i) g) r.ef o:=by
   conv=>lhs;rw[Kj]
   rw[Df,hlen,Nat.zero_add]
   simp only[du,Nat.beq_refl,Bool.true_or,cond_true]
   refine Kh λj r' hj Km=>?_
   have hk:acc[i+1+j]? =some r':=by rw[<-List.getElem?_drop];exact hj
   have h1:=ajC ht (i+1+j) r' (by omega) hk Km
   have h2:Nat.beq (i+1+j) i=false:=by
    cases hb:Nat.beq (i+1+j) i with
    |false=>rfl
    |true=>have:=Nat.eq_of_beq_eq_true hb;omega
   simp only[h1,h2,Bool.or_self]
  rw[lhs]
  exact yj ht
 ·rw[gP (λZ hZ=>ht ⟨Z,hZ⟩)]
  refine qL (λj r' hj Km=>?_) rfl
  rw[Nat.zero_add]
  by_cases lU:j=i
  ·subst lU
   rw[hr] at hj
   cases hj
   exact absurd Km ht
  ·have h2:Nat.beq j i=false:=by
    cases hb:Nat.beq j i with
    |false=>rfl
    |true=>exact absurd (Nat.eq_of_beq_eq_true hb) lU
   simp[h2]
theorem WJ {l m:List Nat}:DI l m=true↔ ∀i∈l,i∉m:=by
 unfold DI
 rw[List.all_eq_true]
 exact forall_congr' λi=>forall_congr' λ_=>by rw[Bool.not_eq_true',<-Bool.not_eq_true,k_]
theorem akV {l:List Nat} {nx n:Nat}:Lk l nx n=true↔ ∀i∈l,¬(nx<=i/\i<nx+n):=by
 unfold Lk
 rw[List.all_eq_true]
 refine forall_congr' λi=>forall_congr' λ_=>?_
 rw[Bool.not_eq_true',<-Bool.not_eq_true,Bool.and_eq_true]
 constructor
 ·rintro h ⟨h1,h2⟩;exact h ⟨Nat.ble_eq.mpr h1,Nat.blt_eq.mpr h2⟩
 ·rintro h ⟨h1,h2⟩;exact h ⟨Nat.le_of_ble_eq_true h1,Nat.blt_eq.mp h2⟩
theorem R9 {cl rd:List Nat} {up:Up S}: ∀ {rs:List (cY S)} {k j:Nat} {r:cY S},oF cl rd up rs k=true->rs[j]? =some r->k+j∈cl\/((∀i∈rd,i∉keys r.up)/\(∀i∈rd,¬(r.nx<=i/\i<r.nx+r.nw.length))/\ ∀i∈keys up,i∉r.rd)
 |[],k,j,r,_,hj=>by simp at hj
 |q::rs,k,j,r,h,hj=>by
  simp only[oF,Bool.and_eq_true,Bool.or_eq_true] at h
  cases j with
  |zero=>
   simp at hj
   subst hj
   rw[Nat.add_zero]
   rcases h.1 with h1|h1
   ·exact .inl (k_.1 h1)
   ·exact .inr ⟨WJ.1 h1.1,akV.1 h1.2.1,WJ.1 h1.2.2⟩
  |succ j=>
   have:=R9 (j:=j) h.2 (by simpa using hj)
   rwa [show k+1+j=k+(j+1) by omega] at this
theorem U4 {cl:List Nat}: ∀ {rs:List (cY S)} {k j:Nat} {r:cY S},idle cl rs k=true->rs[j]? =some r->k+j∈cl\/(r.up=[]/\r.nw=[])
 |[],k,j,r,_,hj=>by simp at hj
 |q::rs,k,j,r,h,hj=>by
  simp only[idle,Bool.and_eq_true,Bool.or_eq_true] at h
  cases j with
  |zero=>
   simp at hj
   subst hj
   rw[Nat.add_zero]
   rcases h.1 with h1|h1
   ·exact .inl (k_.1 h1)
   ·right
    split at h1
    ·rename_i e1 e2;exact⟨e1,e2⟩
    ·cases h1
  |succ j=>
   have:=U4 (j:=j) h.2 (by simpa using hj)
   rwa [show k+1+j=k+(j+1) by omega] at this
theorem oH {r:cY S} {o:Nat}:(∃X,(o,X)∈r.ef)↔o∈keys r.up\/(r.nx<=o/\o<r.nx+r.nw.length):=by
 unfold cY.ef
 constructor
 ·rintro ⟨X,h⟩
  rcases List.mem_append.1 h with h|h
  ·exact .inl (s8.2 ⟨X,h⟩)
  ·obtain⟨j,h1,rfl⟩:=mL.1 h
   have:=(List.getElem?_eq_some_iff.1 h1).1
   exact .inr ⟨by omega,by omega⟩
 ·rintro (h|⟨h1,h2⟩)
  ·obtain⟨X,h⟩:=s8.1 h
   exact⟨X,List.mem_append_left _ h⟩
  ·have aH:o-r.nx<r.nw.length:=by omega
   exact⟨r.nw[o-r.nx],List.mem_append_right _ (mL.2 ⟨o-r.nx,List.getElem?_eq_getElem aH,by omega⟩)⟩
end
section
variable {S:bL} {P:Program} {N:Nat} {ops:Array Oper}
theorem anj {id:Nat} {rr:Option Nat} {Q:Exit->Act->World->Prop} {I:Array Bool->Act->World->Prop} (hm:P.follows .mixedOrders=true) (jQ: ∀i o,ops[i]? =some o-> ∀x∈dC o,x<i)
  (qN: ∀(listed:Array Bool) (a:Act) (w:World) (i:Nat) (o:Oper),listed.size=ops.size->(∀(k:Nat) (o:Oper),ops[k]? =some o->listed.getD k true=true-> ∀x∈dC o,listed.getD x true=true)->I listed a w->ops[i]? =some o->listed.getD i true=false->(∀x∈dC o,listed.getD x true=true)->
   wpOpIn (fw rr) 0 P ops Q i (λa' w'=>I (listed.setIfInBounds i true) a' w') a w)
  (nB: ∀(listed:Array Bool) (a:Act) (w:World),listed.size=ops.size->(∀i,i<ops.size->listed.getD i true=true)->I listed a w->Q .normal a w) {a:Act} {w:World} (h0:I (Array.replicate ops.size false) a w.drew):(Code.region id ops true).wpIn (fw rr) 0 P Q a w:=by
 refine wpIn_region_draw λt=>?_
 simp only[Region.schedule,hm,Bool.true_or,if_true]
 refine wpAnyIn_sound ops.size t _ a _ ?_
 have key: ∀(fuel:Nat) (listed:Array Bool) (a:Act) (w':World),listed.size=ops.size->fB listed ops.size=fuel->(∀(k:Nat) (o:Oper),ops[k]? =some o->listed.getD k true=true-> ∀x∈dC o,listed.getD x true=true)->I listed a w'->
   wpAnyIn (fw rr) 0 P .any ops Q fuel listed a w':=by
  intro fuel
  induction fuel with
  |zero=>
   intro listed a w' hs hl bS hI
   have eT:=s9 _ hl
   refine⟨?_,nB listed a w' hs eT hI⟩
   unfold Region.ready
   rw[List.filter_eq_nil_iff]
   intro i hi
   have:=eT i (by simpa using hi)
   simp[this]
  |succ fuel ih=>
   intro listed a w' hs hl bS hI
   refine⟨λqK=>?_,λi hi=>?_⟩
   ·exfalso
    obtain⟨i,h1,h2,h3⟩:=xv ops.size (by rw[hl];omega:fB listed ops.size≠0)
    have ho:=Array.getElem?_eq_getElem h1
    have hb:=jQ i _ ho
    have:i∈Region.ready .any ops listed:=by
     unfold Region.ready
     rw[List.mem_filter]
     refine⟨by simpa using h1,?_⟩
     rw[h2,ho]
     simp only[Bool.not_false,Bool.true_and,Option.map_some,Option.getD_some,Array.all_eq_true_iff_forall_mem]
     intro e he
     cases gW:Region.binds .any e with
     |false=>simp
     |true=>
      have aH:=hb e.on (mK.2 ⟨e,he,gW,rfl⟩)
      have:=h3 e.on aH
      have bt:e.on<listed.size:=by omega
      simp only[Array.getD_eq_getD_getElem?,Array.getElem?_eq_getElem bt,Option.getD_some] at this ⊢
      simp[this]
    rw[qK] at this
    cases this
   ·unfold Region.ready at hi
    rw[List.mem_filter] at hi
    obtain⟨wM,gX⟩:=hi
    have c6:i<ops.size:=by simpa using wM
    have ho:=Array.getElem?_eq_getElem c6
    rw[ho] at gX
    simp only[Bool.and_eq_true,Bool.not_eq_true',Option.map_some,Option.getD_some,Array.all_eq_true_iff_forall_mem] at gX
    obtain⟨fQ,xa⟩:=gX
    have oS: ∀x∈dC ops[i],listed.getD x true=true:=by
     intro x hx
     obtain⟨e,he,gW,rfl⟩:=mK.1 hx
     have h1:=xa e he
     rw[gW] at h1
     simp only[Bool.not_true,Bool.false_or] at h1
     have aH:=jQ i _ ho e.on hx
     have bt:e.on<listed.size:=by omega
     simp only[Array.getD_eq_getD_getElem?,Array.getElem?_eq_getElem bt,Option.getD_some] at h1 ⊢
     exact h1
    have kC:i<listed.size:=by omega
    have jy: ∀k,(listed.setIfInBounds i true).getD k true=true↔k=i\/listed.getD k true=true:=by
     intro k
     by_cases hk:i=k
     ·subst hk;simp[Array.getD_eq_getD_getElem?,kC]
     ·simp only[Array.getD_eq_getD_getElem?,Array.getElem?_setIfInBounds_ne hk]
      constructor
      ·exact λh=> .inr h
      ·rintro (h|h)
       ·exact absurd h.symm hk
       ·exact h
    have nI:=Lc kC fQ ops.size
    simp only[c6,if_true] at nI
    refine wpOpIn_mono (λa' cE vZ=>?_) (qN listed a w' i _ hs bS hI ho fQ oS)
    refine ih _ a' cE (by simpa using hs) (by omega) ?_ vZ
    intro k o' ei hk x hx
    rw[jy] at hk ⊢
    right
    rcases hk with rfl|hk
    ·rw[ho] at ei;cases ei;exact oS x hx
    ·exact bS k o' ei hk x hx
 refine key ops.size _ a _ (by simp) ?_ ?_ h0
 ·have: ∀n,n<=ops.size->fB (Array.replicate ops.size false) n=n:=by
   intro n
   induction n with
   |zero=>intro _;rfl
   |succ n ih=>
    intro hn
    simp only[fB,ih (by omega)]
    have:(Array.replicate ops.size false).getD n true=false:=by simp[Array.getD_eq_getD_getElem?,show n<ops.size by omega]
    simp[this]
  exact this _ (Nat.le_refl _)
 ·intro k o ho hk
  have aH:=(Array.getElem?_eq_some_iff.1 ho).1
  simp[Array.getD_eq_getD_getElem?,aH] at hk
inductive Gh (S:bL)|done (av:AV S)|bN (u:Value)|never
def oq (ops:Array Oper) (bp:AS S) (gp:List (Gh S)) (s:Nat) (av:AV S):Prop:=
 (∃k,dY ops k=some s/\gp[k]? =some (.done av))\/(aW.get bp.env s=some av/\ ∀k ij,dY ops k=some s->gp[k]? ≠some (.done ij))
structure Want (K:bQ S) (P:Program) (N:Nat) (ops:Array Oper) (bp:AS S) (pre:List (cY S)) (gp:List (Gh S)) (i:Nat) (o:Oper) (r:cY S) (res:Rs S) (env:aW S) (gc:Nat->Option (Ob S)):Prop where
 snd:Av K P o env (pM r.rd gc) r.nx res r.up r.nw
 ev: ∀s av,aW.get env s=some av->s∈ic ops o/\oq ops bp gp s av
 ZU: ∀A O w a,a.tmps.size=N->dw A O w env a->Region.wanted o (yielded ops a.tmps)=true
 gh: ∀x,gc x=du (λ_=>true) 0 pre (aJ bp.h) x
 al: ∀k∈keys r.up,∃Z,gc k=some Z
 sub: ∀k∈keys r.up,k∈r.rd
 lt: ∀x∈r.rd,x<r.nx
 BM: ∀k r',pre[k]? =some r'->k∈fL ops i\/((∀i∈r.rd,i∉keys r'.up)/\(∀i∈r.rd,¬(r'.nx<=i/\i<r'.nx+r'.nw.length))/\ ∀i∈keys r.up,i∉r'.rd)
def Unw (N:Nat) (ops:Array Oper) (bp:AS S) (gp:List (Gh S)) (o:Oper) (r:cY S) (av:AV S) (env:aW S):Prop:=
 (∀s av,aW.get env s=some av->s∈ic ops o/\oq ops bp gp s av)/\(∀A O w a,a.tmps.size=N->dw A O w env a->Region.wanted o (yielded ops a.tmps)=false)/\av= .aY []/\r.up=[]/\r.nw=[]
def ve (K:bQ S) (P:Program) (N:Nat) (ops:Array Oper) (bp:AS S) (pre:List (cY S)) (gp:List (Gh S)) (i:Nat) (o:Oper) (r:cY S):Gh S->Prop
 | .done av=>(∃env gc,Want K P N ops bp pre gp i o r (.ret av) env gc)\/ ∃env,Unw N ops bp gp o r av env
 | .bN u=> ∃env gc,Want K P N ops bp pre gp i o r (.bN u) env gc
 | .never=>(r.up=[]/\r.nw=[])/\ ∃k∈fL ops i,∀av,gp[k]? ≠some (.done av)
structure zX (ops:Array Oper) (bp:AS S) (acc:List (cY S)) (gs:List (Gh S)) (i:Nat) (r:cY S) (dv:AS S):Prop where
 hp: ∀x,aJ dv.h x=cK (du (λ_=>true) 0 (acc.take i) (aJ bp.h)) r.ef x
 hl:dv.h.length=r.nx+r.nw.length
 env: ∀s av,aW.get dv.env s=some av->(∀k,dY ops k≠some s)/\aW.get bp.env s=some av
 pC:dv.nb=bp.nb/\dv.lp=bp.lp/\dv.inr=bp.inr/\dv.df=bp.df
 sb: ∀x∈bp.dt,x∈dv.dt
 dt: ∀k r' x,k<=i->acc[k]? =some r'->x∈keys r'.up->x<bp.nb->x∈dv.dt
 pre: ∀k r',k<i->acc[k]? =some r'->k∈fL ops i\/(r'.up=[]/\r'.nw=[])
 post: ∀k r',i<k->acc[k]? =some r'->r'.up=[]/\r'.nw=[]
structure iL (K:bQ S) (P:Program) (N:Nat) (ops:Array Oper) (bp:AS S) (acc:List (cY S)) (gs:List (Gh S)) (pn:Option (List Nat×Value×AS S)) (st:AS S):Prop where
 lg:gs.length=acc.length
 hp: ∀x,aJ st.h x=du (λ_=>true) 0 acc (aJ bp.h) x
 hl:bp.h.length<=st.h.length
 pos: ∀(i k:Nat) r r',i<k->acc[i]? =some r->acc[k]? =some r'->r.nx+r.nw.length<=r'.nx
 top: ∀(i:Nat) r,acc[i]? =some r->bp.h.length<=r.nx/\r.nx+r.nw.length<=st.h.length
 env: ∀s av,aW.get st.env s=some av->oq ops bp gs s av
 pC:st.nb=bp.nb/\st.lp=bp.lp/\st.inr=bp.inr/\st.df=bp.df
 sb: ∀x∈bp.dt,x∈st.dt
 dt: ∀(i:Nat) r x,acc[i]? =some r->x∈keys r.up->x<bp.nb->x∈st.dt
 step: ∀i o r gh,ops[i]? =some o->acc[i]? =some r->gs[i]? =some gh->ve K P N ops bp (acc.take i) (gs.take i) i o r gh
 q8:pn=none-> ∀(k:Nat) (gh:Gh S),gs[k]? =some gh-> ∃av,gh=Gh.done av
 pE: ∀dead u dv,pn=some (dead,u,dv)-> ∃i r,gs[i]? =some (.bN u)/\acc[i]? =some r/\zX ops bp acc gs i r dv/\(∀k u',gs[k]? =some (.bN u')->k=i)/\(∀(k:Nat) (gh:Gh S),gs[k]? =some gh->((∃av,gh=Gh.done av)\/k∈dead)/\(k∈dead-> ∀av,gh≠Gh.done av))/\ ∀k∈dead,k<acc.length
structure rL (K:bQ S) (P:Program) (N:Nat) (ops:Array Oper) (bp:AS S) (acc:List (cY S)) (gs:List (Gh S)) (B:dz) (L:Nat->Bool) (A:Pl) (O:List Nat) (w:World) (a:Act):Prop where
 c:jm K P N B A O w (du L 0 acc (aJ bp.h)) (λx=>bp.h.length<=x/\ ∀(k:Nat) r,acc[k]? =some r->L k=true-> ¬(r.nx<=x/\x<r.nx+r.nw.length)) (λx=>x∈bp.dt\/ ∃(k:Nat) (r:cY S),acc[k]? =some r/\L k=true/\x∈keys r.up) bp.lp bp.inr bp.df a
 base: ∀s av,aW.get bp.env s=some av->(∀k,dY ops k=some s->L k=false)->av.rel A O w (a.tmps.getD s undef)
 done: ∀k s av,L k=true->dY ops k=some s->gs[k]? =some (.done av)->av.rel A O w (a.tmps.getD s undef)
 all: ∀k,L k=true-> ∃av,gs[k]? =some (.done av)
structure rO (N:Nat) (ops:Array Oper):Prop where
 below: ∀(i:Nat) o,ops[i]? =some o-> ∀x∈dC o,x<i
 cl: ∀i,i<ops.size-> ∀k∈fL ops i,k<i
 dN: ∀i s,dY ops i=some s->s<N
 un: ∀i k s,dY ops i=some s->dY ops k=some s->i=k
 slot: ∀(i:Nat) o s,ops[i]? =some o->s∈ic ops o->(∃j∈dC o,dY ops j=some s)\/ ∀k,dY ops k=some s->k=i\/i∈fL ops k
theorem sa {k s:Nat} (h:dY ops k=some s):k<ops.size:=by
 unfold dY at h
 split at h
 ·rename_i o ho;exact(Array.getElem?_eq_some_iff.1 ho).1
 ·cases h
theorem RJ {k:Nat}: ∀ {l:List Nat},kP k l=true-> ∀x∈l,x<k:=Dc.GZ
theorem XI (h:Eb N ops=true):rO N ops:=by
 unfold Eb at h
 rw[List.all_eq_true] at h
 have at_: ∀i o,ops[i]? =some o->kP i (dC o)=true/\kP i (fL ops i)=true/\(match o.dst with
   |some d=>Nat.blt d N&&(List.range ops.size).all λk=>Nat.beq k i||(match dY ops k with|some e=>!(Nat.beq d e)|none=>true)
   |none=>true)=true/\(ic ops o).all (MA ops i o)=true:=by
  intro i o ho
  have hi:=(Array.getElem?_eq_some_iff.1 ho).1
  have:=h i (by simpa using hi)
  unfold WV at this
  rw[ho] at this
  simp only[Bool.and_eq_true] at this
  exact this
 have Sj: ∀ {i s},dY ops i=some s-> ∃o,ops[i]? =some o/\o.dst=some s:=by
  intro i s hs
  unfold dY at hs
  split at hs
  ·rename_i o ho;exact⟨o,ho,hs⟩
  ·cases hs
 constructor
 ·exact λi o ho=>RJ (at_ i o ho).1
 ·intro i hi
  exact RJ (at_ i _ (Array.getElem?_eq_getElem hi)).2.1
 ·intro i s hs
  obtain⟨o,ho,hd⟩:=Sj hs
  have:=(at_ i o ho).2.2.1
  rw[hd] at this
  simp only[Bool.and_eq_true] at this
  exact Nat.blt_eq.mp this.1
 ·intro i k s hi hk
  obtain⟨o,ho,hd⟩:=Sj hi
  have:=(at_ i o ho).2.2.1
  rw[hd] at this
  simp only[Bool.and_eq_true,List.all_eq_true] at this
  have h2:=this.2 k (by simpa using sa hk)
  rw[hk] at h2
  simp at h2
  exact h2.symm
 ·intro i o s ho hs
  have:=(at_ i o ho).2.2.2
  rw[List.all_eq_true] at this
  have h2:=this s hs
  unfold MA at h2
  simp only[Bool.or_eq_true,List.any_eq_true,List.all_eq_true] at h2
  rcases h2 with⟨j,h3,h4⟩|h2
  ·left
   refine⟨j,h3,?_⟩
   split at h4
   ·rename_i d hd;rw[hd,Nat.eq_of_beq_eq_true h4]
   ·cases h4
  ·right
   intro k hk
   have h3:=h2 k (by simpa using sa hk)
   rw[hk] at h3
   simp only[Bool.or_eq_true,Nat.beq_refl,Bool.not_true,Bool.false_eq_true,false_or] at h3
   rcases h3 with h3|h3
   ·exact .inl (Nat.eq_of_beq_eq_true h3)
   ·exact .inr (k_.1 h3)
end
section
variable {S:bL} {K:bQ S} {P:Program} {N:Nat} {ops:Array Oper} {bp:AS S}
theorem vv {r:cY S} (h:r.up=[]/\r.nw=[]) {x:Nat}: ¬ ∃X,(x,X)∈r.ef:=by
 rintro ⟨X,hX⟩
 unfold cY.ef at hX
 rw[h.1,h.2] at hX
 cases hX
theorem UO {acc:List (cY S)} {i x:Nat} {g:Nat->Option (Ob S)} (hi:i<=acc.length):du (λ_=>true) 0 (acc.take i) g x=du (λk=>Nat.blt k i) 0 acc g x:=by
 have hlen:(acc.take i).length=i:=by rw[List.length_take];omega
 have h1:du (λk=>Nat.blt k i) 0 acc g x=du (λk=>Nat.blt k i) 0 (acc.take i) g x:=by
  conv=>lhs;rw[<-List.take_append_drop i acc]
  rw[Df,hlen,Nat.zero_add]
  refine Kh λj r hj _=>?_
  cases hb:Nat.blt (i+j) i with
  |false=>rfl
  |true=>have:=Nat.blt_eq.mp hb;omega
 rw[h1]
 refine qL (λj r hj _=>?_) rfl
 have:j<i:=by
  have:=(List.getElem?_eq_some_iff.1 hj).1
  omega
 rw[Nat.zero_add]
 exact(Nat.blt_eq.mpr this).symm
theorem ve.cl {pre:List (cY S)} {gp:List (Gh S)} {i:Nat} {o:Oper} {r:cY S} {gh:Gh S} (h:ve K P N ops bp pre gp i o r gh):
  (r.up=[]/\r.nw=[])\/((∀k∈keys r.up,k∈r.rd)/\(∀x∈r.rd,x<r.nx)/\ ∀(k:Nat) (r':cY S),pre[k]? =some r'->k∈fL ops i\/((∀i∈r.rd,i∉keys r'.up)/\(∀i∈r.rd,¬(r'.nx<=i/\i<r'.nx+r'.nw.length))/\ ∀i∈keys r.up,i∉r'.rd)):=by
 cases gh with
 |done av=>
  rcases h with⟨env,gc,hw⟩|⟨env,hw⟩
  ·exact .inr ⟨hw.sub,hw.lt,hw.BM⟩
  ·exact .inl hw.2.2.2
 |bN u=>obtain⟨env,gc,hw⟩:=h;exact .inr ⟨hw.sub,hw.lt,hw.BM⟩
 |never=>exact .inl h.1
structure pZ (ops:Array Oper) (L:Nat->Bool) (i:Nat) (o:Oper):Prop where
 oi:ops[i]? =some o
 up: ∀k,L k=true->k<ops.size/\ ∀j∈fL ops k,L j=true
 cl: ∀j∈fL ops i,L j=true
 no:L i=false
 af: ∀j∈dC o,L j=true
variable {acc:List (cY S)} {gs:List (Gh S)} {pn:Option (List Nat×Value×AS S)} {st:AS S} {L:Nat->Bool} {i:Nat} {o:Oper} {r:cY S}
theorem iL.Zk (hF:iL K P N ops bp acc gs pn st) (bt:acc.length=ops.size) {k:Nat} {r':cY S} (hk:acc[k]? =some r'): ∃o' gh,ops[k]? =some o'/\gs[k]? =some gh/\ve K P N ops bp (acc.take k) (gs.take k) k o' r' gh:=by
 have h1:=(List.getElem?_eq_some_iff.1 hk).1
 have h2:k<ops.size:=by omega
 have h3:k<gs.length:=by rw[hF.lg];exact h1
 exact⟨_,_,Array.getElem?_eq_getElem h2,List.getElem?_eq_getElem h3,hF.step k _ _ _ (Array.getElem?_eq_getElem h2) hk (List.getElem?_eq_getElem h3)⟩
theorem vO {α:Type} {l:List α} {i k:Nat} {x:α} (h:l[k]? =some x) (hk:k<i):(l.take i)[k]? =some x:=by
 rw[List.getElem?_take_of_lt hk];exact h
theorem agree (hF:iL K P N ops bp acc gs pn st) (bt:acc.length=ops.size) (hs:pZ ops L i o) (hr:acc[i]? =some r) (aH: ∀x∈r.rd,x<r.nx)
  (bS: ∀(k:Nat) (r':cY S),(acc.take i)[k]? =some r'->k∈fL ops i\/((∀i∈r.rd,i∉keys r'.up)/\(∀i∈r.rd,¬(r'.nx<=i/\i<r'.nx+r'.nw.length))/\ ∀i∈keys r.up,i∉r'.rd)):
  ∀x∈r.rd,du L 0 acc (aJ bp.h) x=du (λ_=>true) 0 (acc.take i) (aJ bp.h) x:=by
 intro x hx
 rw[UO (Nat.le_of_lt (List.getElem?_eq_some_iff.1 hr).1)]
 refine qL (λk r' hk ht=>?_) rfl
 rw[Nat.zero_add]
 rcases Nat.lt_trichotomy k i with h|h|h
 ·rw[show Nat.blt k i=true from Nat.blt_eq.mpr h]
  rcases bS k r' (vO hk h) with h1|⟨h1,h2,_⟩
  ·exact hs.cl k h1
  ·rcases oH.1 ht with h3|h3
   ·exact absurd h3 (h1 x hx)
   ·exact absurd h3 (h2 x hx)
 ·subst h
  rw[hs.no]
  cases hb:Nat.blt k k with
  |false=>rfl
  |true=>have:=Nat.blt_eq.mp hb;omega
 ·rw[show Nat.blt k i=false by
   cases hb:Nat.blt k i with
   |false=>rfl
   |true=>have:=Nat.blt_eq.mp hb;omega]
  have hp:=hF.pos i k r r' h hr hk
  have mE:=aH x hx
  obtain⟨o',gh,ei,_,fS⟩:=hF.Zk bt hk
  rcases fS.cl with h0|⟨h1,h2,h3⟩
  ·exact absurd ht (vv h0)
  ·rcases oH.1 ht with h4|h4
   ·rcases h3 i r (vO hr h) with h5|⟨_,_,h5⟩
    ·cases gr:L k with
     |false=>rfl
     |true=>have:=(hs.up k gr).2 i h5;rw[hs.no] at this;cases this
    ·exact absurd hx (h5 x h4)
   ·omega
theorem late (hF:iL K P N ops bp acc gs pn st) (bt:acc.length=ops.size) (hs:pZ ops L i o) (hr:acc[i]? =some r) (aH: ∀x∈r.rd,x<r.nx) (jh: ∀k∈keys r.up,k∈r.rd) {x:Nat} (hx: ∃X,(x,X)∈r.ef):
  ∀k r',i<k->acc[k]? =some r'->(∃X,(x,X)∈r'.ef)->L k=false:=by
 intro k r' h hk ht
 have hp:=hF.pos i k r r' h hr hk
 obtain⟨o',gh,ei,_,fS⟩:=hF.Zk bt hk
 rcases fS.cl with h0|⟨h1,h2,h3⟩
 ·exact absurd ht (vv h0)
 ·rcases h3 i r (vO hr h) with h5|⟨h5,h6,h7⟩
  ·cases gr:L k with
   |false=>rfl
   |true=>have:=(hs.up k gr).2 i h5;rw[hs.no] at this;cases this
  ·exfalso
   rcases oH.1 hx with a1|a1
   ·have mE:=aH x (jh x a1)
    rcases oH.1 ht with h4|h4
    ·exact h5 x (h1 x h4) a1
    ·omega
   ·rcases oH.1 ht with h4|h4
    ·exact h6 x (h1 x h4) a1
    ·omega
variable {B:dz} {A:Pl} {O:List Nat} {w:World} {a:Act}
theorem Hw (hR:rO N ops) (hs:pZ ops L i o) (hI:rL K P N ops bp acc gs B L A O w a) {env:aW S} (JM: ∀s av,aW.get env s=some av->s∈ic ops o/\oq ops bp (gs.take i) s av):dw A O w env a:=by
 intro s av h
 obtain⟨kC,he⟩:=JM s av h
 rcases he with⟨k,hk,hg⟩|⟨h0,iU⟩
 ·have oY:k<i:=by
   have:=(List.getElem?_eq_some_iff.1 hg).1
   rw[List.length_take] at this;omega
  have ki:gs[k]? =some (.done av):=by rw[List.getElem?_take_of_lt oY] at hg;exact hg
  refine hI.done k s av ?_ hk ki
  rcases hR.slot i o s hs.oi kC with⟨j,hj,sN⟩|h1
  ·rw[<-hR.un j k s sN hk];exact hs.af j hj
  ·rcases h1 k hk with rfl|h2
   ·omega
   ·have:=hR.cl k (sa hk) i h2;omega
 ·refine hI.base s av h0 λk hk=>?_
  cases hL:L k with
  |false=>rfl
  |true=>
   exfalso
   rcases hR.slot i o s hs.oi kC with⟨j,hj,sN⟩|h1
   ·have:=hR.un j k s sN hk
    subst this
    obtain⟨ij,hg⟩:=hI.all j hL
    exact iU j ij hk (vO hg (hR.below i o hs.oi j hj))
   ·rcases h1 k hk with rfl|h2
    ·rw[hs.no] at hL;cases hL
    ·have:=(hs.up k hL).2 i h2;rw[hs.no] at this;cases this
theorem cC.view {rd:List Nat} {g gc:Nat->Option (Ob S)} (h:cC A O w g) (hv: ∀x∈rd,g x=gc x):cC A O w (pM rd gc):=by
 refine h.less λx X hx=>?_
 unfold pM at hx
 cases hm:fC x rd<;>rw[hm] at hx
 ·cases hx
 ·rw[hv x (k_.1 hm)];exact hx
theorem cM.view {A':Pl} {O':List Nat} {w':World} {rd:List Nat} {ef:Up S} {g gc:Nat->Option (Ob S)} (h:cM A O w (pM rd gc) ef A' O' w') (hv: ∀x∈rd,g x=gc x):cM A O w g ef A' O' w':=by
 refine⟨h.le,h.tr,h.ob,h.keep,h.al,h.dj,h.nd,λx X p hx hp=>?_,h.pl⟩
 obtain⟨Z,hZ⟩:=h.lv x X p hx hp
 unfold pM at hZ
 cases hm:fC x rd<;>rw[hm] at hZ
 ·cases hZ
 ·exact⟨Z,by rw[hv x (k_.1 hm)];exact hZ⟩
theorem Zl (hF:iL K P N ops bp acc gs pn st) (bt:acc.length=ops.size) (hs:pZ ops L i o) (hr:acc[i]? =some r) (aH: ∀x∈r.rd,x<r.nx) (jh: ∀k∈keys r.up,k∈r.rd)
  {gc:Nat->Option (Ob S)} (hv: ∀x∈r.rd,du L 0 acc (aJ bp.h) x=gc x) (fO: ∀k∈keys r.up,∃Z,gc k=some Z) (hI:rL K P N ops bp acc gs B L A O w a) {A':Pl} {O':List Nat} {w':World} (he:cM A O w (pM r.rd gc) r.ef A' O' w'):
  jm K P N B A' O' w' (cK (du L 0 acc (aJ bp.h)) r.ef) (λx=>bp.h.length<=x/\ ∀(k:Nat) r,acc[k]? =some r->(Nat.beq k i||L k)=true-> ¬(r.nx<=x/\x<r.nx+r.nw.length)) (λx=>x∈bp.dt\/ ∃(k:Nat) (r:cY S),acc[k]? =some r/\(Nat.beq k i||L k)=true/\x∈keys r.up) bp.lp bp.inr bp.df a:=by
 have cp: ∀x,r.nx<=x->x<r.nx+r.nw.length->bp.h.length<=x/\ ∀(k:Nat) r,acc[k]? =some r->L k=true-> ¬(r.nx<=x/\x<r.nx+r.nw.length):=by
  intro x h1 h2
  refine⟨by have:=(hF.top i r hr).1;omega,λk r' hk gr h3=>?_⟩
  rcases Nat.lt_trichotomy k i with h|h|h
  ·have:=hF.pos k i r' r h hk hr;omega
  ·subst h;rw[hs.no] at gr;cases gr
  ·have:=hF.pos i k r r' h hr hk;omega
 refine(hI.c.cO (λx X hx=>?_) (he.view hv)).weaken ?_ ?_
 ·rcases oH.1 ⟨X,hx⟩ with h|h
  ·obtain⟨Z,hZ⟩:=fO x h
   exact .inl ⟨Z,by rw[hv x (jh x h)];exact hZ⟩
  ·exact .inr (cp x h.1 h.2)
 ·rintro x ⟨h1,h2⟩
  refine⟨⟨h1,λk r' hk gr=>h2 k r' hk (by rw[gr,Bool.or_true])⟩,λX hx=>?_⟩
  rcases oH.1 ⟨X,hx⟩ with h|h
  ·have:=aH x (jh x h)
   obtain⟨Z,hZ⟩:=fO x h
   have hg:du L 0 acc (aJ bp.h) x=some Z:=by rw[hv x (jh x h)];exact hZ
   obtain⟨p,hp,_⟩:=hI.c.rel.al x Z hg
   rw[hI.c.ni x ⟨h1,λk r' hk gr=>h2 k r' hk (by rw[gr,Bool.or_true])⟩] at hp
   cases hp
  ·exact h2 i r hr (by rw[Nat.beq_refl,Bool.true_or]) h
 ·rintro x (⟨h|⟨k,r',hk,gr,hx⟩⟩|⟨⟨Z,hZ⟩,X,hx⟩)
  ·exact .inl h
  ·exact .inr ⟨k,r',hk,by rw[gr,Bool.or_true],hx⟩
  ·rcases oH.1 ⟨X,hx⟩ with h|h
   ·exact .inr ⟨i,r,hr,by rw[Nat.beq_refl,Bool.true_or],h⟩
   ·have hf:=cp x h.1 h.2
    obtain⟨p,hp,_⟩:=hI.c.rel.al x Z hZ
    rw[hI.c.ni x hf] at hp;cases hp
theorem alV {a:Act} {d s:Nat} {v:Value} (hd:d<a.tmps.size):(a.put (some d) v).tmps.getD s undef=bif Nat.beq d s then v else a.tmps.getD s undef:=by
 cases hq:Nat.beq d s with
 |true=>
  have:=Nat.eq_of_beq_eq_true hq
  subst this
  simp[Act.put,Array.getD_eq_getD_getElem?,hd]
 |false=>
  have aV:d≠s:=λe=>by subst e;simp at hq
  simp[Act.put,Array.getD_eq_getD_getElem?,Array.getElem?_setIfInBounds_ne aV]
theorem Zm (hR:rO N ops) (hs:pZ ops L i o) (hI:rL K P N ops bp acc gs B L A O w a) {A':Pl} {O':List Nat} {w':World} (eO:Tr O w O' w') (hle:A.le A') {av:AV S} {v:Value} (hg:gs[i]? =some (.done av)) (hv:av.rel A' O' w' v)
  (hc:jm K P N B A' O' w' (du (λk=>Nat.beq k i||L k) 0 acc (aJ bp.h)) (λx=>bp.h.length<=x/\ ∀(k:Nat) r,acc[k]? =some r->(Nat.beq k i||L k)=true-> ¬(r.nx<=x/\x<r.nx+r.nw.length)) (λx=>x∈bp.dt\/ ∃(k:Nat) (r:cY S),acc[k]? =some r/\(Nat.beq k i||L k)=true/\x∈keys r.up) bp.lp bp.inr bp.df a):
  rL K P N ops bp acc gs B (λk=>Nat.beq k i||L k) A' O' w' (a.put o.dst v):=by
 have eM: ∀s,(a.put o.dst v).tmps.getD s undef=(match o.dst with|some d=>bif Nat.beq d s then v else a.tmps.getD s undef|none=>a.tmps.getD s undef):=by
  intro s
  cases hd:o.dst with
  |none=>rfl
  |some d=>
   have hdi:dY ops i=some d:=by unfold dY;rw[hs.oi];exact hd
   exact alV (by rw[hI.c.size];exact hR.dN i d hdi)
 have nC: ∀d,o.dst=some d->dY ops i=some d:=λd hd=>by unfold dY;rw[hs.oi];exact hd
 refine⟨hc.act ?_ ?_,?_,?_,?_⟩
 ·cases o.dst<;>simp[Act.put]
 ·cases o.dst<;>rfl
 ·intro s b hb iU
  rw[eM s]
  have fa:=(hI.base s b hb λk hk=>by have:=iU k hk;simp only[Bool.or_eq_false_iff] at this;exact this.2).tr eO hle
  split
  ·rename_i d hd
   cases hq:Nat.beq d s with
   |true=>
    have:=Nat.eq_of_beq_eq_true hq
    subst this
    have:=iU i (nC d hd)
    simp at this
   |false=>exact fa
  ·exact fa
 ·intro k s b hk kY JS
  rw[eM s]
  cases oY:Nat.beq k i with
  |true=>
   have:=Nat.eq_of_beq_eq_true oY
   subst this
   rw[hg] at JS
   cases JS
   have aX:o.dst=some s:=by unfold dY at kY;rw[hs.oi] at kY;exact kY
   rw[aX]
   simpa using hv
  |false=>
   simp only[oY,Bool.false_or] at hk
   have fa:=(hI.done k s b hk kY JS).tr eO hle
   split
   ·rename_i d hd
    cases hq:Nat.beq d s with
    |true=>
     have:=Nat.eq_of_beq_eq_true hq
     subst this
     have:=hR.un k i d kY (nC d hd)
     subst this
     simp at oY
    |false=>exact fa
   ·exact fa
 ·intro k hk
  cases oY:Nat.beq k i with
  |true=>
   have:=Nat.eq_of_beq_eq_true oY
   subst this
   exact⟨av,hg⟩
  |false=>
   simp only[oY,Bool.false_or] at hk
   exact hI.all k hk
end
section
variable {S:bL} {K:bQ S} {P:Program} {N:Nat} {ops:Array Oper} {bp:AS S}
variable {acc:List (cY S)} {gs:List (Gh S)} {pn:Option (List Nat×Value×AS S)} {st:AS S} {L:Nat->Bool} {i:Nat} {o:Oper} {r:cY S}
variable {B:dz} {A:Pl} {O:List Nat} {w:World} {a:Act}
def gK (n:Nat) (listed:Array Bool):Nat->Bool:=λk=>Nat.blt k n&&listed.getD k true
theorem akx {n:Nat} {listed:Array Bool} (hs:listed.size=n) {i:Nat} (hi:i<n):gK n (listed.setIfInBounds i true)=λk=>Nat.beq k i||gK n listed k:=by
 funext k
 unfold gK
 cases hq:Nat.beq k i with
 |true=>
  have:=Nat.eq_of_beq_eq_true hq
  subst this
  have h1:Nat.blt k n=true:=Nat.blt_eq.mpr hi
  rw[h1]
  simp[Array.getD_eq_getD_getElem?,hs,hi]
 |false=>
  have aV:i≠k:=λe=>by subst e;simp at hq
  simp[Array.getD_eq_getD_getElem?,Array.getElem?_setIfInBounds_ne aV]
theorem alG (hF:iL K P N ops bp acc gs pn st) (bt:acc.length=ops.size) (hR:rO N ops) (hs:pZ ops L i o) (hr:acc[i]? =some r) (aH: ∀x∈r.rd,x<r.nx) (jh: ∀k∈keys r.up,k∈r.rd)
  {gc:Nat->Option (Ob S)} (hv: ∀x∈r.rd,du L 0 acc (aJ bp.h) x=gc x) (fO: ∀k∈keys r.up,∃Z,gc k=some Z) (hI:rL K P N ops bp acc gs B L A O w a) {A':Pl} {O':List Nat} {w':World} (he:cM A O w (pM r.rd gc) r.ef A' O' w')
  {dv:AS S} (hp:zX ops bp acc gs i r dv) (hle:B.nb<=bp.h.length) (wX:bp.nb=B.nb):bA K P N B A' O' w' dv a:=by
 have hC:=Zl hF bt hs hr aH jh hv fO hI he
 obtain⟨o1,o2,o3,o4⟩:=hp.pC
 rw[<-o2,<-o3,<-o4] at hC
 refine hC.Zt (λx=>?_) (λx hx=>?_) (λx jz hx=>?_) (o1.trans wX) (by rw[hp.hl];have:=(hF.top i r hr).1;omega) (λs av Kl=>?_)
 ·rw[hp.hp x]
  by_cases ht: ∃X,(x,X)∈r.ef
  ·exact yj ht
  ·rw[gP (λX hX=>ht ⟨X,hX⟩),gP (λX hX=>ht ⟨X,hX⟩),UO (Nat.le_of_lt (List.getElem?_eq_some_iff.1 hr).1)]
   symm
   refine qL (λk r' hk qO=>?_) rfl
   rw[Nat.zero_add]
   rcases Nat.lt_trichotomy k i with h|h|h
   ·rw[show Nat.blt k i=true from Nat.blt_eq.mpr h]
    rcases hp.pre k r' h hk with h1|h1
    ·exact hs.cl k h1
    ·exact absurd qO (vv h1)
   ·subst h
    rw[hr] at hk;cases hk
    exact absurd qO ht
   ·exact absurd qO (vv (hp.post k r' h hk))
 ·rw[hp.hl] at hx
  refine⟨by have:=(hF.top i r hr).1;omega,λk r' hk gr h3=>?_⟩
  rcases Nat.lt_trichotomy k i with h|h|h
  ·have:=hF.pos k i r' r h hk hr;omega
  ·subst h;rw[hr] at hk;cases hk;omega
  ·rw[(hp.post k r' h hk).2] at h3;simp at h3;omega
 ·rcases hx with h|⟨k,r',hk,gr,hx⟩
  ·exact hp.sb x h
  ·rcases Nat.lt_or_ge i k with h|h
   ·rw[(hp.post k r' h hk).1] at hx;cases hx
   ·exact hp.dt k r' x h hk hx (by rw[wX];exact jz)
 ·obtain⟨h1,h2⟩:=hp.env s av Kl
  exact(hI.base s av h2 λk hk=>absurd hk (h1 k)).tr he.tr he.le
theorem adt (hm:P.follows .mixedOrders=true) (hR:rO N ops) (hF:iL K P N ops bp acc gs pn st) (bt:acc.length=ops.size) {e:NP} {bm:AS S} (he:(pn=none/\e= .go/\bm=st)\/ ∃dead u dv,pn=some (dead,u,dv)/\e= .bN u/\bm=dv) {id:Nat} (h:bA K P N B A O w bp a):
  (Code.region id ops true).wpIn (fw B.rr) 0 P (kN K P N B e.x bm) a w:=by
 refine anj (I:=λlisted a w=> ∃A O,rL K P N ops bp acc gs B (gK ops.size listed) A O w a) hm hR.below ?_ ?_ ?_
 ·rintro listed a w i o eC bS ⟨A,O,hI⟩ ho fQ T1
  have c6:i<ops.size:=(Array.getElem?_eq_some_iff.1 ho).1
  have J4: ∀k,k<ops.size->listed.getD k true=true->gK ops.size listed k=true:=λk h1 h2=>by
   unfold gK;rw[h2,Bool.and_true];exact Nat.blt_eq.mpr h1
  have hS:pZ ops (gK ops.size listed) i o:=by
   refine⟨ho,?_,?_,?_,?_⟩
   ·intro k hk
    unfold gK at hk
    rw[Bool.and_eq_true] at hk
    have kY:=Nat.blt_eq.mp hk.1
    refine⟨kY,λj hj=>?_⟩
    have hjk:=hR.cl k kY j hj
    refine J4 j (by omega) ?_
    unfold fL at hj
    rw[Array.getElem?_eq_getElem kY] at hj
    exact qe bS 12 _ (λx hx=>bS k _ (Array.getElem?_eq_getElem kY) hk.2 x hx) j hj
   ·intro j hj
    have hjk:=hR.cl i c6 j hj
    refine J4 j (by omega) ?_
    unfold fL at hj
    rw[ho] at hj
    exact qe bS 12 _ T1 j hj
   ·unfold gK;rw[fQ,Bool.and_false]
   ·intro j hj
    exact J4 j (by have:=hR.below i o ho j hj;omega) (T1 j hj)
  have sM:i<acc.length:=by omega
  have hr:acc[i]? =some acc[i]:=List.getElem?_eq_getElem sM
  have Uj:i<gs.length:=by rw[hF.lg];exact sM
  have fS:=hF.step i o acc[i] gs[i] ho hr (List.getElem?_eq_getElem Uj)
  have lS:gs[i]? =some gs[i]:=List.getElem?_eq_getElem Uj
  have Ug: ∀j,j<acc[i].nw.length->A.pl (acc[i].nx+j)=none:=by
   intro j hj
   refine hI.c.ni _ ⟨by have:=(hF.top i _ hr).1;omega,λk r' hk gr h3=>?_⟩
   rcases Nat.lt_trichotomy k i with h|h|h
   ·have:=hF.pos k i r' _ h hk hr;omega
   ·subst h;rw[hS.no] at gr;cases gr
   ·have:=hF.pos i k _ r' h hr hk;omega
  simp only[wpOpIn,ho]
  rw[akx eC c6]
  generalize Ui:gs[i]=gg at fS lS
  cases gg with
  |done av=>
   rcases fS with⟨env,gc,hw⟩|⟨env,sU,nP,pg,Ko⟩
   ·have hE:=Hw hR hS hI hw.ev
    rw[if_pos (hw.ZU A O w a hI.c.size hE)]
    have hv: ∀x∈acc[i].rd,du (gK ops.size listed) 0 acc (aJ bp.h) x=gc x:=λx hx=>(agree hF bt hS hr hw.lt hw.BM x hx).trans (hw.gh x).symm
    refine pN ?_ ?_ (hw.snd B.rr A O w a hE (hI.c.rel.view hv) hI.c.ob hI.c.dT Ug)
    ·rintro a' w' ⟨v,rfl,ij,e',A',O',hva,ga⟩
     cases e'
     refine⟨A',O',Zm hR hS hI ga.tr ga.le lS hva ?_⟩
     have hC:=Zl hF bt hS hr hw.lt hw.sub hv hw.al hI ga
     rw[show du (λk=>Nat.beq k i||gK ops.size listed k) 0 acc (aJ bp.h)=cK (du (gK ops.size listed) 0 acc (aJ bp.h)) acc[i].ef from funext λx=>UN hr hS.no λhx=>late hF bt hS hr hw.lt hw.sub hx]
     exact hC
    ·intro x a' w' hq
     cases x with
     |panic ch=>obtain⟨u,_,_,e',_⟩:=hq;cases e'
     |_=>exact hq.elim
   ·have hE:=Hw hR hS hI sU
    rw[if_neg (by rw[nP A O w a hI.c.size hE];simp)]
    refine⟨λ_ _=>trivial,A,O,?_⟩
    subst pg
    refine Zm hR hS hI (Tr.refl O w) (Pl.le.refl A) lS ⟨[],rfl,rfl⟩ ?_
    have ajr:acc[i].ef=[]:=by unfold cY.ef;rw[Ko.1,Ko.2];rfl
    rw[show du (λk=>Nat.beq k i||gK ops.size listed k) 0 acc (aJ bp.h)=du (gK ops.size listed) 0 acc (aJ bp.h) from funext λx=>by
     rw[UN hr hS.no λhx=>absurd hx (vv Ko),ajr];rfl]
    refine hI.c.weaken ?_ ?_
    ·rintro x ⟨h1,h2⟩
     exact⟨h1,λk r' hk gr=>h2 k r' hk (by rw[gr,Bool.or_true])⟩
    ·rintro x (h1|⟨k,r',hk,gr,hx⟩)
     ·exact .inl h1
     ·exact .inr ⟨k,r',hk,by rw[gr,Bool.or_true],hx⟩
  |bN u=>
   obtain⟨env,gc,hw⟩:=fS
   have hE:=Hw hR hS hI hw.ev
   rw[if_pos (hw.ZU A O w a hI.c.size hE)]
   have hv: ∀x∈acc[i].rd,du (gK ops.size listed) 0 acc (aJ bp.h) x=gc x:=λx hx=>(agree hF bt hS hr hw.lt hw.BM x hx).trans (hw.gh x).symm
   refine pN ?_ ?_ (hw.snd B.rr A O w a hE (hI.c.rel.view hv) hI.c.ob hI.c.dT Ug)
   ·rintro a' w' ⟨v,rfl,ij,e',_⟩
    cases e'
   ·intro x a' w' hq
    cases x with
    |panic ch=>
     obtain⟨u',rfl,rfl,e',A',O',ga⟩:=hq
     cases e'
     rcases he with⟨h1,_⟩|⟨dead,u0,dv,h1,rfl,rfl⟩
     ·obtain⟨av,h2⟩:=hF.q8 h1 i _ lS
      cases h2
     ·obtain⟨i0,r0,q1,q2,q3,q4,_⟩:=hF.pE dead u0 _ h1
      have:=q4 i u lS
      subst this
      rw[lS] at q1
      cases q1
      rw[hr] at q2
      cases q2
      exact⟨rfl,A',O',alG hF bt hR hS hr hw.lt hw.sub hv hw.al hI ga q3 h.le h.nb⟩
    |_=>exact hq.elim
  |never=>
   obtain⟨_,k,hk,iU⟩:=fS
   exfalso
   obtain⟨av,hg⟩:=hI.all k (hS.cl k hk)
   exact iU av (vO hg (hR.cl i c6 k hk))
 ·rintro listed a w eC eT ⟨A,O,hI⟩
  have hL: ∀k,k<ops.size->gK ops.size listed k=true:=λk hk=>by unfold gK;rw[eT k hk,Bool.and_true];exact Nat.blt_eq.mpr hk
  rcases he with⟨h1,rfl,rfl⟩|⟨dead,u,dv,h1,rfl,rfl⟩
  ·refine⟨rfl,A,O,?_⟩
   obtain⟨o1,o2,o3,o4⟩:=hF.pC
   have hC:=hI.c
   rw[<-o2,<-o3,<-o4] at hC
   have aH: ∀ {k:Nat} {r':cY S},acc[k]? =some r'->k<ops.size:=λhk=>by have:=(List.getElem?_eq_some_iff.1 hk).1;omega
   refine hC.Zt (λx=>?_) (λx hx=>?_) (λx jz hx=>?_) (o1.trans h.nb) (Nat.le_trans h.le hF.hl) (λs av Kl=>?_)
   ·rw[hF.hp x]
    refine qL (λk r' hk _=>?_) rfl
    rw[Nat.zero_add]
    exact(hL k (aH hk)).symm
   ·exact⟨Nat.le_trans hF.hl hx,λk r' hk _ h3=>by have:=(hF.top k r' hk).2;omega⟩
   ·rcases hx with hx|⟨k,r',hk,_,hx⟩
    ·exact hF.sb x hx
    ·exact hF.dt k r' x hk hx (by rw[h.nb];exact jz)
   ·rcases hF.env s av Kl with⟨k,hk,hg⟩|⟨h2,h3⟩
    ·exact hI.done k s av (hL k (sa hk)) hk hg
    ·refine hI.base s av h2 λk hk=>?_
     exfalso
     obtain⟨ij,hg⟩:=hI.all k (hL k (sa hk))
     exact h3 k ij hk hg
  ·exfalso
   obtain⟨i0,r0,q1,q2,_⟩:=hF.pE dead u _ h1
   have C_:i0<ops.size:=by have:=(List.getElem?_eq_some_iff.1 q2).1;omega
   obtain⟨av,hg⟩:=hI.all i0 (hL i0 C_)
   rw[q1] at hg
   cases hg
 ·have ga:cM A O w (aJ bp.h) [] A O w.drew:=Hq h.ob (Fr.drew [] w)
  have hL: ∀k,gK ops.size (Array.replicate ops.size false) k=false:=λk=>by
   unfold gK
   cases hb:Nat.blt k ops.size with
   |false=>rfl
   |true=>
    have:=Nat.blt_eq.mp hb
    simp[Array.getD_eq_getD_getElem?,this]
  refine⟨A,O,?_,?_,?_,?_⟩
  ·rw[show du (gK ops.size (Array.replicate ops.size false)) 0 acc (aJ bp.h)=aJ bp.h from funext λx=>Kh λj r' _ _=>by rw[Nat.zero_add];exact hL j]
   refine(h.toC.cO (ef:=[]) (λx X hx=>by cases hx) ga).weaken ?_ ?_
   ·rintro x ⟨h1,_⟩
    exact⟨h1,λX hx=>by cases hx⟩
   ·rintro x (h1|⟨_,X,hx⟩)
    ·exact .inl h1
    ·cases hx
  ·intro s av hs _
   exact(h.env s av hs).tr ga.tr ga.le
  ·intro k s av hk;rw[hL k] at hk;cases hk
  ·intro k hk;rw[hL k] at hk;cases hk
end
section
variable {S:bL} {P:Program} {N:Nat} {ops:Array Oper} {bp:AS S} {R:Type} {z:R}
theorem KU {env:aW S} {s:Nat} {av:AV S} {l:List Nat} (h:aW.get (gz env l) s=some av):s∈l/\aW.get env s=some av:=Dx (get_mem h)
theorem xq {env:aW S} {s:Nat}: ∀ {l:List Nat},s∈l->aW.get (gz env l) s=aW.get env s
 |t::r,h=>by
  simp only[gz]
  by_cases fj:t=s
  ·subst fj
   cases hg:aW.get env t with
   |some a=>simp[aW.get]
   |none=>
    simp only
    by_cases hr:t∈r
    ·rw[xq hr,hg]
    ·cases hk:aW.get (gz env r) t with
     |none=>rfl
     |some a=>exact absurd (KU hk).1 hr
  ·have hr:s∈r:=by
    rcases List.mem_cons.1 h with h|h
    ·exact absurd h.symm fj
    ·exact h
   cases hg:aW.get env t with
   |some a=>
    have aV:Nat.beq t s=false:=by
     cases hb:Nat.beq t s with
     |false=>rfl
     |true=>exact absurd (Nat.eq_of_beq_eq_true hb) fj
    simp only[aW.get,aV,cond_false]
    exact xq hr
   |none=>exact xq hr
theorem apC {env:aW S} {s:Nat} {av:AV S} (h:aW.get (MK ops env) s=some av):(∀k,dY ops k≠some s)/\aW.get env s=some av:=by
 constructor
 ·have:=(List.mem_filter.1 (get_mem h)).2
  rw[List.all_eq_true] at this
  intro k hk
  have h1:=this k (by simpa using sa hk)
  rw[hk] at h1
  simp at h1
 ·unfold MK at h
  induction env with
  |nil=>cases h
  |cons p r ih=>
   obtain⟨t,b⟩:=p
   rw[List.filter_cons] at h
   simp only[aW.get]
   split at h
   ·simp only[aW.get] at h
    cases hq:Nat.beq t s with
    |true=>rw[hq] at h;exact h
    |false=>rw[hq] at h;exact ih h
   ·rename_i hf
    cases hq:Nat.beq t s with
    |true=>
     exfalso
     have fj:=Nat.eq_of_beq_eq_true hq
     subst fj
     have h1:=(List.mem_filter.1 (get_mem h)).2
     exact hf h1
    |false=>exact ih h
theorem adn {o:Oper} {st:AS S} {yes no:AS S->Option R} (h:rZ N ops o.guard st yes no=some z):
  ∃oI,(∀s,aW.get oI s=aW.get st.env s)/\
   ((yes { st with env:=oI }=some z/\ ∀A O w a,a.tmps.size=N->dw A O w (gz oI (ic ops o)) a->Region.wanted o (yielded ops a.tmps)=true)\/(no { st with env:=oI }=some z/\ ∀A O w a,a.tmps.size=N->dw A O w (gz oI (ic ops o)) a->Region.wanted o (yielded ops a.tmps)=false)):=by
 unfold rZ at h
 split at h
 ·rename_i hg
  exact⟨st.env,λ_=>rfl,.inl ⟨h,λA O w a _ _=>by unfold Region.wanted;rw[hg]⟩⟩
 ·rename_i j b hg
  split at h
  rotate_left
  ·cases h
  rename_i oj hj
  split at h
  rotate_left
  ·cases h
  rename_i d hd
  cases hN:Nat.blt d N<;>rw[hN] at h
  ·cases h
  simp only[cond_true] at h
  have c6:d∈ic ops o:=by
   unfold ic Tu dY
   rw[hg]
   simp[hj,hd]
  split at h
  ·rename_i c hc
   have same: ∀s,aW.get ((d,AV.s (.one (.v (.bool c))))::st.env) s=aW.get st.env s:=λs=>by
    simp only[aW.get]
    cases hq:Nat.beq d s with
    |true=>
     have:=Nat.eq_of_beq_eq_true hq
     subst this
     exact hc.symm
    |false=>rfl
   refine⟨(d,AV.s (.one (.v (.bool c))))::st.env,same,?_⟩
   have w1: ∀(A:Pl) (O:List Nat) (w:World) (a:Act),a.tmps.size=N->dw A O w (gz ((d,AV.s (.one (.v (.bool c))))::st.env) (ic ops o)) a->Region.wanted o (yielded ops a.tmps)=(c==b):=λA O w a bt hr=>
    ZQ hg hj hd (by rw[bt];exact hN) (fq (S:=S) (A:=A) (O:=O) (w:=w) (hr d (.s (.one (.v (.bool c)))) (by rw[xq c6,same d];exact hc)))
   cases c<;>cases b<;>simp only[cond_true,cond_false] at h
   ·exact .inl ⟨h,λA O w a bt hr=>by rw[w1 A O w a bt hr];rfl⟩
   ·exact .inr ⟨h,λA O w a bt hr=>by rw[w1 A O w a bt hr];rfl⟩
   ·exact .inr ⟨h,λA O w a bt hr=>by rw[w1 A O w a bt hr];rfl⟩
   ·exact .inl ⟨h,λA O w a bt hr=>by rw[w1 A O w a bt hr];rfl⟩
  ·rename_i hc
   refine⟨st.env,λ_=>rfl,.inr ⟨h,λA O w a bt hr=>?_⟩⟩
   obtain⟨xs,hx,_⟩:=hr d _ (by rw[xq c6];exact hc)
   exact Zv hg hj hd (by rw[bt];exact hN) hx
  ·cases h
variable {K:bQ S} {acc:List (cY S)} {gs:List (Gh S)} {pn:Option (List Nat×Value×AS S)} {st st1:AS S} {r:cY S} {gh:Gh S}
theorem oq.snoc {s:Nat} {av:AV S} (h:oq ops bp gs s av) (hn: ∀ij,gh= .done ij->dY ops gs.length≠some s):oq ops bp (gs++[gh]) s av:=by
 rcases h with⟨k,h1,h2⟩|⟨h1,h2⟩
 ·exact .inl ⟨k,h1,by rw[List.getElem?_append_left (List.getElem?_eq_some_iff.1 h2).1];exact h2⟩
 ·refine .inr ⟨h1,λk ij hk hg=>?_⟩
  rcases Nat.lt_trichotomy k gs.length with aH|heq|wL
  ·rw[List.getElem?_append_left aH] at hg;exact h2 k ij hk hg
  ·subst heq
   simp at hg
   exact hn ij hg hk
  ·rw[List.getElem?_eq_none (by simp;omega)] at hg;cases hg
theorem iq {α:Type} {l:List α} {x y:α} {k:Nat} (h:(l++[x])[k]? =some y):l[k]? =some y\/(k=l.length/\y=x):=by
 rcases Nat.lt_trichotomy k l.length with aH|heq|wL
 ·rw[List.getElem?_append_left aH] at h;exact .inl h
 ·subst heq;simp at h;exact .inr ⟨rfl,h.symm⟩
 ·rw[List.getElem?_eq_none (by simp;omega)] at h;cases h
theorem tJ {α:Type} {l:List α} {x:α} {k:Nat} (h:k<=l.length):(l++[x]).take k=l.take k:=List.take_append_of_le_length h
theorem iL.snoc (hF:iL K P N ops bp acc gs pn st) (hx: ∀x,aJ st1.h x=cK (aJ st.h) r.ef x) (J':r.nx=st.h.length) (hl:st1.h.length=st.h.length+r.nw.length)
  (JJ: ∀s av,aW.get st1.env s=some av->(gh= .done av/\dY ops acc.length=some s)\/(aW.get st.env s=some av/\ ∀ij,gh= .done ij->dY ops acc.length≠some s))
  (ajL:st1.nb=st.nb/\st1.lp=st.lp/\st1.inr=st.inr/\st1.df=st.df) (sH: ∀x∈st.dt,x∈st1.dt) (hdu: ∀x∈keys r.up,x<st.nb->x∈st1.dt) (fS: ∀o,ops[acc.length]? =some o->ve K P N ops bp acc gs acc.length o r gh)
  {pE:Option (List Nat×Value×AS S)} (lZ:pE=none->pn=none/\ ∃av,gh= .done av)
  (wZ: ∀dead u dv,pE=some (dead,u,dv)-> ∃i r',(gs++[gh])[i]? =some (.bN u)/\(acc++[r])[i]? =some r'/\zX ops bp (acc++[r]) (gs++[gh]) i r' dv/\(∀k u',(gs++[gh])[k]? =some (.bN u')->k=i)/\(∀(k:Nat) (g:Gh S),(gs++[gh])[k]? =some g->((∃av,g=Gh.done av)\/k∈dead)/\(k∈dead-> ∀av,g≠Gh.done av))/\ ∀k∈dead,k<(acc++[r]).length):
  iL K P N ops bp (acc++[r]) (gs++[gh]) pE st1:=by
 have kZ:=hF.lg
 refine⟨by simp[kZ],?_,?_,?_,?_,?_,?_,?_,?_,?_,?_,wZ⟩
 ·intro x
  rw[Df,Nat.zero_add,hx x]
  simp only[du,cond_true]
  exact Zx (hF.hp x)
 ·have:=hF.hl;omega
 ·intro i k a b wN ha hb
  rcases iq hb with fa|⟨rfl,rfl⟩
  ·rcases iq ha with dD|⟨rfl,rfl⟩
   ·exact hF.pos i k a b wN dD fa
   ·have:=(List.getElem?_eq_some_iff.1 fa).1;omega
  ·rcases iq ha with dD|⟨rfl,rfl⟩
   ·rw[J'];exact(hF.top i a dD).2
   ·omega
 ·intro i a ha
  rcases iq ha with dD|⟨rfl,rfl⟩
  ·have:=hF.top i a dD;omega
  ·have:=hF.hl;omega
 ·intro s av hs
  rcases JJ s av hs with⟨h1,h2⟩|⟨h1,h2⟩
  ·exact .inl ⟨acc.length,h2,by rw[<-kZ];simp[h1]⟩
  ·exact(hF.env s av h1).snoc (by rw[kZ];exact h2)
 ·obtain⟨a1,a2,a3,a4⟩:=hF.pC
  obtain⟨b1,b2,b3,b4⟩:=ajL
  exact⟨b1.trans a1,b2.trans a2,b3.trans a3,b4.trans a4⟩
 ·exact λx hx=>sH x (hF.sb x hx)
 ·intro i a x ha UU jz
  rcases iq ha with dD|⟨rfl,rfl⟩
  ·exact sH x (hF.dt i a x dD UU jz)
  ·exact hdu x UU (by rw[hF.pC.1];exact jz)
 ·intro i o a g ho ha hg
  rcases iq ha with dD|⟨rfl,rfl⟩
  ·have aH:=(List.getElem?_eq_some_iff.1 dD).1
   rw[tJ (Nat.le_of_lt aH),tJ (by omega)]
   refine hF.step i o a g ho dD ?_
   rw[List.getElem?_append_left (by omega)] at hg
   exact hg
  ·rw[tJ (Nat.le_refl _),List.take_length]
   rw[<-kZ,tJ (Nat.le_refl _),List.take_length,kZ]
   have:g=gh:=by
    rw[<-kZ] at hg
    simp at hg
    exact hg.symm
   subst this
   exact fS o ho
 ·intro h k g hg
  obtain⟨q1,q2⟩:=lZ h
  rcases iq hg with ki|⟨rfl,rfl⟩
  ·exact hF.q8 q1 k g ki
  ·exact q2
theorem iL.LL (hF:iL K P N ops bp acc gs pn st) (hr:r.up=[]/\r.nw=[]) {Hn:List Nat} {u0:Value} {Zo:AS S} (hpn:pn=some (Hn,u0,Zo)) {dead:List Nat} (hd:dead=Hn/\(∃av,gh= .done av)\/dead=acc.length::Hn/\gh= .never):
  ∃i r',(gs++[gh])[i]? =some (.bN u0)/\(acc++[r])[i]? =some r'/\zX ops bp (acc++[r]) (gs++[gh]) i r' Zo/\(∀k u',(gs++[gh])[k]? =some (.bN u')->k=i)/\(∀(k:Nat) (g:Gh S),(gs++[gh])[k]? =some g->((∃av,g=Gh.done av)\/k∈dead)/\(k∈dead-> ∀av,g≠Gh.done av))/\ ∀k∈dead,k<(acc++[r]).length:=by
 obtain⟨i,r',h1,h2,h3,h4,h5,h6⟩:=hF.pE _ _ _ hpn
 have aH:=(List.getElem?_eq_some_iff.1 h2).1
 have kZ:=hF.lg
 have nop: ∀u,gh≠ .bN u:=by
  intro u e
  rcases hd with⟨_,av,h⟩|⟨_,h⟩<;>rw[h] at e<;>cases e
 refine⟨i,r',?_,?_,?_,?_,?_,?_⟩
 ·rw[List.getElem?_append_left (by omega)];exact h1
 ·rw[List.getElem?_append_left aH];exact h2
 ·refine⟨?_,h3.hl,h3.env,h3.pC,h3.sb,?_,?_,?_⟩
  ·rw[tJ (Nat.le_of_lt aH)];exact h3.hp
  ·intro k a x hk ha hx jz
   rcases iq ha with dD|⟨rfl,rfl⟩
   ·exact h3.dt k a x hk dD hx jz
   ·omega
  ·intro k a hk ha
   rcases iq ha with dD|⟨rfl,rfl⟩
   ·exact h3.pre k a hk dD
   ·omega
  ·intro k a hk ha
   rcases iq ha with dD|⟨rfl,rfl⟩
   ·exact h3.post k a hk dD
   ·exact hr
 ·intro k u' hk
  rcases iq hk with ko|⟨rfl,e⟩
  ·exact h4 k u' ko
  ·exact absurd e.symm (nop u')
 ·intro k g hk
  rcases iq hk with ko|⟨rfl,rfl⟩
  ·have iT:=(List.getElem?_eq_some_iff.1 ko).1
   rcases hd with⟨rfl,_⟩|⟨rfl,_⟩
   ·exact h5 k g ko
   ·obtain⟨a1,a2⟩:=h5 k g ko
    refine⟨a1.imp id (List.mem_cons_of_mem _),λh=>?_⟩
    rcases List.mem_cons.1 h with e|h
    ·omega
    ·exact a2 h
  ·rcases hd with⟨rfl,av,rfl⟩|⟨rfl,rfl⟩
   ·exact⟨.inl ⟨av,rfl⟩,λh=>by have:=h6 _ h;omega⟩
   ·exact⟨.inr (by rw[kZ];exact List.mem_cons_self),λ_ av e=>by cases e⟩
 ·intro k hk
  rw[List.length_append]
  rcases hd with⟨rfl,_⟩|⟨rfl,_⟩
  ·have:=h6 k hk;omega
  ·rcases List.mem_cons.1 hk with e|h
   ·subst e;simp
   ·have:=h6 k h;omega
end
section
variable {S:bL} {P:Program} {N:Nat} {ops:Array Oper} {bp:AS S} {R:Type} {z:R}
theorem afC {pn:Option (List Nat×Value×AS S)} {cl:List Nat} (h:BR pn cl=true): ∃dead u dv,pn=some (dead,u,dv)/\ ∃j∈dead,j∈cl:=by
 unfold BR at h
 split at h
 ·rename_i dead u dv
  rw[List.any_eq_true] at h
  obtain⟨j,h1,h2⟩:=h
  exact⟨dead,u,dv,rfl,j,h1,k_.1 h2⟩
 ·cases h
theorem Vh {l rd:List Nat} (h:l.all (λi=>fC i rd)=true): ∀k∈l,k∈rd:=λk hk=>k_.1 (List.all_eq_true.1 h k hk)
theorem Xo {st:AS S} {o:Oper} {av:AV S} {k:AS S->Option R} (h:l8 N o st av k=some z):
  ∃oI,k { st with env:=oI }=some z/\ ∀s b,aW.get oI s=some b->(o.dst=some s/\b=av)\/(aW.get st.env s=some b/\o.dst≠some s):=by
 unfold l8 at h
 split at h
 ·rename_i d hd
  cases hN:Nat.blt d N<;>rw[hN] at h
  ·cases h
  ·refine⟨(d,av)::st.env,h,λs b hs=>?_⟩
   simp only[aW.get] at hs
   cases hq:Nat.beq d s with
   |true=>
    rw[hq] at hs
    have:=Nat.eq_of_beq_eq_true hq
    subst this
    simp only[cond_true,Option.some.injEq] at hs
    exact .inl ⟨hd,hs.symm⟩
   |false=>
    rw[hq] at hs
    refine .inr ⟨hs,λe=>?_⟩
    rw[hd] at e
    cases e
    simp at hq
 ·rename_i hd
  exact⟨st.env,h,λs b hs=> .inr ⟨hs,by rw[hd];simp⟩⟩
theorem vf {G:az S} (hK:cI G.K P) (hC:oo G P) (hR:rO N ops) {cN:Nat->List (aE S)->AH S->(Rs S->AH S->List Nat->Option R)->Option R} (cV:om G.K P cN) {kp:Value->AS S->Option R} {k:AS S->Option R}:
  ∀ {c:Nat} {acc:List (cY S)} {gs:List (Gh S)} {pn:Option (List Nat×Value×AS S)} {st:AS S},iL G.K P N ops bp acc gs pn st->acc.length+c=ops.size->oA G cN N ops kp k c acc pn st=some z->
   ∃m3 sy DX MF e bm,iL G.K P N ops bp m3 sy DX MF/\m3.length=ops.size/\xA kp k e bm=some z/\((DX=none/\e= .go/\bm=MF)\/ ∃dead u dv,DX=some (dead,u,dv)/\e= .bN u/\bm=dv)
 |0,acc,gs,pn,st,hF,hl,h=>by
  simp only[oA] at h
  split at h
  ·exact⟨acc,gs,none,st,.go,st,hF,by omega,h,.inl ⟨rfl,rfl,rfl⟩⟩
  ·rename_i dead u dv
   exact⟨acc,gs,_,st,.bN u,dv,hF,by omega,h,.inr ⟨dead,u,dv,rfl,rfl,rfl⟩⟩
 |c+1,acc,gs,pn,st,hF,hl,h=>by
  have kZ:=hF.lg
  simp only[oA] at h
  split at h
  ·cases h
  rename_i o ho
  have c6:acc.length<ops.size:=by omega
  have nC: ∀s,dY ops acc.length=some s↔o.dst=some s:=λs=>by unfold dY;rw[ho]
  cases Ud:BR pn (fL ops acc.length)<;>rw[Ud] at h
  rotate_left
  ·
   simp only[cond_true] at h
   obtain⟨dead,u,dv,rfl,j,hj,hjc⟩:=afC Ud
   refine vf hK hC hR cV (c:=c) (gs:=gs++[.never]) (hF.snoc (λx=>rfl) rfl (by simp) (λs av hs=> .inr ⟨hs,λij e=>by cases e⟩) ⟨rfl,rfl,rfl,rfl⟩ (λ_ h=>h) (λx hx=>by cases hx) ?_ (λe=>by cases e) ?_) (by rw[List.length_append,List.length_singleton];omega) h
   ·intro o' ei
    refine⟨⟨rfl,rfl⟩,j,hjc,λav hg=>?_⟩
    obtain⟨i,r,_,_,_,_,h5,_⟩:=hF.pE _ _ _ rfl
    exact(h5 j _ hg).2 hj av rfl
   ·rintro ap7 u' aqE e
    cases e
    exact hF.LL ⟨rfl,rfl⟩ rfl (.inr ⟨rfl,rfl⟩)
  simp only[cond_false] at h
  obtain⟨qg,fR,Jv⟩:=adn h
  have q8: ∀ {gh:Gh S},(∃av,gh= .done av)->pn=none->pn=none/\ ∃av,gh=Gh.done av:=λh e=>⟨e,h⟩
  rcases Jv with⟨hy,hw⟩|⟨iU,hw⟩
  ·simp only at hy
   cases Ke:(L4 G (gz qg (ic ops o)) (aJ st.h) o).all (λi=>Nat.blt i st.h.length)<;>rw[Ke] at hy
   ·cases hy
   simp only[cond_true] at hy
   generalize aqv:L4 G (gz qg (ic ops o)) (aJ st.h) o=rd at hy Ke
   have UJ: ∀x∈rd,x<st.h.length:=λx hx=>Nat.blt_eq.mp (List.all_eq_true.1 Ke x hx)
   obtain⟨res,up,nw,eV,ajW⟩:=WU hK hC cV hy
   have ev: ∀s av,aW.get (gz qg (ic ops o)) s=some av->s∈ic ops o/\oq ops bp gs s av:=λs av hs=>by
    obtain⟨h1,h2⟩:=KU hs
    rw[fR s] at h2
    exact⟨h1,hF.env s av h2⟩
   have R8: ∀ {b:Bool},(gF (aJ st.h) up&&((keys up).all (λi=>fC i rd)&&(oF (fL ops acc.length) rd up acc 0&&b)))=true->
     b=true/\Want G.K P N ops bp acc gs acc.length o ⟨rd,up,st.h.length,nw⟩ res (gz qg (ic ops o)) (aJ st.h)/\(∀k∈keys up,k<st.h.length):=by
    intro b hb
    simp only[Bool.and_eq_true] at hb
    obtain⟨q1,q2,q3,q4⟩:=hb
    refine⟨q4,⟨ajW,ev,hw,hF.hp,r6 q1,Vh q2,UJ,λk r' hk=>?_⟩,λk hk=>?_⟩
    ·have:=R9 q3 hk
     rwa [Nat.zero_add] at this
    ·exact UJ k (Vh q2 k hk)
   cases res with
   |ret av=>
    simp only[n_] at eV
    cases hb:(gF (aJ st.h) up&&((keys up).all (λi=>fC i rd)&&(oF (fL ops acc.length) rd up acc 0&&(pn.isNone||ML up nw))))<;>rw[hb] at eV
    ·cases eV
    simp only[cond_true] at eV
    obtain⟨Dd,Kp,wP⟩:=R8 hb
    obtain⟨Hv,fP,JK⟩:=Xo eV
    refine vf hK hC hR cV (c:=c) (acc:=acc++[⟨rd,up,st.h.length,nw⟩]) (gs:=gs++[.done av]) (hF.snoc (st1:= { st.cO up nw with env:=Hv }) (λx=>?_) rfl ?_ (λs b hs=>?_) ⟨rfl,rfl,rfl,rfl⟩ (λx hx=>m9 hx) (λx hx jz=>oG jz hx) (λo' ei=>?_) (q8 ⟨av,rfl⟩) ?_) (by rw[List.length_append,List.length_singleton];omega) fP
    ·exact congrFun (BX wP) x
    ·show(fG st.h up++nw).length=_
     rw[List.length_append,mQ]
    ·rcases JK s b hs with⟨h1,rfl⟩|⟨h1,h2⟩
     ·exact .inl ⟨rfl,(nC s).2 h1⟩
     ·exact .inr ⟨by rw[<-fR s];exact h1,λ_ _ e=>h2 ((nC s).1 e)⟩
    ·rw[ho] at ei;cases ei
     exact .inl ⟨_,_,Kp⟩
    ·intro dead u dv e
     subst e
     have hun:up=[]/\nw=[]:=by
      simp only[Option.isNone_some,Bool.false_or] at Dd
      unfold ML at Dd
      split at Dd
      ·exact⟨rfl,rfl⟩
      ·cases Dd
     exact hF.LL hun rfl (.inl ⟨rfl,av,rfl⟩)
   |bN u=>
    simp only[n_] at eV
    cases IA:u.oneCell'<;>rw[IA] at eV
    ·cases eV
    simp only[cond_true] at eV
    split at eV
    ·cases eV
    cases hb:(gF (aJ st.h) up&&((keys up).all (λi=>fC i rd)&&(oF (fL ops acc.length) rd up acc 0&&idle (fL ops acc.length) acc 0)))<;>rw[hb] at eV
    ·cases eV
    simp only[cond_true] at eV
    obtain⟨aju,Kp,wP⟩:=R8 hb
    refine vf hK hC hR cV (c:=c) (acc:=acc++[⟨rd,up,st.h.length,nw⟩]) (gs:=gs++[.bN u]) (hF.snoc (st1:=({ st with env:=qg }:AS S).cO up nw) (λx=>?_) rfl ?_ (λs b hs=>?_) ⟨rfl,rfl,rfl,rfl⟩ (λx hx=>m9 hx) (λx hx jz=>oG jz hx) (λo' ei=>?_) (λe=>by cases e) ?_) (by rw[List.length_append,List.length_singleton];omega) eV
    ·exact congrFun (BX wP) x
    ·show(fG st.h up++nw).length=_
     rw[List.length_append,mQ]
    ·exact .inr ⟨by rw[<-fR s];exact hs,λ_ e=>by cases e⟩
    ·rw[ho] at ei;cases ei
     exact⟨_,_,Kp⟩
    ·intro dead u' dv e
     cases e
     refine⟨acc.length,⟨rd,up,st.h.length,nw⟩,by rw[<-kZ,List.getElem?_append_right (Nat.le_refl _),Nat.sub_self];rfl,by rw[List.getElem?_append_right (Nat.le_refl _),Nat.sub_self];rfl,⟨?_,?_,?_,?_,?_,?_,?_,?_⟩,?_,?_,?_⟩
     ·intro x
      rw[tJ (Nat.le_refl _),List.take_length]
      rw[show aJ (({ st with env:=qg }:AS S).cO up nw).h x=cK (aJ st.h) (up++news st.h.length nw) x from congrFun (BX wP) x]
      exact Zx (hF.hp x)
     ·show(fG st.h up++nw).length=_
      rw[List.length_append,mQ]
     ·intro s b hs
      obtain⟨a1,a2⟩:=apC hs
      refine⟨a1,?_⟩
      rw[fR s] at a2
      rcases hF.env s b a2 with⟨k,hk,_⟩|⟨h1,_⟩
      ·exact absurd hk (a1 k)
      ·exact h1
     ·exact hF.pC
     ·exact λx hx=>m9 (hF.sb x hx)
     ·intro k a x hk ha hx jz
      rcases iq ha with dD|⟨rfl,rfl⟩
      ·exact m9 (hF.dt k a x dD hx jz)
      ·exact oG (by show x<st.nb;rw[hF.pC.1];exact jz) hx
     ·intro k a hk ha
      rcases iq ha with dD|⟨rfl,rfl⟩
      ·have:=U4 aju dD
       rwa [Nat.zero_add] at this
      ·omega
     ·intro k a hk ha
      rcases iq ha with dD|⟨rfl,rfl⟩
      ·have:=(List.getElem?_eq_some_iff.1 dD).1;omega
      ·omega
     ·intro k u' hk
      rcases iq hk with ko|⟨rfl,_⟩
      ·obtain⟨av,e⟩:=hF.q8 rfl k _ ko
       cases e
      ·exact kZ
     ·intro k g hk
      rcases iq hk with ko|⟨rfl,rfl⟩
      ·have iT:=(List.getElem?_eq_some_iff.1 ko).1
       exact⟨.inl (hF.q8 rfl k g ko),λhm=>by simp at hm;omega⟩
      ·exact⟨.inr (by rw[kZ];exact List.mem_cons_self),λ_ av e=>by cases e⟩
     ·intro k hk
      simp at hk
      subst hk
      simp
  ·obtain⟨Hv,fP,JK⟩:=Xo iU
   refine vf hK hC hR cV (c:=c) (acc:=acc++[⟨[],[],st.h.length,[]⟩]) (gs:=gs++[.done (.aY [])]) (hF.snoc (st1:= { st with env:=Hv }) (λx=>rfl) rfl (by simp) (λs b hs=>?_) ⟨rfl,rfl,rfl,rfl⟩ (λ_ h=>h) (λx hx=>by cases hx) (λo' ei=>?_) (q8 ⟨_,rfl⟩) ?_) (by rw[List.length_append,List.length_singleton];omega) fP
   ·rcases JK s b hs with⟨h1,rfl⟩|⟨h1,h2⟩
    ·exact .inl ⟨rfl,(nC s).2 h1⟩
    ·exact .inr ⟨by rw[<-fR s];exact h1,λ_ _ e=>h2 ((nC s).1 e)⟩
   ·rw[ho] at ei;cases ei
    refine .inr ⟨gz qg (ic ops o),λs av hs=>?_,hw,rfl,rfl,rfl⟩
    obtain⟨h1,h2⟩:=KU hs
    rw[fR s] at h2
    exact⟨h1,hF.env s av h2⟩
   ·intro dead u dv e
    exact hF.LL ⟨rfl,rfl⟩ e (.inl ⟨rfl,_,rfl⟩)
theorem iL.start {K:bQ S}:iL K P N ops bp [] [] none bp:=by
 refine⟨rfl,λx=>rfl,Nat.le_refl _,?_,?_,?_,⟨rfl,rfl,rfl,rfl⟩,λx h=>h,?_,?_,?_,?_⟩
 ·intro i k r r' _ h;simp at h
 ·intro i r h;simp at h
 ·exact λs av h=> .inr ⟨h,λk ij _ hg=>by simp at hg⟩
 ·intro i r x h;simp at h
 ·intro i o r gh _ h;simp at h
 ·intro _ k gh h;simp at h
 ·intro dead u dv h;cases h
theorem adm {G:az S} (hm:P.follows .mixedOrders=true) (hK:cI G.K P) (hC:oo G P) {cN:Nat->List (aE S)->AH S->(Rs S->AH S->List Nat->Option R)->Option R} (cV:om G.K P cN) {gQ:List (aE S)->AS S->(Bool->AS S->Option R)->Option R} (qQ:BB G.K P gQ) {draw:Bool} {st:AS S} {kp:Value->AS S->Option R} {k:AS S->Option R} {id:Nat}
  (h:GX G cN gQ N ops draw st kp k=some z): ∃e bm,xA kp k e bm=some z/\ ∀B A O w a,bA G.K P N B A O w st a->(Code.region id ops draw).wpIn (fw B.rr) 0 P (kN G.K P N B e.x bm) a w:=by
 unfold GX at h
 split at h
 ·obtain⟨e,bm,h1,h2⟩:=GW hK hC cV qQ h
  refine⟨e,bm,h1,λB A O w a hr=>?_⟩
  exact wpIn_region (h2 B A O w a hr)
 ·cases hR:Eb N ops<;>rw[hR] at h
  ·cases h
  simp only[cond_true] at h
  obtain⟨m3,sy,DX,MF,e,bm,h1,h2,h3,h4⟩:=vf hK hC (XI hR) cV iL.start (by simp) h
  exact⟨e,bm,h3,λB A O w a hr=>adt hm (XI hR) h1 h2 h4 hr⟩
end
section
variable {S:bL} {K:bQ S} {P:Program} {N:Nat} {B:dz} {A A':Pl} {O O':List Nat} {w w':World} {st:AS S} {a:Act}
theorem dS.dk {n0:Nat} {ρ:Nat->Option Nat} (hR:jn ρ A A'): ∀ {ds:List Deferred} {df BT:List (LV S)},pI ρ df=some BT->dS n0 A O w df ds->dS n0 A' O w BT ds
 |[],df,BT,hr,h=>by
  rw[show df=[] from h] at hr
  cases hr;rfl
 |d::ds,df,BT,hr,h=>by
  rcases h with⟨D,h1,h0,h2,h3⟩|⟨i,r,f,u,c,rfl,h2,h3,h4⟩
  ·exact .inl ⟨D,h1,h0,h2,dS.dk hR hr h3⟩
  ·simp only[pI,LV.dk] at hr
   split at hr
   ·rename_i x hx
    split at hr
    ·rename_i y hy
     cases hr
     split at hx
     ·rename_i j hj
      cases hx
      exact .inr ⟨j,y,f,u,c,rfl,hR.pl _ _ _ hj h2,h3,dS.dk hR hy h4⟩
     ·cases hx
    ·cases hr
   ·cases hr
theorem bA.gc {sl:List Nat} (h:bA K P N B A O w st a): ∃A',bA K P N B A' O w (gc sl st) a:=by
 unfold Vx.gc
 simp only
 obtain⟨kp,iz⟩: ∃kp,kp=kept (aJ st.h) st.nb (tA (st.h.take st.nb)++(Mb (gz st.env sl)++tB st.df)):=⟨_,rfl⟩
 rw[<-iz]
 split
 ·rename_i df gH
  obtain⟨A',da⟩: ∃A':Pl,A'=⟨λj=>(kp[j]?).bind A.pl,A.ls⟩:=⟨_,rfl⟩
  have hR:jn (λi=>posOf i kp 0) A A':=⟨λi j p hi hp=>by
   rw[da];simp only[tt hi,Option.bind_some];exact hp,by rw[da]⟩
  have eB: ∀i,i<B.nb->kp[i]? =some i:=λi hi=>by rw[iz];exact Ve (by rw[h.nb];exact hi)
  have JU: ∀i j,B.nb<=j->kp[j]? =some i->B.nb<=i:=λi j hj hi=>by rw[iz,h.nb] at hi;exact Vc hj hi
  have k7: ∀i,i<B.nb->A'.pl i=A.pl i:=λi hi=>by rw[da];simp[eB i hi]
  refine⟨A',h.size,ank hR h.env,?_,h.ob,h.dT,?_,h.nb,?_,h.tr,λi hi=>(k7 i hi).trans (h.pl i hi),by rw[da];exact h.ls,?_,?_,dS.dk hR gH h.df,h.lp,h.dl,h.hi,h.o0,h.rr⟩
  ·exact h.rel.dk (idx:=λj=>kp[j]?) (λj=>by rw[da]) (by rw[da]) (λi j j' h1 h2=>DG (by rw[iz];exact Vf) h1 h2) (λi j hi=>tt hi) (λj X' hj=>tp hj)
  ·intro i hi
   have:kp.length<=i:=by simpa[rf,tl] using hi
   rw[da];simp[List.getElem?_eq_none this]
  ·show B.nb<=(gN _ (jF _ kp)).length
   rw[rf,tl,iz,<-h.nb]
   exact Vd
  ·intro i X hi hX
   obtain⟨i0,X0,h1,h2,_⟩:=tp hX
   rw[eB i hi] at h1
   cases h1
   exact h.lv i X0 hi h2
  ·intro b hb hx bS
   obtain⟨c1,c2,c3⟩:=h.cl b hb hx bS
   refine⟨c1,c2,λi X p hi hX hp=>?_⟩
   obtain⟨i0,X0,h1,h2,_⟩:=tp hX
   rw[da] at hp
   simp only[h1,Option.bind_some] at hp
   exact c3 i0 X0 p (JU i0 i hi h1) h2 hp
 ·exact⟨A,h⟩
theorem fx.put {l m:Nat} {o o' u:Obj} (h:fx O w m u) (aV:m≠l):fx O (w.putObj l o') m u:=⟨⟨(World.putObj_heap_other aV).trans h.1.1,h.1.2⟩,h.2.1,h.2.2⟩
theorem vr {l:Nat} {o o':Obj} (hl:fx O w l o):Tr O w O (w.putObj l o'):=(R0 (n0:=0) o' hl.1.1 hl.1.2 hl.2.2 (Nat.zero_le _)).tr
theorem cC.book {g:Nat->Option (Ob S)} {l:Nat} {o o':Obj} (h:cC A O w g) (hl:fx O w l o):cC A O (w.putObj l o') g:=by
 refine⟨λi X hi=>?_,h.dj⟩
 obtain⟨p,hp,hR,hb⟩:=h.al i X hi
 exact⟨p,hp,hR.keep (vr hl) (Pl.le.refl A) λb b6=>⟨World.putObj_heap_other λe=>hR.Ll hl.1.1 hl.2.1 (by rw[<-e];exact b6),hb b b6⟩,hb⟩
theorem bA.book {l:Nat} {o o':Obj} {lp':Option (kM S)} {a':Act} (h:bA K P N B A O w st a) (hl:fx O w l o) (hex:l∉B.O0\/B.ex=some l) (iA:mZ P B O (w.putObj l o') lp') (eU:(lp'.isSome||st.inr)=true->a'.defers=[]) (gH:dS B.w0.heap.size A O (w.putObj l o') st.df a'.defers) (ha:a'.tmps=a.tmps):
  bA K P N B A O (w.putObj l o') { st with lp:=lp' } a':=by
 have hT:Tr O w O (w.putObj l o'):=vr hl
 refine⟨by rw[ha];exact h.size,?_,h.rel.book hl,?_,h.dT.tr hT,h.free,h.nb,h.le,h.tr.trans hT,h.pl,h.ls,h.lv,?_,gH,iA,eU,h.hi,h.o0,h.rr⟩
 ·intro s av hs
  rw[ha]
  exact(h.env s av hs).tr hT (Pl.le.refl A)
 ·exact(R0 (n0:=0) o' hl.1.1 hl.1.2 hl.2.2 (Nat.zero_le _)).ob h.ob
 ·intro b hb hx bS
  obtain⟨c1,c2,c3⟩:=h.cl b hb hx bS
  refine⟨?_,c2,c3⟩
  have aV:b≠l:=by
   rintro rfl
   rcases hex with hex|hex
   ·exact hex hb
   ·exact hx hex
  exact(World.putObj_heap_other aV).trans c1
theorem dS.yg {n0:Nat} {A2:Pl} {O2:List Nat} {w2:World} (hA: ∀i p,A.pl i=some p->A2.pl i=some p) (hb: ∀D,fx O w D (.deferred (some []))->fx O2 w2 D (.deferred (some []))): ∀ {ds:List Deferred} {df:List (LV S)},dS n0 A O w df ds->dS n0 A2 O2 w2 df ds
 |[],df,h=>h
 |d::ds,df,h=>by
  rcases h with⟨D,h1,h0,h2,h3⟩|⟨i,r,f,u,c,h1,h2,h3,h4⟩
  ·exact .inl ⟨D,h1,h0,hb D h2,dS.yg hA hb h3⟩
  ·exact .inr ⟨i,r,f,u,c,h1,hA _ _ h2,h3,dS.yg hA hb h4⟩
def dz.of (A:Pl) (O:List Nat) (w:World) (h:AH S) (ex rr:Option Nat):dz:=⟨A,O,w,h.length,λi=> ∃X,aJ h i=some X,ex,rr⟩
theorem bA.init {h:AH S} {ex rr:Option Nat} {env:aW S} {lp:Option (kM S)} {inr:Bool} {dt:List Nat} (hg:cC A O w (aJ h)) (hO:OB O w) (hG:dq K O w) (hf: ∀i,h.length<=i->A.pl i=none) (bt:a.tmps.size=N) (he:dw A O w env a) (iA:mZ P (dz.of A O w h ex rr) O w lp) (k9:inr=false->rr=none) (hd:a.defers=[]):
  bA K P N (dz.of A O w h ex rr) A O w ⟨env,h,h.length,lp,inr,[],dt⟩ a:=
 ⟨bt,he,hg,hO,hG,hf,rfl,Nat.le_refl _,Tr.refl _ _,λ_ _=>rfl,rfl,λi X _ hX=>⟨X,hX⟩,λb hb _ _=>⟨rfl,hb,λi X p hi hX=>absurd (hU hX) (Nat.not_lt.mpr hi)⟩,by rw[hd];rfl,iA,λ_=>hd,hf,hO,k9⟩
theorem bA.inner {N':Nat} {O1 O2:List Nat} {W1 W2:World} {A1 A2:Pl} {ex rr:Option Nat} {st2:AS S} {a2:Act} (h:bA K P N B A O w st a) (hT:Tr O w O1 W1) (hS: ∀b∈O,b∈O1/\W1.heap[b]? =w.heap[b]?) (nn:A1.pl=A.pl) (hx: ∀b∈O,ex≠some b) (h2:bA K P N' (dz.of A1 O1 W1 st.h ex rr) A2 O2 W2 st2 a2) {dt':List Nat} (sH: ∀x∈st.dt,x∈dt') (ajq: ∀x∈st2.dt,x<st.nb->x∈dt') (iB:cC ⟨A2.pl,A.ls⟩ O2 W2 (aJ st2.h)):
  bA K P N B ⟨A2.pl,A.ls⟩ O2 W2 { st with h:=st2.h,dt:=dt' } a/\(∀l o,fx O w l o->fx O2 W2 l o)/\Pl.le A ⟨A2.pl,A.ls⟩:=by
 have k7: ∀i,i<st.h.length->A2.pl i=A.pl i:=λi hi=>by rw[h2.pl i hi];exact congrFun nn i
 have sC: ∀i p,A.pl i=some p->A2.pl i=some p:=λi p hp=>by
  rcases Nat.lt_or_ge i st.h.length with h1|h1
  ·rw[k7 i h1];exact hp
  ·rw[h.free i h1] at hp;cases hp
 have hA:Pl.le A ⟨A2.pl,A.ls⟩:=⟨sC,rfl⟩
 have nu:Tr O w O2 W2:=hT.trans h2.tr
 have T': ∀b∈O,(∀i∈st2.dt,(∃X,aJ st.h i=some X)-> ∀p,A.pl i=some p->cq p≠some b)->W2.heap[b]? =w.heap[b]? /\b∈O2/\ ∀i X p,st.h.length<=i->aJ st2.h i=some X->A2.pl i=some p->cq p≠some b:=by
  intro b hb bS
  obtain⟨s1,s2⟩:=hS b hb
  obtain⟨k1,k2,k3⟩:=h2.cl b s1 (hx b hb) λi hi hl p hp=>bS i hi hl p (by rw[<-congrFun nn i];exact hp)
  exact⟨k1.trans s2,k2,k3⟩
 have C3: ∀l o,fx O w l o->fx O2 W2 l o:=by
  rintro l o ⟨q1,q2,q3⟩
  obtain⟨k1,k2,_⟩:=T' l q3 λi _ ⟨X,hX⟩ p hp=>by
   obtain⟨p',dx,hR,_⟩:=h.rel.al i X hX
   rw[hp] at dx
   cases dx
   exact hR.Ll q1.1 q2
  exact⟨⟨k1.trans q1.1,q1.2⟩,q2,k2⟩
 refine⟨⟨h.size,h.env.tr nu hA,iB,h2.ob,h2.dT,h2.free,h.nb,Nat.le_trans h.le h2.le,h.tr.trans nu,λi hi=>(k7 i (by have:=h.le;omega)).trans (h.pl i hi),h.ls,?_,?_,h.df.yg hA.at_ (λD=>C3 D _),?_,h.dl,h.hi,h.o0,h.rr⟩,C3,hA⟩
 ·intro i X hi hX
  obtain⟨Y,hY⟩:=h2.lv i X (by have:=h.le;show i<st.h.length;omega) hX
  exact h.lv i Y hi hY
 ·intro b hb hxb bS
  obtain⟨c1,c2,c3⟩:=h.cl b hb hxb λi hi=>bS i (sH i hi)
  obtain⟨k1,k2,k3⟩:=T' b c2 λi hi ⟨X,hX⟩ p hp=>by
   rcases Nat.lt_or_ge i B.nb with h1|h1
   ·exact bS i (ajq i hi (by rw[h.nb];exact h1)) (h.lv i X h1 hX) p (by rw[<-h.pl i h1];exact hp)
   ·exact c3 i X p h1 hX hp
  refine⟨k1.trans c1,k2,λi X p hi hX hp=>?_⟩
  rcases Nat.lt_or_ge i st.h.length with h1|h1
  ·obtain⟨Y,hY⟩:=h2.lv i X h1 hX
   have hp:A2.pl i=some p:=hp
   rw[k7 i h1] at hp
   exact c3 i Y p hi hY hp
  ·exact k3 i X p h1 hX hp
 ·have iA:=h.lp
  revert iA
  generalize st.lp=lp
  intro iA
  cases lp with
  |none=>trivial
  |some lf=>
   obtain⟨l,fn,tm,D,q1,q0,q2,q3,q4,q5⟩:=iA
   exact⟨l,fn,tm,D,q1,q0,C3 _ _ q2,C3 _ _ q3,q4.tr nu (Pl.le.refl _),q5⟩
variable {A1 A2:Pl}
theorem LV.rel.jC {l:LV S} {xs:List Value} (hn:l.jC=true) (hA:A2.pl=A1.pl) (h:l.rel A1 O w xs):l.rel A2 O w xs:=by
 cases l with
 |v u=>exact h
 |aP t d=>exact h
 |ptr t d q=>exact h
 |br i q=>obtain⟨m,h1,h2⟩:=h;exact⟨m,by rw[hA];exact h1,h2⟩
 |gU i q n y=>obtain⟨m,h1,h2⟩:=h;exact⟨m,by rw[hA];exact h1,h2⟩
 |own i=>obtain⟨m,h1,h2⟩:=h;exact⟨m,by rw[hA];exact h1,h2⟩
 |f_ e i y q=>obtain⟨b,n,c,h1,h2⟩:=h;exact⟨b,n,c,by rw[hA];exact h1,h2⟩
 |gV i q n=>obtain⟨m,h1,h2⟩:=h;exact⟨m,by rw[hA];exact h1,h2⟩
 |mp i=>obtain⟨m,h1,h2⟩:=h;exact⟨m,by rw[hA];exact h1,h2⟩
 |bM i=>obtain⟨f,u,c,h1,h2⟩:=h;exact⟨f,u,c,by rw[hA];exact h1,h2⟩
 |dF=>cases hn
 |dy i=>obtain⟨m,h1,h2⟩:=h;exact⟨m,by rw[hA];exact h1,h2⟩
 |bR k n gs=>exact h
 |dQ n bs=>exact h
theorem Lm (hA:A2.pl=A1.pl): ∀ {ls:List (LV S)} {xs:List Value},pw ls=true->bT A1 O w ls xs->bT A2 O w ls xs
 |[],_,_,h=>h
 |l::r,_,hn,⟨y,ys,e,h1,h2⟩=>by
  simp only[pw,Bool.and_eq_true] at hn
  exact⟨y,ys,e,h1.jC hn.1 hA,Lm hA hn.2 h2⟩
theorem WM (hA:A2.pl=A1.pl) {a:aE S} {x:Value} (hn:pw a.cells=true) (h:a.rel A1 O w x):a.rel A2 O w x:=by
 cases a with
 |one l=>
  simp only[aE.cells,pw,Bool.and_true] at hn
  exact LV.rel.jC hn hA h
 |agg ls=>obtain⟨xs,h1,h2⟩:=h;exact⟨xs,h1,Lm hA hn h2⟩
theorem xz (hA:A2.pl=A1.pl): ∀ {ls:List (aE S)} {xs:List Value},qX ls=true->di A1 O w ls xs->di A2 O w ls xs
 |[],_,_,h=>h
 |l::r,_,hn,⟨y,ys,e,h1,h2⟩=>by
  simp only[qX,Bool.and_eq_true] at hn
  exact⟨y,ys,e,WM hA hn.1 h1,xz hA hn.2 h2⟩
theorem AV.Ln (hA:A2.pl=A1.pl) {a:AV S} {x:Value} (hn:a.jC=true) (h:a.rel A1 O w x):a.rel A2 O w x:=by
 cases a with
 |s l=>exact WM hA hn h
 |aY ls=>obtain⟨xs,h1,h2⟩:=h;exact⟨xs,h1,xz hA hn h2⟩
theorem Ob.Ln (hA:A2.pl=A1.pl) {X:Ob S} {p:Value} (hn:X.jC=true) (h:ig A1 O w X p):ig A2 O w X p:=by
 cases X with
 |box t cs=>obtain⟨b,vs,h1,h2,h3⟩:=h;exact⟨b,vs,h1,h2,Lm hA hn h3⟩
 |row e xs=>exact h
 |map kk kv m=>exact h
 |bM f fs cs=>
  simp only[Ob.jC,Bool.and_eq_true] at hn
  obtain⟨us,vs,h1,h2,h3⟩:=h
  exact⟨us,vs,h1,xz hA hn.1 h2,xz hA hn.2 h3⟩
 |dy s pos=>exact h
theorem DJ: ∀ {h:AH S} {i:Nat} {X:Ob S},lh h=true->aJ h i=some X->X.jC=true
 |[],i,X,_,hi=>by simp[aJ] at hi
 |none::r,0,X,_,hi=>by simp[aJ] at hi
 |some Y::r,0,X,hn,hi=>by
  simp only[lh,Bool.and_eq_true] at hn
  simp only[aJ,List.getElem?_cons_zero,Option.some.injEq] at hi
  subst hi
  exact hn.1
 |none::r,i+1,X,hn,hi=>DJ (h:=r) (i:=i) hn (by simpa[aJ] using hi)
 |some Y::r,i+1,X,hn,hi=>by
  simp only[lh,Bool.and_eq_true] at hn
  exact DJ (h:=r) (i:=i) hn.2 (by simpa[aJ] using hi)
theorem WL (hA:A2.pl=A1.pl) {h:AH S} (hn:lh h=true) (hg:cC A1 O w (aJ h)):cC A2 O w (aJ h):=by
 refine⟨λi X hi=>?_,λi j X Y p q b dp hi hj hp hq=>hg.dj i j X Y p q b dp hi hj (by rw[<-hA];exact hp) (by rw[<-hA];exact hq)⟩
 obtain⟨p,hp,hR,hb⟩:=hg.al i X hi
 exact⟨p,by rw[hA];exact hp,Ob.Ln hA (DJ hn hi) hR,hb⟩
theorem WK: ∀ {env:aW S} {s:Nat} {av:AV S},tc env=true->aW.get env s=some av->av.jC=true
 |[],s,av,_,h=>by cases h
 |(t,b)::r,s,av,hn,h=>by
  simp only[tc,Bool.and_eq_true] at hn
  simp only[aW.get] at h
  cases hq:Nat.beq t s with
  |true=>rw[hq] at h;simp only[cond_true,Option.some.injEq] at h;subst h;exact hn.1
  |false=>rw[hq] at h;exact WK hn.2 h
theorem akX (hA:A2.pl=A1.pl) {env:aW S} {a:Act} (hn:tc env=true) (he:dw A1 O w env a):dw A2 O w env a:=λs av hs=>AV.Ln hA (WK hn hs) (he s av hs)
end
section
variable {S:bL} {K:bQ S} {P:Program} {N:Nat} {B:dz} {A A':Pl} {O O':List Nat} {w w':World} {st:AS S} {a:Act} {R:Type} {z:R}
theorem Zu {aqJ:List (aE S)} {vs:List Value} (h:di A O w aqJ vs):(yh aqJ).rel A O w (lB vs):=by
 match aqJ,vs,h with
 |[],vs,h=>rw[show vs=[] from h];exact⟨[],rfl,rfl⟩
 |[x],vs,⟨y,ys,e,h1,h2⟩=>subst e;rw[show ys=[] from h2];exact h1
 |x::x'::r,vs,h=>
  obtain⟨y,ys,rfl,h1,y',zs,rfl,h2,h3⟩:=h
  exact⟨y::y'::zs,by simp[lB],y,_,rfl,h1,y',_,rfl,h2,h3⟩
theorem Mn (hK:cI K P) {fn:Func} {env:aW S} {h:AH S} {aqJ:List (aE S)} (hr:n6 K env h fn.results.toList=some aqJ) (he:dw A O w env a) (hg:cC A O w (aJ h)): ∃vs,di A O w aqJ vs/\(results fn a.tmps).run P w= .ok (lB vs) w:=by
 have key: ∀(l:List ResultVar) (aqJ:List (aE S)),n6 K env h l=some aqJ-> ∃vs,di A O w aqJ vs/\ ∀(F:ResultVar->Sem Value) (_: ∀t,F (.tmp t)=pure (a.tmps.getD t undef)) (_: ∀b t,F (.cell b t)=do loadVar t (<-asAddr (a.tmps.getD b undef))),(l.mapM F).run P w= .ok vs w:=by
  intro l
  induction l with
  |nil=>intro aqJ hv;cases hv;exact⟨[],rfl,λF _ _=>by simp⟩
  |cons x l ih=>
   intro aqJ hv
   cases x with
   |tmp t=>
    simp only[n6] at hv
    split at hv
    ·rename_i b hb
     split at hv
     ·rename_i bs eh
      cases hv
      obtain⟨vs,h1,h2⟩:=ih bs eh
      refine⟨a.tmps.getD t undef::vs,⟨_,_,rfl,he t _ hb,h1⟩,λF hF oP=>?_⟩
      simp only[List.mapM_cons,hF,Sem.run_bind,Sem.run_pure,Result.andThen_ok,h2 F hF oP]
     ·cases hv
    ·cases hv
   |cell c t=>
    simp only[n6] at hv
    split at hv
    rotate_left
    ·cases hv
    rename_i b hb
    split at hv
    rotate_left
    ·cases hv
    rename_i i tb cs hi hbx
    cases bt:Nat.beq (eX cs) i.size<;>rw[bt] at hv
    ·cases hv
    simp only[cond_true] at hv
    split at hv
    rotate_left
    ·cases hv
    rename_i a1 ny
    split at hv
    rotate_left
    ·cases hv
    rename_i bs eh
    cases hv
    obtain⟨us,h1,h2⟩:=ih bs eh
    obtain⟨bV,q1,q2⟩:=he c _ hb
    obtain⟨p,p1,⟨ady,vs,p2,p3,p4⟩,_⟩:=hg.al b _ hbx
    rw[q1] at p1
    cases p1
    cases p2
    have hlen:vs.length=i.size:=(j2 p4).trans (Nat.eq_of_beq_eq_true bt)
    obtain⟨r1,r2⟩:=Ha ny p4
    have hc:e_ w ⟨bV,0,none⟩ vs:=λj u hj=>by
     have:(⟨bV,0,none⟩:Addr).add j=⟨bV,j,none⟩:=by unfold Addr.add;split<;>simp_all
     rw[this,p3.cell];exact hj
    have bC:=rm (P:=P) (hK.Θ.fits hi) hlen hc (λe=>by have:=r2 e;omega)
    simp only[Instr.loadAt,Instr.sureAddr,Sem.run_bind,Sem.run_pure,Result.andThen_ok] at bC
    have hx:a.tmps.getD c undef= .pointer (some ⟨bV,0,none⟩):=by simpa using q2
    refine⟨_::us,⟨_,_,rfl,r1,h1⟩,λF hF oP=>?_⟩
    simp only[List.mapM_cons,oP,Sem.run_bind,hx,asAddr,Sem.run_pure,Result.andThen_ok,bC,h2 F hF oP]
 obtain⟨vs,h1,h2⟩:=key _ _ hr
 refine⟨vs,h1,?_⟩
 unfold results
 rw[Array.mapM_eq_mapM_toList]
 simp only[Sem.run_bind,Sem.run_map]
 rw[h2 _ (λt=>rfl) (λb t=>rfl)]
 simp only[Result.andThen_ok,Sem.run_pure]
 congr 1
 match vs with
 |[]=>rfl
 |[v]=>rfl
 |v::u::vs=>simp[lB]
end
section
variable {S:bL} {K:bQ S} {P:Program} {N:Nat} {B:dz} {A A':Pl} {O O':List Nat} {w w':World} {st:AS S} {a:Act} {R:Type} {z:R}
theorem akE {D D':Nat} (h:Dc.mark D=Dc.mark D'):D=D':=by
 unfold Dc.mark at h
 simp only[Deferred.mk.injEq,Target.collected.injEq,and_true] at h
 exact h
theorem dS.put {n0 D:Nat} {o':Obj}: ∀ {ds:List Deferred} {df:List (LV S)},Dc.mark D∉ds->dS n0 A O w df ds->dS n0 A O (w.putObj D o') df ds
 |[],df,_,h=>h
 |d::ds,df,hn,h=>by
  have sQ:Dc.mark D∉ds:=λhm=>hn (List.mem_cons_of_mem _ hm)
  rcases h with⟨D',h1,h0,h2,h3⟩|⟨i,r,f,u,c,h1,h2,h3,h4⟩
  ·exact .inl ⟨D',h1,h0,h2.put (o:= .deferred (some [])) (λe=>hn (by rw[h1,e];exact List.mem_cons_self)),dS.put sQ h3⟩
  ·exact .inr ⟨i,r,f,u,c,h1,h2,h3,dS.put sQ h4⟩
theorem bA.take {tm:Array Value} {D:Nat} {ds:List Deferred} (h:bA K P N B A O w st { tmps:=tm,defers:=Dc.mark D::ds }) (h0:B.w0.heap.size<=D/\Dc.mark D∉ds) (hb:fx O w D (.deferred (some []))) (hd:dS B.w0.heap.size A O w st.df ds):
  bA K P N B A O (w.putObj D (.deferred none)) st { tmps:=tm,defers:=ds }:=by
 have eU:=h.dl
 have iA:st.lp=none:=by
  cases hl:st.lp with
  |none=>rfl
  |some lf=>rw[hl] at eU;have:=eU rfl;cases this
 have c6:st.inr=false:=by
  cases hl:st.inr with
  |false=>rfl
  |true=>rw[hl,Bool.or_true] at eU;have:=eU rfl;cases this
 refine h.book (lp':=st.lp) hb (.inl λhD=>?_) ?_ (λh=>?_) (hd.put h0.2) rfl
 ·have:=h.o0 D hD;omega
 ·rw[iA];trivial
 ·rw[iA,c6] at h;cases h
theorem DD {fn:Func} {Rr:Ending->World->Prop} {u:FrameMode} (hu:u≠ .run) (gH:st.df=[]) {tm:Array Value}: ∀ {ds:List Deferred} {w:World},bA K P N B A O w st { tmps:=tm,defers:=ds }->(∀w',bA K P N B A O w' st { tmps:=tm,defers:=[] }->LeavesIn (fw none) 0 P fn tm Rr [] u w')->LeavesInM (fw none) 0 P fn tm Rr ds u w
 |[],w,h,hk=>hk w h
 |d::ds,w,h,hk=>by
  rcases h.df with⟨D,h1,h0,h2,h3⟩|⟨i,r,f,uu,c,h1,_⟩
  ·subst h1
   exact⟨hu,.inl ⟨D,_,rfl,run_takeDeferred h2.1.1,DD hu gH (h.take h0 h2 h3) hk⟩⟩
  ·rw[gH] at h1;cases h1
def pY:Option Value->FrameMode->Prop
 |none,u=>u= .returning
 |some v,u=>u= .panicking [{ v:=v,recovered:=false }]
theorem pY.out {p:Option Value} {u:FrameMode} (h:pY p u):u≠ .run:=by
 cases p<;>rw[show u=_ from h]<;>simp
def rK (K:bQ S) (P:Program) (g:Nat) (cs:List (aE S)) (p:Option Value) (dZ:Nat->Option (Ob S)) (q:Option Value) (up:Up S):Prop:=
 fI P g/\ ∀(A:Pl) (O:List Nat) (w:World) (xs:List Value) (u:FrameMode),di A O w cs xs->cC A O w dZ->OB O w->dq K O w->pY p u->
  CallsDIn (fw none) 0 P g xs.toArray u w (λe u' w'=>(∃v,e= .returned v)/\pY q (settle u')/\ ∃A' O',cM A O w dZ up A' O' w')
theorem Lb {fn:Func} {Rr:Ending->World->Prop} {i g:Nat} {cs:List (aE S)} {p q:Option Value} {up:Up S} (gH:st.df=[.bM i]) (gY:aJ st.h i=some (.bM g [] cs)) (hD:rK K P g cs p (aJ st.h) q up) (fO:gF (aJ st.h) up=true) {tm:Array Value}:
  ∀ {ds:List Deferred} {w:World} {u:FrameMode},pY p u->bA K P N B A O w st { tmps:=tm,defers:=ds }->(∀A' O' w' u',pY q u'->bA K P N B A' O' w' { st.cO up [] with df:=[] } { tmps:=tm,defers:=[] }->LeavesIn (fw none) 0 P fn tm Rr [] u' w')->LeavesInM (fw none) 0 P fn tm Rr ds u w
 |[],w,u,hm,h,hk=>by have:=h.df;rw[gH] at this;cases this
 |d::ds,w,u,hm,h,hk=>by
  rcases h.df with⟨D,h1,h0,h2,h3⟩|⟨i',r,f,uu,c,h1,h2,h3,h4⟩
  ·subst h1
   exact⟨hm.out,.inl ⟨D,_,rfl,run_takeDeferred h2.1.1,Lb gH gY hD fO hm (h.take h0 h2 h3) hk⟩⟩
  ·rw[gH] at h1
   cases h1
   obtain⟨gv,hS⟩:=hD
   obtain⟨pp,p1,⟨us,vs,p2,p3,p4⟩,_⟩:=h.rel.al i _ gY
   rw[h2] at p1
   cases p1
   rw[show us=[] from p3] at p2
   cases p2
   subst h3
   have hc:=hS A O w vs u p4 h.rel h.ob h.dT hm
   refine⟨hm.out,.inr ⟨λh=>by simp[fw] at h,.func g,vs.toArray,g,vs.toArray,rfl,?_,λ_ _=>trivial,hc.1,λc cm kU hr=>?_⟩⟩
   ·show(invoke (.fn (.func g) vs.toArray) #[]).run P w=_
    have:=gv vs.toArray w
    simpa[invoke] using this
   ·obtain⟨e,u',w',fr,⟨⟨v,rfl⟩,hq,A',O',ga⟩,q2⟩:=hc.2 c cm kU hr
    refine⟨.returned v,u',w',fr,?_,q2⟩
    have eb:bA K P N B A' O' w' (st.cO up []) { tmps:=tm,defers:= { target:= .fn (.func g) vs.toArray,args:= #[] }::ds }:=h.cO fO (by simpa[news] using ga)
    have qJ:bA K P N B A' O' w' { st.cO up [] with df:=[] } { tmps:=tm,defers:=ds }:=by
     have ajo:dS B.w0.heap.size A' O' w' ([]:List (LV S)) ds:=dS.cO h.rel ga h4
     have eU:=h.dl
     refine⟨eb.size,eb.env,eb.rel,eb.ob,eb.dT,eb.free,eb.nb,eb.le,eb.tr,eb.pl,eb.ls,eb.lv,eb.cl,ajo,eb.lp,λhh=>?_,eb.hi,eb.o0,eb.rr⟩
     have:=eU hh
     cases this
    exact DD hq.out rfl qJ λw2 h2=>hk A' O' w2 _ hq h2
structure Nc (G:az S) (P:Program):Prop where
 K:cI G.K P
 C:oo G P
 H: ∀f hc,vL G.H f=some hc-> ∀ {R:Type} (aqJ:List (aE S)) (h:AH S) (k:Rs S->AH S->List Nat->Option R) (z:R),hc.out aqJ h k=some z-> ∃r h' dt,k r h' dt=some z/\gR G.K P f aqJ h r h' dt
 D: ∀g dc,vK G.D g=some dc-> ∀ {R:Type} (cs:List (aE S)) (p:Option Value) (dZ:Nat->Option (Ob S)) (k:Option Value->Up S->Option R) (z:R),dc.out cs p dZ k=some z-> ∃q up,k q up=some z/\rK G.K P g cs p dZ q up
 T: ∀f J,G.T f=some J->P.funcs[f]? =some J.fn
 E: ∀f J,G.T f=some J->fI P f
 M:P.follows .mixedOrders=true
theorem ano {G:az S} (hG:Nc G P) {fn:Func} {e:AX} {k:Rs S->AS S->Option R} (h:xS G fn e st k=some z):
  ∃r bm,k r bm=some z/\bm.nb=st.nb/\ ∀(N:Nat) (B:dz) (A:Pl) (O:List Nat) (w:World) (a:Act) (Rr:Ending->World->Prop),bA G.K P N B A O w st a->
   (∀A' O' w' a' e',bA G.K P N B A' O' w' bm a'->mj A' O' w' r e'->Rr e' w')->bodyPostM (fw none) 0 P fn Rr e.of a w:=by
 unfold xS at h
 split at h
 ·rename_i gH
  split at h
  ·cases h
  ·rename_i u
   refine⟨.bN u,st,h,rfl,λN B A O w a Rr hr hk=>?_⟩
   show LeavesInM (fw none) 0 P fn a.tmps Rr a.defers (.panicking _) w
   exact DD (by simp) gH (tm:=a.tmps) hr λw' h'=>hk A O w' _ _ h' rfl
  ·rename_i J8 J9
   split at h
   rotate_left
   ·cases h
   rename_i aqJ has
   refine⟨.ret (yh aqJ),st,h,rfl,λN B A O w a Rr hr hk=>?_⟩
   have fin:LeavesInM (fw none) 0 P fn a.tmps Rr a.defers .returning w:=DD (by simp) gH (tm:=a.tmps) hr λw' h'=>by
    obtain⟨vs,q1,q2⟩:=Mn hG.K (a:= { tmps:=a.tmps,defers:=[] }) has h'.env h'.rel
    exact⟨_,q2,hk A O w' _ _ h' ⟨_,rfl,Zu q1⟩⟩
   cases e with
   |normal=>exact fin
   |ret=>exact fin
   |exit id=>exact absurd rfl (J8 id)
   |bN u=>exact absurd rfl (J9 u)
 ·rename_i i gH
  split at h
  rotate_left
  ·cases h
  rename_i g cs gY
  split at h
  rotate_left
  ·cases h
  rename_i dc hdc
  have main: ∀ {p:Option Value},dc.out cs p (aJ st.h) (λp up=>bif !(gF (aJ st.h) up) then none else(match p with
     |some u=>k (.bN u) { st.cO up [] with df:=[] }
     |none=>(match n6 G.K st.env (fG st.h up) fn.results.toList with|some aqJ=>k (.ret (yh aqJ)) { st.cO up [] with df:=[] }|none=>none)))=some z->
    ∃r bm,k r bm=some z/\bm.nb=st.nb/\ ∀(N:Nat) (B:dz) (A:Pl) (O:List Nat) (w:World) (a:Act) (Rr:Ending->World->Prop) (u:FrameMode),pY p u->bA G.K P N B A O w st a->
   (∀A' O' w' a' e',bA G.K P N B A' O' w' bm a'->mj A' O' w' r e'->Rr e' w')->LeavesInM (fw none) 0 P fn a.tmps Rr a.defers u w:=by
   intro p hp
   obtain⟨q,up,h1,hS⟩:=hG.D g dc hdc _ _ _ _ _ hp
   cases fO:gF (aJ st.h) up<;>rw[fO] at h1
   ·cases h1
   simp only[Bool.not_true,cond_false] at h1
   cases q with
   |some u=>
    refine⟨_,_,h1,rfl,λN B A O w a Rr uu hm hr hk=>?_⟩
    refine Lb gH gY hS fO (tm:=a.tmps) hm hr λA' O' w' u' hq h'=>?_
    rw[show u'=_ from hq]
    exact hk A' O' w' _ _ h' rfl
   |none=>
    simp only at h1
    split at h1
    rotate_left
    ·cases h1
    rename_i aqJ has
    refine⟨_,_,h1,rfl,λN B A O w a Rr uu hm hr hk=>?_⟩
    refine Lb gH gY hS fO (tm:=a.tmps) hm hr λA' O' w' u' hq h'=>?_
    rw[show u'=_ from hq]
    have iB:cC A' O' w' (aJ (fG st.h up)):=by
     have:=h'.rel
     simpa[AS.cO] using this
    obtain⟨vs,q1,q2⟩:=Mn hG.K (a:= { tmps:=a.tmps,defers:=[] }) has h'.env iB
    exact⟨_,q2,hk A' O' w' _ _ h' ⟨_,rfl,Zu q1⟩⟩
  simp only at h
  split at h
  ·cases h
  ·rename_i u
   obtain⟨r,bm,h1,h2,h3⟩:=main h
   exact⟨r,bm,h1,h2,λN B A O w a Rr hr hk=>h3 N B A O w a Rr _ rfl hr hk⟩
  ·rename_i J8 J9
   obtain⟨r,bm,h1,h2,h3⟩:=main h
   refine⟨r,bm,h1,h2,λN B A O w a Rr hr hk=>?_⟩
   have fin:=h3 N B A O w a Rr .returning rfl hr hk
   cases e with
   |normal=>exact fin
   |ret=>exact fin
   |exit id=>exact absurd rfl (J8 id)
   |bN u=>exact absurd rfl (J9 u)
 ·cases h
theorem alE {r:Rs S} {k:Rs S->AH S->List Nat->Option R} (h:xI r st k=some z):
  ∃r' h' dt,k r' h' dt=some z/\ ∀(N:Nat) (B:dz) (A:Pl) (O:List Nat) (w:World) (a:Act) (e:Ending),B.ex=none->bA K P N B A O w st a->mj A O w r e-> ∃A',mj A' O w r' e/\ES B.A0 B.O0 B.w0 B.nb h' dt A' O w:=by
 unfold xI at h
 simp only at h
 obtain⟨kp,iz⟩: ∃kp,kp=kept (aJ st.h) st.nb (tA (st.h.take st.nb)++(match r with| .ret a=>a.refs| .bN _=>[])):=⟨_,rfl⟩
 have key: ∀(N:Nat) (B:dz) (A:Pl) (O:List Nat) (w:World) (a:Act),B.ex=none->bA K P N B A O w st a-> ∃A',jn (λi=>posOf i kp 0) A A'/\ES B.A0 B.O0 B.w0 B.nb (gN (λi=>posOf i kp 0) (jF (aJ st.h) kp)) (st.dt.filter λi=>Nat.blt i st.nb) A' O w:=by
  intro N B A O w a hex h
  obtain⟨A',da⟩: ∃A':Pl,A'=⟨λj=>(kp[j]?).bind A.pl,A.ls⟩:=⟨_,rfl⟩
  have hR:jn (λi=>posOf i kp 0) A A':=⟨λi j p hi hp=>by
   rw[da];simp only[tt hi,Option.bind_some];exact hp,by rw[da]⟩
  have eB: ∀i,i<B.nb->kp[i]? =some i:=λi hi=>by rw[iz];exact Ve (by rw[h.nb];exact hi)
  have JU: ∀i j,B.nb<=j->kp[j]? =some i->B.nb<=i:=λi j hj hi=>by rw[iz,h.nb] at hi;exact Vc hj hi
  refine⟨A',hR,?_,h.ob,h.tr,λi hi=>?_,λj hj=>?_,by rw[da];exact h.ls,?_,?_,?_⟩
  ·exact h.rel.dk (idx:=λj=>kp[j]?) (λj=>by rw[da]) (by rw[da]) (λi j j' h1 h2=>DG (by rw[iz];exact Vf) h1 h2) (λi j hi=>tt hi) (λj X' hj=>tp hj)
  ·rw[da];simp only[eB i hi,Option.bind_some];exact h.pl i hi
  ·have:=(List.mem_filter.1 hj).2
   rw[<-h.nb];exact Nat.blt_eq.mp this
  ·rw[rf,tl,iz,<-h.nb];exact Vd
  ·intro i hi
   rw[rf,tl] at hi
   rw[da];simp[List.getElem?_eq_none hi]
  ·intro b hb bS
   obtain⟨c1,c2,c3⟩:=h.cl b hb (by rw[hex];simp) λi hi _ p hp=>by
    rcases Nat.lt_or_ge i B.nb with h1|h1
    ·exact bS i (List.mem_filter.2 ⟨hi,Nat.blt_eq.mpr (by rw[h.nb];exact h1)⟩) p hp
    ·rw[h.hi i h1] at hp;cases hp
   refine⟨c1,c2,λi X p hi hX hp=>?_⟩
   obtain⟨i0,X0,h1,h2,_⟩:=tp hX
   rw[da] at hp
   simp only[h1,Option.bind_some] at hp
   exact c3 i0 X0 p (JU i0 i hi h1) h2 hp
 cases r with
 |ret av=>
  simp only at h iz
  rw[<-iz] at h
  split at h
  ·rename_i a' dD
   refine⟨_,_,_,h,λN B A O w a e hex hr ⟨v,h1,h2⟩=>?_⟩
   obtain⟨A',q1,q2⟩:=key N B A O w a hex hr
   exact⟨A',⟨v,h1,AV.lr q1 dD h2⟩,q2⟩
  ·cases h
 |bN u=>
  simp only at h iz
  rw[<-iz] at h
  refine⟨_,_,_,h,λN B A O w a e hex hr he=>?_⟩
  obtain⟨A',q1,q2⟩:=key N B A O w a hex hr
  exact⟨A',he,q2⟩
end
section
variable {S:bL} {K:bQ S} {P:Program} {N:Nat} {B:dz} {A A':Pl} {O O':List Nat} {w w':World} {st:AS S} {a:Act} {R:Type} {z:R}
inductive Sub:Code->Code->Prop
 |refl (c):Sub c c
 |seq1 {x y d}:Sub x d->Sub (.seq x y) d
 |Zc {x y d}:Sub y d->Sub (.seq x y) d
 |Se {o x y d}:Sub x d->Sub (.cond o x y) d
 |Sf {o x y d}:Sub y d->Sub (.cond o x y) d
 |block {id x d}:Sub x d->Sub (.block id x) d
 |loop {x d}:Sub x d->Sub (.loop x) d
 |scope {x d}:Sub x d->Sub (.scope x) d
def au (K:bQ S) (P:Program) (I:ep S) (c:Code):Prop:=
 ∀(x:Code) (lc:bo S),Sub c (.loop x)->jr I.lc (eK x)=some lc-> ∀ {R:Type} (st:AS S) (k:AX->AS S->Option R) (z:R),lc.out st k=some z-> ∃e bm,k e bm=some z/\ ∀B A O w a,bA K P I.fn.ntmps B A O w st a->(Code.loop x).wpIn (fw B.rr) 0 P (kN K P I.fn.ntmps B e bm) a w
theorem au.nil {I:pQ} {c:Code}:au K P (⟨I,[]⟩:ep S) c:=λx lc _ h=>by cases h
theorem au.sub {I:ep S} {c d:Code} (h:au K P I c) (hs: ∀x,Sub d x->Sub c x):au K P I d:=λx lc h1 h2=>h x lc (hs _ h1) h2
def m0 (K:bQ S) (P:Program) (run: {R:Type}->ep S->Code->AS S->(AX->AS S->Option R)->Option R):Prop:=
 ∀ {R:Type} (I:ep S) (c:Code) (st:AS S) (k:AX->AS S->Option R) (z:R),au K P I c->run I c st k=some z-> ∃e bm,k e bm=some z/\ ∀B A O w a,bA K P I.fn.ntmps B A O w st a->c.wpIn (fw B.rr) 0 P (kN K P I.fn.ntmps B e bm) a w
theorem Z4: ∀ {ps:List Nat} {aqJ:List (aE S)} {pe:aW S},oh ps aqJ=some pe->ps.length=aqJ.length
 |[],[],_,_=>rfl
 |p::ps,a::aqJ,pe,h=>by
  simp only[oh] at h
  split at h
  ·rename_i e he;simp[Z4 he]
  ·cases h
 |[],_::_,_,h=>by cases h
 |_::_,[],_,h=>by cases h
theorem S9: ∀ {l:List (Nat×Value)} {tm:Array Value},(l.foldl (λt p=>t.setIfInBounds p.1 p.2) tm).size=tm.size
 |[],tm=>rfl
 |(p,v)::l,tm=>by simp[S9]
theorem Is {s:Nat}: ∀ {l:List (Nat×Value)} {tm:Array Value},(∀p∈l,p.1≠s)->(l.foldl (λt p=>t.setIfInBounds p.1 p.2) tm).getD s undef=tm.getD s undef
 |[],tm,_=>rfl
 |(p,v)::l,tm,h=>by
  rw[List.foldl_cons,Is λq hq=>h q (List.mem_cons_of_mem _ hq)]
  have aV:p≠s:=h (p,v) List.mem_cons_self
  simp only[Array.getD_eq_getD_getElem?,Array.getElem?_setIfInBounds_ne aV]
theorem Z5 {s:Nat} {b:AV S}: ∀ {ps:List Nat} {aqJ:List (aE S)} {pe:aW S} {xs:List Value} {tm:Array Value},oh ps aqJ=some pe->tv tm.size ps=true->di A O w aqJ xs->aW.get pe s=some b->b.rel A O w (((ps.zip xs).foldl (λt p=>t.setIfInBounds p.1 p.2) tm).getD s undef)
 |[],[],pe,xs,tm,hz,_,hr,hg=>by cases hz;cases hg
 |p::ps,c::aqJ,pe,xs,tm,hz,hp,⟨y,ys,e,h1,h2⟩,hg=>by
  subst e
  simp only[oh] at hz
  split at hz
  rotate_left
  ·cases hz
  rename_i pe' xk
  cases hz
  simp only[tv,Bool.and_eq_true] at hp
  obtain⟨wZ,UE,Kc⟩:=hp
  have aH:p<tm.size:=Nat.blt_eq.mp wZ
  have J7:p∉ps:=λhm=>by rw[k_.2 hm] at UE;cases UE
  have nL: ∀q∈ps.zip ys,q.1≠p:=λq hq e=>J7 (by rw[<-e];exact(List.of_mem_zip (a:=q.1) (b:=q.2) hq).1)
  simp only[aW.get] at hg
  show b.rel A O w (((ps.zip ys).foldl (λt p=>t.setIfInBounds p.1 p.2) (tm.setIfInBounds p y)).getD s undef)
  cases hq:Nat.beq p s with
  |true=>
   rw[hq] at hg
   have:=Nat.eq_of_beq_eq_true hq
   subst this
   simp only[cond_true,Option.some.injEq] at hg
   subst hg
   rw[Is nL]
   have e:(tm.setIfInBounds p y).getD p undef=y:=by simp[Array.getD_eq_getD_getElem?,aH]
   rw[e]
   exact h1
  |false=>
   rw[hq] at hg
   exact Z5 xk (by simpa using Kc) h2 hg
 |[],_::_,pe,xs,tm,hz,_,_,_=>by cases hz
 |_::_,[],pe,xs,tm,hz,_,_,_=>by cases hz
theorem Z6 {s:Nat}: ∀ {ps:List Nat} {aqJ:List (aE S)} {pe:aW S},oh ps aqJ=some pe->aW.get pe s=none->s∉ps
 |[],[],pe,hz,_=>by simp
 |p::ps,c::aqJ,pe,hz,hg=>by
  simp only[oh] at hz
  split at hz
  rotate_left
  ·cases hz
  rename_i pe' xk
  cases hz
  simp only[aW.get] at hg
  cases hq:Nat.beq p s with
  |true=>rw[hq] at hg;cases hg
  |false=>
   rw[hq] at hg
   intro hm
   rcases List.mem_cons.1 hm with e|hm
   ·subst e;simp at hq
   ·exact Z6 xk hg hm
 |[],_::_,pe,hz,_=>by cases hz
 |_::_,[],pe,hz,_=>by cases hz
theorem Te {env:aW S} {s:Nat}: ∀ {pe:aW S},aW.get (pe++env) s=(match aW.get pe s with|some b=>some b|none=>aW.get env s)
 |[]=>rfl
 |(t,b)::r=>by
  simp only[List.cons_append,aW.get]
  cases Nat.beq t s with
  |true=>rfl
  |false=>exact Te
theorem ap6 {env:aW S} {ps:List Nat} {aqJ:List (aE S)} {pe:aW S} {xs:List Value} {tm:Array Value} (hz:oh ps aqJ=some pe) (hp:tv tm.size ps=true) (hr:di A O w aqJ xs) (he:dw A O w env { tmps:=tm,defers:=[] }):dw A O w (pe++env) { tmps:=(ps.zip xs).foldl (λt p=>t.setIfInBounds p.1 p.2) tm,defers:=[] }:=by
 intro s av hs
 rw[Te] at hs
 split at hs
 ·rename_i b hb
  cases hs
  exact Z5 hz hp hr hb
 ·rename_i hn
  have hn:=Z6 hz hn
  show av.rel A O w (((ps.zip xs).foldl (λt p=>t.setIfInBounds p.1 p.2) tm).getD s undef)
  rw[Is λq hq e=>hn (by rw[<-e];exact(List.of_mem_zip (a:=q.1) (b:=q.2) hq).1)]
  exact he s av hs
theorem ap5 {run: {R:Type}->ep S->Code->AS S->(AX->AS S->Option R)->Option R} (bC:m0 K P run) {R:Type}:BB (R:=R) K P (M_ run):=by
 intro aqJ st k z h
 unfold M_ at h
 split at h
 rotate_left
 ·cases h
 rename_i lf nI
 split at h
 rotate_left
 ·cases h
 rename_i pe UG hz
 cases kB:tv lf.J.fn.ntmps lf.ps<;>rw[kB] at h
 ·cases h
 simp only[cond_true] at h
 obtain⟨e1,st1,h1,dV⟩:=bC _ _ _ _ _ au.nil h
 split at h1
 rotate_left
 ·cases h1
 rename_i qE
 obtain⟨e2,st2,h2,jx⟩:=bC _ _ _ _ _ au.nil h1
 obtain⟨dt',C6⟩: ∃dt',dt'=gG st.nb st.dt (st1.dt++st2.dt):=⟨_,rfl⟩
 rw[<-C6] at h2
 obtain⟨b,ll,hk,JH⟩: ∃b ll,k b { st with h:=st2.h,dt:=dt',lp:=some { lf with h_:=ll } }=some z/\(e2= .normal/\b=true/\ll=none\/e2= .ret/\b=false/\ll=some .ret\/ ∃id,e2= .exit id/\b=false/\ll=some (.exit id)):=by
  split at h2
  ·refine⟨true,none,?_,.inl ⟨rfl,rfl,rfl⟩⟩
   have:({ lf with h_:=none }:kM S)=lf:=by rw[<-UG]
   rw[this,<-nI]
   exact h2
  ·cases h2
  ·exact⟨false,_,h2,.inr (.inl ⟨rfl,rfl,rfl⟩)⟩
  ·exact⟨false,_,h2,.inr (.inr ⟨_,rfl,rfl,rfl⟩)⟩
 refine⟨b,_,hk,?_⟩
 intro N B o c x A O w a l ak cV hx eC fA hr
 have iA:=hr.lp
 rw[nI] at iA
 obtain⟨l',fn,tm,D,q1,q0,q2,q3,q4,q5⟩:=iA
 have hll:l'=l:=by
  have:=hr.ls
  rw[eC,q1] at this
  exact Option.some.inj this.symm
 subst hll
 have eU:a.defers=[]:=hr.dl (by rw[nI];rfl)
 have ai7: ∀i p,B.A0.pl i=some p->A.pl i=some p:=λi p hp=>by
  rcases Nat.lt_or_ge i B.nb with h1|h1
  ·rw[hr.pl i h1];exact hp
  ·rw[hr.hi i h1] at hp;cases hp
 have sC:Pl.le B.A0 A:=⟨ai7,hr.ls⟩
 have Ut:w.heap[l']? =some (.loop (fD lf fn tm D)):=q2.1.1
 have bt:(c.args.map a.eval).size=(fD lf fn tm D).params.size:=by
  have e1:=Ec fA
  simp only[List.length_map,Array.length_toList] at e1
  simp[fD,e1,Z4 hz]
 have hy:=run_yield (P:=P) Ut bt
 obtain⟨jk,UP⟩: ∃jk,jk=((fD lf fn tm D).params.zip (c.args.map a.eval)).foldl (λtmps (t,a)=>tmps.setIfInBounds t a) tm:=⟨_,rfl⟩
 have UQ:jk=(lf.ps.zip (c.args.toList.map a.eval)).foldl (λt p=>t.setIfInBounds p.1 p.2) tm:=by
  rw[UP,<-Array.foldl_toList]
  simp[fD]
 have xh:(Instr.yield l' (c.args.map a.eval)).run P w= .ok (.round l' fn jk lf.jM lf.body) w:=by rw[hy,UP];rfl
 have ajU:(execOp a.eval o).run P w= .ok (.round l' fn jk lf.jM lf.body) w:=by
  simp only[execOp,ak,Sem.run_bind,resolve,cV,hx,Deferred.ofValue,Sem.run_pure,Result.andThen_ok,invoke]
  simpa using xh
 refine⟨λ_ _=>trivial,?_⟩
 rw[Oper.semAt_eq _ _ _ (by rw[ak];simp),ajU,Oper.uponIn_round]
 refine⟨λh=>by simp[fw] at h,roundIn_of_wpIn trivial ?_⟩
 have JJ:dw A O w (pe++lf.env) { tmps:=jk,defers:=[] }:=by
  rw[UQ]
  exact ap6 hz (by rw[q5];exact kB) fA (q4.tr (Tr.refl _ _) sC)
 have i1:bA K P lf.J.fn.ntmps (dz.of A O w st.h none (some l')) A O w ⟨pe++lf.env,st.h,st.h.length,none,true,[],[]⟩ { tmps:=jk,defers:=[] }:=
  bA.init hr.rel hr.ob hr.dT hr.free (by show jk.size=_;rw[UQ,S9,q5]) JJ trivial (λh=>by cases h) rfl
 refine wpIn_mono (dV _ A O w _ i1) ?_
 rintro e a1 w1 ⟨rfl,⟨Xe,ls1⟩,O1,r1⟩
 have o9:ls1=A.ls:=r1.ls
 subst o9
 show ∃aqI,_
 have hd1: ∀x∈st.dt,x∈dt':=λx hx=>by rw[C6];exact m9 hx
 have hd2: ∀x∈st1.dt,x<st.nb->x∈dt':=λx hx hn=>by rw[C6];exact oG hn (List.mem_append_left _ hx)
 have JA: ∀x∈st2.dt,x<st.nb->x∈dt':=λx hx hn=>by rw[C6];exact oG hn (List.mem_append_right _ hx)
 obtain⟨r2,RY,le2⟩:=hr.inner (Tr.refl O w) (λb hb=>⟨hb,rfl⟩) rfl (λ_ _ h=>by cases h) r1 hd1 hd2 r1.rel
 have ql:=RY _ _ q2
 refine⟨_,run_beginRound ql.1.1 (by simp[fD,UG]),?_⟩
 obtain⟨busy,T7⟩: ∃busy,busy=({ fD lf fn tm D with state:= .busy }:Loop):=⟨_,rfl⟩
 rw[<-T7]
 have wD: ∀ {w':World} {A':Pl} {O':List Nat},dS B.w0.heap.size A' O' w' st.df a.defers:=λ{w' A' O'}=>by
  have:=hr.df
  rw[eU] at this ⊢
  exact this
 have r3:=r2.book (o':= .loop busy) (lp':=none) (a':=a) ql (.inr q0) trivial (λ_=>eU) wD rfl
 have ny:a1.defers=[]:=r1.dl (by rw[qE,Bool.or_true])
 have i2:bA K P lf.J.fn.ntmps (dz.of ⟨Xe,A.ls⟩ O1 (w1.putObj l' (.loop busy)) st1.h none (some l')) ⟨Xe,A.ls⟩ O1 (w1.putObj l' (.loop busy)) ⟨st1.env,st1.h,st1.h.length,none,true,[],[]⟩ a1:=
  bA.init (r1.rel.book ql) r3.ob r3.dT r1.free r1.size (r1.env.tr (vr ql) (Pl.le.refl _)) trivial (λh=>by cases h) ny
 refine wpIn_mono (jx _ _ _ _ _ i2) ?_
 rintro e a2 w2 ⟨rfl,⟨pl2,ls2⟩,O2,r4⟩
 have gw:ls2=A.ls:=r4.ls
 subst gw
 obtain⟨r5,RZ,le5⟩:=r3.inner (st2:=st2) (Tr.refl O1 _) (λb hb=>⟨hb,rfl⟩) rfl (λ_ _ h=>by cases h) r4 (dt':=dt') (λx hx=>hx) JA r4.rel
 have hD1:=RY _ _ q3
 have aV:D≠l':=by
  rintro rfl
  have e1:=q3.1.1
  rw[Ut] at e1
  cases e1
 have ql1:fx O1 (w1.putObj l' (.loop busy)) l' (.loop busy):=⟨⟨World.putObj_heap_same ql.1.lt,rfl⟩,rfl,ql.2.2⟩
 have xM:=RZ _ _ ql1
 have hD2:=RZ _ _ (hD1.put (o:= .loop (fD lf fn tm D)) (o':= .loop busy) aV)
 have JI: ∀jump:Option Code,jump=ll.bind AX.code->(ll=none↔jump=none)-> ∃v w',(Instr.endRound l' jump).run P w2= .ok v w'/\v= .bool jump.isNone/\ ∃A' O',bA K P N B A' O' w' { st with h:=st2.h,dt:=dt',lp:=some { lf with h_:=ll } } a:=by
  intro jump hj ajw
  refine⟨_,_,run_endRound jump xM.1.1,rfl,⟨pl2,A.ls⟩,O2,?_⟩
  have De:({ busy with state:=if jump.isNone then .ready else .done,pending:=jump }:Loop)=fD { lf with h_:=ll } fn tm D:=by
   rw[T7,hj]
   unfold fD
   cases ll with
   |none=>rfl
   |some x=>
    have: ¬(jump=none):=λe=>by cases ajw.2 e
    rw[hj] at this
    cases hc:(some x).bind AX.code with
    |none=>exact absurd hc this
    |some y=>rfl
  rw[De]
  refine r5.book (o':= .loop (fD { lf with h_:=ll } fn tm D)) (lp':=some { lf with h_:=ll }) xM (.inr q0) ?_ (λ_=>eU) wD rfl
  exact⟨l',fn,tm,D,q1,q0,⟨⟨World.putObj_heap_same xM.1.lt,rfl⟩,rfl,xM.2.2⟩,hD2.put (o:= .loop busy) aV,(((q4.tr r1.tr (Pl.le.refl _)).tr (vr ql) (Pl.le.refl _)).tr r4.tr (Pl.le.refl _)).tr (vr xM) (Pl.le.refl _),q5⟩
 rcases JH with⟨rfl,rfl,rfl⟩|⟨rfl,rfl,rfl⟩|⟨id,rfl,rfl,rfl⟩
 ·obtain⟨v,w',e1,e2,e3⟩:=JI none rfl (by simp)
  exact⟨v,w',e1,v,rfl,by rw[e2];rfl,e3⟩
 ·obtain⟨v,w',e1,e2,e3⟩:=JI (some .ret) rfl (by simp)
  exact⟨v,w',e1,v,rfl,by rw[e2];rfl,e3⟩
 ·obtain⟨v,w',e1,e2,e3⟩:=JI (some (.exit id)) rfl (by simp)
  exact⟨v,w',e1,v,rfl,by rw[e2];rfl,e3⟩
end
section
variable {S:bL} {P:Program} {N:Nat} {B:dz} {A A':Pl} {O O':List Nat} {w w':World} {st:AS S} {a:Act} {R:Type} {z:R}
theorem RQ {s:Nat} {av:AV S}: ∀ {aqJ:List (aE S)} {i:Nat} {xs:List Value},di A O w aqJ xs->aW.get (mm i aqJ) s=some av-> ∃x,i<=s/\xs[s-i]? =some x/\av.rel A O w x
 |[],i,xs,_,h=>by cases h
 |b::r,i,xs,⟨y,ys,e,h1,h2⟩,h=>by
  subst e
  simp only[mm,aW.get] at h
  cases hq:Nat.beq i s with
  |true=>
   rw[hq] at h
   have:=Nat.eq_of_beq_eq_true hq
   subst this
   simp only[cond_true,Option.some.injEq] at h
   subst h
   exact⟨y,Nat.le_refl _,by simp,h1⟩
  |false=>
   rw[hq] at h
   obtain⟨x,q1,q2,q3⟩:=RQ (i:=i+1) h2 h
   refine⟨x,by omega,?_,q3⟩
   rw[show s-i=(s-(i+1))+1 by omega]
   simpa using q2
theorem RR {aqJ:List (aE S)} {xs:List Value} {n:Nat} (h:di A O w aqJ xs):dw A O w (mm 0 aqJ) { tmps:=xs.toArray++Array.replicate n undef,defers:=[] }:=by
 intro s av hs
 obtain⟨x,_,h1,h2⟩:=RQ h hs
 simp only[Nat.sub_zero] at h1
 have aH:=(List.getElem?_eq_some_iff.1 h1).1
 have e:(xs.toArray++Array.replicate n undef).getD s undef=x:=by
  rw[Array.getD_eq_getD_getElem?,Array.getElem?_append_left (by simpa using aH)]
  simp[h1]
 show av.rel A O w ((xs.toArray++Array.replicate n undef).getD s undef)
 rw[e]
 exact h2
structure aF (G:az S) (P:Program):Prop extends Nc G P where
 L: ∀f J c,G.T f=some J->J.fn.body=some c->au G.K P J c
theorem R2 {G:az S} (hG:aF G P) {run: {R:Type}->ep S->Code->AS S->(AX->AS S->Option R)->Option R} (bC:m0 G.K P run) {f:Nat} {J:ep S} {c:Code} {aqJ:List (aE S)} {h:AH S} {k:Rs S->AH S->List Nat->Option R} (hT:G.T f=some J) (hb:J.fn.body=some c) (hl:Nat.ble aqJ.length J.fn.ntmps=true)
  (hr:run J c ⟨mm 0 aqJ,h,h.length,none,false,[],[]⟩ (λe bm=>xS G J.fn e bm λr ya=>xI r ya k)=some z): ∃r h' dt,k r h' dt=some z/\gR G.K P f aqJ h r h' dt:=by
 obtain⟨e,st1,h1,dV⟩:=bC _ _ _ _ _ (hG.L f J c hT hb) hr
 obtain⟨r,st2,h2,wX,jx⟩:=ano hG.toNc h1
 obtain⟨r',h',dt,h3,xd⟩:=alE (K:=G.K) (P:=P) h2
 refine⟨r',h',dt,h3,hG.E f J hT,λA O w xs ha hg hO vY cp=>?_⟩
 refine(callsIn_wide (n:=0)).1 (callsIn_of_wp_marks (hG.T f J hT) hb trivial ?_)
 have hlen:=Ec ha
 have hle:=Nat.le_of_ble_eq_true hl
 have i1:bA G.K P J.fn.ntmps (dz.of A O w h none none) A O w ⟨mm 0 aqJ,h,h.length,none,false,[],[]⟩ { tmps:=xs.toArray++Array.replicate (J.fn.ntmps-xs.toArray.size) undef,defers:=[] }:=
  bA.init hg hO vY cp (by simp;omega) (RR ha) trivial (λ_=>rfl) rfl
 refine wpIn_mono (dV _ A O w _ i1) ?_
 rintro e' a1 w1 ⟨rfl,A1,O1,r1⟩
 refine jx _ _ _ _ _ _ _ r1 λA2 O2 w2 a2 e2 r2 eV=>?_
 obtain⟨A3,q1,q2⟩:=xd _ _ _ _ _ _ _ rfl r2 eV
 exact⟨A3,O2,q1,q2⟩
theorem anb {G:az S} (hG:aF G P) {run: {R:Type}->ep S->Code->AS S->(AX->AS S->Option R)->Option R} (bC:m0 G.K P run) {I:ep S} {fo:Operand} {ps:Array Nat} {jM body:Code} {k:AX->AS S->Option R} (h:LW G run I fo ps jM body st k=some z):
  ∃e bm,k e bm=some z/\ ∀B A O w a,bA G.K P I.fn.ntmps B A O w st a->(Code.rangeFunc fo ps jM body).wpIn (fw B.rr) 0 P (kN G.K P I.fn.ntmps B e bm) a w:=by
 unfold LW at h
 split at h
 rotate_left
 ·cases h
 rename_i iA qE
 split at h
 rotate_left
 ·cases h
 rename_i i gI
 split at h
 rotate_left
 ·cases h
 rename_i g cs gY
 split at h
 rotate_left
 ·cases h
 rename_i J hT
 split at h
 rotate_left
 ·cases h
 rename_i cb T9 eV
 cases Jw:(Nat.ble (1+cs.length) J.fn.ntmps&&(tc st.env&&lh st.h))<;>rw[Jw] at h
 ·cases h
 simp only[cond_true] at h
 simp only[Bool.and_eq_true] at Jw
 obtain⟨hle,hnE,UB⟩:=Jw
 obtain⟨e1,st1,h1,dV⟩:=bC _ _ _ _ _ (hG.L g J cb hT T9) h
 obtain⟨e,fc,hk,sP,ap',wW,qD,JH⟩: ∃e fc,k e { st with h:=st1.h,dt:=gG st.nb st.dt st1.dt }=some z/\st1.lp=some fc/\st1.df=[]/\lh st1.h=true/\(e1= .normal\/e1= .ret)/\(fc.h_=none/\e= .normal\/fc.h_=some .ret/\e= .ret\/ ∃id,fc.h_=some (.exit id)/\e= .exit id):=by
  have tail:D3 st st1 k=some z-> ∃e fc,k e { st with h:=st1.h,dt:=gG st.nb st.dt st1.dt }=some z/\st1.lp=some fc/\st1.df=[]/\lh st1.h=true/\(fc.h_=none/\e= .normal\/fc.h_=some .ret/\e= .ret\/ ∃id,fc.h_=some (.exit id)/\e= .exit id):=by
   intro h1
   unfold D3 at h1
   split at h1
   ·rename_i fc gH sP
    cases hn:lh st1.h<;>rw[hn] at h1
    ·cases h1
    simp only[cond_true] at h1
    split at h1
    ·rename_i hp;exact⟨.normal,fc,h1,sP,gH,rfl,.inl ⟨hp,rfl⟩⟩
    ·rename_i hp;exact⟨.ret,fc,h1,sP,gH,rfl,.inr (.inl ⟨hp,rfl⟩)⟩
    ·rename_i id hp;exact⟨.exit id,fc,h1,sP,gH,rfl,.inr (.inr ⟨id,hp,rfl⟩)⟩
    ·cases h1
   ·cases h1
  cases e1 with
  |normal=>obtain⟨e,fc,t1,t2,t3,t4,t5⟩:=tail h1;exact⟨e,fc,t1,t2,t3,t4,.inl rfl,t5⟩
  |ret=>obtain⟨e,fc,t1,t2,t3,t4,t5⟩:=tail h1;exact⟨e,fc,t1,t2,t3,t4,.inr rfl,t5⟩
  |exit id=>cases h1
  |bN u=>cases h1
 refine⟨e,_,hk,λB A O w a hr=>?_⟩
 have k9:=hr.rr qE
 rw[k9]
 refine wpIn_rangeFunc λfn _=>?_
 obtain⟨f0,u0,c0,p1,p2⟩:=eR hr.env hr.dT gI
 have p2:a.eval fo= .func f0 u0 c0:=by simpa using p2
 obtain⟨p,q1,⟨us,vs,q2,q3,q4⟩,_⟩:=hr.rel.al i _ gY
 rw[p1] at q1
 cases q1
 rw[show us=[] from q3] at q2
 cases q2
 obtain⟨rec,De⟩: ∃rec:Loop,rec=fD ⟨I.topQ,ps.toList,jM,body,st.env,none⟩ fn a.tmps w.heap.size:=⟨_,rfl⟩
 obtain⟨W1,wg⟩: ∃W1,(w.alloc (.deferred (some []))).alloc (.loop rec)=W1:=⟨_,rfl⟩
 have hL1:W1.heap[w.heap.size+1]? =some (.loop rec):=by
  rw[<-wg];have:=World.alloc_heap_new (w.alloc (.deferred (some []))) (.loop rec);rwa [World.size_alloc] at this
 have TH:W1.heap[w.heap.size]? =some (.deferred (some [])):=by
  rw[<-wg];exact(Below.heap_alloc _ _ _ (by simp)).trans (World.alloc_heap_new w _)
 have sE:Fr [] w W1:=by
  rw[<-wg]
  exact⟨rfl,rfl,rfl,by simp;omega,λk hk _=>(Below.heap_alloc _ _ _ (by simp;omega)).trans (Below.heap_alloc _ _ _ hk)⟩
 have aqy:W1.heap.size=w.heap.size+2:=by rw[<-wg];simp
 obtain⟨O1,wa⟩: ∃O1,O1=w.heap.size::(w.heap.size+1)::O:=⟨_,rfl⟩
 have c6: ∀b∈O,b∈O1:=λb hb=>by rw[wa];exact List.mem_cons_of_mem _ (List.mem_cons_of_mem _ hb)
 have we:Tr O w O1 W1:=⟨sE.os,sE.tape,sE.output,sE.size,λk hk ho=>⟨by rw[wa];simp;exact⟨by omega,by omega,ho⟩,sE.block k hk (by simp)⟩⟩
 have nt:OB O1 W1:=λk hk=>by
  rw[wa] at hk
  simp at hk
  rcases hk with rfl|rfl|hk
  ·omega
  ·omega
  ·have:=hr.ob k hk;omega
 have d_: ∀b∈O,b∈O1/\W1.heap[b]? =w.heap[b]? :=λb hb=>⟨c6 b hb,sE.block b (hr.ob b hb) (by simp)⟩
 obtain⟨A1,nn⟩: ∃A1:Pl,A1=⟨A.pl,some (w.heap.size+1)⟩:=⟨_,rfl⟩
 have sD:A1.pl=A.pl:=by rw[nn]
 refine⟨w.heap.size+1,[{ target:= .collected w.heap.size,args:= #[] }],W1,{ target:= .fn (.func g) vs.toArray,args:= #[.func (.yield (w.heap.size+1)) #[] #[]] },W1,g,
  #[.func (.yield (w.heap.size+1)) #[] #[]]++vs.toArray,W1,?_,?_,?_,?_,λh=>by simp[fw] at h,?_⟩
 ·rw[<-wg,De];exact run_enterLoop_outer _ _ _ _ _
 ·simp only[resolve,p2]
  simp[go_sem]
 ·intro f' sI;trivial
 ·have eg: ∀(vs:Array Value) (u:World),(callFunc g vs).run P u= .ok (.enter g vs) u:=hG.E g J hT
  simp[invoke,go_sem,eg]
 ·
  have UK:di A1 O1 W1 (.one .dF::cs) (.func (.yield (w.heap.size+1)) #[] #[]::vs):=by
   refine⟨_,_,rfl,⟨w.heap.size+1,by rw[nn],rfl⟩,?_⟩
   have fb:qX cs=true:=by
    have:=DJ UB gY
    simp only[Ob.jC,Bool.and_eq_true] at this
    exact this.2
   exact xz sD fb (ra we (Pl.le.refl A) q4)
  have hlen:=Ec UK
  simp only[List.length_cons] at hlen
  have aqg:=Nat.le_of_ble_eq_true hle
  have JR:cC A O1 W1 (aJ st.h):=by
   refine⟨λj X hj=>?_,hr.rel.dj⟩
   obtain⟨p,hp,hR,hb⟩:=hr.rel.al j X hj
   exact⟨p,hp,hR.keep we (Pl.le.refl A) λb b6=>⟨(d_ b (hb b b6)).2,c6 b (hb b b6)⟩,λb b6=>c6 b (hb b b6)⟩
  have hbl:fx O1 W1 (w.heap.size+1) (.loop rec):=⟨⟨hL1,rfl⟩,rfl,by rw[wa];simp⟩
  have T2:fx O1 W1 w.heap.size (.deferred (some [])):=⟨⟨TH,rfl⟩,rfl,by rw[wa];simp⟩
  have i1:bA G.K P J.fn.ntmps (dz.of A1 O1 W1 st.h (some (w.heap.size+1)) none) A1 O1 W1 ⟨mm 0 (.one .dF::cs),st.h,st.h.length,some ⟨I.topQ,ps.toList,jM,body,st.env,none⟩,false,[],[]⟩ { tmps:=(#[Value.func (.yield (w.heap.size+1)) #[] #[]]++vs.toArray)++Array.replicate (J.fn.ntmps-(#[Value.func (.yield (w.heap.size+1)) #[] #[]]++vs.toArray).size) undef,defers:=[] }:=by
   refine bA.init (WL sD UB JR) nt (hr.dT.tr we) (λj hj=>by rw[sD];exact hr.free j hj) (by simp at hlen ⊢;omega) ?_ ?_ (λ_=>rfl) rfl
   ·have:=RR (n:=J.fn.ntmps-(#[Value.func (.yield (w.heap.size+1)) #[] #[]]++vs.toArray).size) UK
    have e:(Value.func (.yield (w.heap.size+1)) #[] #[]::vs).toArray= #[.func (.yield (w.heap.size+1)) #[] #[]]++vs.toArray:=by simp
    rw[e] at this
    exact this
   ·refine⟨w.heap.size+1,fn,a.tmps,w.heap.size,by rw[dz.of,nn],rfl,by rw[<-De];exact hbl,T2,?_,hr.size⟩
    exact akX sD hnE (hr.env.tr we (Pl.le.refl A))
  refine callsIn_of_wp_marks (hG.T g J hT) T9 trivial (wpIn_mono (dV _ A1 O1 W1 _ i1) ?_)
  rintro e' a2 W2 ⟨rfl,A2,O2,r2⟩
  have aqh:A2.ls=some (w.heap.size+1):=by rw[r2.ls,dz.of,nn]
  have wD:a2.defers=[]:=r2.dl (by rw[sP];rfl)
  have hx: ∀b∈O,some (w.heap.size+1)≠some b:=λb hb e=>by
   cases e
   have:=hr.ob _ hb
   omega
  have ajT:cC ⟨A2.pl,A.ls⟩ O2 W2 (aJ st1.h):=WL (A1:=A2) (A2:=⟨A2.pl,A.ls⟩) rfl wW r2.rel
  obtain⟨r3,bk3,le3⟩:=hr.inner we d_ sD hx r2 (dt':=gG st.nb st.dt st1.dt) (λx hx=>m9 hx) (λx hx hn=>oG hn hx) ajT
  have Uu:=r2.lp
  rw[sP] at Uu
  obtain⟨l',qq,jk,D',s1,s0,s2,s3,s4,s5⟩:=Uu
  have:l'=w.heap.size+1:=by
   have:some (w.heap.size+1)=some l':=s0
   exact(Option.some.inj this).symm
  subst this
  have aje:fx O2 W2 w.heap.size (.deferred (some [])):=by
   obtain⟨k1,k2,_⟩:=r2.cl w.heap.size T2.2.2 (λe=>by have e:some (w.heap.size+1)=some w.heap.size:=e;have:=Option.some.inj e;omega) λj _ hl p hp=>by
    obtain⟨X,hX⟩:=hl
    obtain⟨p',dx,hR,hb⟩:=hr.rel.al j X hX
    have hp:A1.pl j=some p:=hp
    rw[sD,dx] at hp
    cases hp
    intro b6
    have:=hr.ob _ (hb _ b6)
    omega
   exact⟨⟨k1.trans TH,rfl⟩,rfl,k2⟩
  have fin: ∀v,rangePost (fw none) 0 P (w.heap.size+1) (kN G.K P I.fn.ntmps B e { st with h:=st1.h,dt:=gG st.nb st.dt st1.dt }) { a with defers:=[{ target:= .collected w.heap.size,args:= #[] }]++a.defers } (.returned v) W2:=by
   intro v
   refine⟨_,_,run_endLoop s2.1.1 ?_,?_⟩
   ·unfold fD
    cases fc.h_<;>simp
   ·have aV:w.heap.size≠w.heap.size+1:=by omega
    have bt:B.w0.heap.size<=w.heap.size:=hr.tr.size
    have hmk:Dc.mark w.heap.size∉a.defers:=by
     have: ∀(ds:List Deferred) (df:List (LV S)),dS B.w0.heap.size A O w df ds->Dc.mark w.heap.size∉ds:=by
      intro ds
      induction ds with
      |nil=>intro df _ hm;cases hm
      |cons d ds ih=>
       intro df hd hm
       rcases hd with⟨D1,d1,d0,d2,d3⟩|⟨i',r',f',u',c',d1,d2,d3,d4⟩
       ·rcases List.mem_cons.1 hm with e|hm
        ·rw[d1] at e
         have:=akE e
         have:=d2.1.lt
         omega
        ·exact ih df d3 hm
       ·rcases List.mem_cons.1 hm with e|hm
        ·rw[d3] at e
         unfold Dc.mark at e
         cases e
        ·exact ih r' d4 hm
     exact this _ _ hr.df
    have ajj: ∀D1,fx O w D1 (.deferred (some []))->D1≠w.heap.size+1:=λD1 h e=>by
     have:=h.1.lt
     omega
    have r4:bA G.K P I.fn.ntmps B ⟨A2.pl,A.ls⟩ O2 (W2.putObj (w.heap.size+1) (.loop { fD fc qq jk D' with state:= .exhausted })) { st with h:=st1.h,dt:=gG st.nb st.dt st1.dt } { a with defers:=[{ target:= .collected w.heap.size,args:= #[] }]++a.defers }:=by
     refine r3.book (o':= .loop { fD fc qq jk D' with state:= .exhausted }) (lp':=st.lp) s2 (.inl λhm=>?_) (by rw[iA];trivial) (λh=>by rw[iA,show st.inr=false from qE] at h;cases h) ?_ rfl
     ·have:=hr.o0 _ hm
      have:=hr.tr.size
      omega
     ·refine .inl ⟨w.heap.size,rfl,⟨bt,hmk⟩,aje.put (o:= .loop (fD fc qq jk D')) aV,?_⟩
      exact hr.df.yg le3.at_ λD1 hb=>(bk3 _ _ hb).put (o:= .loop (fD fc qq jk D')) (ajj D1 hb)
    have go: ∀j:Option Code,j=(fD fc qq jk D').pending->(match j with
      |none=>kN G.K P I.fn.ntmps B e { st with h:=st1.h,dt:=gG st.nb st.dt st1.dt } .normal { a with defers:=[{ target:= .collected w.heap.size,args:= #[] }]++a.defers } (W2.putObj (w.heap.size+1) (.loop { fD fc qq jk D' with state:= .exhausted }))
      |some c=>c.wpIn (fw none) 0 P (kN G.K P I.fn.ntmps B e { st with h:=st1.h,dt:=gG st.nb st.dt st1.dt }) { a with defers:=[{ target:= .collected w.heap.size,args:= #[] }]++a.defers } (W2.putObj (w.heap.size+1) (.loop { fD fc qq jk D' with state:= .exhausted }))):=by
     intro j hj
     rcases JH with⟨hp,rfl⟩|⟨hp,rfl⟩|⟨id,hp,rfl⟩
     ·have:j=none:=by rw[hj];unfold fD;rw[hp];rfl
      subst this
      exact⟨rfl,_,_,r4⟩
     ·have:j=some .ret:=by rw[hj];unfold fD;rw[hp];rfl
      subst this
      exact wpIn_ret ⟨rfl,_,_,r4⟩
     ·have:j=some (.exit id):=by rw[hj];unfold fD;rw[hp];rfl
      subst this
      exact wpIn_exit ⟨rfl,_,_,r4⟩
    exact go _ rfl
  have UL:(results J.fn a2.tmps).run P W2= .ok (lB []) W2:=by
   obtain⟨MS,t1,t2⟩:=Mn (A:=A2) (O:=O2) (w:=W2) (a:=a2) (env:=st1.env) (h:=st1.h) (aqJ:=[]) (fn:=J.fn) hG.K (by rw[eV];rfl) r2.env r2.rel
   rw[show MS=[] from t1] at t2
   exact t2
  rcases qD with rfl|rfl
  ·show LeavesInM (fw none) 0 P J.fn a2.tmps _ a2.defers .returning W2
   rw[wD]
   exact⟨_,UL,fin _⟩
  ·show LeavesInM (fw none) 0 P J.fn a2.tmps _ a2.defers .returning W2
   rw[wD]
   exact⟨_,UL,fin _⟩
theorem alO {K:bQ S} {I:ep S} {x:Code} (h:bA K P N B A O w st a): ∃A',bA K P N B A' O w (Xi I x st) a:=by
 cases x<;>first|exact⟨A,h⟩|exact h.gc
def zT (K:bQ S) (P:Program) (n:Nat) (run: {R:Type}->ep S->Code->AS S->(AX->AS S->Option R)->Option R):Prop:=
 ∀ {R:Type} (I:ep S) (x:Code) (st:AS S) (k:AX->AS S->Option R) (z:R),au K P I (.loop x)->jr I.lc (eK x)=none->run I (.loop x) st k=some z-> ∃e bm,k e bm=some z/\ ∀B A O w a,bA K P I.fn.ntmps B A O w st a->Code.roundsIn (fw B.rr) 0 P x (kN K P I.fn.ntmps B e bm) n a w
theorem adE {G:az S} (hG:aF G P) {run: {R:Type}->ep S->Code->AS S->(AX->AS S->Option R)->Option R} (ih:m0 G.K P run):om (R:=R) G.K P (G_ G run):=by
 intro f aqJ h k z hc
 unfold G_ at hc
 split at hc
 ·rename_i wC hf
  exact hG.H f wC hf aqJ h k z hc
 ·split at hc
  ·rename_i J hT
   split at hc
   ·rename_i cb hb
    cases hl:Nat.ble aqJ.length J.fn.ntmps<;>rw[hl] at hc
    ·cases hc
    ·exact R2 hG ih hT hb hl hc
   ·cases hc
  ·cases hc
theorem Wu {G:az S} {n:Nat} (ih:m0 G.K P (λ{_}=>cT G n)) (il:zT G.K P n (λ{_}=>cT G n)):zT G.K P (n+1) (λ{_}=>cT G (n+1)):=by
 intro R I x st k z hL hf h
 simp only[cT,hf] at h
 obtain⟨e,st1,h1,dV⟩:=ih _ _ _ _ _ (hL.sub λ_ h=> .loop h) h
 by_cases he:e= .normal
 ·subst he
  obtain⟨e2,st2,h2,jx⟩:=il _ _ _ _ _ hL hf h1
  refine⟨e2,st2,h2,λB A O w a hr=>wpIn_mono (dV B A O w a hr) ?_⟩
  rintro x' a' w' ⟨rfl,A',O',dd⟩
  obtain⟨A2,eb⟩:=dd.gc (sl:=I.L (eK x))
  exact jx B A2 O' w' a' eb
 ·refine⟨e,st1,by cases e<;>first|exact h1|exact absurd rfl he,λB A O w a hr=>wpIn_mono (dV B A O w a hr) ?_⟩
  rintro x' a' w' ⟨rfl,A',O',dd⟩
  cases e<;>first|exact⟨rfl,A',O',dd⟩|exact absurd rfl he
theorem an4 {G:az S} (hG:aF G P) {n:Nat} (ih:m0 G.K P (λ{_}=>cT G n)) (il:zT G.K P (n+1) (λ{_}=>cT G (n+1))):m0 G.K P (λ{_}=>cT G (n+1)):=by
 intro R I c st k z hL h
 cases c with
 |loop x=>
  cases hf:jr I.lc (eK x) with
  |some lc=>
   simp only[cT,hf] at h
   exact hL x lc (.refl _) hf st k z h
  |none=>
   obtain⟨e,st1,h1,dV⟩:=il _ _ _ _ _ hL hf h
   exact⟨e,st1,h1,λB A O w a hr=>wpIn_loop_rounds (n+1) (dV B A O w a hr)⟩
 |skip=>simp only[cT] at h;exact⟨.normal,st,h,λB A O w a hr=>wpIn_skip ⟨rfl,A,O,hr⟩⟩
 |label l=>simp only[cT] at h;exact⟨.normal,st,h,λB A O w a hr=>wpIn_label ⟨rfl,A,O,hr⟩⟩
 |exit id=>simp only[cT] at h;exact⟨.exit id,st,h,λB A O w a hr=>wpIn_exit ⟨rfl,A,O,hr⟩⟩
 |ret=>simp only[cT] at h;exact⟨.ret,_,h,λB A O w a hr=>wpIn_ret (have⟨A2,eb⟩:=hr.gc (sl:=I.L 1000000);⟨rfl,A2,O,eb⟩)⟩
 |seq x y=>
  simp only[cT] at h
  obtain⟨e,st1,h1,dV⟩:=ih _ _ _ _ _ (hL.sub λ_ h=> .seq1 h) h
  by_cases he:e= .normal
  ·subst he
   obtain⟨e2,st2,h2,jx⟩:=ih _ _ _ _ _ (hL.sub λ_ h=> .Zc h) h1
   refine⟨e2,st2,h2,λB A O w a hr=>wpIn_seq (wpIn_mono (dV B A O w a hr) ?_)⟩
   rintro x' a' w' ⟨rfl,A',O',dd⟩
   exact jx B A' O' w' a' dd
  ·refine⟨e,st1,by cases e<;>first|exact h1|exact absurd rfl he,λB A O w a hr=>wpIn_seq (wpIn_mono (dV B A O w a hr) ?_)⟩
   rintro x' a' w' ⟨rfl,A',O',dd⟩
   cases e<;>first|exact⟨rfl,A',O',dd⟩|exact absurd rfl he
 |cond o x y=>
  simp only[cT] at h
  split at h
  rotate_left
  ·cases h
  rename_i b hb
  cases b with
  |true=>
   simp only[cond_true] at h
   obtain⟨e,st1,h1,dV⟩:=ih _ _ _ _ _ (hL.sub λ_ h=> .Se h) h
   exact⟨e,st1,h1,λB A O w a hr=>wpIn_cond_true (fq (S:=S) (A:=A) (O:=O) (w:=w) (eR hr.env hr.dT hb)) (dV B A O w a hr)⟩
  |false=>
   simp only[cond_false] at h
   obtain⟨e,st1,h1,dV⟩:=ih _ _ _ _ _ (hL.sub λ_ h=> .Sf h) h
   exact⟨e,st1,h1,λB A O w a hr=>wpIn_cond_false (fq (S:=S) (A:=A) (O:=O) (w:=w) (eR hr.env hr.dT hb)) (dV B A O w a hr)⟩
 |block id x=>
  simp only[cT] at h
  obtain⟨e,st1,h1,dV⟩:=ih _ _ _ _ _ (hL.sub λ_ h=> .block h) h
  have body: ∀B A O w a,bA G.K P I.fn.ntmps B A O w st a->x.wpIn (fw B.rr) 0 P (kN G.K P I.fn.ntmps B e st1) a w:=λB A O w a hr=>by
   obtain⟨A',dd⟩:=alO (I:=I) (x:=x) hr
   exact dV B A' O w a dd
  cases e with
  |exit qS=>
   cases hb:Nat.beq qS id with
   |true=>
    simp only[hb,cond_true] at h1
    refine⟨.normal,_,h1,λB A O w a hr=>wpIn_block (wpIn_mono (body B A O w a hr) ?_)⟩
    rintro x' a' w' ⟨rfl,A',O',dd⟩
    show if qS=id then _ else _
    rw[if_pos (Nat.eq_of_beq_eq_true hb)]
    obtain⟨A2,eb⟩:=dd.gc (sl:=I.L (1000001+id))
    exact⟨rfl,A2,O',eb⟩
   |false=>
    simp only[hb,cond_false] at h1
    refine⟨.exit qS,st1,h1,λB A O w a hr=>wpIn_block (wpIn_mono (body B A O w a hr) ?_)⟩
    rintro x' a' w' ⟨rfl,A',O',dd⟩
    show if qS=id then _ else _
    rw[if_neg (λe=>by subst e;simp at hb)]
    exact⟨rfl,A',O',dd⟩
  |normal=>
   refine⟨.normal,st1,h1,λB A O w a hr=>wpIn_block (wpIn_mono (body B A O w a hr) ?_)⟩
   rintro x' a' w' ⟨rfl,A',O',dd⟩
   exact⟨rfl,A',O',dd⟩
  |ret=>
   refine⟨.ret,st1,h1,λB A O w a hr=>wpIn_block (wpIn_mono (body B A O w a hr) ?_)⟩
   rintro x' a' w' ⟨rfl,A',O',dd⟩
   exact⟨rfl,A',O',dd⟩
  |bN u=>
   refine⟨.bN u,st1,h1,λB A O w a hr=>wpIn_block (wpIn_mono (body B A O w a hr) ?_)⟩
   rintro x' a' w' ⟨rfl,A',O',dd⟩
   exact⟨rfl,A',O',dd⟩
 |scope x=>
  simp only[cT] at h
  cases c6:st.inr<;>rw[c6] at h
  rotate_left
  ·cases h
  simp only[cond_false] at h
  obtain⟨e,st1,h1,dV⟩:=ih _ _ _ _ _ (hL.sub λ_ h=> .scope h) h
  refine⟨e,st1,h1,λB A O w a hr=>?_⟩
  have k9:=hr.rr c6
  have:=dV B A O w a hr
  rw[k9] at this ⊢
  rw[aix] at this ⊢
  refine wpIn_wide.2 (wp_scope_straight (wpIn_wide.1 (wpIn_mono this ?_)))
  rintro x' a' w' ⟨rfl,A',O',dd⟩
  cases e<;>exact⟨rfl,A',O',dd⟩
 |rangeFunc fo ps jM body=>
  simp only[cT] at h
  obtain⟨e,st1,h1,dV⟩:=anb hG ih h
  refine⟨e,st1,h1,λB A O w a hr=>?_⟩
  obtain⟨A',dd⟩:=hr.gc (sl:=I.L (2000001+eK body))
  exact dV B A' O w a dd
 |region id ops draw=>
  simp only[cT] at h
  obtain⟨e,st1,h1,dV⟩:=adm hG.M hG.K hG.C (adE hG ih) (ap5 ih) (id:=id) h
  cases e with
  |go=>exact⟨.normal,st1,h1,dV⟩
  |bN u=>exact⟨.bN u,st1,h1,dV⟩
 |_=>simp only[cT] at h;cases h
theorem rY {G:az S} (hG:aF G P): ∀n,m0 G.K P (λ{_}=>cT G n)/\zT G.K P n (λ{_}=>cT G n)
 |0=>⟨λI c st k z _ h=>(by cases h),λI c st k z _ _ h=>(by cases h)⟩
 |n+1=>
  ⟨an4 hG (rY hG n).1 (Wu (rY hG n).1 (rY hG n).2),Wu (rY hG n).1 (rY hG n).2⟩
theorem GU {G:az S} (hG:aF G P) (n:Nat):m0 G.K P (λ{_}=>cT G n):=(rY hG n).1
theorem RG {G:az S} (hG:aF G P) {n f:Nat} {aqJ:List (aE S)} {h:AH S} {k:Rs S->AH S->List Nat->Option R} (hr:bu G n f aqJ h k=some z): ∃r h' dt,k r h' dt=some z/\gR G.K P f aqJ h r h' dt:=by
 unfold bu at hr
 split at hr
 ·rename_i J hT
  split at hr
  ·rename_i cb hb
   cases hl:Nat.ble aqJ.length J.fn.ntmps<;>rw[hl] at hr
   ·cases hr
   ·exact R2 hG (GU hG n) hT hb hl hr
  ·cases hr
 ·cases hr
end
section
variable {S:bL} {P:Program}
def l6:Code->List Code
 | .loop x=>x::l6 x
 | .seq x y=>l6 x++l6 y
 | .cond _ x y=>l6 x++l6 y
 | .block _ x=>l6 x
 | .scope x=>l6 x
 |_=>[]
def bI (c:Code) (id:Nat):Code:=match(l6 c).filter (λx=>Nat.beq (eK x) id) with|[x]=>x|_=> .skip
def LF (c:Code) (id:Nat):Bool:=match(l6 c).filter (λx=>Nat.beq (eK x) id) with|[_]=>true|_=>false
theorem an5 {c d x:Code} (hd:d= .loop x) (h:Vx.Sub c d):x∈l6 c:=by
 induction h with
 |refl c=>subst hd;exact List.mem_cons_self
 |seq1 _ ih=>exact List.mem_append_left _ (ih hd)
 |Zc _ ih=>exact List.mem_append_right _ (ih hd)
 |Se _ ih=>exact List.mem_append_left _ (ih hd)
 |Sf _ ih=>exact List.mem_append_right _ (ih hd)
 |block _ ih=>exact ih hd
 |loop _ ih=>exact List.mem_cons_of_mem _ (ih hd)
 |scope _ ih=>exact ih hd
theorem aky {c x:Code} {id:Nat} (h:LF c id=true) (hs:Vx.Sub c (.loop x)) (hi:eK x=id):x=bI c id:=by
 have hm:x∈(l6 c).filter (λx=>Nat.beq (eK x) id):=List.mem_filter.2 ⟨an5 rfl hs,by rw[hi];exact Nat.beq_refl id⟩
 unfold LF at h
 unfold bI
 split at h
 ·rename_i y hy
  rw[hy] at hm
  simpa using hm
 ·cases h
def aC (K:bQ S) (P:Program) (J:pQ) (x:Code) (lc:bo S):Prop:=
 ∀ {R:Type} (st:AS S) (k:AX->AS S->Option R) (z:R),lc.out st k=some z-> ∃e bm,k e bm=some z/\ ∀B A O w a,bA K P J.fn.ntmps B A O w st a->(Code.loop x).wpIn (fw B.rr) 0 P (kN K P J.fn.ntmps B e bm) a w
theorem au.cons {K:bQ S} {J:pQ} {lc:bo S} {lcs:List (bo S)} {c:Code} (h:au K P ⟨J,lcs⟩ c) (h1:LF c lc.id=true) (h2:aC K P J (bI c lc.id) lc):au K P ⟨J,lc::lcs⟩ c:=by
 intro x lc' hs hf
 simp only[jr] at hf
 cases hb:Nat.beq lc.id (eK x) with
 |true=>
  rw[hb] at hf
  simp only[cond_true,Option.some.injEq] at hf
  subst hf
  rw[aky h1 hs (Nat.eq_of_beq_eq_true hb).symm]
  exact h2
 |false=>
  rw[hb] at hf
  exact h x lc' hs hf
def yd (P:Program) (L:Nat->Nat->List Nat) (f:Nat):Option (ep S):=
 match P.funcs[f]? with
 |some fn=>(match fn.body with|some _=>some ⟨⟨fn,L f⟩,[]⟩|none=>none)
 |none=>none
def bl (T:Nat->Option (ep S)) (f:Nat) (J:ep S):Nat->Option (ep S):=λh=>bif Nat.beq h f then some J else T h
def zU (P:Program):Prop:= ∀(f:Nat) (fn:Func),P.funcs[f]? =some fn->fn.body.isSome=true->(fn.name== "runtime.NumGoroutine")=false
theorem dW (h:zU P) {f:Nat} {fn:Func} (hf:P.funcs[f]? =some fn) (hb:fn.body.isSome=true):fI P f:=by
 intro vs u
 have h1:fn.name≠ "runtime.NumGoroutine" :=by simpa using h f fn hf hb
 cases hc:fn.body with
 |none=>rw[hc] at hb;cases hb
 |some c=>simp[callFunc,hf,h1,hc,mark]
structure ab (G:az S) (P:Program):Prop where
 K:cI G.K P
 C:oo G P
 H: ∀f hc,vL G.H f=some hc-> ∀ {R:Type} (aqJ:List (aE S)) (h:AH S) (k:Rs S->AH S->List Nat->Option R) (z:R),hc.out aqJ h k=some z-> ∃r h' dt,k r h' dt=some z/\gR G.K P f aqJ h r h' dt
 D: ∀g dc,vK G.D g=some dc-> ∀ {R:Type} (cs:List (aE S)) (p:Option Value) (dZ:Nat->Option (Ob S)) (k:Option Value->Up S->Option R) (z:R),dc.out cs p dZ k=some z-> ∃q up,k q up=some z/\rK G.K P g cs p dZ q up
 M:P.follows .mixedOrders=true
 N:zU P
theorem ab.all {G:az S} (h:ab G P) {L:Nat->Nat->List Nat} (hT:G.T=yd P L):aF G P where
 K:=h.K
 C:=h.C
 H:=h.H
 D:=h.D
 M:=h.M
 T f J hf:=by
  rw[hT] at hf
  unfold yd at hf
  split at hf
  ·rename_i fn wH
   split at hf
   ·cases hf;exact wH
   ·cases hf
  ·cases hf
 E f J hf:=by
  rw[hT] at hf
  unfold yd at hf
  split at hf
  ·rename_i fn wH
   split at hf
   ·rename_i c hc
    exact dW h.N wH (by rw[hc];rfl)
   ·cases hf
  ·cases hf
 L f J c hf hc:=by
  rw[hT] at hf
  unfold yd at hf
  split at hf
  ·split at hf
   ·cases hf;exact au.nil
   ·cases hf
  ·cases hf
theorem aF.bK {G:az S} (h:aF G P) {f:Nat} {J:ep S} (hf:P.funcs[f]? =some J.fn) (hb:J.fn.body.isSome=true) (hN:zU P) (hL: ∀c,J.fn.body=some c->au G.K P J c):aF { G with T:=bl G.T f J } P where
 K:=h.K
 C:=⟨h.C.C⟩
 H:=h.H
 D:=h.D
 M:=h.M
 T g I hg:=by
  simp only[bl] at hg
  cases hb:Nat.beq g f<;>rw[hb] at hg
  ·exact h.T g I hg
  ·cases hg
   rw[Nat.eq_of_beq_eq_true hb];exact hf
 E g I hg:=by
  simp only[bl] at hg
  cases hq:Nat.beq g f<;>rw[hq] at hg
  ·exact h.E g I hg
  ·cases hg
   rw[Nat.eq_of_beq_eq_true hq];exact dW hN hf hb
 L g I c hg hc:=by
  simp only[bl] at hg
  cases hq:Nat.beq g f<;>rw[hq] at hg
  ·exact h.L g I c hg hc
  ·cases hg
   exact hL c hc
def DQ (K:bQ S) {R:Type} (k:Rs S->Option R) (r:Rs S) (h:AH S) (_:List Nat):Option R:=
 match r with
 | .ret (.s a)=>(match qt K (aJ h) a with|some (a',_)=>k (.ret (.s a'))|none=>none)
 | .ret (.aY aqJ)=>(match oN K (aJ h) aqJ with|some (jL,_)=>k (.ret (.aY jL))|none=>none)
 | .bN u=>k (.bN u)
variable {A A':Pl} {O O':List Nat} {w w':World}
theorem LV.xJ {l:LV S} {xs:List Value} (hp:l.pure=true) (ht:Tr O w O' w') (h:l.rel A O w xs):l.rel A' O' w' xs:=by
 cases l with
 |v u=>exact h
 |aP t d=>obtain⟨x,h1,h2,h3⟩:=h;exact⟨x,h1,h2.tr ht,h3⟩
 |ptr t d o=>obtain⟨x,h1,h2⟩:=h;exact⟨x,h1,Ty.is.tr h2 ht⟩
 |bR k n gs=>exact h
 |dQ n gs=>exact h
 |_=>cases hp
theorem Xm (ht:Tr O w O' w'): ∀ {ls:List (LV S)} {xs:List Value},ls.all LV.pure=true->bT A O w ls xs->bT A' O' w' ls xs
 |[],_,_,h=>h
 |l::ls,_,hp,⟨y,ys,h,h1,h2⟩=>by
  simp only[List.all_cons,Bool.and_eq_true] at hp
  exact⟨y,ys,h,LV.xJ hp.1 ht h1,Xm ht hp.2 h2⟩
theorem aE.xJ (ht:Tr O w O' w') {a:aE S} {x:Value} (hp:a.pure=true) (h:a.rel A O w x):a.rel A' O' w' x:=by
 cases a with
 |one l=>exact LV.xJ hp ht h
 |agg ls=>obtain⟨xs,h1,h2⟩:=h;exact⟨xs,h1,Xm ht hp h2⟩
theorem LP (ht:Tr O w O' w'): ∀ {ls:List (aE S)} {xs:List Value},ls.all aE.pure=true->di A O w ls xs->di A' O' w' ls xs
 |[],_,_,h=>h
 |l::ls,_,hp,⟨y,ys,h,h1,h2⟩=>by
  simp only[List.all_cons,Bool.and_eq_true] at hp
  exact⟨y,ys,h,aE.xJ ht hp.1 h1,LP ht hp.2 h2⟩
theorem fY.WS {K:bQ S} (hK:cI K P) {f:Nat} {aqJ:List (aE S)} {r:Rs S} {h':AH S} {dt:List Nat} (hp:aqJ.all aE.pure=true) (h:gR K P f aqJ [] r h' dt) {R:Type} {k:Rs S->Option R} {z:R} (ho:DQ K k r h' dt=some z): ∃r',k r'=some z/\fY K P f aqJ r':=by
 obtain⟨gv,hS⟩:=h
 have key: ∀(A:Pl) (O:List Nat) (w:World) (xs:List Value),di A O w aqJ xs->OB O w->dq K O w->Calls P f xs.toArray w (λe w'=> ∃A' O',mj A' O' w' r e/\cC A' O' w' (aJ h')/\(∀rs:List Nat,(∀r∈rs,∃Z,aJ h' r=some Z)->Tr (fV A' rs O') w' O w')/\Fr [] w w'):=by
  intro A O w xs hx hO hG
  refine(hS ⟨λ_=>none,none⟩ O w xs (LP (Tr.refl O w) hp hx) ⟨λi X hi=>by simp[aJ] at hi,λi j X Y p q b _ hi=>by simp[aJ] at hi⟩ hO hG (λ_ _=>rfl)).mono ?_
  rintro e w' ⟨A',O',hr,pb⟩
  have sH: ∀i,i∉dt:=λi hi=>by have:=pb.lt i hi;simp at this
  have bS: ∀b∈O,w'.heap[b]? =w.heap[b]? /\b∈O'/\ ∀i X p,aJ h' i=some X->A'.pl i=some p->cq p≠some b:=λb hb=>by
   obtain⟨c1,c2,c3⟩:=pb.cl b hb λi hi=>absurd hi (sH i)
   exact⟨c1,c2,λi X p=>c3 i X p (Nat.zero_le _)⟩
  refine⟨A',O',hr,pb.rel,λrs sS=>Tr.less λb hb=>?_,?_⟩
  ·obtain⟨c1,c2,c3⟩:=bS b hb
   refine mJ.2 ⟨c2,λr hr p hpp=>?_⟩
   obtain⟨Z,hZ⟩:=sS r hr
   exact c3 r Z p hZ hpp
  ·refine⟨pb.tr.os,pb.tr.tape,pb.tr.output,pb.tr.size,λb hb _=>?_⟩
   by_cases C2:b∈O
   ·exact(bS b C2).1
   ·exact(pb.tr.keep b hb C2).2
 cases r with
 |bN u=>
  refine⟨.bN u,ho,gv,λA O w xs hx hO hG=>(key A O w xs hx hO hG).mono ?_⟩
  rintro e w' ⟨A',O',hr,_,_,hF⟩
  exact⟨hr,hF⟩
 |ret av=>
  cases av with
  |s a=>
   simp only[DQ] at ho
   split at ho
   ·rename_i a' rs dD
    refine⟨_,ho,gv,λA O w xs hx hO hG=>(key A O w xs hx hO hG).mono ?_⟩
    rintro e w' ⟨A',O',⟨v,h1,h2⟩,hg,ht,hF⟩
    obtain⟨q1,q2,q3⟩:=Tg hK hg (all:=rs) dD h2 (λr hr=>hr)
    exact⟨⟨v,h1,aE.xJ (ht rs q3) q2 q1⟩,hF⟩
   ·cases ho
  |aY bs=>
   simp only[DQ] at ho
   split at ho
   ·rename_i jL rs dD
    refine⟨_,ho,gv,λA O w xs hx hO hG=>(key A O w xs hx hO hG).mono ?_⟩
    rintro e w' ⟨A',O',⟨v,h1,ys,h2,h3⟩,hg,ht,hF⟩
    obtain⟨q1,q2,q3⟩:=sv hK hg (all:=rs) dD h3 (λr hr=>hr)
    exact⟨⟨v,h1,ys,h2,LP (ht rs q3) q2 q1⟩,hF⟩
   ·cases ho
def shape (a b:aE S):Bool:=match a,b with| .one _,.one _=>true| .agg _,.agg _=>true|_,_=>false
def D4 (K:bQ S) (t:Nat) (a:aE S):Option (S.El t):=match K.cls t a.cells with|some x=>bif shape a (K.aa t x) then some x else none|none=>none
theorem Xz {K:bQ S} (hK:cI K P) {t:Nat} {a:aE S} {x:S.El t} {v:Value} (h:D4 K t a=some x) (hr:a.rel A O w v):(K.aa t x).rel A O w v:=by
 unfold D4 at h
 split at h
 ·rename_i y hy
  cases hs:shape a (K.aa t y)<;>rw[hs] at h
  ·cases h
  ·cases h
   have h1:=hK.aa A O w t x _ (hK.cls A O w t _ x _ hy (aE.rel.cells hr))
   cases a with
   |one l=>
    have e1:=ak2 (LV.rel.one hr v List.mem_cons_self)
    rw[e1] at h1
    cases ho:K.aa t x with
    |one l'=>
     rw[ho] at h1
     obtain⟨ys,zs,e,q1,q2⟩:=h1
     rw[show zs=[] from q2,List.append_nil] at e
     rw[<-e] at q1
     exact q1
    |agg ls=>rw[ho] at hs;cases hs
   |agg ls=>
    obtain⟨xs,rfl,q⟩:=hr
    cases ho:K.aa t x with
    |one l'=>rw[ho] at hs;cases hs
    |agg cW=>
     rw[ho] at h1
     exact⟨xs,rfl,by simpa[Value.cells,aE.cells] using h1⟩
 ·cases h
inductive lE (S:bL):List Nat->Type
 |nil:lE S []
 |cons {t ts} (x:S.El t) (r:lE S ts):lE S (t::ts)
def xN (K:bQ S):(ts:List Nat)->List (aE S)->Option (lE S ts)
 |[],[]=>some .nil
 |t::ts,a::aqJ=>(match D4 K t a with|some x=>(match xN K ts aqJ with|some r=>some (.cons x r)|none=>none)|none=>none)
 |_,_=>none
def pB (K:bQ S): {ts:List Nat}->lE S ts->List (aE S)
 |_,.nil=>[]
 |_,.cons (t:=t) x r=>K.aa t x::pB K r
theorem D5 {K:bQ S} (hK:cI K P): ∀ {ts:List Nat} {aqJ:List (aE S)} {xs:lE S ts} {vs:List Value},xN K ts aqJ=some xs->di A O w aqJ vs->di A O w (pB K xs) vs
 |[],[],xs,vs,h,hr=>by cases h;exact hr
 |t::ts,a::aqJ,xs,vs,h,⟨y,ys,e,h1,h2⟩=>by
  simp only[xN] at h
  split at h
  ·rename_i x hx
   split at h
   ·rename_i r hr
    cases h
    exact⟨y,ys,e,Xz hK hx h1,D5 hK hr h2⟩
   ·cases h
  ·cases h
 |[],_::_,xs,vs,h,_=>by cases h
 |_::_,[],xs,vs,h,_=>by cases h
def bw (K:bQ S) (f:Nat) (ts:List Nat) (spec: {R:Type}->lE S ts->(Rs S->Option R)->Option R):bq S:=⟨f,λaqJ k=>match xN K ts aqJ with|some xs=>bif (pB K xs).all aE.pure then spec xs k else none|none=>none⟩
theorem ab.bB {G:az S} (h:ab G P) {c:bq S} (hc: ∀ {R:Type} (aqJ:List (aE S)) (k:Rs S->Option R) (z:R),aqJ.all aE.pure=true->c.out aqJ k=some z-> ∃r,k r=some z/\fY G.K P c.f aqJ r):ab { G with C:=c::G.C } P where
 K:=h.K
 H:=h.H
 D:=h.D
 M:=h.M
 N:=h.N
 C:=⟨λf cn hf=>by
  simp only[Cc] at hf
  cases hb:Nat.beq c.f f<;>rw[hb] at hf
  ·exact h.C.C f cn hf
  ·cases hf
   intro R aqJ k z hp hz
   obtain⟨r,h1,h2⟩:=hc aqJ k z hp hz
   rw[Nat.eq_of_beq_eq_true hb] at h2
   exact⟨r,h1,h2⟩⟩
theorem ab.nA {G:az S} (h:ab G P) {c:jd S} (hc: ∀ {R:Type} (aqJ:List (aE S)) (hh:AH S) (k:Rs S->AH S->List Nat->Option R) (z:R),c.out aqJ hh k=some z-> ∃r h' dt,k r h' dt=some z/\gR G.K P c.f aqJ hh r h' dt):ab { G with H:=c::G.H } P where
 K:=h.K
 C:=⟨h.C.C⟩
 D:=h.D
 M:=h.M
 N:=h.N
 H f cn hf:=by
  simp only[vL] at hf
  cases hb:Nat.beq c.f f<;>rw[hb] at hf
  ·exact h.H f cn hf
  ·cases hf
   intro R aqJ hh k z hz
   obtain⟨r,h',dt,h1,h2⟩:=hc aqJ hh k z hz
   rw[Nat.eq_of_beq_eq_true hb] at h2
   exact⟨r,h',dt,h1,h2⟩
theorem ab.Si {G:az S} (h:ab G P) {c:rJ S} (hc: ∀ {R:Type} (cs:List (aE S)) (p:Option Value) (dZ:Nat->Option (Ob S)) (k:Option Value->Up S->Option R) (z:R),c.out cs p dZ k=some z-> ∃q up,k q up=some z/\rK G.K P c.g cs p dZ q up):ab { G with D:=c::G.D } P where
 K:=h.K
 C:=⟨h.C.C⟩
 H:=h.H
 M:=h.M
 N:=h.N
 D g cn hg:=by
  simp only[vK] at hg
  cases hb:Nat.beq c.g g<;>rw[hb] at hg
  ·exact h.D g cn hg
  ·cases hg
   intro R cs p dZ k z hz
   obtain⟨q,up,h1,h2⟩:=hc cs p dZ k z hz
   rw[Nat.eq_of_beq_eq_true hb] at h2
   exact⟨q,up,h1,h2⟩
end
def mn (k:IntKind) (n:Nat):Ty (List Int) where
 agg:=true
 n:=n
 rep _ _ cs xs:=xs.length=n/\cs=xs.map (Value.int k)
 tr _ h:=h
 len h:=by rw[h.2,List.length_map];exact h.1
 one h u hu:=by
  rw[h.2] at hu
  obtain⟨x,_,rfl⟩:=List.mem_map.1 hu
  rfl
 i_ h:=by cases h
section
variable {S:bL} {α β γ:Type}
def fZ (T:Ty α) (f:α->List (LV S)):Prop:= ∀(A:Pl) (O:List Nat) (w:World) (x:α) (cs:List Value),T.rep O w cs x->bT A O w (f x) cs
theorem gA {k:IntKind}:fZ (S:=S) (Ty.int k) λx=>[.v (.int k x)]:=λA O w x cs h=>by subst h;exact⟨_,[],rfl,⟨rfl,rfl⟩,rfl⟩
theorem WZ:fZ (S:=S) Ty.bool λx=>[.v (.bool x)]:=λA O w x cs h=>by subst h;exact⟨_,[],rfl,⟨rfl,rfl⟩,rfl⟩
theorem alg:fZ (S:=S) Ty.str λx=>[.v (.string x)]:=λA O w x cs h=>by subst h;exact⟨_,[],rfl,⟨rfl,rfl⟩,rfl⟩
theorem iG {t:Nat} (ha:(S.ty t).agg=false):fZ (S:=S) (S.ty t) λx=>[.aP t x]:=λA O w x cs h=>by
 have hl:=(S.ty t).len h
 rw[(S.ty t).i_ ha] at hl
 match cs,hl with
 |[c],_=>exact⟨[c],[],rfl,⟨c,rfl,⟨[c],h,by unfold Ty.mk';rw[ha];rfl⟩,ha⟩,rfl⟩
theorem xF {k:IntKind} {n:Nat}:fZ (S:=S) (mn k n) λx=>[.bR k n x]:=λA O w x cs h=>⟨cs,[],(List.append_nil _).symm,h,rfl⟩
theorem iY {X:Ty α} {Y:Ty β} {f:α->List (LV S)} {g:β->List (LV S)} (hf:fZ X f) (hg:fZ Y g):fZ (Ty.pair X Y) λx=>f x.1++g x.2:=λA O w x cs ⟨c1,c2,h,h1,h2⟩=>by
 subst h;exact XK (hf A O w _ _ h1) (hg A O w _ _ h2)
theorem lj {X:Ty α} {f:α->List (LV S)} {e:β->α} (hf:fZ X f):fZ (X.ji e) λx=>f (e x):=λA O w x cs h=>hf A O w _ _ h
def fJ (T:Ty α) (f:List (LV S)->Option (α×List (LV S))):Prop:= ∀(A:Pl) (O:List Nat) (w:World) (ls:List (LV S)) (x:α) (r:List (LV S)) (cs:List Value),f ls=some (x,r)->bT A O w ls cs-> ∃c1 c2,cs=c1++c2/\T.rep O w c1 x/\bT A O w r c2
def fW (k:IntKind):List (LV S)->Option (Int×List (LV S))
 | .v (.int k' x)::r=>bif sameKind k k' then some (x,r) else none
 |_=>none
def D6:List (LV S)->Option (Bool×List (LV S))
 | .v (.bool x)::r=>some (x,r)
 |_=>none
def L5:List (LV S)->Option (ByteArray×List (LV S))
 | .v (.string x)::r=>some (x,r)
 |_=>none
def l9 (k:IntKind) (n:Nat) (ls:List (LV S)):Option (List Int×List (LV S)):=
 match ls with
 | .bR k' n' x::r=>bif sameKind k k'&&Nat.beq n n' then some (x,r) else none
 |ls=>(match mG (ls.take n) with|some (k',gs)=>bif sameKind k k'&&Nat.beq gs.length n then some (gs,ls.drop n) else none|none=>none)
def gM (t:Nat) (nl:Option (S.El t)):List (LV S)->Option (S.El t×List (LV S))
 | .aP t' x::r=>(match Nat.decEq t' t with| .isTrue p=>some (p▸x,r)| .isFalse _=>none)
 | .v (.slice none 0 0)::r=>(match nl with|some x=>some (x,r)|none=>none)
 |_=>none
def rdPair (f:List (LV S)->Option (α×List (LV S))) (g:List (LV S)->Option (β×List (LV S))) (ls:List (LV S)):Option ((α×β)×List (LV S)):=
 match f ls with|some (a,r)=>(match g r with|some (b,r')=>some ((a,b),r')|none=>none)|none=>none
def jZ (f:List (LV S)->Option (α×List (LV S))) (m:α->β) (ls:List (LV S)):Option (β×List (LV S)):=match f ls with|some (a,r)=>some (m a,r)|none=>none
def cS:Option (α×List (LV S))->Option α
 |some (x,[])=>some x
 |_=>none
theorem gB {k:IntKind}:fJ (S:=S) (Ty.int k) (fW k):=λA O w ls x r cs h hr=>by
 unfold fW at h
 split at h
 ·rename_i k' y r'
  cases hb:sameKind k k'<;>rw[hb] at h
  ·cases h
  ·simp only[cond_true,Option.some.injEq,Prod.mk.injEq] at h
   obtain⟨rfl,rfl⟩:=h
   obtain⟨ys,zs,rfl,⟨h1,_⟩,h2⟩:=hr
   refine⟨ys,zs,rfl,?_,h2⟩
   rw[gC hb];exact h1
 ·cases h
theorem XH:fJ (S:=S) Ty.bool D6:=λA O w ls x r cs h hr=>by
 unfold D6 at h
 split at h
 ·cases h
  obtain⟨ys,zs,rfl,⟨h1,_⟩,h2⟩:=hr
  exact⟨ys,zs,rfl,h1,h2⟩
 ·cases h
theorem ani:fJ (S:=S) Ty.str L5:=λA O w ls x r cs h hr=>by
 unfold L5 at h
 split at h
 ·cases h
  obtain⟨ys,zs,rfl,⟨h1,_⟩,h2⟩:=hr
  exact⟨ys,zs,rfl,h1,h2⟩
 ·cases h
theorem XL {A:Pl} {O:List Nat} {w:World}: ∀ {l1 l2:List (LV S)} {cs:List Value},bT A O w (l1++l2) cs-> ∃c1 c2,cs=c1++c2/\bT A O w l1 c1/\bT A O w l2 c2
 |[],l2,cs,h=>⟨[],cs,rfl,rfl,h⟩
 |l::l1,l2,cs,⟨ys,zs,e,h1,h2⟩=>by
  obtain⟨c1,c2,q,q1,q2⟩:=XL h2
  subst q
  exact⟨ys++c1,c2,by rw[e,List.append_assoc],⟨ys,c1,rfl,h1,q1⟩,q2⟩
theorem U8 {A:Pl} {O:List Nat} {w:World} {k:IntKind}: ∀ {ls:List (LV S)} {gs:List Int} {cs:List Value},mG ls=some (k,gs)->bT A O w ls cs->cs=gs.map (Value.int k)
 |[],gs,cs,h,_=>by simp[mG] at h
 |l::r,gs,cs,h,⟨ys,zs,e,h1,h2⟩=>by
  unfold mG at h
  split at h
  ·rename_i k' x r' heq
   cases heq
   split at h
   ·cases h
    rw[e,show zs=[] from h2,h1.1];rfl
   ·split at h
    ·rename_i k2 xs eE
     cases hb:sameKind k' k2<;>rw[hb] at h
     ·cases h
     ·simp only[cond_true,Option.some.injEq,Prod.mk.injEq] at h
      obtain⟨rfl,rfl⟩:=h
      have:=gC hb
      subst this
      rw[e,h1.1,U8 eE h2];rfl
    ·cases h
  ·cases h
theorem nZ {k:IntKind} {n:Nat}:fJ (S:=S) (mn k n) (l9 k n):=λA O w ls x r cs h hr=>by
 unfold l9 at h
 split at h
 ·rename_i k' n' y r'
  cases hb:(sameKind k k'&&Nat.beq n n')<;>rw[hb] at h
  ·cases h
  ·simp only[cond_true,Option.some.injEq,Prod.mk.injEq] at h
   obtain⟨rfl,rfl⟩:=h
   simp only[Bool.and_eq_true] at hb
   obtain⟨ys,zs,rfl,h1,h2⟩:=hr
   refine⟨ys,zs,rfl,?_,h2⟩
   have e1:=gC hb.1
   have e2:=Nat.eq_of_beq_eq_true hb.2
   subst e1;subst e2
   exact h1
 ·split at h
  ·rename_i k' gs kj
   cases hb:(sameKind k k'&&Nat.beq gs.length n)<;>rw[hb] at h
   ·cases h
   ·simp only[cond_true,Option.some.injEq,Prod.mk.injEq] at h
    obtain⟨rfl,rfl⟩:=h
    simp only[Bool.and_eq_true] at hb
    rw[<-List.take_append_drop n ls] at hr
    obtain⟨c1,c2,e,q1,q2⟩:=XL hr
    have e1:=gC hb.1
    subst e1
    exact⟨c1,c2,e,⟨Nat.eq_of_beq_eq_true hb.2,U8 kj q1⟩,q2⟩
  ·cases h
theorem iI {t:Nat} {nl:Option (S.El t)} (fQ: ∀x,nl=some x-> ∀O w,(S.ty t).rep O w [.slice none 0 0] x):fJ (S:=S) (S.ty t) (gM t nl):=λA O w ls x r cs h hr=>by
 unfold gM at h
 split at h
 ·rename_i t' y r'
  split at h
  ·rename_i p hp
   cases h
   subst p
   obtain⟨ys,zs,rfl,⟨v,rfl,h1,h3⟩,h2⟩:=hr
   exact⟨[v],zs,rfl,ri h3 h1,h2⟩
  ·cases h
 ·split at h
  ·rename_i y
   cases h
   obtain⟨ys,zs,rfl,⟨h1,_⟩,h2⟩:=hr
   exact⟨ys,zs,rfl,by rw[h1];exact fQ _ rfl O w,h2⟩
  ·cases h
 ·cases h
theorem iF {T:Ty α} (O:List Nat) (w:World):(Ty.slice T).rep O w [.slice none 0 0] []:=⟨none,0,rfl,⟨Nat.le_refl _,Nat.zero_le _⟩,λk x hk=>by simp at hk⟩
theorem iZ {X:Ty α} {Y:Ty β} {f:List (LV S)->Option (α×List (LV S))} {g:List (LV S)->Option (β×List (LV S))} (hf:fJ X f) (hg:fJ Y g):fJ (Ty.pair X Y) (rdPair f g):=λA O w ls x r cs h hr=>by
 unfold rdPair at h
 split at h
 ·rename_i a r1 h1
  split at h
  ·rename_i b r2 h2
   cases h
   obtain⟨c1,c2,rfl,p1,p2⟩:=hf A O w ls a r1 cs h1 hr
   obtain⟨c3,c4,rfl,q1,q2⟩:=hg A O w r1 b r c2 h2 p2
   exact⟨c1++c3,c4,(List.append_assoc _ _ _).symm,⟨c1,c3,rfl,p1,q1⟩,q2⟩
  ·cases h
 ·cases h
theorem lq {X:Ty α} {f:List (LV S)->Option (α×List (LV S))} {e:β->α} {m:α->β} (hf:fJ X f) (hm: ∀a,e (m a)=a):fJ (X.ji e) (jZ f m):=λA O w ls x r cs h hr=>by
 unfold jZ at h
 split at h
 ·rename_i a r1 h1
  cases h
  obtain⟨c1,c2,rfl,p1,p2⟩:=hf A O w ls a r cs h1 hr
  exact⟨c1,c2,rfl,by show X.rep O w c1 (e (m a));rw[hm];exact p1,p2⟩
 ·cases h
theorem cX {X:Ty α} {f:List (LV S)->Option (α×List (LV S))} (hf:fJ X f) {A:Pl} {O:List Nat} {w:World} {ls:List (LV S)} {x:α} {cs:List Value} (h:cS (f ls)=some x) (hr:bT A O w ls cs):X.rep O w cs x:=by
 unfold cS at h
 split at h
 ·rename_i y hy
  cases h
  obtain⟨c1,c2,rfl,p1,p2⟩:=hf A O w ls x [] cs hy hr
  rw[show c2=[] from p2,List.append_nil]
  exact p1
 ·cases h
end
theorem RN: ∀(xs ys:List Int),xs.length=ys.length->((List.range xs.length).all λi=>xs.getD i 0==ys.getD i 0)=(xs==ys)
 |[],[],_=>rfl
 |x::xs,y::ys,h=>by
  have ih:=RN xs ys (by simpa using h)
  rw[List.length_cons,List.range_succ_eq_map,List.all_cons,List.all_map]
  simp only[List.getD_cons_zero,Function.comp_def,List.getD_cons_succ,ih]
  simp[List.cons_beq_cons]
 |[],_::_,h=>by simp at h
 |_::_,[],h=>by simp at h
section
variable {P:Program} (w:World)
theorem X7 (d:Nat) (t e:TypeId) (n:Nat) (k k':IntKind) (ht:P.underlying t=some (.array n e)) (he:P.underlying e=some (.int k')) (bt: ∀w,(sizeOf e).run P w= .ok 1 w)
  (xs ys:List Int) (hx:xs.length=n) (hy:ys.length=n):
  (Op.equalIn (d+2) t (.agg (xs.map (Value.int k)).toArray) (.agg (ys.map (Value.int k)).toArray)).run P w= .ok (xs==ys) w:=by
 rw[<-RN xs ys (hx.trans hy.symm),hx,List.range_eq_range',Op.equalIn]
 simp only[Sem.run_bind,run_underlying ht,Result.andThen_ok,bt,Std.Legacy.Range.forIn_eq_forIn_range',Std.Legacy.Range.size,Nat.sub_zero,Nat.add_sub_cancel,Nat.div_one]
 have hl: ∀i∈List.range' 0 n 1,i<n:=λi hi=>by simpa using(List.mem_range'_1.1 hi).2
 generalize List.range' 0 n 1=l at hl ⊢
 induction l with
 |nil=>simp
 |cons i l ih=>
  have hi:i<n:=hl i (by simp)
  have px:(part e (xs.map (Value.int k)).toArray (i*1)).run P w= .ok (.int k (xs.getD i 0)) w:=by
   simp[part,isAgg,run_underlying he,List.getD,List.getElem?_eq_getElem (show i<xs.length by omega)]
  have py:(part e (ys.map (Value.int k)).toArray (i*1)).run P w= .ok (.int k (ys.getD i 0)) w:=by
   simp[part,isAgg,run_underlying he,List.getD,List.getElem?_eq_getElem (show i<ys.length by omega)]
  have pe:(Op.equalIn (d+1) e (.int k (xs.getD i 0)) (.int k (ys.getD i 0))).run P w= .ok (xs.getD i 0==ys.getD i 0) w:=run_equalIn_int w d e k k' _ _ he
  simp only[List.forIn_cons,Sem.run_bind,px,py,pe,Result.andThen_ok,List.all_cons]
  cases hb:(xs.getD i 0==ys.getD i 0)
  ·simp
  ·simp only[Bool.not_true,Bool.false_eq_true,if_false,Sem.run_pure,Result.andThen_ok,Bool.true_and]
   exact ih λj hj=>hl j (by simp[hj])
theorem Yb (t e:TypeId) (n:Nat) (k k':IntKind) (ht:P.underlying t=some (.array n e)) (he:P.underlying e=some (.int k')) (bt: ∀w,(sizeOf e).run P w= .ok 1 w) (hg:P.eqGuardType P.depth t=false)
  (xs ys:List Int) (hx:xs.length=n) (hy:ys.length=n) (ox oy:Operand):
  (do eqGuard .eql t ox oy (.agg (xs.map (Value.int k)).toArray) (.agg (ys.map (Value.int k)).toArray);binOp .eql t (.agg (xs.map (Value.int k)).toArray) (.agg (ys.map (Value.int k)).toArray):Sem Value).run P w= .ok (.bool (xs==ys)) w/\
  (do eqGuard .neq t ox oy (.agg (xs.map (Value.int k)).toArray) (.agg (ys.map (Value.int k)).toArray);binOp .neq t (.agg (xs.map (Value.int k)).toArray) (.agg (ys.map (Value.int k)).toArray):Sem Value).run P w= .ok (.bool (!(xs==ys))) w:=by
 constructor
 ·simp only[Sem.run_bind]
  rw[run_eqGuard_agg w .eql t ox oy _ _ hg]
  simp only[Result.andThen_ok]
  rw[run_eql_struct,show(10000:Nat)=9998+2 from rfl,X7 w 9998 t e n k k' ht he bt xs ys hx hy]
  rfl
 ·simp only[Sem.run_bind]
  rw[run_eqGuard_agg w .neq t ox oy _ _ hg]
  simp only[Result.andThen_ok]
  rw[run_neq_struct,show(10000:Nat)=9998+2 from rfl,X7 w 9998 t e n k k' ht he bt xs ys hx hy]
  rfl
end
section
variable {S:bL} {K:bQ S} {P:Program} {A:Pl} {O:List Nat} {w w1 w2:World} {g:Nat->Option (Ob S)}
theorem cM.two {i j:Nat} {X Y:Ob S} (hg:cC A O w g) (dp:i≠j) (h1:cM A O w g [(i,some X)] A O w1) (h2:cM A O w1 (cK g [(i,some X)]) [(j,some Y)] A O w2) (hO:OB O w):cM A O w g [(i,some X),(j,some Y)] A O w2:=by
 have sK:=hg.cO hO h1
 have TT:cK g [(i,some X)] i=some X:=by simp[cK]
 have pq: ∀ {k:Nat} {Z:Option (Ob S)},(k,Z)∈[(i,some X),(j,some Y)]->(k=i/\Z=some X)\/(k=j/\Z=some Y):=by
  intro k Z h
  simp only[List.mem_cons,Prod.mk.injEq,List.not_mem_nil,or_false] at h
  exact h
 have one: ∀ {k l:Nat} {Z W:Option (Ob S)},(k,Z)∈[(l,W)]->k=l/\Z=W:=by
  intro k l Z W h
  simpa using h
 obtain⟨p,hp,hXp,T6⟩:=h1.al i X (by simp)
 obtain⟨q,hq,hYq,hbq⟩:=h2.al j Y (by simp)
 obtain⟨Z,hZ⟩:=h2.lv j (some Y) q (by simp) hq
 have hX2:ig A O w2 X p:=hXp.keep h2.tr (Pl.le.refl A) λb hb=>h2.keep b (T6 b hb).1 λk V r hk hr sR=>by
  obtain⟨rfl,rfl⟩:=one hk
  exact sK.dj i k X Z p r b dp TT hZ hp hr hb sR
 have hY0: ∃Z,g j=some Z:=by
  have:cK g [(i,some X)] j=g j:=gP λV hV=>dp (one hV).1.symm
  rw[this] at hZ
  exact⟨Z,hZ⟩
 obtain⟨Z0,hZ0⟩:=hY0
 refine⟨Pl.le.refl A,h1.tr.trans h2.tr,h2.ob,λb hb hn=>?_,λk V hk=>?_,λk l V W r s b iT hk hl hr hs sR=>?_,λk V W hk hl=>?_,λk V r hk hr=>?_,λ_=> .inl rfl⟩
 ·obtain⟨a1,a2⟩:=h1.keep b hb λk V r hk hr=>hn k V r (by obtain⟨rfl,rfl⟩:=one hk;simp) hr
  obtain⟨b1,b2⟩:=h2.keep b a2 λk V r hk hr=>hn k V r (by obtain⟨rfl,rfl⟩:=one hk;simp) hr
  exact⟨b1.trans a1,b2⟩
 ·rcases pq hk with⟨rfl,e⟩|⟨rfl,e⟩
  ·cases e
   exact⟨p,hp,hX2,λb hb=>⟨(T6 b hb).1,.inr ⟨k,some X,p,by simp,hp,hb⟩⟩⟩
  ·cases e
   exact⟨q,hq,hYq,λb hb=>⟨(hbq b hb).1,.inr ⟨k,some Y,q,by simp,hq,hb⟩⟩⟩
 ·have key: ∀b,cq p=some b->cq q≠some b:=λb h3 h4=>sK.dj i j X Z p q b dp TT hZ hp hq h3 h4
  rcases pq hk with⟨rfl,e⟩|⟨rfl,e⟩
  ·rcases pq hl with⟨rfl,e'⟩|⟨rfl,e'⟩
   ·exact absurd rfl iT
   ·rw[hp] at hr;cases hr
    rw[hq] at hs;cases hs
    exact key b sR
  ·rcases pq hl with⟨rfl,e'⟩|⟨rfl,e'⟩
   ·rw[hq] at hr;cases hr
    rw[hp] at hs;cases hs
    exact λh=>key b h sR
   ·exact absurd rfl iT
 ·rcases pq hk with⟨rfl,rfl⟩|⟨rfl,rfl⟩
  ·rcases pq hl with⟨e,rfl⟩|⟨e,rfl⟩
   ·rfl
   ·exact absurd e dp
  ·rcases pq hl with⟨e,rfl⟩|⟨e,rfl⟩
   ·exact absurd e.symm dp
   ·rfl
 ·rcases pq hk with⟨rfl,rfl⟩|⟨rfl,rfl⟩
  ·exact h1.lv k (some X) r (by simp) hr
  ·exact⟨Z0,hZ0⟩
theorem BW {i b t:Nat} {Z:Ob S} {cs:List (LV S)} {vs:List Value} (hg:cC A O w g) (hO:OB O w) (hi:g i=some Z) (hp:A.pl i=some (.pointer (some ⟨b,0,none⟩))) (hF:Fr [b] w w1) (hB:b9 w1 b t vs) (hr:bT A O w1 cs vs):cM A O w g [(i,some (.box t cs))] A O w1:=by
 obtain⟨p,dx,_,hb⟩:=hg.al i Z hi
 rw[hp] at dx;cases dx
 exact se hO (hb b rfl) hi hp rfl hF ⟨b,vs,rfl,hB,hr⟩
theorem xE {i t:Nat} {cs:List (LV S)} (hg:cC A O w g) (hi:g i=some (.box t cs)): ∃b vs,A.pl i=some (.pointer (some ⟨b,0,none⟩))/\b9 w b t vs/\bT A O w cs vs/\b∈O:=by
 obtain⟨p,hp,⟨b,vs,rfl,h1,h2⟩,hb⟩:=hg.al i _ hi
 exact⟨b,vs,hp,h1,h2,hb b rfl⟩
theorem XO: ∀ {ls:List (LV S)} {vs:List Value},bT A O w ls vs-> ∀u∈vs,u.oneCell'=true
 |[],vs,h,u,hu=>by rw[show vs=[] from h] at hu;cases hu
 |l::ls,vs,⟨ys,zs,e,h1,h2⟩,u,hu=>by
  subst e
  rcases List.mem_append.1 hu with h|h
  ·exact h1.one u h
  ·exact XO h2 u h
theorem XQ: ∀ {vs:List Value},(∀u∈vs,u.oneCell'=true)->bT (S:=S) A O w (vs.map .v) vs
 |[],_=>rfl
 |v::vs,h=>⟨[v],vs,rfl,⟨rfl,h v (by simp)⟩,XQ λu hu=>h u (by simp[hu])⟩
end
section
variable {S:bL} {R:Type}
noncomputable def vR (p:Prop) (x:Option R):Option R:=open Classical in if p then x else none
theorem Tv {p:Prop} {x:Option R} {z:R} (h:vR p x=some z):p/\x=some z:=by
 unfold vR at h
 split at h
 ·exact⟨by assumption,h⟩
 ·cases h
noncomputable def gd {α:Type} (a:α) (x:Option R):Option R:=vR (a=a) x
theorem aiz {α:Type} (a:α) (x:Option R):gd a x=x:=by unfold gd vR;simp
def bE:Option (LV S)->Option Int
 |some (.v (.int _ x))=>some x
 |_=>none
def oJ:Option (LV S)->Option Bool
 |some (.v (.bool x))=>some x
 |_=>none
def nf:Option (LV S)->Option ByteArray
 |some (.v (.string x))=>some x
 |_=>none
def fN:Option (LV S)->Option (List Int)
 |some (.bR _ _ x)=>some x
 |_=>none
def bb (t:Nat):Option (LV S)->Option (S.El t)
 |some (.aP t' x)=>(match Nat.decEq t' t with| .isTrue p=>some (p▸x)| .isFalse _=>none)
 |_=>none
def aS (st:AS S) (s n:Nat):Option (LV S):=match aW.get st.env s with
 |some (.s (.one l))=>some l
 |some (.s (.agg ls))=>ls[n]?
 |_=>none
def aZ (st:AS S) (j n:Nat):Option (LV S):=match aJ st.h j with
 |some (.box _ cs)=>cs[n]?
 |_=>none
def db (st:AS S) (j e:Nat):Option (List (S.El e)):=match aJ st.h j with
 |some (.row e' xs)=>(match Nat.decEq e' e with| .isTrue p=>some (qc p xs)| .isFalse _=>none)
 |_=>none
def ku (st:AS S) (j:Nat):Option (List (Int×Int)):=match aJ st.h j with
 |some (.map _ _ m)=>some m
 |_=>none
def lpL (st:AS S) (s n:Nat):Option (LV S):=match st.lp with
 |some lf=>(match aW.get lf.env s with
  |some (.s (.one l))=>some l
  |some (.s (.agg ls))=>ls[n]?
  |_=>none)
 |none=>none
def dU (st:AS S) (j g:Nat):Option Unit:=match aJ st.h j with
 |some (.bM g' _ _)=>bif Nat.beq g' g then some () else none
 |_=>none
def jB (st:AS S) (m n:Nat):Option Unit:=match st.lp with
 |some lf=>bif Nat.beq lf.J.fn.ntmps m&&Nat.beq (eK lf.body) n then some () else none
 |none=>none
def vk (c:AS S->Option Unit) (a b:bo S):bo S:=⟨a.id,λst k=>match c st with|some _=>a.out st k|none=>b.out st k⟩
end
def aU (fn:Func):Code:=match fn.body with|some c=>c|none=> .skip
def pK:Code->List (Code×Code)
 | .rangeFunc _ _ x y=>[(x,y)]
 | .loop x=>pK x
 | .seq x y=>pK x++pK y
 | .cond _ x y=>pK x++pK y
 | .block _ x=>pK x
 | .scope x=>pK x
 |_=>[]
def XU (c:Code) (id:Nat):Code×Code:=match(pK c).filter (λx=>Nat.beq (eK x.2) id) with|[x]=>x|_=>(.skip,.skip)
def gk (c:Code) (id:Nat):Code:=(XU c id).1
def gl (c:Code) (id:Nat):Code:=(XU c id).2
theorem Vg {S:bL} {l:List (bo S)} {n:Nat} (h:(match jr l n with|some _=>false|none=>true)=true):jr l n=none:=by
 cases hf:jr l n with
 |none=>rfl
 |some c=>rw[hf] at h;cases h
section
variable {S:bL} {P:Program} {R:Type}
def DP (K:bQ S) (ts:List Nat) (k:Rs S->Option R):Rs S->Option R
 | .bN u=>k (.bN u)
 | .ret (.s a)=>(match ts with|[t]=>(match D4 K t a with|some x=>k (.ret (.s (K.aa t x)))|none=>none)|_=>none)
 | .ret (.aY aqJ)=>(match xN K ts aqJ with|some xs=>k (.ret (.aY (pB K xs)))|none=>none)
theorem W9 {K:bQ S} (hK:cI K P) {f:Nat} {aqJ:List (aE S)} {ts:List Nat} {k:Rs S->Option R} {r:Rs S} {z:R} (h:DP K ts k r=some z) (hr:fY K P f aqJ r): ∃r',k r'=some z/\fY K P f aqJ r':=by
 cases r with
 |bN u=>exact⟨_,h,hr⟩
 |ret av=>
  cases av with
  |s a=>
   simp only[DP] at h
   split at h
   ·split at h
    ·rename_i x hx
     refine⟨_,h,hr.1,λA O w xs hv hO hG=>(hr.2 A O w xs hv hO hG).mono ?_⟩
     rintro e w' ⟨⟨v,h1,h2⟩,hF⟩
     exact⟨⟨v,h1,Xz hK hx h2⟩,hF⟩
    ·cases h
   ·cases h
  |aY bs=>
   simp only[DP] at h
   split at h
   ·rename_i jl hx
    refine⟨_,h,hr.1,λA O w xs hv hO hG=>(hr.2 A O w xs hv hO hG).mono ?_⟩
    rintro e w' ⟨⟨v,h1,ys,h2,h3⟩,hF⟩
    exact⟨⟨v,h1,ys,h2,D5 hK hx h3⟩,hF⟩
   ·cases h
def bD (K:bQ S) (ts:List Nat) (k:Rs S->Option R) (r:Rs S) (h:AH S) (dt:List Nat):Option R:=DQ K (DP K ts k) r h dt
theorem bG {G:az S} (hG:aF G P) {f:Nat} {ts rs:List Nat} {spec: {R:Type}->lE S ts->(Rs S->Option R)->Option R}
  (h: ∀ {R:Type} (xs:lE S ts) (k:Rs S->Option R) (z:R),spec xs k=some z-> ∃n,bu G n f (pB G.K xs) [] (bD G.K rs k)=some z) {aqJ:List (aE S)} {k:Rs S->Option R} {z:R} (hz:(bw G.K f ts spec).out aqJ k=some z): ∃r,k r=some z/\fY G.K P f aqJ r:=by
 simp only[bw] at hz
 split at hz
 rotate_left
 ·cases hz
 rename_i xs eE
 cases hp:(pB G.K xs).all aE.pure<;>rw[hp] at hz
 ·cases hz
 simp only[cond_true] at hz
 obtain⟨n,hn⟩:=h xs k z hz
 obtain⟨r,h',dt,h1,h2⟩:=RG hG hn
 obtain⟨r',h3,h4⟩:=fY.WS hG.K hp h2 h1
 obtain⟨Xp,h5,h6,h7⟩:=W9 hG.K h3 h4
 exact⟨Xp,h5,h6,λA O w vs hv hO vY=>h7 A O w vs (D5 hG.K eE hv) hO vY⟩
end
section
variable {S:bL} {P:Program} {G:az S} {I:ep S} {x:Code} {R:Type}
def xw (G:az S) (n:Nat) (I:ep S) (x:Code) (k:AX->AS S->Option R):AX->AS S->Option R:=λe bm=>match e with| .normal=>cT G n I (.loop x) (gc (I.L (eK x)) bm) k|e=>k e bm
theorem Lg (hc:jr I.lc (eK x)=none) {n:Nat} {st:AS S} {k:AX->AS S->Option R}:cT G (n+1) I (.loop x) st k=cT G n I x st (xw G n I x k):=by
 show(match jr I.lc (eK x) with|some lc=>lc.out st k|none=>_)=_
 rw[hc]
 rfl
theorem akB {i n:Nat} (h:i<n):decide ((i:Int)<(n:Int))=true:=by simp;exact h
theorem akA {n:Nat}:decide ((n:Int)<(n:Int))=false:=by simp
theorem KE {α:Type} {l:List α} {i:Nat} {z:α} (h:l[i]? =some z):idx l (i:Int)=some z:=by
 unfold idx
 rw[if_pos (Int.natCast_nonneg i),Int.toNat_natCast,h]
theorem aC.alt {K:bQ S} {J:pQ} {c:AS S->Option Unit} {a b:bo S} (ha:aC K P J x a) (hb:aC K P J x b):aC K P J x (vk c a b):=by
 intro R st k z h
 simp only[vk] at h
 split at h
 ·exact ha st k z h
 ·exact hb st k z h
theorem cH {α:Type} {T:Ty α} {A:Pl} {O:List Nat} {w:World} {N:Nat} {C:dz} {K:bQ S} {st:AS S} {a:Act} {sl t:Nat} {d:S.El t} (hr:bA K P N C A O w st a) (hs:aW.get st.env sl=some (.s (.one (.aP t d)))) {l:List α} (hd: ∀v,(S.ty t).is O w v d->T.slice.is O w v l):l.length<=maxLen:=by
 obtain⟨x,h1,h2,_⟩:=hr.env sl _ hs
 cases h1
 obtain⟨_,_,_,h3,h4⟩:=fm (hd _ h2)
 omega
theorem XM {A:Pl} {O:List Nat} {w:World}: ∀ {ls:List (LV S)} {xs:List Value} {n:Nat} {l:LV S},bT A O w ls xs->ls[n]? =some l-> ∃ys,l.rel A O w ys
 |[],_,n,l,_,h=>by simp at h
 |a::ls,_,0,l,⟨ys,_,_,h1,_⟩,h=>by
  have h:a=l:=by simpa using h
  subst h
  exact⟨ys,h1⟩
 |a::ls,_,n+1,l,⟨_,_,_,_,h2⟩,h=>XM h2 (by simpa using h)
theorem Ld {α:Type} {T:Ty α} {A:Pl} {O:List Nat} {w:World} {N:Nat} {C:dz} {K:bQ S} {st:AS S} {a:Act} {j tb n t:Nat} {cs:List (LV S)} {d:S.El t} (hr:bA K P N C A O w st a) (hs:aJ st.h j=some (.box tb cs)) (hn:cs[n]? =some (.aP t d)) {l:List α} (hd: ∀v,(S.ty t).is O w v d->T.slice.is O w v l):l.length<=maxLen:=by
 obtain⟨p,_,⟨b,vs,_,_,hL⟩,_⟩:=hr.rel.al j _ hs
 obtain⟨ys,x,_,h2,_⟩:=XM hL hn
 obtain⟨_,_,_,h3,h4⟩:=fm (hd _ h2)
 omega
theorem qV {e j:Nat} {xs:List (S.El e)} {A:Pl} {O:List Nat} {w:World} {N:Nat} {C:dz} {K:bQ S} {st:AS S} {a:Act} (hr:bA K P N C A O w st a) (hs:aJ st.h j=some (.row e xs)):xs.length<=maxLen:=by
 obtain⟨p,_,h2,_⟩:=hr.rel.al j _ hs
 obtain⟨_,_,_,h3,h4⟩:=Dc.Own.form h2
 omega
end
end Go.Vx
end
section
namespace Go.Vx
open Go.RowKit Go.Dc
inductive T (X:Type):Type 1
 |no
 |ok (x:X)
 |bf (c:Bool) (a b:T X)
 |bd {α:Type} (o:Option α) (f:α->T X)
 |cs {α β:Type} (x:α ⊕ β) (f:α->T X) (g:β->T X)
 |gd {α:Type} (a:α) (t:T X)
namespace T
variable {X R:Type}
noncomputable def run (t:T X) (k:X->Option R):Option R:=
 T.rec none (λx=>k x) (λc _ _ a b=>bif c then a else b) (λo _ f=>o.bind f) (λx _ _ f g=>Sum.rec f g x) (λa _ r=>Go.Vx.gd a r) t
noncomputable def val (t:T X):Option X:=
 T.rec none (λx=>some x) (λc _ _ a b=>bif c then a else b) (λo _ f=>o.bind f) (λx _ _ f g=>Sum.rec f g x) (λ_ _ r=>r) t
@[simp] theorem aqG:(T.no:T X).val=none:=rfl
@[simp] theorem bO (x:X):(T.ok x).val=some x:=rfl
@[simp] theorem bZ (c:Bool) (a b:T X):(T.bf c a b).val=bif c then a.val else b.val:=rfl
@[simp] theorem b8 {α:Type} (o:Option α) (f:α->T X):(T.bd o f).val=o.bind λy=>(f y).val:=rfl
@[simp] theorem fH {α β:Type} (x:α ⊕ β) (f:α->T X) (g:β->T X):(T.cs x f g).val=match x with| .inl a=>(f a).val| .inr b=>(g b).val:=by cases x<;>rfl
@[simp] theorem de {α:Type} (a:α) (t:T X):(T.gd a t).val=t.val:=rfl
theorem xX (t:T X) (k:X->Option R):t.run k=t.val.bind k:=by
 induction t with
 |no=>rfl
 |ok x=>rfl
 |bf c a b ha hb=>cases c<;>assumption
 |bd o f h=>
  cases o with
  |none=>rfl
  |some y=>exact h y
 |cs x f g hf hg=>
  cases x with
  |inl a=>exact hf a
  |inr b=>exact hg b
 |gd a t h=>rw[de,<-h];exact aiz a (t.run k)
end T
def hpS {S:bL} (st:AS S) (j:Nat):Option ByteArray:=match aJ st.h j with
 |some (.dy s _)=>some s
 |_=>none
def UF {S:bL} (st:AS S) (j:Nat):Option Nat:=match aJ st.h j with
 |some (.dy _ n)=>some n
 |_=>none
structure Sh where
 s:(α:Type)->α->α
theorem Zh: ∃f:Sh,f=⟨λ_ a=>a⟩:=⟨_,rfl⟩
noncomputable def shut:Sh:=Classical.choose Zh
abbrev aq:Sh:=⟨λ_ a=>a⟩
theorem tH:shut=aq:=Classical.choose_spec Zh
theorem bH {X R:Type} {t:T X} {kf:X->Option R} {z:R} (h:(shut.s _ t.val).bind kf=some z):t.run kf=some z:=by
 rw[tH] at h
 rw[T.xX]
 exact h
def dO {α σ X:Type} (step:Int->α->σ->Option (σ ⊕ X)) (fin:Int->σ->Option X):Nat->List α->σ->Option X
 |i,[],a=>fin i a
 |i,z::r,a=>(step i z a).bind λy=>match y with| .inl a'=>dO step fin (i+1) r a'| .inr x=>some x
def fu {σ X:Type} (step:σ->Option (σ ⊕ X)):Nat->σ->Option X
 |0,_=>none
 |n+1,a=>(step a).bind λy=>match y with| .inl a'=>fu step n a'| .inr x=>some x
noncomputable def cg (sh:Sh) {α σ X:Type} (S:Int->α->σ->T (σ ⊕ X)) (F:Int->σ->T X) (l:List α) (a:σ):Option X:=sh.s _ (dO (λi z a=>(S i z a).val) (λi a=>(F i a).val) 0 l a)
noncomputable def cA (sh:Sh) {σ X:Type} (S:σ->T (σ ⊕ X)) (n:Nat) (a:σ):Option X:=sh.s _ (fu (λa=>(S a).val) n a)
theorem anp {α σ X:Type} (S:Int->α->σ->T (σ ⊕ X)) (F:Int->σ->T X) (l:List α) (a:σ):cg shut S F l a=dO (λi z a=>(S i z a).val) (λi a=>(F i a).val) 0 l a:=by unfold cg;rw[tH]
theorem apP {σ X:Type} (S:σ->T (σ ⊕ X)) (n:Nat) (a:σ):cA shut S n a=fu (λa=>(S a).val) n a:=by unfold cA;rw[tH]
section
variable {S:bL} {P:Program} {G:az S} {I:ep S} {x:Code}
noncomputable def bJ {π X:Type} (id:Nat) (ext:AS S->Option π) (s:π->AS S) (L:π->Option X) (out: {R:Type}->(AX->AS S->Option R)->π->X->Option R):bo S:=
 ⟨id,λst k=>(ext st).bind λp=>vR (st=s p) ((L p).bind (out k p))⟩
noncomputable def DF {σ X R:Type} (f:σ->Option R) (g:X->Option R):σ ⊕ X->Option R:=λy=>Sum.rec f g y
theorem MC {α R:Type} {o:Option α} {f:α->Option R} {z:R} (h:o.bind f=some z): ∃y,o=some y/\f y=some z:=bind_some h
theorem XY {π σ X α R:Type} (N:Nat) {k:AX->AS S->Option R} (hc:jr I.lc (eK x)=none) {l:List α} (hm:l.length<=maxLen) {s:Int->σ->AS S} {St:Int->α->σ->T (σ ⊕ X)} {F:Int->σ->T X} {ex:X->Option R}
  (hb: ∀m (i:Int) a,cT G (m+N) I x (s i a) (xw G (m+N) I x k)=bif decide (i<(l.length:Int)) then(idx l i).bind λz=>(St i z a).run (DF (λa'=>cT G (m+N) I (.loop x) (s (IntKind.i64.wrap (i+1)) a') k) ex) else(F i a).run ex):
  ∀(r pre:List α) (a:σ),l=pre++r->cT G (r.length+N+1) I (.loop x) (s (pre.length:Int) a) k=(dO (λi z a=>(St i z a).val) (λi a=>(F i a).val) pre.length r a).bind ex
 |[],pre,a,h=>by
  rw[List.append_nil] at h
  subst h
  rw[Lg hc,hb,akA,cond_false,T.xX]
  rfl
 |z::r,pre,a,h=>by
  have hz:l[pre.length]? =some z:=by rw[h];simp
  have aH:pre.length<l.length:=by rw[h];simp
  rw[Lg hc,hb,akB aH,cond_true,KE hz,Option.bind_some,T.xX]
  show _=(((St (pre.length:Int) z a).val).bind λy=>match y with| .inl a'=>dO _ _ (pre.length+1) r a'| .inr x=>some x).bind ex
  cases (St (pre.length:Int) z a).val with
  |none=>rfl
  |some y=>
   cases y with
   |inr x=>rfl
   |inl a'=>
    show cT G (r.length+1+N) I (.loop x) (s (IntKind.i64.wrap ((pre.length:Int)+1)) a') k=(dO _ _ (pre.length+1) r a').bind ex
    rw[rC aH hm]
    have ih:=XY (π:=π) N hc hm hb r (pre++[z]) a' (by rw[h];simp)
    rw[show(pre++[z]).length=pre.length+1 by simp] at ih
    rw[<-ih,show r.length+1+N=r.length+N+1 by omega]
theorem aC.ck {π σ X α:Type} (hG:aF G P) {id:Nat} {ext:AS S->Option π} {L:π->Option X} {out: {R:Type}->(AX->AS S->Option R)->π->X->Option R}
  (hL:au G.K P I (.loop x)) (hc:(match jr I.lc (eK x) with|some _=>false|none=>true)=true) (N:Nat) (s:π->Int->σ->AS S) (l:π->List α) (a0:π->σ) {St:π->Int->α->σ->T (σ ⊕ X)} {F:π->Int->σ->T X}
  (hd: ∀p,L p=cg shut (St p) (F p) (l p) (a0 p))
  (hb: ∀ {R:Type} m (p:π) (i:Int) a (k:AX->AS S->Option R),cT G (m+N) I x (s p i a) (xw G (m+N) I x k)=bif decide (i<((l p).length:Int)) then(idx (l p) i).bind λz=>(St p i z a).run (DF (λa'=>cT G (m+N) I (.loop x) (s p (IntKind.i64.wrap (i+1)) a') k) (out k p)) else(F p i a).run (out k p))
  (hex: ∀(p:π) (x:X),∃e bm,∀ {R:Type} (k:AX->AS S->Option R),out k p x=k e bm)
  (hB: ∀(p:π) (N:Nat) (C:dz) (A:Pl) (O:List Nat) (w:World) (a:Act),bA G.K P N C A O w (s p 0 (a0 p)) a->(l p).length<=maxLen):
  aC G.K P I.topQ x (bJ id ext (λp=>s p 0 (a0 p)) L out):=by
 intro R st k z hz
 obtain⟨p,_,h1⟩:=MC hz
 clear hz
 obtain⟨h2,hz⟩:=Tv h1
 clear h1
 subst h2
 by_cases hm:(l p).length<=maxLen
 ·rw[hd,anp] at hz
  have h:=(XY (π:=π) N (Vg hc) hm (λm i a=>hb m p i a k) (l p) [] (a0 p) rfl).trans hz
  exact GU hG _ I (.loop x) (s p 0 (a0 p)) k z hL h
 ·obtain⟨y,_,hy⟩:=MC hz
  obtain⟨e,bm,he⟩:=hex p y
  exact⟨e,bm,(he k).symm.trans hy,λC A O w a hr=>absurd (hB p _ C A O w a hr) hm⟩
theorem ZT {σ X R:Type} (N:Nat) {k:AX->AS S->Option R} (hc:jr I.lc (eK x)=none) {s:σ->AS S} {St:σ->T (σ ⊕ X)} {ex:X->Option R}
  (hb: ∀m a,cT G (m+N) I x (s a) (xw G (m+N) I x k)=(St a).run (DF (λa'=>cT G (m+N) I (.loop x) (s a') k) ex)):
  ∀(n:Nat) (a:σ) {z:R},(fu (λa=>(St a).val) n a).bind ex=some z->cT G (n+N) I (.loop x) (s a) k=some z
 |0,a,z,h=>by cases h
 |n+1,a,z,h=>by
  rw[show n+1+N=n+N+1 by omega,Lg hc,hb,T.xX]
  change (((St a).val).bind λy=>match y with| .inl a'=>fu _ n a'| .inr x=>some x).bind ex=some z at h
  revert h
  cases (St a).val with
  |none=>intro h;cases h
  |some y=>
   cases y with
   |inr x=>intro h;exact h
   |inl a'=>intro h;exact ZT N hc hb n a' h
theorem aC.cA {π σ X:Type} (hG:aF G P) {id:Nat} {ext:AS S->Option π} {L:π->Option X} {out: {R:Type}->(AX->AS S->Option R)->π->X->Option R}
  (hL:au G.K P I (.loop x)) (hc:(match jr I.lc (eK x) with|some _=>false|none=>true)=true) (N:Nat) (s:π->σ->AS S) (a0:π->σ) {St:π->σ->T (σ ⊕ X)} (n:π->Nat)
  (hd: ∀p,L p=Vx.cA shut (St p) (n p) (a0 p))
  (hb: ∀ {R:Type} m (p:π) a (k:AX->AS S->Option R),cT G (m+N) I x (s p a) (xw G (m+N) I x k)=(St p a).run (DF (λa'=>cT G (m+N) I (.loop x) (s p a') k) (out k p))):
  aC G.K P I.topQ x (bJ id ext (λp=>s p (a0 p)) L out):=by
 intro R st k z hz
 obtain⟨p,_,h1⟩:=MC hz
 clear hz
 obtain⟨h2,hz⟩:=Tv h1
 clear h1
 subst h2
 rw[hd,apP] at hz
 exact GU hG _ I (.loop x) (s p (a0 p)) k z hL (ZT N (Vg hc) (λm a=>hb m p a k) (n p) (a0 p) hz)
end
end Go.Vx
end
section
namespace Go.Vx
open Go.RowKit Go.Dc
section
variable {α σ X:Type}
theorem tD {step:Int->α->σ->Option (σ ⊕ X)} {fin:Int->σ->Option X} {i:Nat} {z:α} {r:List α} {a:σ}:dO step fin i (z::r) a=(step i z a).bind λy=>match y with| .inl a'=>dO step fin (i+1) r a'| .inr x=>some x:=rfl
theorem xU {step:Int->α->Unit->Option (Unit ⊕ X)} {fin:Int->Unit->Option X} {p:α->Bool} {e:α->X}:
  ∀ {l:List α} {i:Nat},(∀i z,z∈l->step i z ()=bif p z then some (.inr (e z)) else some (.inl ()))->dO step fin i l ()=match l.find? p with|some z=>some (e z)|none=>fin ((i+l.length:Nat):Int) ()
 |[],i,_=>by simp[dO]
 |z::r,i,h=>by
  rw[tD,h _ z List.mem_cons_self,List.find?_cons]
  cases hp:p z with
  |true=>rfl
  |false=>
   simp only[cond_false,Option.bind_some]
   rw[xU λi z hz=>h i z (List.mem_cons_of_mem _ hz)]
   cases r.find? p with
   |some _=>rfl
   |none=>simp only[List.length_cons];rw[show i+1+r.length=i+(r.length+1) by omega]
def allI (q:Nat->α->Bool):Nat->List α->Bool
 |_,[]=>true
 |i,z::r=>q i z&&allI q (i+1) r
theorem BD {q:Nat->α->Bool}: ∀ {l:List α} {i:Nat},allI q i l=true↔ ∀k z,l[k]? =some z->q (i+k) z=true
 |[],i=>by simp[allI]
 |z::r,i=>by
  simp only[allI,Bool.and_eq_true]
  rw[BD]
  constructor
  ·rintro ⟨h1,h2⟩ k y hk
   cases k with
   |zero=>simp at hk;subst hk;exact h1
   |succ k=>rw[show i+(k+1)=i+1+k by omega];exact h2 k y (by simpa using hk)
  ·intro h
   refine⟨h 0 z rfl,λk y hk=>?_⟩
   rw[show i+1+k=i+(k+1) by omega]
   exact h (k+1) y (by simpa using hk)
theorem XW {step:Int->α->Unit->Option (Unit ⊕ X)} {fin:Int->Unit->Option X} {q:Nat->α->Bool} {x:X} {l:List α} (h: ∀(i:Nat) z,l[i]? =some z->step i z ()=bif q i z then some (.inl ()) else some (.inr x)):
  ∀(r pre:List α),l=pre++r->dO step fin pre.length r ()=bif allI q pre.length r then fin (l.length:Int) () else some x
 |[],pre,e=>by
  rw[List.append_nil] at e
  subst e
  rfl
 |z::r,pre,e=>by
  rw[tD,h pre.length z (by rw[e];simp)]
  unfold allI
  cases q pre.length z with
  |false=>rfl
  |true=>
   simp only[cond_true,Option.bind_some,Bool.true_and]
   have:=XW (fin:=fin) h r (pre++[z]) (by rw[e];simp)
   rw[show(pre++[z]).length=pre.length+1 by simp] at this
   exact this
theorem lz {step:Int->α->Unit->Option (Unit ⊕ X)} {fin:Int->Unit->Option X} {q:Nat->α->Bool} {x:X} {l:List α} (h: ∀(i:Nat) z,l[i]? =some z->step i z ()=bif q i z then some (.inl ()) else some (.inr x)):
 dO step fin 0 l ()=bif allI q 0 l then fin (l.length:Int) () else some x:=XW h l [] rfl
theorem rj {step:Int->α->σ->Option (σ ⊕ X)} {fin:Int->σ->Option X} {g:σ->α->σ}: ∀ {l:List α} {i:Nat} {a:σ},(∀i z a,z∈l->step i z a=some (.inl (g a z)))->dO step fin i l a=fin ((i+l.length:Nat):Int) (l.foldl g a)
 |[],i,a,_=>by simp[dO]
 |z::r,i,a,h=>by
  rw[tD,h _ z _ List.mem_cons_self]
  show dO step fin (i+1) r (g a z)=_
  rw[rj λi z a hz=>h i z a (List.mem_cons_of_mem _ hz),List.length_cons,List.foldl_cons,show i+1+r.length=i+(r.length+1) by omega]
theorem MW {step:Int->Option (Int ⊕ X)} {q:Nat->Bool} {x:Nat->X} {y:X} {N:Nat} (h: ∀a:Nat,a<N->step (a:Int)=bif q a then some (.inl ((a+1:Nat):Int)) else some (.inr (x a))) (hN:step (N:Int)=some (.inr y)):
  ∀ {k n a:Nat},a+k=N->k<n->fu step n (a:Int)=some (match(List.range' a k).find? (λb=>!q b) with|some b=>x b|none=>y)
 |0,n+1,a,e,_=>by
  obtain rfl:a=N:=by omega
  unfold fu
  rw[hN]
  rfl
 |k+1,n+1,a,e,hn=>by
  unfold fu
  rw[h a (by omega),List.range'_succ,List.find?_cons]
  cases q a with
  |false=>rfl
  |true=>
   simp only[cond_true,Option.bind_some,Bool.not_true]
   exact MW h hN (by omega) (by omega)
theorem S3 {p:α->Bool} {l:List α}:(l.find? p).isSome=l.any p:=by rw[Bool.eq_iff_iff,List.find?_isSome,List.any_eq_true]
end
end Go.Vx
end
