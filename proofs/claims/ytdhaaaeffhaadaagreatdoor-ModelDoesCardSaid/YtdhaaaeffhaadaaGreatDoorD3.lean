/- A part of the proof that ModelDoes returns true for every input: the machine of values, its soundness, the program as plain functions, the law. Conditions: those of the given rows. -/
import Derived.Test.YtdhaaaeffhaadaaGreatDoorD2
import Derived.Test.YtdhaaaeffhaadaaGreatDoorProg
import Derived.Lib.Bytealg
import Derived.Shelf.Strings.OnBuilder
set_option linter.unusedVariables false
set_option linter.unusedSimpArgs false
noncomputable section
set_option maxRecDepth 1000000
set_option maxHeartbeats 12000000
open Array renaming getElem?_eq_some_iff→ι,length_toList→ο
open Bool renaming and_eq_true→ξo
open ByteArray renaming mk→μ,empty→φ
open Go.BinOp renaming and→ζa
open Go.Builtin renaming zeroCells→ξH
open Go.Exit renaming thenS→ξG
open Go.Instr renaming typeAssert→ξf
open Go.IntKind renaming i64→δ,u64→ζ,u8→ξ2,wrap_i64→ξg
open Go.Lib renaming indexByte→ξ0,join→ζk
open Go.Next renaming value→ξk
open Go.Op renaming equalIn→ξj
open Go.Program renaming fieldsOf→ξ8
open Go.Proofs.Lays renaming n156→ζi
open Go.Proofs.Tryz renaming prog→γ,f89→θ,f127→τ,func127→ω,f97→ξh,func97→ξl,underlying3→ξn,func251→ξp,func107→ξq,f131→ξs,f232→ξt,f193→ξu,f46→ξB,f221→ξC,f73→ξD,func221→ξI,f68→ξJ,func35→ξK,func36→ξL,func37→ξM,func38→ξN,func39→ξO,results251→ξP,results107→ξQ,f254→ξT,func73→ξU,f257→ξV,ntmps251→ξY,ntmps107→ξZ,f9→ζ2,func245→ζ3,func212→ζ4,func231→ζ6,func240→ζ7,func256→ζ8,func126→ζ9,func254→ζb,f217→ζc,func217→ζd,f219→ζe,func257→ζf,f184→ζg,func18→ζh,func68→ζj,f49→ζl,f11→ζm
open Go.Result renaming andThen_ok→ξF
open Go.Sem renaming run_bind→ξ5
open Go.Utf8 renaming decode→ε
open Go.Value renaming slice→ξc,int→ξe,oneCell'→ξx,cells→ξy
open List renaming length_append→η,length_drop→ξ,replicate→υ,append_assoc→ψ,eq_nil_of_length_eq_zero→ξ1,drop_eq_nil_of_le→ξ3,append_nil→ξ4,length_take→ξ9,take_left'→ξb,mem_append_right→ξd,getElem?_set→ξi,not_mem_nil→ξm,mem_append→ξr,mem_append_left→ξv,mem_of_mem_drop→ξw,mem_cons→ξz,getElem?_take→ξA,drop→ξR,drop_zero→ξW,take_take→ξX
open Nat renaming eq_of_beq_eq_true→κ,le_refl→ν,beq→ρ,add_mul→ξ6,mul_le_mul_right→ξ7,zero_add→ξa,toUInt8→ξS,reduceMul→ζ0,le_trans→ζ5
open Option renaming map_some→χ
open Option.some renaming injEq→ξE
open Sum renaming elim→ζ1
section
namespace Go.Vx
open Go.RowKit Go.Dc
section
variable {S:bh} {K:bp S} {P:Program} {N:Nat} {B:cP} {A A':Pl} {O:Γ} {w:World} {st:AS S} {a:Act}
def eb (j c e:Nat) (st:AS S):AS S:=match aM st.h j with
 |some (.box t cs)=>(match cs[c]? with
  |some (.v (.slice none 0 0))=> {st with h:=st.h.set j (some (.box t (cs.set c (.own st.h.length))))++[some (.row e [])]}
  |_=>st)
 |_=>st
theorem SL {n:Nat} (e:A.le A') (hn:A'.pl n=some (.slice none 0 0)): ∀ {ls:List (LV S)} {xs:Γb} {c:Nat},bz A O w ls xs->ls[c]? =some (.v (.slice none 0 0))->bz A' O w (ls.set c (.own n)) xs
 |[],_,c,_,h=>by simp at h
 |l::ls,xs,0,⟨ys,zs,a,b,d⟩,h=>by
  have h:l= .v (.slice none 0 0):=by simpa using h
  subst h;exact⟨ys,zs,a,⟨_,hn,b.1,rfl⟩,k7 (Tr.refl O w) e d⟩
 |l::ls,xs,c+1,⟨ys,zs,a,b,d⟩,h=>⟨ys,zs,a,b.tr (Tr.refl O w) e,SL e hn d (by simpa using h)⟩
theorem bn.eb (j c e:Nat) (h:bn K P N B A O w st a): ∃A',bn K P N B A' O w (Vx.eb j c e st) a:=by
 unfold Vx.eb;split
 rotate_left
 .exact⟨A,h⟩
 rename_i t cs o;split
 rotate_left
 .exact⟨A,h⟩
 rename_i F;have R:=fk o;obtain⟨A',n⟩: ∃A',A'=A.put st.h.length (.slice none 0 0):=⟨_,rfl⟩;have H:=h.free st.h.length (ν _);have hle:A.le A':=by rw[n];exact Pl.mg H
 have u:A'.pl st.h.length=some (.slice none 0 0):=by rw[n];exact Pl.gz _ _ _
 have k: ∀i,i≠st.h.length->A'.pl i=A.pl i:=λi hi=>by rw[n];exact Pl.oc (λe=>hi e.symm)
 have hlen:(st.h.set j (some (.box t (cs.set c (.own st.h.length))))).length=st.h.length:=List.length_set;have r: ∀ {i:Nat} {X:Ob S},aM (st.h.set j (some (.box t (cs.set c (.own st.h.length))))++[some (.row e [])]) i=some X->(i=st.h.length/\X= .row e [])\/(i=j/\X= .box t (cs.set c (.own st.h.length)))\/(i≠j/\aM st.h i=some X):=by
  intro i X hi;rcases j2 hi with d|⟨d,g⟩
  .right;rw[ji,ξi] at d;split at d
   .rename_i he;simp only[ξE] at d;exact .inl ⟨he.symm,d.symm⟩
   .rename_i he;exact .inr ⟨λx=>he x.symm,ji.2 d⟩
  .exact .inl ⟨d.trans hlen,g⟩
 have hold: ∀ {i:Nat} {X:Ob S} {p:Value} {b:Nat},aM (st.h.set j (some (.box t (cs.set c (.own st.h.length))))++[some (.row e [])]) i=some X->A'.pl i=some p->cI w X p b-> ∃Y,aM st.h i=some Y/\A.pl i=some p/\cI w Y p b:=by
  intro i X p b hi hp f;rcases r hi with⟨rfl,rfl⟩|⟨rfl,rfl⟩|⟨_,d⟩
  .rw[u] at hp;cases hp;rcases f with f|f<;>cases f
  .exact⟨_,o,by rw[<-k i (by omega)];exact hp,.inl (fZ rfl f)⟩
  .have:=fk d;exact⟨_,d,by rw[<-k i (by omega)];exact hp,f⟩
 refine⟨A',h.size,h.env.tr (Tr.refl O w) hle,⟨?_,?_⟩,h.ob,h.dc,?_,h.nb,?_,h.tr,?_,by rw[n];exact h.ls,?_,?_,?_,h.lp,h.dl,h.hi,h.o0,h.rr,?_⟩
 .intro i X hi;rcases r hi with⟨rfl,rfl⟩|⟨rfl,rfl⟩|⟨v,d⟩
  .exact⟨_,u,Own.f',λb f=>by cases f⟩
  .obtain⟨p,hp,⟨b,vs,g,l,s⟩,f⟩:=h.rel.al i _ o;exact⟨p,by rw[k i (by omega)];exact hp,⟨b,vs,g,l,SL hle u s F⟩,f⟩
  .obtain⟨p,hp,hR,f⟩:=h.rel.al i X d;have:=fk d;exact⟨p,by rw[k i (by omega)];exact hp,hR.keep (Tr.refl O w) hle λb m=>⟨rfl,h.rel.hU d hp m⟩,f⟩
 .intro i Q X Y p q b v hi I hp J m L;obtain⟨y,d,g,C⟩:=hold hi hp m;obtain⟨z,l,s,E⟩:=hold I J L;exact h.rel.fW i Q y z p q b v d l g s C E
 .intro i hi;simp at hi;rw[k i (by omega)];exact h.free i (by omega)
 .show B.nb<=(st.h.set j _++[_]).length;have:=h.le;simp;omega
 .intro i hi;have:=h.le;rw[k i (by omega)];exact h.pl i hi
 .intro i X hi hX;have:=h.le;rcases r hX with⟨rfl,_⟩|⟨rfl,_⟩|⟨_,d⟩
  .omega
  .exact h.lv i _ hi o
  .exact h.lv i X hi d
 .intro b f M G;obtain⟨c1,c2,c3⟩:=h.cl b f M G;refine⟨c1,c2,λi X p hi hX hp m=>?_⟩;obtain⟨Y,d,g,l⟩:=hold hX hp m;exact c3 i Y p hi d g l
 .exact c'.rO hle.at_ (λD hD=>hD) h.df
 .intro i X hi hX;rcases r hX with⟨rfl,rfl⟩|⟨rfl,rfl⟩|⟨_,d⟩
  .rfl
  .rfl
  .exact h.nt i X hi d
def gn (l:Γ) (st:AS S):AS S:= {st with dt:=l++st.dt}
theorem bn.gn (l:Γ) (h:bn K P N B A O w st a):bn K P N B A O w (Vx.gn l st) a:=
 ⟨h.size,h.env,h.rel,h.ob,h.dc,h.free,h.nb,h.le,h.tr,h.pl,h.ls,h.lv,λb c e d=>h.cl b c e λi hi=>d i (ξd _ hi),h.df,h.lp,h.dl,h.hi,h.o0,h.rr,h.nt⟩
theorem bn.seen {j:Nat} {X e:Ob S} (h:bn K P N B A O w st a) (l:aM st.h j=some X) (hR: ∀p,dD A O w X p->dD A O w e p) (hn:e.nt=true:=by rfl):bn K P N B A O w {st with h:=st.h.set j (some e)} a:=by
 have E:=fk l;have m: ∀ {i:Nat} {Y:Ob S},aM (st.h.set j (some e)) i=some Y->(i=j/\Y=e)\/(i≠j/\aM st.h i=some Y):=by
  intro i Y hi;rw[ji,ξi] at hi;split at hi
  .rename_i he;simp only[ξE] at hi;exact .inl ⟨he.symm,hi.symm⟩
  .rename_i he;exact .inr ⟨λx=>he x.symm,ji.2 hi⟩
 have hold: ∀ {i:Nat} {Y:Ob S},aM (st.h.set j (some e)) i=some Y-> ∃Z,aM st.h i=some Z/\ ∀p b,cI w Y p b->cI w Z p b:=by
  intro i Y hi;rcases m hi with⟨rfl,rfl⟩|⟨_,c⟩
  .exact⟨_,l,λp b d=>.inl (fZ hn d)⟩
  .exact⟨_,c,λp b d=>d⟩
 refine⟨h.size,h.env,⟨?_,?_⟩,h.ob,h.dc,?_,h.nb,?_,h.tr,h.pl,h.ls,?_,?_,h.df,h.lp,h.dl,h.hi,h.o0,h.rr,?_⟩
 .intro i Y hi;rcases m hi with⟨rfl,rfl⟩|⟨_,c⟩
  .obtain⟨p,hp,g,d⟩:=h.rel.al i _ l;exact⟨p,hp,hR p g,d⟩
  .exact h.rel.al i Y c
 .intro i D Y Z p q b v hi u hp y n z;obtain⟨o,c,k⟩:=hold hi;obtain⟨r,g,s⟩:=hold u;exact h.rel.fW i D o r p q b v c g hp y (k p b n) (s q b z)
 .intro i hi;exact h.free i (by simpa using hi)
 .show B.nb<=(st.h.set j _).length;have:=h.le;simp;omega
 .intro i Y hi f;obtain⟨Z,c,_⟩:=hold f;exact h.lv i Z hi c
 .intro b d C t;obtain⟨c1,c2,c3⟩:=h.cl b d C t;refine⟨c1,c2,λi Y p hi f hp n=>?_⟩;obtain⟨Z,c,k⟩:=hold f;exact c3 i Z p hi c hp (k p b n)
 .intro i Y hi f;rcases m f with⟨rfl,rfl⟩|⟨_,c⟩
  .exact hn
  .exact h.nt i Y hi c
def FA (cs:List (LV S)):List (LV S):=match na cs with
 |some bs=>[.c7 bs.length bs]
 |none=>(match jc cs with|some (k,gs)=>[.br k gs.length gs]|none=>cs)
theorem aaL {cs:List (LV S)} {xs:Γb} (h:bz A O w cs xs):bz A O w (FA cs) xs:=by
 unfold FA;split
 .rename_i bs a;exact⟨xs,[],by simp,⟨rfl,FE a h⟩,rfl⟩
 .split
  .rename_i k gs b;exact⟨xs,[],by simp,⟨rfl,HX b h⟩,rfl⟩
  .exact h
def kA (j:Nat) (st:AS S):AS S:=match aM st.h j with
 |some (.box t cs)=> {st with h:=st.h.set j (some (.box t (FA cs)))}
 |_=>st
theorem bn.kA (j:Nat) (h:bn K P N B A O w st a):bn K P N B A O w (Vx.kA j st) a:=by
 unfold Vx.kA;split
 .rename_i t cs f;refine h.seen f ?_;rintro p ⟨b,vs,c,d,e⟩;exact⟨b,vs,c,d,aaL e⟩
 .exact h
def N4:Option (LV S)->Option (List Bool)
 |some (.c7 _ x)=>some x
 |_=>none
def hs (pre:AS S->AS S) (lc:a7 S):a7 S:=⟨lc.id,λst k=>lc.out (pre st) k⟩
def b5 (K:bp S) (P:Program) (pre:AS S->AS S):Prop:= ∀ {N:Nat} {B:cP} {A:Pl} {O:Γ} {w:World} {st:AS S} {a:Act},bn K P N B A O w st a-> ∃A',bn K P N B A' O w (pre st) a
theorem b5.gc (sl:Γ):b5 K P (Vx.gc sl):=λh=>h.gc
theorem b5.eb (j c e:Nat):b5 K P (Vx.eb j c e):=λh=>h.eb j c e
theorem b5.gn (l:Γ):b5 K P (Vx.gn l):=λh=>⟨_,h.gn l⟩
theorem b5.kA (j:Nat):b5 K P (Vx.kA j):=λh=>⟨_,h.kA j⟩
theorem b5.comp {f g:AS S->AS S} (b:b5 K P f) (c:b5 K P g):b5 K P (λst=>f (g st)):=λh=>
 let⟨_,a⟩:=c h
 b a
theorem aW.pre {J:lq} {x:Code} {lc:a7 S} {pre:AS S->AS S} (hp:b5 K P pre) (h:aW K P J x lc):aW K P J x (hs pre lc):=by
 intro R st k z g;obtain⟨e,i,b,c⟩:=h (pre st) k z g;refine⟨e,i,b,λC A O w a d=>?_⟩;obtain⟨A',f⟩:=hp d;exact c C A' O w a f
end
section
variable {S:bh} {K:bp S} {P:Program}
def qX (K:bp S) (f e:Nat) (ins:List (S.El e)->Int->List (S.El e)->Option (List (S.El e))):e0 S:=⟨f,λajF h k=>match ajF with
 |[.one (.own r),.one (.v (.int .i64 j)),.one (.own a)]=>bif ρ r a then none else(match dU K (aM h) e (.own r),dU K (aM h) e (.own a) with
  |some xs,some ys=>(ins xs j ys).bind λzs=>k (.ret (.s (.one (.own h.length)))) ((h.set r none).set a none++[some (.row e zs)]) [r,a]
  |_,_=>none)
 |_=>none⟩
theorem F9 {g:Nat->Option (Ob S)} {e r:Nat} {xs:List (S.El e)} (h:dU K g e (.own r)=some xs):g r=some (.row e xs):=by
 simp only[dU] at h;split at h
 .rename_i b ys a;split at h
  .rename_i p _;subst p;cases h;exact a
  .cases h
 .cases h
theorem IL {h:AH S} {r i:Nat} {X:Ob S} (hi:aM (h.set r none) i=some X):i≠r/\aM h i=some X:=by
 rw[ji] at hi;rw[ξi] at hi;split at hi
 .split at hi<;>simp at hi
 .rename_i a;exact⟨λe=>a e.symm,ji.2 hi⟩
theorem HU (aN:b9 K P) {f e:Nat} {ins:List (S.El e)->Int->List (S.El e)->Option (List (S.El e))} (aP:et P f)
  (aK: ∀(O:Γ) (w:World) (v u:Value) (xs ys zs:List (S.El e)) (j:Int),OB O w->0<w.heap.size->Dc.Own (S.ty e) e 1 O w v xs->(S.ty e).slice.is O w u ys->Plain w u->ins xs j ys=some zs->Calls P f #[v,.int .i64 j,u] w (eR (S.ty e) e 1 O w v zs))
  {R:Type} (ajF:List (aE S)) (h:AH S) (k:Rs S->AH S->Γ->Option R) (z:R) (B:(qX K f e ins).out ajF h k=some z): ∃r h' dt,k r h' dt=some z/\eu K P f ajF h r h' dt:=by
 simp only[qX] at B;split at B
 rotate_left
 .cases B
 rename_i r j n;cases H:ρ r n<;>rw[H] at B
 rotate_left
 .cases B
 simp only[cond_false] at B;split at B
 rotate_left
 .cases B
 rename_i xs ys a_ aD;obtain⟨zs,a',aR⟩:=bind_some B;have H:r≠n:=λe=>by subst e;rw[Nat.beq_refl] at H;cases H
 have I:=F9 a_;have V:=F9 aD;refine⟨_,_,_,aR,aP,λA O w vs aj s F aL ak au=>?_⟩;obtain⟨v,_,rfl,a7,v1,_,rfl,⟨a1,_⟩,u,rest,rfl,aB,aX⟩:=aj;rw[show rest=[] from aX];obtain rfl:v1= .int .i64 j:=by simpa using a1
 have ad:=jK aN s aD aB;obtain⟨_,J,a8,_⟩:=a7;cases a8;obtain⟨_,W,aZ,_⟩:=aB;cases aZ;obtain⟨v0,aC,ag,aO⟩:=s.al r _ I;rw[J] at aC;cases aC;obtain⟨bd,aA,aV,bb⟩:=s.al n _ V;rw[W] at aA;cases aA;obtain⟨O1,N⟩: ∃O1,O1=ej A [n] O:=⟨_,rfl⟩;have ad:(S.ty e).slice.is O1 w u ys:=by rw[N];exact ad
 have ai:Dc.Sub O1 O:=by rw[N];exact fM
 have a6: ∀g,b2 v=some g->g∈O1:=by
  intro g Q;rw[N,je];refine⟨aO g Q,λab ah p hp=>?_⟩;have:ab=n:=by simpa using ah
  subst this;exact s.dj r ab _ _ v p g H I V J hp Q
 have aW:Dc.Own (S.ty e) e 1 O1 w v xs:=by
  have ag:Dc.Own (S.ty e) e 1 O w v xs:=ag;obtain⟨cs,d,m⟩:=ag.ex;exact⟨⟨cs,d,m.tr (Tr.less ai)⟩,λg Q=>a6 g (ig Q)⟩
 refine(aK O1 w v u xs ys zs j (λb a=>F b (ai b a)) aL.1 aW ad (Dc.Own.plain aV) a').mono ?_;rintro ba w' ⟨t,E,rfl,x⟩;obtain⟨A',M⟩: ∃A':Pl,A'=⟨λi=>bif ρ i h.length then some t else A.pl i,A.ls⟩:=⟨_,rfl⟩;have G: ∀i,i≠h.length->A'.pl i=A.pl i:=λi hi=>by
  rw[M];have:ρ i h.length=false:=by
   cases a:ρ i h.length with
   |false=>rfl
   |true=>exact absurd (κ a) hi
  simp only[this,cond_false]
 have L:A'.pl h.length=some t:=by rw[M];simp
 have hle:A.le A':=⟨λi p hp=>by
  rw[G i (λe=>by subst e;rw[ak _ (ν _)] at hp;cases hp)];exact hp,by rw[M]⟩
 have y: ∀b,b2 v≠some b->v.ownBlock≠some b:=λb a aj=>a (ig aj);have ay: ∀b,b<w.heap.size->b2 v≠some b->w'.heap[b]? =w.heap[b]? :=λb a hn=>x.fr b a (y b hn);have aq: ∀b,b∈O->b2 u≠some b->b∈E:=λb a hn=>x.sub b (by
  rw[N,je];refine⟨a,λab ah p hp=>?_⟩;have:ab=n:=by simpa using ah
  subst this;rw[W] at hp;cases hp;exact hn)
 have az:Tr O w E w':=(Tr.less ai).trans x.tr;have an: ∀b,b2 t=some b->t.ownBlock=some b/\b∈E:=by
  intro b a;have y:t.ownBlock=some b:=by
   rcases h1 x.own with⟨C,_⟩|⟨aF,c,C⟩
   .rw[C] at a;cases a
   .rw[C] at a ⊢;cases a;rfl
  exact⟨y,x.own.mem b y⟩
 have af: ∀b,b<w.heap.size->b2 v≠some b->b2 t≠some b:=λb a hn h'=>x.ne b a (y b hn) (an b h').1;have aU:t.oneCell'=true:=by
  rcases h1 x.own with⟨C,_⟩|⟨aF,c,C⟩<;>rw[C]<;>rfl
 have hlen:((h.set r none).set n none).length=h.length:=by simp
 have D: ∀ {i:Nat} {X:Ob S},aM ((h.set r none).set n none++[some (.row e zs)]) i=some X->(i≠r/\i≠n/\aM h i=some X)\/(i=h.length/\X= .row e zs):=by
  intro i X hi;rcases j2 hi with d|⟨d,m⟩
  .obtain⟨o,aH⟩:=IL d;obtain⟨aI,aJ⟩:=IL aH;exact .inl ⟨aI,o,aJ⟩
  .exact .inr ⟨d.trans hlen,m⟩
 have av: ∀i X,aM ((h.set r none).set n none++[some (.row e zs)]) i=some X->X.nt=true:=λi X hi=>by
  rcases D hi with⟨_,_,d⟩|⟨_,rfl⟩
  .exact au i X d
  .rfl
 refine⟨A',E,⟨t,rfl,⟨t,L,rfl,aU⟩⟩,⟨bS.xO av ?_ ?_,x.ob,az,λi hi=>G i (by omega),(λj U=>?_),by rw[M],by simp,?_,?_,λi X _=>av i X⟩⟩
 .intro i X hi;rcases D hi with⟨T,aQ,d⟩|⟨rfl,rfl⟩
  .obtain⟨p,hp,hR,a⟩:=s.al i X d;have aS:=fk d;have ar: ∀b,b2 p=some b->b∈E:=λb l=>aq b (a b l) (λaY=>s.dj i n _ _ p u b aQ d V hp W l aY);exact⟨p,by rw[G i (by omega)];exact hp,hR.keep az hle λb l=>have l:=fZ (au i X d) l;⟨ay b (F b (a b l)) (λy=>s.dj i r _ _ p v b T d I hp J l y),ar b l⟩,ar⟩
  .exact⟨t,L,x.own,λb a=>(an b a).2⟩
 .intro i j X Y p q b ao hi U hp Z l aa;have dA: ∀ {i:Nat} {X:Ob S} {p:Value},i≠r->aM h i=some X->A'.pl i=some p->b2 p=some b->b<w.heap.size/\A.pl i=some p/\b2 v≠some b:=by
   intro i X p aG d m o;have aS:=fk d;rw[G i (by omega)] at m;obtain⟨bc,ax,_,a⟩:=s.al i X d;rw[m] at ax;cases ax;exact⟨F b (a b o),m,λy=>s.dj i r _ _ p v b aG d I m J o y⟩
  rcases D hi with⟨T,_,d⟩|⟨rfl,rfl⟩
  .rcases D U with⟨ae,_,m⟩|⟨rfl,rfl⟩
   .exact s.dj i j X Y p q b ao d m (dA T d hp l).2.1 (dA ae m Z aa).2.1 l aa
   .rw[L] at Z;cases Z;have o:=dA T d hp l;exact af b o.1 o.2.2 aa
  .rcases D U with⟨ae,_,m⟩|⟨rfl,rfl⟩
   .rw[L] at hp;cases hp;have o:=dA ae m Z aa;exact af b o.1 o.2.2 l
   .exact absurd rfl ao
 .have:j=r\/j=n:=by simpa using U
  rcases this with rfl|rfl
  .exact fk I
  .exact fk V
 .intro i hi;simp at hi;rw[G i (by omega)];exact ak i (by omega)
 .intro b a hn;have aw:=hn r (by simp) v J;have aT:=hn n (by simp) u W;refine⟨ay b (F b a) aw,aq b a aT,λi X p hi hX hp l=>?_⟩;rcases D hX with⟨_,_,d⟩|⟨rfl,rfl⟩
  .have:=fk d;omega
  .rw[L] at hp;cases hp;exact af b (F b a) aw (fZ rfl l)
end
end Go.Vx
end
section
namespace Go.Proofs.YtdhaaaeffhaadaaGreatDoor
open Go.Dc
structure ag where
 aa:Int
 aT:Int
 ba:Bool
 bT:Int
 deriving DecidableEq
structure aV where
 az:Γa
 ab:List ag
 deriving DecidableEq
structure ai where
 aa:Int
 bm:Int
 b3:Int
 deriving DecidableEq
structure ax where
 aP:Int
 aS:Int
 deriving DecidableEq
structure a1 where
 ab:List ax
 aL:Int
 deriving DecidableEq
structure av where
 aY:Int
 aa:Int
 deriving DecidableEq
structure aq where
 aa:Int
 a6:Γa
 deriving DecidableEq
structure aC where
 an:List av
 ak:List aq
 deriving DecidableEq
structure aF where
 ar:aV
 aB:List ai
 au:a1
 ao:aC
 deriving DecidableEq
structure bq where
 bb:Int
 fArgs:Γa
 deriving DecidableEq
structure bP where
 jP:Int
 jQ:Int
 deriving DecidableEq
structure jz where
 gK:List ByteArray
 qe:Int
 deriving DecidableEq
def wk:ag:=⟨1,0,false,0⟩
def iU (x y:bP):Bool:=(x.jP==y.jP)&&(x.jQ==y.jQ)
def fL (x y:ag):Bool:=(x.aa==y.aa)&&(x.aT==y.aT)&&(x.ba==y.ba)&&(x.bT==y.bT)
def hP (x y:ai):Bool:=(x.aa==y.aa)&&(x.bm==y.bm)&&(x.b3==y.b3)
def jL (x y:ax):Bool:=(x.aP==y.aP)&&(x.aS==y.aS)
def jM (x y:av):Bool:=(x.aY==y.aY)&&(x.aa==y.aa)
end Go.Proofs.YtdhaaaeffhaadaaGreatDoor
end
section
namespace Go.Proofs.YtdhaaaeffhaadaaGreatDoor
open Go.RowKit Go.Dc Go.Vx
def ra (n:Nat) (v:Value):Array Value:=(υ n v).toArray
def rb (l:Γb) (n:Nat) (v:Value) (r:Γb):Array Value:=(l++(υ n v++r)).toArray
def Θ:cE:=[(2,⟨2,3,0,[],1,8,.int .i64 0⟩),(3,⟨2,3,0,[],1,8,.int .i64 0⟩),(4,⟨1,0,0,[],1,1,.bool false⟩),(5,⟨2,4,0,[],1,1,.int .u8 0⟩),(6,⟨2,4,0,[],1,1,.int .u8 0⟩),(7,⟨8,0,0,[(2,0),(3,1),(4,2),(6,3)],4,24,.agg #[.int .i64 0,.int .i64 0,.bool false,.int .u8 0]⟩),(8,⟨8,0,0,[(2,0),(3,1),(4,2),(6,3)],4,24,.agg #[.int .i64 0,.int .i64 0,.bool false,.int .u8 0]⟩),(9,⟨3,0,0,[],1,16,.string φ⟩),(10,⟨3,0,0,[],1,16,.string φ⟩),(11,⟨3,0,0,[],1,16,.string φ⟩),(12,⟨2,7,0,[],1,8,.int .u64 0⟩),(13,⟨8,0,0,[(9,0),(12,1)],2,24,.agg #[.string φ,.int .u64 0]⟩),(14,⟨8,0,0,[(9,0),(12,1)],2,24,.agg #[.string φ,.int .u64 0]⟩),(15,⟨4,0,310,[],1,8,.pointer none⟩),(16,⟨4,0,313,[],1,8,.pointer none⟩),(17,⟨4,0,321,[],1,8,.pointer none⟩),(18,⟨8,0,0,[(17,0)],1,8,.agg #[.pointer none]⟩),(19,⟨8,0,0,[(17,0)],1,8,.agg #[.pointer none]⟩),(20,⟨10,0,0,[],1,16,.nilIface⟩),(21,⟨2,2,0,[],1,4,.int .i32 0⟩),(22,⟨6,16,3,[],16,128,.agg (ra 16 (.int .i64 0))⟩),(23,⟨5,0,69,[],1,24,.slice none 0 0⟩),(24,⟨8,0,0,[(22,0),(23,16)],17,152,.agg (rb [] 16 (.int .i64 0) [.slice none 0 0])⟩),(25,⟨8,0,0,[(22,0),(23,16)],17,152,.agg (rb [] 16 (.int .i64 0) [.slice none 0 0])⟩),(26,⟨5,0,89,[],1,24,.slice none 0 0⟩),(27,⟨5,0,71,[],1,24,.slice none 0 0⟩),(28,⟨2,7,0,[],1,8,.int .u64 0⟩),(29,⟨8,0,0,[(27,0),(28,1)],2,32,.agg #[.slice none 0 0,.int .u64 0]⟩),(30,⟨8,0,0,[(27,0),(28,1)],2,32,.agg #[.slice none 0 0,.int .u64 0]⟩),(31,⟨5,0,93,[],1,24,.slice none 0 0⟩),(32,⟨5,0,82,[],1,24,.slice none 0 0⟩),(33,⟨8,0,0,[(31,0),(32,1)],2,48,.agg #[.slice none 0 0,.slice none 0 0]⟩),(34,⟨8,0,0,[(31,0),(32,1)],2,48,.agg #[.slice none 0 0,.slice none 0 0]⟩),(35,⟨8,0,0,[(25,0),(26,17),(30,18),(34,20)],22,256,.agg (rb [] 16 (.int .i64 0) [.slice none 0 0,.slice none 0 0,.slice none 0 0,.int .u64 0,.slice none 0 0,.slice none 0 0])⟩),(36,⟨8,0,0,[(25,0),(26,17),(30,18),(34,20)],22,256,.agg (rb [] 16 (.int .i64 0) [.slice none 0 0,.slice none 0 0,.slice none 0 0,.int .u64 0,.slice none 0 0,.slice none 0 0])⟩),(40,⟨2,3,0,[],1,8,.int .i64 0⟩),(43,⟨6,5,3,[],5,40,.agg (ra 5 (.int .i64 0))⟩),(46,⟨5,0,50,[],1,24,.slice none 0 0⟩),(48,⟨6,4,28,[],4,32,.agg (rb [] 4 (.int .u64 0) [])⟩),(49,⟨8,0,0,[(28,0),(48,1)],5,40,.agg (ra 5 (.int .u64 0))⟩),(50,⟨8,0,0,[(28,0),(48,1)],5,40,.agg (ra 5 (.int .u64 0))⟩),(51,⟨5,0,53,[],1,24,.slice none 0 0⟩),(52,⟨8,0,0,[(40,0),(28,1)],2,16,.agg #[.int .i64 0,.int .u64 0]⟩),(53,⟨8,0,0,[(40,0),(28,1)],2,16,.agg #[.int .i64 0,.int .u64 0]⟩),(67,⟨7,28,3,[],1,8,.map none⟩),(68,⟨8,0,0,[(28,0),(28,1),(4,2),(28,3)],4,32,.agg #[.int .u64 0,.int .u64 0,.bool false,.int .u64 0]⟩),(69,⟨8,0,0,[(28,0),(28,1),(4,2),(28,3)],4,32,.agg #[.int .u64 0,.int .u64 0,.bool false,.int .u64 0]⟩),(70,⟨8,0,0,[(28,0),(28,1)],2,16,.agg #[.int .u64 0,.int .u64 0]⟩),(71,⟨8,0,0,[(28,0),(28,1)],2,16,.agg #[.int .u64 0,.int .u64 0]⟩),(76,⟨5,0,28,[],1,24,.slice none 0 0⟩),(78,⟨6,5,28,[],5,40,.agg (ra 5 (.int .u64 0))⟩),(79,⟨2,7,0,[],1,8,.int .u64 0⟩),(81,⟨8,0,0,[(28,0),(76,1)],2,32,.agg #[.int .u64 0,.slice none 0 0]⟩),(82,⟨8,0,0,[(28,0),(76,1)],2,32,.agg #[.int .u64 0,.slice none 0 0]⟩),(83,⟨9,0,0,[],1,8,.nilFunc⟩),(88,⟨8,0,0,[(28,0),(3,1),(28,2)],3,24,.agg #[.int .u64 0,.int .i64 0,.int .u64 0]⟩),(89,⟨8,0,0,[(28,0),(3,1),(28,2)],3,24,.agg #[.int .u64 0,.int .i64 0,.int .u64 0]⟩),(92,⟨8,0,0,[(28,0),(28,1)],2,16,.agg #[.int .u64 0,.int .u64 0]⟩),(93,⟨8,0,0,[(28,0),(28,1)],2,16,.agg #[.int .u64 0,.int .u64 0]⟩),(105,⟨9,0,0,[],1,8,.nilFunc⟩),(107,⟨9,0,0,[],1,8,.nilFunc⟩),(117,⟨9,0,0,[],1,8,.nilFunc⟩),(118,⟨9,0,0,[],1,8,.nilFunc⟩),(120,⟨4,0,36,[],1,8,.pointer none⟩),(124,⟨4,0,128,[],1,8,.pointer none⟩),(127,⟨8,0,0,[(34,0)],2,48,.agg #[.slice none 0 0,.slice none 0 0]⟩),(128,⟨8,0,0,[(34,0)],2,48,.agg #[.slice none 0 0,.slice none 0 0]⟩),(129,⟨9,0,0,[],1,8,.nilFunc⟩),(130,⟨9,0,0,[],1,8,.nilFunc⟩),(138,⟨9,0,0,[],1,8,.nilFunc⟩),(140,⟨4,0,142,[],1,8,.pointer none⟩),(141,⟨8,0,0,[(25,0)],17,152,.agg (rb [] 16 (.int .i64 0) [.slice none 0 0])⟩),(142,⟨8,0,0,[(25,0)],17,152,.agg (rb [] 16 (.int .i64 0) [.slice none 0 0])⟩),(143,⟨4,0,69,[],1,8,.pointer none⟩),(145,⟨9,0,0,[],1,8,.nilFunc⟩),(147,⟨5,0,3,[],1,24,.slice none 0 0⟩),(148,⟨9,0,0,[],1,8,.nilFunc⟩),(149,⟨9,0,0,[],1,8,.nilFunc⟩),(151,⟨9,0,0,[],1,8,.nilFunc⟩),(153,⟨7,28,28,[],1,8,.map none⟩),(160,⟨9,0,0,[],1,8,.nilFunc⟩),(163,⟨4,0,165,[],1,8,.pointer none⟩),(164,⟨8,0,0,[(36,0),(48,22)],26,288,.agg (rb [] 16 (.int .i64 0) [.slice none 0 0,.slice none 0 0,.slice none 0 0,.int .u64 0,.slice none 0 0,.slice none 0 0,.int .u64 0,.int .u64 0,.int .u64 0,.int .u64 0])⟩),(165,⟨8,0,0,[(36,0),(48,22)],26,288,.agg (rb [] 16 (.int .i64 0) [.slice none 0 0,.slice none 0 0,.slice none 0 0,.int .u64 0,.slice none 0 0,.slice none 0 0,.int .u64 0,.int .u64 0,.int .u64 0,.int .u64 0])⟩),(166,⟨9,0,0,[],1,8,.nilFunc⟩),(167,⟨6,15,166,[],15,120,.agg #[.nilFunc,.nilFunc,.nilFunc,.nilFunc,.nilFunc,.nilFunc,.nilFunc,.nilFunc,.nilFunc,.nilFunc,.nilFunc,.nilFunc,.nilFunc,.nilFunc,.nilFunc]⟩),(170,⟨9,0,0,[],1,8,.nilFunc⟩),(174,⟨6,8,5,[],8,8,.agg (ra 8 (.int .u8 0))⟩),(175,⟨5,0,5,[],1,24,.slice none 0 0⟩),(178,⟨9,0,0,[],1,8,.nilFunc⟩),(181,⟨9,0,0,[],1,8,.nilFunc⟩),(185,⟨5,0,9,[],1,24,.slice none 0 0⟩),(186,⟨5,0,9,[],1,24,.slice none 0 0⟩),(187,⟨8,0,0,[(186,0),(28,1)],2,32,.agg #[.slice none 0 0,.int .u64 0]⟩),(188,⟨8,0,0,[(186,0),(28,1)],2,32,.agg #[.slice none 0 0,.int .u64 0]⟩),(220,⟨9,0,0,[],1,8,.nilFunc⟩),(223,⟨9,0,0,[],1,8,.nilFunc⟩),(224,⟨9,0,0,[],1,8,.nilFunc⟩),(244,⟨9,0,0,[],1,8,.nilFunc⟩),(254,⟨9,0,0,[],1,8,.nilFunc⟩),(256,⟨9,0,0,[],1,8,.nilFunc⟩),(261,⟨6,8,4,[],8,8,.agg (ra 8 (.bool false))⟩),(262,⟨9,0,0,[],1,8,.nilFunc⟩),(263,⟨9,0,0,[],1,8,.nilFunc⟩),(266,⟨5,0,4,[],1,24,.slice none 0 0⟩),(270,⟨9,0,0,[],1,8,.nilFunc⟩),(271,⟨9,0,0,[],1,8,.nilFunc⟩),(274,⟨9,0,0,[],1,8,.nilFunc⟩),(276,⟨9,0,0,[],1,8,.nilFunc⟩),(281,⟨4,0,283,[],1,8,.pointer none⟩),(282,⟨8,0,0,[(281,0),(175,1)],2,32,.agg #[.pointer none,.slice none 0 0]⟩),(283,⟨8,0,0,[(281,0),(175,1)],2,32,.agg #[.pointer none,.slice none 0 0]⟩),(285,⟨10,0,0,[],1,16,.nilIface⟩),(286,⟨10,0,0,[],1,16,.nilIface⟩),(295,⟨9,0,0,[],1,8,.nilFunc⟩),(298,⟨4,0,5,[],1,8,.pointer none⟩),(302,⟨0,0,0,[],1,8,.pointer none⟩),(309,⟨8,0,0,[(17,0),(17,1),(17,2),(9,3)],4,40,.agg #[.pointer none,.pointer none,.pointer none,.string φ]⟩),(310,⟨8,0,0,[(17,0),(17,1),(17,2),(9,3)],4,40,.agg #[.pointer none,.pointer none,.pointer none,.string φ]⟩),(311,⟨6,0,16,[],0,0,.agg #[]⟩),(312,⟨8,0,0,[(311,0)],0,0,.agg #[]⟩),(313,⟨8,0,0,[(311,0)],0,0,.agg #[]⟩),(314,⟨2,6,0,[],1,4,.int .u32 0⟩),(315,⟨2,4,0,[],1,1,.int .u8 0⟩),(316,⟨2,4,0,[],1,1,.int .u8 0⟩),(317,⟨9,0,0,[],1,8,.nilFunc⟩),(318,⟨2,2,0,[],1,4,.int .i32 0⟩),(319,⟨2,2,0,[],1,4,.int .i32 0⟩),(320,⟨8,0,0,[(12,0),(12,1),(314,2),(315,3),(5,4),(5,5),(316,6),(317,7),(298,8),(318,9),(319,10)],11,48,.agg #[.int .u64 0,.int .u64 0,.int .u32 0,.int .u8 0,.int .u8 0,.int .u8 0,.int .u8 0,.nilFunc,.pointer none,.int .i32 0,.int .i32 0]⟩),(321,⟨8,0,0,[(12,0),(12,1),(314,2),(315,3),(5,4),(5,5),(316,6),(317,7),(298,8),(318,9),(319,10)],11,48,.agg #[.int .u64 0,.int .u64 0,.int .u32 0,.int .u8 0,.int .u8 0,.int .u8 0,.int .u8 0,.nilFunc,.pointer none,.int .i32 0,.int .i32 0]⟩)]
theorem ah:Θ.ok γ:=by
 repeat (refine⟨⟨by kernel_rfl,by kernel_rfl⟩,?_⟩)
 trivial
theorem mixed:γ.follows .mixedOrders=true:=by kernel_rfl
def eO:Ty ag:=(Ty.pair (Ty.int .u64) (Ty.pair (Ty.int .u64) (Ty.pair Ty.bool (Ty.int .u64)))).ei λd=>(d.aa,d.aT,d.ba,d.bT)
def yH:Ty aV:=(Ty.pair (hb .i64 16) (eH eO)).ei λd=>(d.az,d.ab)
def eY:Ty ai:=(Ty.pair (Ty.int .u64) (Ty.pair (Ty.int .i64) (Ty.int .u64))).ei λd=>(d.aa,d.bm,d.b3)
def fH:Ty ax:=(Ty.pair (Ty.int .u64) (Ty.int .u64)).ei λd=>(d.aP,d.aS)
def yF:Ty a1:=(Ty.pair (eH fH) (Ty.int .u64)).ei λd=>(d.ab,d.aL)
def cY:Ty av:=(Ty.pair (Ty.int .u64) (Ty.int .u64)).ei λd=>(d.aY,d.aa)
def ju:Ty aq:=(Ty.pair (Ty.int .u64) (eH (Ty.int .u64))).ei λd=>(d.aa,d.a6)
def k':Ty aC:=(Ty.pair (eH cY) (eH ju)).ei λd=>(d.an,d.ak)
def gA:Ty aF:=(Ty.pair yH (Ty.pair (eH eY) (Ty.pair yF k'))).ei λd=>(d.ar,d.aB,d.au,d.ao)
def h6:Ty bq:=(Ty.pair (Ty.int .u64) (hb .u64 4)).ei λd=>(d.bb,d.fArgs)
def ov:Ty bP:=(Ty.pair (Ty.int .i64) (Ty.int .u64)).ei λd=>(d.jP,d.jQ)
def JS:Ty jz:=(Ty.pair (eH Ty.str) (Ty.int .u64)).ei λd=>(d.gK,d.qe)
def mE:Ty aV:=(Ty.pair (hb .i64 16) (Ty.slice eO)).ei λd=>(d.az,d.ab)
def mD:Ty a1:=(Ty.pair (Ty.slice fH) (Ty.int .u64)).ei λd=>(d.ab,d.aL)
def eI:Ty aq:=(Ty.pair (Ty.int .u64) (Ty.slice (Ty.int .u64))).ei λd=>(d.aa,d.a6)
def dY:Ty aC:=(Ty.pair (Ty.slice cY) (Ty.slice eI)).ei λd=>(d.an,d.ak)
def en:Ty aF:=(Ty.pair mE (Ty.pair (Ty.slice eY) (Ty.pair mD dY))).ei λd=>(d.ar,d.aB,d.au,d.ao)
def nX:Ty Unit:= {agg:=false,n:=1,rep:=λ_ _ _ _=>False,tr:=λ_ h=>h,len:=λh=>h.elim,one:=λh=>h.elim,e6:=λ_=>rfl}
def rJ (t:Nat):(α:Type)×Ty α:=match t with
 |3=>⟨Int,Ty.int .i64⟩
 |4=>⟨Bool,Ty.bool⟩
 |5=>⟨Int,Ty.int .u8⟩
 |9=>⟨ByteArray,Ty.str⟩
 |21=>⟨Int,Ty.int .i32⟩
 |22=>⟨Γa,hb .i64 16⟩
 |23=>⟨List ag,eH eO⟩
 |25=>⟨aV,yH⟩
 |26=>⟨List ai,eH eY⟩
 |27=>⟨List ax,eH fH⟩
 |28=>⟨Int,Ty.int .u64⟩
 |30=>⟨a1,yF⟩
 |31=>⟨List av,eH cY⟩
 |32=>⟨List aq,eH ju⟩
 |34=>⟨aC,k'⟩
 |36=>⟨aF,gA⟩
 |40=>⟨Int,Ty.int .i64⟩
 |43=>⟨Γa,hb .i64 5⟩
 |46=>⟨List bq,eH h6⟩
 |48=>⟨Γa,hb .u64 4⟩
 |50=>⟨bq,h6⟩
 |51=>⟨List bP,eH ov⟩
 |53=>⟨bP,ov⟩
 |69=>⟨ag,eO⟩
 |71=>⟨ax,fH⟩
 |76=>⟨Γa,eH (Ty.int .u64)⟩
 |82=>⟨aq,ju⟩
 |89=>⟨ai,eY⟩
 |93=>⟨av,cY⟩
 |147=>⟨Γa,eH (Ty.int .i64)⟩
 |185=>⟨List ByteArray,eH Ty.str⟩
 |186=>⟨List ByteArray,eH Ty.str⟩
 |188=>⟨jz,JS⟩
 |1023=>⟨List ag,Ty.slice eO⟩
 |1025=>⟨aV,mE⟩
 |1026=>⟨List ai,Ty.slice eY⟩
 |1027=>⟨List ax,Ty.slice fH⟩
 |1030=>⟨a1,mD⟩
 |1031=>⟨List av,Ty.slice cY⟩
 |1032=>⟨List aq,Ty.slice eI⟩
 |1034=>⟨aC,dY⟩
 |1036=>⟨aF,en⟩
 |1046=>⟨List bq,Ty.slice h6⟩
 |1076=>⟨Γa,Ty.slice (Ty.int .u64)⟩
 |1082=>⟨aq,eI⟩
 |_=>⟨Unit,nX⟩
abbrev SS:bh:=⟨λt=>(rJ t).1,λt=>(rJ t).2⟩
def JK (t:Nat):Option (lC SS t):=match t with
 |23=>some ⟨69,id,id⟩
 |26=>some ⟨89,id,id⟩
 |27=>some ⟨71,id,id⟩
 |31=>some ⟨93,id,id⟩
 |32=>some ⟨82,id,id⟩
 |46=>some ⟨50,id,id⟩
 |51=>some ⟨53,id,id⟩
 |76=>some ⟨28,id,id⟩
 |147=>some ⟨3,id,id⟩
 |185=>some ⟨9,id,id⟩
 |186=>some ⟨9,id,id⟩
 |1023=>some ⟨69,id,id⟩
 |1026=>some ⟨89,id,id⟩
 |1027=>some ⟨71,id,id⟩
 |1031=>some ⟨93,id,id⟩
 |1032=>some ⟨1082,id,id⟩
 |1046=>some ⟨50,id,id⟩
 |1076=>some ⟨28,id,id⟩
 |_=>none
def JB (e:Nat):Option (tM SS e):=match e with
 |69=>some ⟨23,id⟩
 |89=>some ⟨26,id⟩
 |71=>some ⟨27,id⟩
 |93=>some ⟨31,id⟩
 |82=>some ⟨32,id⟩
 |50=>some ⟨46,id⟩
 |53=>some ⟨51,id⟩
 |28=>some ⟨76,id⟩
 |3=>some ⟨147,id⟩
 |9=>some ⟨185,id⟩
 |_=>none
def IT:(t:Nat)->SS.El t->aE SS:=λt=>match t with
 |3=>λx=>.one (.v (.int .i64 x))
 |4=>λx=>.one (.v (.bool x))
 |5=>λx=>.one (.v (.int .u8 x))
 |9=>λx=>.one (.v (.string x))
 |21=>λx=>.one (.v (.int .i32 x))
 |22=>λx=>.agg [.br .i64 16 x]
 |23=>λx=>.one (.aG 23 x)
 |25=>λx=>.agg [.br .i64 16 x.az,.aG 23 x.ab]
 |26=>λx=>.one (.aG 26 x)
 |27=>λx=>.one (.aG 27 x)
 |28=>λx=>.one (.v (.int .u64 x))
 |30=>λx=>.agg [.aG 27 x.ab,.v (.int .u64 x.aL)]
 |31=>λx=>.one (.aG 31 x)
 |32=>λx=>.one (.aG 32 x)
 |34=>λx=>.agg [.aG 31 x.an,.aG 32 x.ak]
 |36=>λx=>.agg [.br .i64 16 x.ar.az,.aG 23 x.ar.ab,.aG 26 x.aB,.aG 27 x.au.ab,.v (.int .u64 x.au.aL),.aG 31 x.ao.an,.aG 32 x.ao.ak]
 |40=>λx=>.one (.v (.int .i64 x))
 |43=>λx=>.agg [.br .i64 5 x]
 |46=>λx=>.one (.aG 46 x)
 |48=>λx=>.agg [.br .u64 4 x]
 |50=>λx=>.agg [.v (.int .u64 x.bb),.br .u64 4 x.fArgs]
 |51=>λx=>.one (.aG 51 x)
 |53=>λx=>.agg [.v (.int .i64 x.jP),.v (.int .u64 x.jQ)]
 |69=>λx=>.agg [.v (.int .u64 x.aa),.v (.int .u64 x.aT),.v (.bool x.ba),.v (.int .u64 x.bT)]
 |71=>λx=>.agg [.v (.int .u64 x.aP),.v (.int .u64 x.aS)]
 |76=>λx=>.one (.aG 76 x)
 |82=>λx=>.agg [.v (.int .u64 x.aa),.aG 76 x.a6]
 |89=>λx=>.agg [.v (.int .u64 x.aa),.v (.int .i64 x.bm),.v (.int .u64 x.b3)]
 |93=>λx=>.agg [.v (.int .u64 x.aY),.v (.int .u64 x.aa)]
 |147=>λx=>.one (.aG 147 x)
 |185=>λx=>.one (.aG 185 x)
 |186=>λx=>.one (.aG 185 x)
 |188=>λx=>.agg [.aG 185 x.gK,.v (.int .u64 x.qe)]
 |1023=>λx=>.one (.aG 1023 x)
 |1025=>λx=>.agg [.br .i64 16 x.az,.aG 1023 x.ab]
 |1026=>λx=>.one (.aG 1026 x)
 |1027=>λx=>.one (.aG 1027 x)
 |1030=>λx=>.agg [.aG 1027 x.ab,.v (.int .u64 x.aL)]
 |1031=>λx=>.one (.aG 1031 x)
 |1032=>λx=>.one (.aG 1032 x)
 |1034=>λx=>.agg [.aG 1031 x.an,.aG 1032 x.ak]
 |1036=>λx=>.agg [.br .i64 16 x.ar.az,.aG 1023 x.ar.ab,.aG 1026 x.aB,.aG 1027 x.au.ab,.v (.int .u64 x.au.aL),.aG 1031 x.ao.an,.aG 1032 x.ao.ak]
 |1046=>λx=>.one (.aG 1046 x)
 |1076=>λx=>.one (.aG 1076 x)
 |1082=>λx=>.agg [.v (.int .u64 x.aa),.aG 1076 x.a6]
 |t=>λx=>.one (.aG t x)
theorem aeh:dK (S:=SS) eO λx=>[.v (.int .u64 x.aa),.v (.int .u64 x.aT),.v (.bool x.ba),.v (.int .u64 x.bT)]:=dV (cN c0 (cN c0 (cN IQ c0)))
def yh:List (LV SS)->Option (ag×List (LV SS)):=fa (rdPair (ec .u64) (rdPair (ec .u64) (rdPair yd (ec .u64)))) (λ(a0,a,a2,a3)=>⟨a0,a,a2,a3⟩)
theorem Jo:dE (S:=SS) eO yh:=fF (ek eE (ek eE (ek Sv eE))) λ_=>rfl
theorem RH:dK (S:=SS) yH λx=>[.br .i64 16 x.az,.aG 23 x.ab]:=dV (cN l9 (cw (S:=SS) (t:=23) rfl))
def Ji:List (LV SS)->Option (aV×List (LV SS)):=fa (rdPair (h2 .i64 16) (c8 (S:=SS) 23 (some ([]:List ag)))) (λ(a0,a)=>⟨a0,a⟩)
theorem Su:dE (S:=SS) yH Ji:=fF (ek jq (di (S:=SS) (t:=23) λx a O w=>by cases a;exact fD O w)) λ_=>rfl
theorem aed:dK (S:=SS) eY λx=>[.v (.int .u64 x.aa),.v (.int .i64 x.bm),.v (.int .u64 x.b3)]:=dV (cN c0 (cN c0 c0))
def ye:List (LV SS)->Option (ai×List (LV SS)):=fa (rdPair (ec .u64) (rdPair (ec .i64) (ec .u64))) (λ(a0,a,a2)=>⟨a0,a,a2⟩)
theorem Jl:dE (S:=SS) eY ye:=fF (ek eE (ek eE eE)) λ_=>rfl
theorem aee:dK (S:=SS) fH λx=>[.v (.int .u64 x.aP),.v (.int .u64 x.aS)]:=dV (cN c0 c0)
def yf:List (LV SS)->Option (ax×List (LV SS)):=fa (rdPair (ec .u64) (ec .u64)) (λ(a0,a)=>⟨a0,a⟩)
theorem Jm:dE (S:=SS) fH yf:=fF (ek eE eE) λ_=>rfl
theorem RG:dK (S:=SS) yF λx=>[.aG 27 x.ab,.v (.int .u64 x.aL)]:=dV (cN (cw (S:=SS) (t:=27) rfl) c0)
def Jh:List (LV SS)->Option (a1×List (LV SS)):=fa (rdPair (c8 (S:=SS) 27 (some ([]:List ax))) (ec .u64)) (λ(a0,a)=>⟨a0,a⟩)
theorem Ss:dE (S:=SS) yF Jh:=fF (ek (di (S:=SS) (t:=27) λx a O w=>by cases a;exact fD O w) eE) λ_=>rfl
theorem aef:dK (S:=SS) cY λx=>[.v (.int .u64 x.aY),.v (.int .u64 x.aa)]:=dV (cN c0 c0)
def yg:List (LV SS)->Option (av×List (LV SS)):=fa (rdPair (ec .u64) (ec .u64)) (λ(a0,a)=>⟨a0,a⟩)
theorem Jn:dE (S:=SS) cY yg:=fF (ek eE eE) λ_=>rfl
theorem aeb:dK (S:=SS) ju λx=>[.v (.int .u64 x.aa),.aG 76 x.a6]:=dV (cN c0 (cw (S:=SS) (t:=76) rfl))
def Sn:List (LV SS)->Option (aq×List (LV SS)):=fa (rdPair (ec .u64) (c8 (S:=SS) 76 (some ([]:Γa)))) (λ(a0,a)=>⟨a0,a⟩)
theorem agZ:dE (S:=SS) ju Sn:=fF (ek eE (di (S:=SS) (t:=76) λx a O w=>by cases a;exact fD O w)) λ_=>rfl
theorem RF:dK (S:=SS) k' λx=>[.aG 31 x.an,.aG 32 x.ak]:=dV (cN (cw (S:=SS) (t:=31) rfl) (cw (S:=SS) (t:=32) rfl))
def Jg:List (LV SS)->Option (aC×List (LV SS)):=fa (rdPair (c8 (S:=SS) 31 (some ([]:List av))) (c8 (S:=SS) 32 (some ([]:List aq)))) (λ(a0,a)=>⟨a0,a⟩)
theorem Sr:dE (S:=SS) k' Jg:=fF (ek (di (S:=SS) (t:=31) λx a O w=>by cases a;exact fD O w) (di (S:=SS) (t:=32) λx a O w=>by cases a;exact fD O w)) λ_=>rfl
theorem aej:dK (S:=SS) gA λx=>[.br .i64 16 x.ar.az,.aG 23 x.ar.ab,.aG 26 x.aB,.aG 27 x.au.ab,.v (.int .u64 x.au.aL),.aG 31 x.ao.an,.aG 32 x.ao.ak]:=dV (cN RH (cN (cw (S:=SS) (t:=26) rfl) (cN RG RF)))
def Sq:List (LV SS)->Option (aF×List (LV SS)):=fa (rdPair Ji (rdPair (c8 (S:=SS) 26 (some ([]:List ai))) (rdPair Jh Jg))) (λ(a0,a,a2,a3)=>⟨a0,a,a2,a3⟩)
theorem ag2:dE (S:=SS) gA Sq:=fF (ek Su (ek (di (S:=SS) (t:=26) λx a O w=>by cases a;exact fD O w) (ek Ss Sr))) λ_=>rfl
theorem aec:dK (S:=SS) h6 λx=>[.v (.int .u64 x.bb),.br .u64 4 x.fArgs]:=dV (cN c0 l9)
def So:List (LV SS)->Option (bq×List (LV SS)):=fa (rdPair (ec .u64) (h2 .u64 4)) (λ(a0,a)=>⟨a0,a⟩)
theorem ag0:dE (S:=SS) h6 So:=fF (ek eE jq) λ_=>rfl
theorem aei:dK (S:=SS) ov λx=>[.v (.int .i64 x.jP),.v (.int .u64 x.jQ)]:=dV (cN c0 c0)
def yi:List (LV SS)->Option (bP×List (LV SS)):=fa (rdPair (ec .i64) (ec .u64)) (λ(a0,a)=>⟨a0,a⟩)
theorem Jp:dE (S:=SS) ov yi:=fF (ek eE eE) λ_=>rfl
theorem aeg:dK (S:=SS) JS λx=>[.aG 185 x.gK,.v (.int .u64 x.qe)]:=dV (cN (cw (S:=SS) (t:=185) rfl) c0)
def Sp:List (LV SS)->Option (jz×List (LV SS)):=fa (rdPair (c8 (S:=SS) 185 (some ([]:List ByteArray))) (ec .u64)) (λ(a0,a)=>⟨a0,a⟩)
theorem ag1:dE (S:=SS) JS Sp:=fF (ek (di (S:=SS) (t:=185) λx a O w=>by cases a;exact fD O w) eE) λ_=>rfl
theorem RK:dK (S:=SS) mE λx=>[.br .i64 16 x.az,.aG 1023 x.ab]:=dV (cN l9 (cw (S:=SS) (t:=1023) rfl))
def Js:List (LV SS)->Option (aV×List (LV SS)):=fa (rdPair (h2 .i64 16) (c8 (S:=SS) 1023 (some ([]:List ag)))) (λ(a0,a)=>⟨a0,a⟩)
theorem Sy:dE (S:=SS) mE Js:=fF (ek jq (di (S:=SS) (t:=1023) λx a O w=>by cases a;exact gQ O w)) λ_=>rfl
theorem RJ:dK (S:=SS) mD λx=>[.aG 1027 x.ab,.v (.int .u64 x.aL)]:=dV (cN (cw (S:=SS) (t:=1027) rfl) c0)
def Jr:List (LV SS)->Option (a1×List (LV SS)):=fa (rdPair (c8 (S:=SS) 1027 (some ([]:List ax))) (ec .u64)) (λ(a0,a)=>⟨a0,a⟩)
theorem Sx:dE (S:=SS) mD Jr:=fF (ek (di (S:=SS) (t:=1027) λx a O w=>by cases a;exact gQ O w) eE) λ_=>rfl
theorem aep:dK (S:=SS) eI λx=>[.v (.int .u64 x.aa),.aG 1076 x.a6]:=dV (cN c0 (cw (S:=SS) (t:=1076) rfl))
def Sz:List (LV SS)->Option (aq×List (LV SS)):=fa (rdPair (ec .u64) (c8 (S:=SS) 1076 (some ([]:Γa)))) (λ(a0,a)=>⟨a0,a⟩)
theorem ag3:dE (S:=SS) eI Sz:=fF (ek eE (di (S:=SS) (t:=1076) λx a O w=>by cases a;exact gQ O w)) λ_=>rfl
theorem RI:dK (S:=SS) dY λx=>[.aG 1031 x.an,.aG 1032 x.ak]:=dV (cN (cw (S:=SS) (t:=1031) rfl) (cw (S:=SS) (t:=1032) rfl))
def Jq:List (LV SS)->Option (aC×List (LV SS)):=fa (rdPair (c8 (S:=SS) 1031 (some ([]:List av))) (c8 (S:=SS) 1032 (some ([]:List aq)))) (λ(a0,a)=>⟨a0,a⟩)
theorem Sw:dE (S:=SS) dY Jq:=fF (ek (di (S:=SS) (t:=1031) λx a O w=>by cases a;exact gQ O w) (di (S:=SS) (t:=1032) λx a O w=>by cases a;exact gQ O w)) λ_=>rfl
theorem aeq:dK (S:=SS) en λx=>[.br .i64 16 x.ar.az,.aG 1023 x.ar.ab,.aG 1026 x.aB,.aG 1027 x.au.ab,.v (.int .u64 x.au.aL),.aG 1031 x.ao.an,.aG 1032 x.ao.ak]:=dV (cN RK (cN (cw (S:=SS) (t:=1026) rfl) (cN RJ RI)))
def SA:List (LV SS)->Option (aF×List (LV SS)):=fa (rdPair Js (rdPair (c8 (S:=SS) 1026 (some ([]:List ai))) (rdPair Jr Jq))) (λ(a0,a,a2,a3)=>⟨a0,a,a2,a3⟩)
theorem ag4:dE (S:=SS) en SA:=fF (ek Sy (ek (di (S:=SS) (t:=1026) λx a O w=>by cases a;exact gQ O w) (ek Sx Sw))) λ_=>rfl
def iS:(t:Nat)->List (LV SS)->Option (SS.El t):=λt=>match t with
 |3=>λr=>b0 ((ec .i64) r)
 |4=>λr=>b0 (yd r)
 |5=>λr=>b0 ((ec .u8) r)
 |9=>λr=>b0 (Jk r)
 |21=>λr=>b0 ((ec .i32) r)
 |22=>λr=>b0 ((h2 .i64 16) r)
 |23=>λr=>b0 ((c8 (S:=SS) 23 (some ([]:List ag))) r)
 |25=>λr=>b0 (Ji r)
 |26=>λr=>b0 ((c8 (S:=SS) 26 (some ([]:List ai))) r)
 |27=>λr=>b0 ((c8 (S:=SS) 27 (some ([]:List ax))) r)
 |28=>λr=>b0 ((ec .u64) r)
 |30=>λr=>b0 (Jh r)
 |31=>λr=>b0 ((c8 (S:=SS) 31 (some ([]:List av))) r)
 |32=>λr=>b0 ((c8 (S:=SS) 32 (some ([]:List aq))) r)
 |34=>λr=>b0 (Jg r)
 |36=>λr=>b0 (Sq r)
 |40=>λr=>b0 ((ec .i64) r)
 |43=>λr=>b0 ((h2 .i64 5) r)
 |46=>λr=>b0 ((c8 (S:=SS) 46 (some ([]:List bq))) r)
 |48=>λr=>b0 ((h2 .u64 4) r)
 |50=>λr=>b0 (So r)
 |51=>λr=>b0 ((c8 (S:=SS) 51 (some ([]:List bP))) r)
 |53=>λr=>b0 (yi r)
 |69=>λr=>b0 (yh r)
 |71=>λr=>b0 (yf r)
 |76=>λr=>b0 ((c8 (S:=SS) 76 (some ([]:Γa))) r)
 |82=>λr=>b0 (Sn r)
 |89=>λr=>b0 (ye r)
 |93=>λr=>b0 (yg r)
 |147=>λr=>b0 ((c8 (S:=SS) 147 (some ([]:Γa))) r)
 |185=>λr=>b0 ((c8 (S:=SS) 185 (some ([]:List ByteArray))) r)
 |186=>λr=>b0 ((c8 (S:=SS) 185 (some ([]:List ByteArray))) r)
 |188=>λr=>b0 (Sp r)
 |1023=>λr=>b0 ((c8 (S:=SS) 1023 (some ([]:List ag))) r)
 |1025=>λr=>b0 (Js r)
 |1026=>λr=>b0 ((c8 (S:=SS) 1026 (some ([]:List ai))) r)
 |1027=>λr=>b0 ((c8 (S:=SS) 1027 (some ([]:List ax))) r)
 |1030=>λr=>b0 (Jr r)
 |1031=>λr=>b0 ((c8 (S:=SS) 1031 (some ([]:List av))) r)
 |1032=>λr=>b0 ((c8 (S:=SS) 1032 (some ([]:List aq))) r)
 |1034=>λr=>b0 (Jq r)
 |1036=>λr=>b0 (SA r)
 |1046=>λr=>b0 ((c8 (S:=SS) 1046 (some ([]:List bq))) r)
 |1076=>λr=>b0 ((c8 (S:=SS) 1076 (some ([]:Γa))) r)
 |1082=>λr=>b0 (Sz r)
 |t=>λr=>none
theorem ab1 (d:Nat) (w:World) (x y:bP):(ξj (d+2) 53 (.agg #[.int .i64 x.jP,.int .u64 x.jQ]) (.agg #[.int .i64 y.jP,.int .u64 y.jQ])).run γ w= .ok (iU x y) w:=by
 have a:γ.underlying 53=some (.struct (γ.fieldsOf 53)):=by kernel_rfl
 have hp:γ.stoodInHeld 53=false:=by kernel_rfl
 rw[show d+2=(d+1)+1 from rfl,run_equalIn_agg w _ 53 _ _ a hp];simp only[ξ8,Tryz.underlying53];unfold iU
 go_simp
 by_cases b:x.jP=y.jP<;>by_cases c:x.jQ=y.jQ<;>simp_all
theorem ab2 (d:Nat) (w:World) (x y:ag):(ξj (d+2) 69 (.agg #[.int .u64 x.aa,.int .u64 x.aT,.bool x.ba,.int .u64 x.bT]) (.agg #[.int .u64 y.aa,.int .u64 y.aT,.bool y.ba,.int .u64 y.bT])).run γ w= .ok (fL x y) w:=by
 have a:γ.underlying 69=some (.struct (γ.fieldsOf 69)):=by kernel_rfl
 have hp:γ.stoodInHeld 69=false:=by kernel_rfl
 rw[show d+2=(d+1)+1 from rfl,run_equalIn_agg w _ 69 _ _ a hp];simp only[ξ8,Tryz.underlying69];unfold fL
 go_simp
 by_cases b:x.aa=y.aa<;>by_cases c:x.aT=y.aT<;>by_cases e:x.ba=y.ba<;>by_cases f:x.bT=y.bT<;>simp_all
theorem ab4 (d:Nat) (w:World) (x y:ai):(ξj (d+2) 89 (.agg #[.int .u64 x.aa,.int .i64 x.bm,.int .u64 x.b3]) (.agg #[.int .u64 y.aa,.int .i64 y.bm,.int .u64 y.b3])).run γ w= .ok (hP x y) w:=by
 have a:γ.underlying 89=some (.struct (γ.fieldsOf 89)):=by kernel_rfl
 have hp:γ.stoodInHeld 89=false:=by kernel_rfl
 rw[show d+2=(d+1)+1 from rfl,run_equalIn_agg w _ 89 _ _ a hp];simp only[ξ8,Tryz.underlying89];unfold hP
 go_simp
 by_cases b:x.aa=y.aa<;>by_cases c:x.bm=y.bm<;>by_cases e:x.b3=y.b3<;>simp_all
theorem ab3 (d:Nat) (w:World) (x y:ax):(ξj (d+2) 71 (.agg #[.int .u64 x.aP,.int .u64 x.aS]) (.agg #[.int .u64 y.aP,.int .u64 y.aS])).run γ w= .ok (jL x y) w:=by
 have a:γ.underlying 71=some (.struct (γ.fieldsOf 71)):=by kernel_rfl
 have hp:γ.stoodInHeld 71=false:=by kernel_rfl
 rw[show d+2=(d+1)+1 from rfl,run_equalIn_agg w _ 71 _ _ a hp];simp only[ξ8,Tryz.underlying71];unfold jL
 go_simp
 by_cases b:x.aP=y.aP<;>by_cases c:x.aS=y.aS<;>simp_all
theorem ab5 (d:Nat) (w:World) (x y:av):(ξj (d+2) 93 (.agg #[.int .u64 x.aY,.int .u64 x.aa]) (.agg #[.int .u64 y.aY,.int .u64 y.aa])).run γ w= .ok (jM x y) w:=by
 have a:γ.underlying 93=some (.struct (γ.fieldsOf 93)):=by kernel_rfl
 have hp:γ.stoodInHeld 93=false:=by kernel_rfl
 rw[show d+2=(d+1)+1 from rfl,run_equalIn_agg w _ 93 _ _ a hp];simp only[ξ8,Tryz.underlying93];unfold jM
 go_simp
 by_cases b:x.aY=y.aY<;>by_cases c:x.aa=y.aa<;>simp_all
def Gd (t:Nat) (ls ms:List (LV SS)):Option Bool:=match t with
 |43=>(match b0 ((h2 .i64 5) ls),b0 ((h2 .i64 5) ms) with|some x,some y=>some (x==y)|_,_=>none)
 |53=>(match b0 (yi ls),b0 (yi ms) with|some x,some y=>some (iU x y)|_,_=>none)
 |69=>(match b0 (yh ls),b0 (yh ms) with|some x,some y=>some (fL x y)|_,_=>none)
 |22=>(match b0 ((h2 .i64 16) ls),b0 ((h2 .i64 16) ms) with|some x,some y=>some (x==y)|_,_=>none)
 |89=>(match b0 (ye ls),b0 (ye ms) with|some x,some y=>some (hP x y)|_,_=>none)
 |71=>(match b0 (yf ls),b0 (yf ms) with|some x,some y=>some (jL x y)|_,_=>none)
 |93=>(match b0 (yg ls),b0 (yg ms) with|some x,some y=>some (jM x y)|_,_=>none)
 |_=>none
def qg (g:Nat):Option ((t:Nat)×SS.El t):=match g with
 |0=>some ⟨69,wk⟩
 |_=>none
def KK:bp SS:=⟨Θ,JK,JB,IT,iS,qg,Gd⟩
theorem ah3 {t:Nat} (h:t∉([3,4,5,9,21,22,23,25,26,27,28,30,31,32,34,36,40,43,46,48,50,51,53,69,71,76,82,89,93,147,185,186,188,1023,1025,1026,1027,1030,1031,1032,1034,1036,1046,1076,1082]:Γ)):rJ t=⟨Unit,nX⟩:=by
 unfold rJ;split<;>first|rfl|(exfalso;exact h (by decide))
theorem ad1 {t:Nat} (h:t∉([3,4,5,9,21,22,23,25,26,27,28,30,31,32,34,36,40,43,46,48,50,51,53,69,71,76,82,89,93,147,185,186,188,1023,1025,1026,1027,1030,1031,1032,1034,1036,1046,1076,1082]:Γ)) {O:Γ} {w:World} {cs:Γb} {x:SS.El t}: ¬(SS.ty t).rep O w cs x:=by
 have key: ∀(p:(α:Type)×Ty α) (_:p=⟨Unit,nX⟩) (x:p.1),¬p.2.rep O w cs x:=by
  rintro _ rfl x a;exact a
 exact key (rJ t) (ah3 h) x
theorem Rc {M:Nat->Prop} {t:Nat} (h:t∈([3,4,5,9,21,22,23,25,26,27,28,30,31,32,34,36,40,43,46,48,50,51,53,69,71,76,82,89,93,147,185,186,188,1023,1025,1026,1027,1030,1031,1032,1034,1036,1046,1076,1082]:Γ)) (z:M 3) (F:M 4) (K:M 5) (U:M 9) (r:M 21) (s:M 22) (u:M 23) (v:M 25) (w:M 26) (x:M 27) (y:M 28) (A:M 30) (B:M 31) (C:M 32) (D:M 34) (E:M 36) (G:M 40) (H:M 43) (I:M 46) (J:M 48) (L:M 50) (N:M 51) (O:M 53) (P:M 69) (Q:M 71) (R:M 76) (S:M 82) (T:M 89) (V:M 93) (n:M 147) (o:M 185) (p:M 186) (q:M 188) (a:M 1023) (b:M 1025) (c:M 1026) (d:M 1027) (e:M 1030) (f:M 1031) (g:M 1032) (i:M 1034) (j:M 1036) (k:M 1046) (l:M 1076) (m:M 1082):M t:=by
 simp only[ξz,ξm,or_false] at h;rcases h with rfl|rfl|rfl|rfl|rfl|rfl|rfl|rfl|rfl|rfl|rfl|rfl|rfl|rfl|rfl|rfl|rfl|rfl|rfl|rfl|rfl|rfl|rfl|rfl|rfl|rfl|rfl|rfl|rfl|rfl|rfl|rfl|rfl|rfl|rfl|rfl|rfl|rfl|rfl|rfl|rfl|rfl|rfl|rfl|rfl<;>assumption
theorem aeP (A:Pl) (O:Γ) (w:World) (t:Nat) (x:SS.El t) (cs:Γb) (h:(SS.ty t).rep O w cs x):bz A O w (IT t x).cells cs:=by
 by_cases hm:t∈([3,4,5,9,21,22,23,25,26,27,28,30,31,32,34,36,40,43,46,48,50,51,53,69,71,76,82,89,93,147,185,186,188,1023,1025,1026,1027,1030,1031,1032,1034,1036,1046,1076,1082]:Γ)
 .exact Rc (M:=λt=>dK (S:=SS) (SS.ty t) λx=>(IT t x).cells) hm c0 IQ c0 aer c0 l9 (cw (S:=SS) (t:=23) rfl) RH (cw (S:=SS) (t:=26) rfl) (cw (S:=SS) (t:=27) rfl) c0 RG (cw (S:=SS) (t:=31) rfl) (cw (S:=SS) (t:=32) rfl) RF aej c0 l9 (cw (S:=SS) (t:=46) rfl) l9 aec (cw (S:=SS) (t:=51) rfl) aei aeh aee (cw (S:=SS) (t:=76) rfl) aeb aed aef (cw (S:=SS) (t:=147) rfl) (cw (S:=SS) (t:=185) rfl) (cw (S:=SS) (t:=185) rfl) aeg (cw (S:=SS) (t:=1023) rfl) RK (cw (S:=SS) (t:=1026) rfl) (cw (S:=SS) (t:=1027) rfl) RJ (cw (S:=SS) (t:=1031) rfl) (cw (S:=SS) (t:=1032) rfl) RI aeq (cw (S:=SS) (t:=1046) rfl) (cw (S:=SS) (t:=1076) rfl) aep A O w x cs h
 .exact absurd h (ad1 hm)
theorem cz {t:Nat} {f:List (LV SS)->Option (SS.El t×List (LV SS))} (a:dE (SS.ty t) f): ∀(A:Pl) (O:Γ) (w:World) (ls:List (LV SS)) (x:SS.El t) (cs:Γb),b0 (f ls)=some x->bz A O w ls cs->(SS.ty t).rep O w cs x:=λ_ _ _ _ _ _ h=>fQ a h
theorem nh (A:Pl) (O:Γ) (w:World) (t:Nat) (ls:List (LV SS)) (x:SS.El t) (cs:Γb) (b:iS t ls=some x) (h:bz A O w ls cs):(SS.ty t).rep O w cs x:=by
 by_cases hm:t∈([3,4,5,9,21,22,23,25,26,27,28,30,31,32,34,36,40,43,46,48,50,51,53,69,71,76,82,89,93,147,185,186,188,1023,1025,1026,1027,1030,1031,1032,1034,1036,1046,1076,1082]:Γ)
 .exact Rc (M:=λt=> ∀(A:Pl) (O:Γ) (w:World) (ls:List (LV SS)) (x:SS.El t) (cs:Γb),iS t ls=some x->bz A O w ls cs->(SS.ty t).rep O w cs x) hm (cz eE) (cz Sv) (cz eE) (cz ag5) (cz eE) (cz jq) (cz (di (S:=SS) (t:=23) λx a O w=>by cases a;exact fD O w)) (cz Su) (cz (di (S:=SS) (t:=26) λx a O w=>by cases a;exact fD O w)) (cz (di (S:=SS) (t:=27) λx a O w=>by cases a;exact fD O w)) (cz eE) (cz Ss) (cz (di (S:=SS) (t:=31) λx a O w=>by cases a;exact fD O w)) (cz (di (S:=SS) (t:=32) λx a O w=>by cases a;exact fD O w)) (cz Sr) (cz ag2) (cz eE) (cz jq) (cz (di (S:=SS) (t:=46) λx a O w=>by cases a;exact fD O w)) (cz jq) (cz ag0) (cz (di (S:=SS) (t:=51) λx a O w=>by cases a;exact fD O w)) (cz Jp) (cz Jo) (cz Jm) (cz (di (S:=SS) (t:=76) λx a O w=>by cases a;exact fD O w)) (cz agZ) (cz Jl) (cz Jn) (cz (di (S:=SS) (t:=147) λx a O w=>by cases a;exact fD O w)) (cz (di (S:=SS) (t:=185) λx a O w=>by cases a;exact fD O w)) (cz (di (S:=SS) (t:=185) λx a O w=>by cases a;exact fD O w)) (cz ag1) (cz (di (S:=SS) (t:=1023) λx a O w=>by cases a;exact gQ O w)) (cz Sy) (cz (di (S:=SS) (t:=1026) λx a O w=>by cases a;exact gQ O w)) (cz (di (S:=SS) (t:=1027) λx a O w=>by cases a;exact gQ O w)) (cz Sx) (cz (di (S:=SS) (t:=1031) λx a O w=>by cases a;exact gQ O w)) (cz (di (S:=SS) (t:=1032) λx a O w=>by cases a;exact gQ O w)) (cz Sw) (cz ag4) (cz (di (S:=SS) (t:=1046) λx a O w=>by cases a;exact gQ O w)) (cz (di (S:=SS) (t:=1076) λx a O w=>by cases a;exact gQ O w)) (cz ag3) A O w ls x cs b h
 .unfold iS at b;split at b<;>first|cases b|(exfalso;exact hm (by decide))
theorem ah0 (t:Nat) (I:lC SS t) (h:JK t=some I):(SS.ty t).agg=false/\ ∃R:Γ,(∀(O:Γ) (w:World) (v:Value) (x:SS.El t),(SS.ty t).is O w v x->(SS.ty I.e).slice.is (O++R) w v (I.to x))/\ ∀(O:Γ) (w:World) (v:Value) (xs:List (SS.El I.e)),(SS.ty I.e).slice.is (O++R) w v xs->(SS.ty t).is O w v (I.of xs):=by
 unfold JK at h;split at h<;>first|(cases h;exact⟨rfl,[0],λ_ _ _ _ h=>h,λ_ _ _ _ h=>h⟩)|(cases h;exact⟨rfl,[],λO _ _ _ h=>by rw[ξ4];exact h,λO _ _ _ h=>by rw[ξ4] at h;exact h⟩)|cases h
theorem ahj (e:Nat) (I:tM SS e) (h:JB e=some I):(SS.ty I.t).agg=false/\(∀(O:Γ) (w:World) (cs:Γb) (x:SS.El e),(SS.ty e).rep O w cs x->(SS.ty e).rep (O++[0]) w cs x)/\ ∀(O:Γ) (w:World) (v:Value) (xs:List (SS.El e)),(SS.ty e).slice.is (O++[0]) w v xs->(SS.ty I.t).is O w v (I.of xs):=by
 unfold JB at h;split at h<;>first|(cases h;exact⟨rfl,λ_ _ _ _ h=>h,λ_ _ _ _ h=>h⟩)|(cases h;exact⟨rfl,λ_ _ _ _ ⟨c1,c2,e,a,b⟩=>⟨c1,c2,e,a,ajC _ _ _ _ b⟩,λ_ _ _ _ h=>h⟩)|cases h
theorem pH {t:Nat} {a b:Array Value} {r:Bool} {w:World} (hm:γ.eqGuardType γ.depth t=false) (h:(ξj 10000 t (.agg a) (.agg b)).run γ w= .ok r w) (ox oy:Operand):
  (do eqGuard .eql t ox oy (.agg a) (.agg b);binOp .eql t (.agg a) (.agg b):Sem Value).run γ w= .ok (.bool r) w/\
  (do eqGuard .neq t ox oy (.agg a) (.agg b);binOp .neq t (.agg a) (.agg b):Sem Value).run γ w= .ok (.bool (!r)) w:=by
 constructor<;>simp only[ξ5]<;>rw[run_eqGuard_agg w _ t ox oy _ _ hm]<;>simp only[ξF]
 .rw[run_eql_struct,h];rfl
 .rw[run_neq_struct,h];rfl
theorem ab9 (A:Pl) (O:Γ) (w:World) (t:Nat) (ls ms:List (LV SS)) (b:Bool) (xs ys:Γb) (ox oy:Operand) (h:Gd t ls ms=some b) (f:bz A O w ls xs) (g:bz A O w ms ys):
  (do eqGuard .eql t ox oy (.agg xs.toArray) (.agg ys.toArray);binOp .eql t (.agg xs.toArray) (.agg ys.toArray):Sem Value).run γ w= .ok (.bool b) w/\
  (do eqGuard .neq t ox oy (.agg xs.toArray) (.agg ys.toArray);binOp .neq t (.agg xs.toArray) (.agg ys.toArray):Sem Value).run γ w= .ok (.bool (!b)) w:=by
 unfold Gd at h;split at h
 .split at h
  .rename_i x y a c;cases h;have d:=fQ (S:=SS) jq a f;have e:=fQ (S:=SS) jq c g;obtain⟨i,rfl⟩:=d;obtain⟨j,rfl⟩:=e;exact Tk w 43 3 5 .i64 .i64 Tryz.underlying43 ξn (λw=>by go_simp) (by kernel_rfl) x y i j ox oy
  .cases h
 .split at h
  .rename_i x y a c;cases h;have d:=fQ (S:=SS) Jp a f;have e:=fQ (S:=SS) Jp c g;obtain⟨_,_,rfl,rfl,rfl⟩:=d;obtain⟨_,_,rfl,rfl,rfl⟩:=e;exact pH (by kernel_rfl) (ab1 9998 w x y) ox oy
  .cases h
 .split at h
  .rename_i x y a c;cases h;have d:=fQ (S:=SS) Jo a f;have e:=fQ (S:=SS) Jo c g;obtain⟨_,_,rfl,rfl,⟨_,_,rfl,rfl,⟨_,_,rfl,rfl,rfl⟩⟩⟩:=d;obtain⟨_,_,rfl,rfl,⟨_,_,rfl,rfl,⟨_,_,rfl,rfl,rfl⟩⟩⟩:=e;exact pH (by kernel_rfl) (ab2 9998 w x y) ox oy
  .cases h
 .split at h
  .rename_i x y a c;cases h;have d:=fQ (S:=SS) jq a f;have e:=fQ (S:=SS) jq c g;obtain⟨i,rfl⟩:=d;obtain⟨j,rfl⟩:=e;exact Tk w 22 3 16 .i64 .i64 Tryz.underlying22 ξn (λw=>by go_simp) (by kernel_rfl) x y i j ox oy
  .cases h
 .split at h
  .rename_i x y a c;cases h;have d:=fQ (S:=SS) Jl a f;have e:=fQ (S:=SS) Jl c g;obtain⟨_,_,rfl,rfl,⟨_,_,rfl,rfl,rfl⟩⟩:=d;obtain⟨_,_,rfl,rfl,⟨_,_,rfl,rfl,rfl⟩⟩:=e;exact pH (by kernel_rfl) (ab4 9998 w x y) ox oy
  .cases h
 .split at h
  .rename_i x y a c;cases h;have d:=fQ (S:=SS) Jm a f;have e:=fQ (S:=SS) Jm c g;obtain⟨_,_,rfl,rfl,rfl⟩:=d;obtain⟨_,_,rfl,rfl,rfl⟩:=e;exact pH (by kernel_rfl) (ab3 9998 w x y) ox oy
  .cases h
 .split at h
  .rename_i x y a c;cases h;have d:=fQ (S:=SS) Jn a f;have e:=fQ (S:=SS) Jn c g;obtain⟨_,_,rfl,rfl,rfl⟩:=d;obtain⟨_,_,rfl,rfl,rfl⟩:=e;exact pH (by kernel_rfl) (ab5 9998 w x y) ox oy
  .cases h
 .cases h
theorem cH:b9 KK γ:=⟨ah,ah0,ahj,aeP,nh,ab9⟩
theorem aU:oL γ:=by
 have h:γ.funcs.toList.all (λfn=>fn.name != "runtime.NumGoroutine" ||fn.body.isNone)=true:=by kernel_rfl
 intro f fn d a;rw[List.all_eq_true] at h;have:=h fn (by rw[Array.mem_toList_iff];exact Array.mem_of_getElem? d);cases b:fn.body with
 |none=>rw[b] at a;cases a
 |some c=>rw[b] at this;simpa using this
def Q9:List (Nat×Γ)->Nat->Γ|[],_=>[]|(a,b)::r,k=>bif ρ a k then b else Q9 r k
def Q_:List (Nat×List (Nat×Γ)×List (Γ))->Nat->Nat->Γ|[],_,_=>[]|(a,b,c)::r,f,k=>bif ρ a f then(bif Nat.ble 1000000 k&&Nat.ble k 1000049 then c.getD (Nat.sub k 1000000) [] else Q9 b k) else Q_ r f k
def ay:Nat->Nat->Γ:=Q_ [(4,[(10,[1,2,5,6,7,8,37,38,39])],[[4],[1,2,6,7,8],[1,2,5,6,7,8,37,38,39]]),(8,[],[[0]]),(9,[(8,[1,2,3,59,60,61])],[[2],[1,2,3],[1,2,3,59,60,61]]),(10,[(5,[1,32,33,34]),(11,[1,53,54,55]),(17,[1,67,68,69])],[[2],[1],[1,32,33,34],[1],[1,53,54,55],[],[1,67,68,69]]),(11,[(6,[1,3,4,37,38,39]),(12,[1,3,4,52,53,54])],[[2],[1,3,4],[1,3,4,37,38,39],[1,3,4],[1,3,4,52,53,54]]),(12,[],[[4]]),(13,[],[[4]]),(15,[(6,[1,2,3,12,13,14])],[[2],[1,2,3],[1,2,3,12,13,14]]),(16,[],[[0]]),(17,[],[[0]]),(18,[],[[2]]),(19,[],[[4,5,6]]),(20,[],[[4,5],[2,3,4,5]]),(21,[],[[4]]),(22,[],[[2]]),(23,[],[[2]]),(24,[(3,[1,12,13]),(8,[1,29,30]),(13,[1,46,47]),(18,[1,64,65]),(23,[81,82,83]),(26,[7,81,82,83,89,90])],[[],[1],[1,12,13],[1],[1,29,30],[1],[1,46,47],[1],[1,64,65],[],[81,82,83],[81,82,83],[7,81,82,83,89,90]]),(25,[],[[4,5,6]]),(26,[(5,[0,1,12,13])],[[4],[],[0,1,12,13]]),(27,[],[[4]]),(28,[],[[4]]),(29,[],[[4,5]]),(30,[],[[4,5,6]]),(31,[(2000008,[5,12])],[[4],[5],[5]]),(34,[],[[2]]),(35,[],[[2]]),(36,[],[[2]]),(37,[],[[2]]),(38,[],[[2]]),(39,[],[[2]]),(40,[(3,[1,8,9]),(9,[1,20,21,22])],[[2],[1],[1,8,9],[1],[1,20,21,22]]),(41,[(3,[0,5,6,7])],[[2],[0],[0,5,6,7]]),(42,[(3,[1,8,9,10]),(8,[1,4,8,9,10,50,51,52])],[[2],[1],[1,8,9,10],[1,8,9,10],[1,4,8,9,10,50,51,52]]),(43,[(3,[1,8,9,10]),(9,[1,43,44,45])],[[2],[1],[1,8,9,10],[1],[1,43,44,45]]),(44,[],[[4]]),(45,[(3,[1,9,10,11])],[[4],[],[1,9,10,11]]),(46,[(2000011,[1,2,4,33])],[[2],[2],[1,2,4]]),(47,[(5,[0,8,9,10])],[[2],[],[0,8,9,10]]),(48,[(4,[1,3,7,8,9])],[[2],[1],[1,3,7,8,9]]),(49,[(5,[1,12,13,14]),(11,[1,47,48,49])],[[2],[1],[1,12,13,14],[],[1,47,48,49]]),(50,[(4,[1,5,8,9,10])],[[4],[5],[1,5,8,9,10]]),(51,[],[[4]]),(52,[(4,[1,5,8,9,10])],[[4],[5],[1,5,8,9,10]]),(53,[],[[3]]),(54,[(4,[1,5,8,9,10])],[[4],[5],[1,5,8,9,10]]),(55,[],[[3]]),(56,[],[[4]]),(57,[(5,[0,1,12,13])],[[4],[],[0,1,12,13]]),(58,[],[[4]]),(59,[],[[4]]),(60,[(5,[3,22,23,24])],[[4],[],[3,22,23,24]]),(61,[(5,[1,12,13,14])],[[4],[],[1,12,13,14]]),(62,[(5,[3,22,23,24])],[[4],[],[3,22,23,24]]),(63,[(5,[2,3,26,27,28]),(11,[3,42,43,44])],[[4],[2,3],[2,3,26,27,28],[],[3,42,43,44]]),(64,[],[[0]]),(65,[],[[0]]),(66,[],[[0]]),(67,[],[[4,5]]),(68,[(6,[1,2,31,32,33])],[[2],[1,2],[1,2,31,32,33]]),(69,[],[[4,5,6],[2,3,4]]),(70,[],[[2]]),(71,[],[[4]]),(72,[],[[4,5]]),(73,[(4,[1,5,8,9,10])],[[4],[5],[1,5,8,9,10]]),(74,[],[[3]]),(75,[],[[4,5,6],[1,7]]),(77,[],[[4]]),(78,[(3,[0,1,7,8])],[[4],[],[0,1,7,8]]),(79,[(8,[0,5,14,15])],[[2,3],[5],[0,5,14,15]]),(80,[],[[4]]),(81,[],[[2]]),(82,[],[[2]]),(83,[],[[4]]),(84,[],[[2]]),(85,[(4,[3,4,12,13])],[[2],[3,4],[3,4,12,13]]),(86,[],[[2]]),(87,[],[[4]]),(88,[],[[3]]),(89,[(2000005,[3,4,8])],[[4],[4],[3,4]]),(90,[],[[2]]),(91,[],[[4]]),(92,[],[[2]]),(93,[],[[2]]),(94,[],[[2]]),(95,[],[[4]]),(96,[],[[2]]),(97,[(4,[3,8,9,10])],[[2],[3],[3,8,9,10]]),(98,[(5,[5,20])],[[2],[5],[5,20]]),(99,[],[[2]]),(100,[(5,[0,1,12,13])],[[4],[],[0,1,12,13]]),(101,[(5,[0,1,12,13])],[[4],[],[0,1,12,13]]),(102,[(5,[0,1,12,13])],[[4],[],[0,1,12,13]]),(103,[(5,[1,2,15,16,17])],[[6],[],[1,2,15,16,17]]),(104,[],[[4]]),(105,[(5,[0,1,12,13])],[[4],[],[0,1,12,13]]),(106,[(5,[1,12,13,14])],[[4],[],[1,12,13,14]]),(109,[],[[2]]),(110,[],[[0]]),(111,[],[[4,5,6],[2,3,4,7]]),(112,[],[[4,5,6]]),(113,[],[[4,5,6],[2,4,7]]),(114,[],[[4,5,6],[2,4,8]]),(115,[],[[4,5,6]]),(116,[(2000005,[2,6])],[[4],[2],[2]]),(117,[(2,[0,2,8,9,10])],[[],[],[0,2,8,9,10]]),(118,[(7,[5,20,21,22])],[[2,3],[5],[5,20,21,22]]),(119,[],[[4]]),(120,[(6,[0,1,5,6])],[[4],[0,5],[0,1,5,6]]),(121,[],[[2]]),(122,[(2,[0,2,7,8,9])],[[],[],[0,2,7,8,9]]),(123,[(3,[0,4])],[[2,3],[4],[0,4]]),(124,[(6,[0,3,10,11,12])],[[2],[0,3],[0,3,10,11,12]]),(125,[(3,[1,4,8,9,10])],[[4,5],[4],[1,4,8,9,10]]),(126,[(3,[0,1,7,8])],[[4],[],[0,1,7,8]]),(127,[(2,[0,1,9,10])],[[],[],[0,1,9,10]]),(128,[(4,[3,6,7,8])],[[2],[3],[3,6,7,8]]),(129,[],[[4]]),(130,[],[[4]]),(131,[(2000010,[0,2,4,6,7,26])],[[2,3],[0,2,6,7],[0,2,4,6,7]]),(132,[(4,[0,4,5])],[[2,3],[0,4],[0,4,5]]),(133,[],[[2]]),(134,[],[[2]]),(135,[],[[2]]),(136,[],[[2]]),(137,[],[[2]]),(138,[],[[2]]),(139,[],[[2]]),(140,[],[[2]]),(141,[],[[2]]),(142,[],[[2]]),(143,[],[[2]]),(144,[],[[2]]),(145,[],[[2]]),(146,[],[[2]]),(147,[(5,[1,2,4,15])],[[4,5,6],[4],[1,2,4,15]]),(148,[(11,[2,3,6,9,11,41,42,43])],[[6,7,8],[3,6,9,11],[2,3,6,9,11,41,42,43]]),(149,[(8,[1,2,3,6,8,21,22,23])],[[6,7],[3,6,8],[1,2,3,6,8,21,22,23],[1,2,3,6,8,21,22,23]]),(150,[(4,[1,5,9,10,11])],[[4],[5],[1,5,9,10,11]]),(151,[(4,[1,5,8,9,10])],[[4],[5],[1,5,8,9,10]]),(152,[(4,[1,2,3,6,7,16,17,18]),(12,[1,6,7,45,46,47])],[[6],[1,2,3,6,7],[1,2,3,6,7,16,17,18],[6,7],[1,6,7,45,46,47]]),(153,[(4,[1,5,6,10,11,12])],[[4],[5],[1,5,6,10,11,12]]),(154,[(5,[0,1,2,9]),(12,[0,9,10,11,36,37,38]),(19,[9,10,11,54,55,56])],[[6,7,8],[0,1,2,9],[0,1,2,9],[0,9,10,11],[0,9,10,11,36,37,38],[9,11],[9,10,11,54,55,56]]),(155,[(3,[1,2,9,10,11])],[[6],[],[1,2,9,10,11]]),(156,[],[[2]]),(157,[(3,[0,1,11,12,13])],[[6,7],[0],[0,1,11,12,13]]),(158,[],[[6,7,8]]),(159,[],[[4,5,6]]),(160,[(8,[1,4,6,24,25,26])],[[4,5],[4,6],[1,4,6,24,25,26]]),(161,[(4,[1,5,8,9,10])],[[4],[5],[1,5,8,9,10]]),(162,[(3,[1,8,9,10])],[[4],[],[1,8,9,10]]),(163,[(3,[1,9,10,11])],[[4,5],[],[1,9,10,11]]),(164,[(13,[1,2,3,6,10,40,41,42]),(20,[1,6,10,66,67,68])],[[6,7],[1,2,3,6,10],[1,2,3,6,10,40,41,42],[6,10],[1,6,10,66,67,68]]),(165,[(9,[1,4,8,28,29,30])],[[4,5],[4,8],[1,4,8,28,29,30]]),(166,[(3,[1,8,9,10])],[[4],[],[1,8,9,10]]),(167,[],[[6,7]]),(168,[],[[2]]),(169,[],[[6]]),(170,[(4,[0,3,6,7])],[[2],[3],[0,3,6,7]]),(171,[(3,[0,5,6])],[[2],[0],[0,5,6]]),(172,[],[[2]]),(173,[],[[2]]),(174,[],[[2]]),(175,[(3,[0,6])],[[2],[0],[0,6]]),(176,[],[[2,3]]),(177,[],[[4,5,6]]),(178,[],[[4]]),(179,[],[[6,7]]),(180,[],[[4]]),(181,[],[[6,7,8]]),(182,[],[[4]]),(183,[(10,[10,11,28,29,30])],[[4,5],[11],[10,11,28,29,30]]),(184,[(2000010,[0,1,2,9,25])],[[6,7,8],[0,1,2],[0,1,2,9],[9]]),(185,[],[[4]]),(186,[(8,[1,9,10,23,24,25])],[[6,7],[9,10],[1,9,10,23,24,25]]),(187,[],[[2]]),(188,[],[[6,7,8],[0,1,2]]),(189,[],[[4,5,6],[1,2,4]]),(190,[],[[4]]),(191,[],[[4,5]]),(192,[],[[4]]),(193,[(2000010,[2,3,4,5,28])],[[4,5],[2,3,4,5],[4,5]]),(194,[],[[6,7],[1,2,6,8],[1,2,6,8,10]]),(195,[],[[4,5],[1,4,6]]),(196,[],[[4,5],[1,2]]),(197,[],[[6,7]]),(198,[],[[4,5,6]]),(199,[(3,[1,7,8,9])],[[4],[],[1,7,8,9]]),(200,[(4,[0,3,5,10,11,12]),(11,[3,5,32,33,34])],[[4],[0,3,5],[0,3,5,10,11,12],[5],[3,5,32,33,34]]),(201,[(6,[6,21,22,23])],[[4],[],[6,21,22,23]]),(202,[],[[2]]),(203,[(4,[1,5,9,10,11])],[[4],[5],[1,5,9,10,11]]),(204,[(4,[0,1,2,8,9,10])],[[6,7],[0,1,2,8,9],[0,1,2,8,9,10]]),(205,[],[[5]]),(208,[(1,[0,1])],[[],[],[0,1]]),(209,[],[[4]]),(210,[],[[4]]),(211,[],[[2]]),(212,[(13,[0,1,5,39,40,41]),(23,[1,8,63,64,65])],[[4],[0,1],[0,1,5],[0,1,5,39,40,41],[8],[1,8,63,64,65]]),(213,[],[[4]]),(214,[],[[4,5]]),(216,[],[[4]]),(217,[(3,[0,3])],[[2],[3],[0,3]]),(219,[(2000009,[1,40])],[[],[],[1]]),(221,[(4,[1,5,8,9,10])],[[4],[5],[1,5,8,9,10]]),(222,[],[[4]]),(224,[],[[3]]),(225,[],[[4]]),(226,[(7,[4,6,7])],[[2,3],[6],[4,6,7]]),(227,[],[[3]]),(228,[],[[4]]),(229,[(3,[0,1,7,8])],[[4],[],[0,1,7,8]]),(230,[(4,[0,2,4,8,9,10])],[[6,7],[0,2,4,8,9],[0,2,4,8,9,10]]),(231,[],[[6]]),(232,[(2000007,[5,6,7,14])],[[6,7],[6,7],[5,6,7]]),(233,[],[[3]]),(234,[],[[3]]),(235,[],[[4]]),(236,[(4,[1,5,8,9,10])],[[4],[5],[1,5,8,9,10]]),(237,[],[[3]]),(238,[],[[6,7]]),(239,[],[[2]]),(240,[],[[6]]),(241,[],[[6]]),(242,[],[[2]]),(244,[],[[4]]),(245,[],[[4]]),(247,[],[[4,5]]),(248,[],[[2]]),(249,[],[[4]]),(250,[],[[3]]),(252,[],[[4]]),(253,[],[[3]]),(254,[(3,[0,1,7,8])],[[4],[],[0,1,7,8]]),(255,[],[[3]]),(256,[],[[6]]),(257,[(2,[0,2,6,7,8])],[[],[],[0,2,6,7,8]]),(260,[(2,[0,2,7,8,9])],[[],[],[0,2,7,8,9]]),(261,[],[[4]]),(262,[(4,[0,1,2,8,9,10])],[[6,7],[0,1,2,8,9],[0,1,2,8,9,10]]),(263,[],[[5]]),(266,[(2,[0,2,3])],[[],[],[0,2,3]]),(270,[(3,[0,1,7,8])],[[4],[],[0,1,7,8]]),(274,[],[[4]]),(279,[(2,[0,2,3])],[[],[],[0,2,3]]),(280,[(5,[0,1,12,13])],[[4],[],[0,1,12,13]]),(281,[(2,[0,2,3])],[[],[],[0,2,3]]),(282,[(2,[0,2,3])],[[],[],[0,2,3]])]
noncomputable def G0:bW SS:=⟨KK,[],[],[],mB γ ay,[]⟩
theorem XZ:aj G0 γ:=⟨cH,⟨(λf a h=>by cases h),(λc h=>by cases h)⟩,(λf d h=>by cases h),(λg b h=>by cases h),mixed,aU⟩
end Go.Proofs.YtdhaaaeffhaadaaGreatDoor
end
section
namespace Go.Proofs.YtdhaaaeffhaadaaGreatDoor
open Go.RowKit Go.Dc Go.Vx
set_option maxRecDepth 100000 in
set_option maxHeartbeats 4000000 in
theorem aaY {O:Γ} {w:World} (d:OB O w) {v0:Value} {f:List bq} (c:(Ty.slice h6).is O w v0 f) {r:List bq} (h:app 40 [] f=some r):Calls γ 18 #[v0] w (eR h6 50 w.heap.size O w (.slice none 0 0) r):=by
 have a:=Fr.refl [] w;have m:=d;have b:=Dc.Sub.refl O;have k:=ν w.heap.size;refine e8 (args:=[v0]) (N:=8) ζh rfl rfl rfl (aJ (aR (l:=[0]) rfl (aA ah [0] [(0,v0)] rfl ⟨rfl,trivial⟩ (aQ (aK (aJ (aJ (aR (l:=[0,1]) rfl (aA ah [0] [(0,v0),(3,v0)] rfl ⟨rfl,rfl,trivial⟩ ?_)))))))));obtain⟨A2,c3,rfl,s,t⟩:=dr c;refine aA ah [1] [(0,.slice A2 f.length c3),(4,.bool A2.isNone)] rfl ⟨rfl,rfl,trivial⟩ (aQ (aK ?_));rcases A2 with _|o
 .obtain rfl:=kd c;simp[app] at h;subst h;refine iF rfl (aJ (aR (l:=[0]) rfl (aA ah [0] [(2,.slice none 0 0)] rfl ⟨rfl,trivial⟩ (aQ (aK (cO ?_))))));exact eQ (dv rfl (hV Own.f' b a m k))
 refine hF rfl (dh (aK (aJ (aR (l:=[0,1,2,3]) rfl (mN ah rfl rfl rfl rfl rfl rfl rfl rfl rfl rfl (T:=h6) (xs:=([]:List bq)) (vs:=[]) rfl trivial rfl rfl rfl d (λi w5 n=>?_))))));obtain⟨_,g,_⟩:=n.new;have j:=n.own a.size;have c:=c.tr g.tr;have d:=g.ob;have a:=a.trans g.fr;have b:=Sub.cons b i;generalize (ξc (some ⟨i,0,none⟩) 0 0)=v8 at*
 refine aA ah [1] [(5,v8),(6,.slice (some o) f.length c3)] rfl ⟨rfl,rfl,trivial⟩ (mL ah rfl rfl rfl rfl rfl rfl rfl rfl rfl rfl rfl rfl rfl rfl a d j c h (λv11 u q e=>?_));have a:=e.b6 j a;have b:=Sub.trans b e.sub;have d:=e.ob;have p:=e.own;refine aA ah [3] [(2,v11)] rfl ⟨rfl,trivial⟩ (aQ (aK (cO ?_)));exact dv rfl (hV p b a m k)
def FM:e0 SS:=hZ KK 18 50 (λxs=>app 40 [] xs)
theorem aaZ {R:Type} (xs:List (aE SS)) (h:AH SS) (k:Rs SS->AH SS->Γ->Option R) (z:R) (a:(FM).out xs h k=some z): ∃r h' dt,k r h' dt=some z/\eu KK γ 18 xs h r h' dt:=
 jg (e:=50) (cl:=λxs=>app 40 [] xs) cH (cp aU ζh rfl) (λ_ _ _ _ _ _ h=>h) (λO w v xs zs b c a=>aaY b c a) xs h k z a
set_option maxRecDepth 100000 in
set_option maxHeartbeats 4000000 in
theorem Nv {O:Γ} {w:World} (d:OB O w) {v0:Value} {f:List ag} (c:(Ty.slice eO).is O w v0 f) {r:List ag} (h:app 32 [] f=some r):Calls γ 35 #[v0] w (eR eO 69 w.heap.size O w (.slice none 0 0) r):=by
 have a:=Fr.refl [] w;have m:=d;have b:=Dc.Sub.refl O;have k:=ν w.heap.size;refine e8 (args:=[v0]) (N:=8) ξK rfl rfl rfl (aJ (aR (l:=[0]) rfl (aA ah [0] [(0,v0)] rfl ⟨rfl,trivial⟩ (aQ (aK (aJ (aJ (aR (l:=[0,1]) rfl (aA ah [0] [(0,v0),(3,v0)] rfl ⟨rfl,rfl,trivial⟩ ?_)))))))));obtain⟨A2,c3,rfl,s,t⟩:=dr c;refine aA ah [1] [(0,.slice A2 f.length c3),(4,.bool A2.isNone)] rfl ⟨rfl,rfl,trivial⟩ (aQ (aK ?_));rcases A2 with _|o
 .obtain rfl:=kd c;simp[app] at h;subst h;refine iF rfl (aJ (aR (l:=[0]) rfl (aA ah [0] [(2,.slice none 0 0)] rfl ⟨rfl,trivial⟩ (aQ (aK (cO ?_))))));exact eQ (dv rfl (hV Own.f' b a m k))
 refine hF rfl (dh (aK (aJ (aR (l:=[0,1,2,3]) rfl (mN ah rfl rfl rfl rfl rfl rfl rfl rfl rfl rfl (T:=eO) (xs:=([]:List ag)) (vs:=[]) rfl trivial rfl rfl rfl d (λi w5 n=>?_))))));obtain⟨_,g,_⟩:=n.new;have j:=n.own a.size;have c:=c.tr g.tr;have d:=g.ob;have a:=a.trans g.fr;have b:=Sub.cons b i;generalize (ξc (some ⟨i,0,none⟩) 0 0)=v8 at*
 refine aA ah [1] [(5,v8),(6,.slice (some o) f.length c3)] rfl ⟨rfl,rfl,trivial⟩ (mL ah rfl rfl rfl rfl rfl rfl rfl rfl rfl rfl rfl rfl rfl rfl a d j c h (λv11 u q e=>?_));have a:=e.b6 j a;have b:=Sub.trans b e.sub;have d:=e.ob;have p:=e.own;refine aA ah [3] [(2,v11)] rfl ⟨rfl,trivial⟩ (aQ (aK (cO ?_)));exact dv rfl (hV p b a m k)
def FN:e0 SS:=hZ KK 35 69 (λxs=>app 32 [] xs)
theorem aa0 {R:Type} (xs:List (aE SS)) (h:AH SS) (k:Rs SS->AH SS->Γ->Option R) (z:R) (a:(FN).out xs h k=some z): ∃r h' dt,k r h' dt=some z/\eu KK γ 35 xs h r h' dt:=
 jg (e:=69) (cl:=λxs=>app 32 [] xs) cH (cp aU ξK rfl) (λ_ _ _ _ _ _ h=>h) (λO w v xs zs b c a=>Nv b c a) xs h k z a
set_option maxRecDepth 100000 in
set_option maxHeartbeats 4000000 in
theorem Nw {O:Γ} {w:World} (d:OB O w) {v0:Value} {f:List ai} (c:(Ty.slice eY).is O w v0 f) {r:List ai} (h:app 24 [] f=some r):Calls γ 36 #[v0] w (eR eY 89 w.heap.size O w (.slice none 0 0) r):=by
 have a:=Fr.refl [] w;have m:=d;have b:=Dc.Sub.refl O;have k:=ν w.heap.size;refine e8 (args:=[v0]) (N:=8) ξL rfl rfl rfl (aJ (aR (l:=[0]) rfl (aA ah [0] [(0,v0)] rfl ⟨rfl,trivial⟩ (aQ (aK (aJ (aJ (aR (l:=[0,1]) rfl (aA ah [0] [(0,v0),(3,v0)] rfl ⟨rfl,rfl,trivial⟩ ?_)))))))));obtain⟨A2,c3,rfl,s,t⟩:=dr c;refine aA ah [1] [(0,.slice A2 f.length c3),(4,.bool A2.isNone)] rfl ⟨rfl,rfl,trivial⟩ (aQ (aK ?_));rcases A2 with _|o
 .obtain rfl:=kd c;simp[app] at h;subst h;refine iF rfl (aJ (aR (l:=[0]) rfl (aA ah [0] [(2,.slice none 0 0)] rfl ⟨rfl,trivial⟩ (aQ (aK (cO ?_))))));exact eQ (dv rfl (hV Own.f' b a m k))
 refine hF rfl (dh (aK (aJ (aR (l:=[0,1,2,3]) rfl (mN ah rfl rfl rfl rfl rfl rfl rfl rfl rfl rfl (T:=eY) (xs:=([]:List ai)) (vs:=[]) rfl trivial rfl rfl rfl d (λi w5 n=>?_))))));obtain⟨_,g,_⟩:=n.new;have j:=n.own a.size;have c:=c.tr g.tr;have d:=g.ob;have a:=a.trans g.fr;have b:=Sub.cons b i;generalize (ξc (some ⟨i,0,none⟩) 0 0)=v8 at*
 refine aA ah [1] [(5,v8),(6,.slice (some o) f.length c3)] rfl ⟨rfl,rfl,trivial⟩ (mL ah rfl rfl rfl rfl rfl rfl rfl rfl rfl rfl rfl rfl rfl rfl a d j c h (λv11 u q e=>?_));have a:=e.b6 j a;have b:=Sub.trans b e.sub;have d:=e.ob;have p:=e.own;refine aA ah [3] [(2,v11)] rfl ⟨rfl,trivial⟩ (aQ (aK (cO ?_)));exact dv rfl (hV p b a m k)
def FO:e0 SS:=hZ KK 36 89 (λxs=>app 24 [] xs)
theorem aa1 {R:Type} (xs:List (aE SS)) (h:AH SS) (k:Rs SS->AH SS->Γ->Option R) (z:R) (a:(FO).out xs h k=some z): ∃r h' dt,k r h' dt=some z/\eu KK γ 36 xs h r h' dt:=
 jg (e:=89) (cl:=λxs=>app 24 [] xs) cH (cp aU ξL rfl) (λ_ _ _ _ _ _ h=>h) (λO w v xs zs b c a=>Nw b c a) xs h k z a
set_option maxRecDepth 100000 in
set_option maxHeartbeats 4000000 in
theorem Nx {O:Γ} {w:World} (d:OB O w) {v0:Value} {f:List ax} (c:(Ty.slice fH).is O w v0 f) {r:List ax} (h:app 16 [] f=some r):Calls γ 37 #[v0] w (eR fH 71 w.heap.size O w (.slice none 0 0) r):=by
 have a:=Fr.refl [] w;have m:=d;have b:=Dc.Sub.refl O;have k:=ν w.heap.size;refine e8 (args:=[v0]) (N:=8) ξM rfl rfl rfl (aJ (aR (l:=[0]) rfl (aA ah [0] [(0,v0)] rfl ⟨rfl,trivial⟩ (aQ (aK (aJ (aJ (aR (l:=[0,1]) rfl (aA ah [0] [(0,v0),(3,v0)] rfl ⟨rfl,rfl,trivial⟩ ?_)))))))));obtain⟨A2,c3,rfl,s,t⟩:=dr c;refine aA ah [1] [(0,.slice A2 f.length c3),(4,.bool A2.isNone)] rfl ⟨rfl,rfl,trivial⟩ (aQ (aK ?_));rcases A2 with _|o
 .obtain rfl:=kd c;simp[app] at h;subst h;refine iF rfl (aJ (aR (l:=[0]) rfl (aA ah [0] [(2,.slice none 0 0)] rfl ⟨rfl,trivial⟩ (aQ (aK (cO ?_))))));exact eQ (dv rfl (hV Own.f' b a m k))
 refine hF rfl (dh (aK (aJ (aR (l:=[0,1,2,3]) rfl (mN ah rfl rfl rfl rfl rfl rfl rfl rfl rfl rfl (T:=fH) (xs:=([]:List ax)) (vs:=[]) rfl trivial rfl rfl rfl d (λi w5 n=>?_))))));obtain⟨_,g,_⟩:=n.new;have j:=n.own a.size;have c:=c.tr g.tr;have d:=g.ob;have a:=a.trans g.fr;have b:=Sub.cons b i;generalize (ξc (some ⟨i,0,none⟩) 0 0)=v8 at*
 refine aA ah [1] [(5,v8),(6,.slice (some o) f.length c3)] rfl ⟨rfl,rfl,trivial⟩ (mL ah rfl rfl rfl rfl rfl rfl rfl rfl rfl rfl rfl rfl rfl rfl a d j c h (λv11 u q e=>?_));have a:=e.b6 j a;have b:=Sub.trans b e.sub;have d:=e.ob;have p:=e.own;refine aA ah [3] [(2,v11)] rfl ⟨rfl,trivial⟩ (aQ (aK (cO ?_)));exact dv rfl (hV p b a m k)
def FP:e0 SS:=hZ KK 37 71 (λxs=>app 16 [] xs)
theorem aa2 {R:Type} (xs:List (aE SS)) (h:AH SS) (k:Rs SS->AH SS->Γ->Option R) (z:R) (a:(FP).out xs h k=some z): ∃r h' dt,k r h' dt=some z/\eu KK γ 37 xs h r h' dt:=
 jg (e:=71) (cl:=λxs=>app 16 [] xs) cH (cp aU ξM rfl) (λ_ _ _ _ _ _ h=>h) (λO w v xs zs b c a=>Nx b c a) xs h k z a
set_option maxRecDepth 100000 in
set_option maxHeartbeats 4000000 in
theorem FK {O:Γ} {w:World} (d:OB O w) {v0:Value} {f:List av} (c:(Ty.slice cY).is O w v0 f) {r:List av} (h:app 16 [] f=some r):Calls γ 38 #[v0] w (eR cY 93 w.heap.size O w (.slice none 0 0) r):=by
 have a:=Fr.refl [] w;have m:=d;have b:=Dc.Sub.refl O;have k:=ν w.heap.size;refine e8 (args:=[v0]) (N:=8) ξN rfl rfl rfl (aJ (aR (l:=[0]) rfl (aA ah [0] [(0,v0)] rfl ⟨rfl,trivial⟩ (aQ (aK (aJ (aJ (aR (l:=[0,1]) rfl (aA ah [0] [(0,v0),(3,v0)] rfl ⟨rfl,rfl,trivial⟩ ?_)))))))));obtain⟨A2,c3,rfl,s,t⟩:=dr c;refine aA ah [1] [(0,.slice A2 f.length c3),(4,.bool A2.isNone)] rfl ⟨rfl,rfl,trivial⟩ (aQ (aK ?_));rcases A2 with _|o
 .obtain rfl:=kd c;simp[app] at h;subst h;refine iF rfl (aJ (aR (l:=[0]) rfl (aA ah [0] [(2,.slice none 0 0)] rfl ⟨rfl,trivial⟩ (aQ (aK (cO ?_))))));exact eQ (dv rfl (hV Own.f' b a m k))
 refine hF rfl (dh (aK (aJ (aR (l:=[0,1,2,3]) rfl (mN ah rfl rfl rfl rfl rfl rfl rfl rfl rfl rfl (T:=cY) (xs:=([]:List av)) (vs:=[]) rfl trivial rfl rfl rfl d (λi w5 n=>?_))))));obtain⟨_,g,_⟩:=n.new;have j:=n.own a.size;have c:=c.tr g.tr;have d:=g.ob;have a:=a.trans g.fr;have b:=Sub.cons b i;generalize (ξc (some ⟨i,0,none⟩) 0 0)=v8 at*
 refine aA ah [1] [(5,v8),(6,.slice (some o) f.length c3)] rfl ⟨rfl,rfl,trivial⟩ (mL ah rfl rfl rfl rfl rfl rfl rfl rfl rfl rfl rfl rfl rfl rfl a d j c h (λv11 u q e=>?_));have a:=e.b6 j a;have b:=Sub.trans b e.sub;have d:=e.ob;have p:=e.own;refine aA ah [3] [(2,v11)] rfl ⟨rfl,trivial⟩ (aQ (aK (cO ?_)));exact dv rfl (hV p b a m k)
def FQ:e0 SS:=hZ KK 38 93 (λxs=>app 16 [] xs)
theorem aa3 {R:Type} (xs:List (aE SS)) (h:AH SS) (k:Rs SS->AH SS->Γ->Option R) (z:R) (a:(FQ).out xs h k=some z): ∃r h' dt,k r h' dt=some z/\eu KK γ 38 xs h r h' dt:=
 jg (e:=93) (cl:=λxs=>app 16 [] xs) cH (cp aU ξN rfl) (λ_ _ _ _ _ _ h=>h) (λO w v xs zs b c a=>FK b c a) xs h k z a
set_option maxRecDepth 100000 in
set_option maxHeartbeats 4000000 in
theorem FL {O:Γ} {w:World} (d:OB O w) {v0:Value} {f:Γa} (c:(Ty.slice (Ty.int .u64)).is O w v0 f) {r:Γa} (h:app 8 [] f=some r):Calls γ 39 #[v0] w (eR (Ty.int .u64) 28 w.heap.size O w (.slice none 0 0) r):=by
 have a:=Fr.refl [] w;have m:=d;have b:=Dc.Sub.refl O;have k:=ν w.heap.size;refine e8 (args:=[v0]) (N:=8) ξO rfl rfl rfl (aJ (aR (l:=[0]) rfl (aA ah [0] [(0,v0)] rfl ⟨rfl,trivial⟩ (aQ (aK (aJ (aJ (aR (l:=[0,1]) rfl (aA ah [0] [(0,v0),(3,v0)] rfl ⟨rfl,rfl,trivial⟩ ?_)))))))));obtain⟨A2,c3,rfl,s,t⟩:=dr c;refine aA ah [1] [(0,.slice A2 f.length c3),(4,.bool A2.isNone)] rfl ⟨rfl,rfl,trivial⟩ (aQ (aK ?_));rcases A2 with _|o
 .obtain rfl:=kd c;simp[app] at h;subst h;refine iF rfl (aJ (aR (l:=[0]) rfl (aA ah [0] [(2,.slice none 0 0)] rfl ⟨rfl,trivial⟩ (aQ (aK (cO ?_))))));exact eQ (dv rfl (hV Own.f' b a m k))
 refine hF rfl (dh (aK (aJ (aR (l:=[0,1,2,3]) rfl (mN ah rfl rfl rfl rfl rfl rfl rfl rfl rfl rfl (T:=(Ty.int .u64)) (xs:=([]:Γa)) (vs:=[]) rfl trivial rfl rfl rfl d (λi w5 n=>?_))))));obtain⟨_,g,_⟩:=n.new;have j:=n.own a.size;have c:=c.tr g.tr;have d:=g.ob;have a:=a.trans g.fr;have b:=Sub.cons b i;generalize (ξc (some ⟨i,0,none⟩) 0 0)=v8 at*
 refine aA ah [1] [(5,v8),(6,.slice (some o) f.length c3)] rfl ⟨rfl,rfl,trivial⟩ (mL ah rfl rfl rfl rfl rfl rfl rfl rfl rfl rfl rfl rfl rfl rfl a d j c h (λv11 u q e=>?_));have a:=e.b6 j a;have b:=Sub.trans b e.sub;have d:=e.ob;have p:=e.own;refine aA ah [3] [(2,v11)] rfl ⟨rfl,trivial⟩ (aQ (aK (cO ?_)));exact dv rfl (hV p b a m k)
def FR:e0 SS:=hZ KK 39 28 (λxs=>app 8 [] xs)
theorem aa4 {R:Type} (xs:List (aE SS)) (h:AH SS) (k:Rs SS->AH SS->Γ->Option R) (z:R) (a:(FR).out xs h k=some z): ∃r h' dt,k r h' dt=some z/\eu KK γ 39 xs h r h' dt:=
 jg (e:=28) (cl:=λxs=>app 8 [] xs) cH (cp aU ξO rfl) (λ_ _ _ _ _ _ h=>h) (λO w v xs zs b c a=>FL b c a) xs h k z a
set_option maxRecDepth 100000
noncomputable def zj:bW SS:= {G0 with H:=FM::G0.H}
theorem XU:aj zj γ:=aj.gM (c:=FM) XZ aaZ
noncomputable def zk:bW SS:= {zj with H:=FN::zj.H}
theorem XV:aj zk γ:=aj.gM (c:=FN) XU aa0
noncomputable def zl:bW SS:= {zk with H:=FO::zk.H}
theorem XW:aj zl γ:=aj.gM (c:=FO) XV aa1
noncomputable def zm:bW SS:= {zl with H:=FP::zl.H}
theorem XX:aj zm γ:=aj.gM (c:=FP) XW aa2
noncomputable def zn:bW SS:= {zm with H:=FQ::zm.H}
theorem XY:aj zn γ:=aj.gM (c:=FQ) XX aa3
noncomputable def G1:bW SS:= {zn with H:=FR::zn.H}
theorem X0:aj G1 γ:=aj.gM (c:=FR) XY aa4
end Go.Proofs.YtdhaaaeffhaadaaGreatDoor
end
section
namespace Go.Proofs.YtdhaaaeffhaadaaGreatDoor
open Go.RowKit Go.Dc Go.Vx
set_option maxRecDepth 100000 in
set_option maxHeartbeats 4000000 in
theorem ac6 {w:World} (s:ByteArray) (c:Int):Calls γ 245 #[.string s,.int .u8 c] w (λe w'=>e= .returned (.int .i64 (ξ0 s.data.toList c.toNat.toUInt8))/\Fr [] w w'):=by
 have i:=Fr.refl [] w;refine e8 (args:=[.string s,.int .u8 c]) (N:=8) ζ3 rfl rfl rfl (aJ (aR (l:=[0]) rfl (aA ah [0] [(0,.string s),(1,.int .u8 c)] rfl ⟨rfl,rfl,trivial⟩ (aQ (aK (aJ (aR (l:=[0,1,2,3]) rfl (aA ah [0,1] [(5,.string s),(6,.int .u8 c)] rfl ⟨rfl,rfl,trivial⟩ ?_))))))));have j:(callFunc 267 #[.string s,.int .u8 c]).run γ w= .ok (.value (.int .i64 (ξ0 s.data.toList c.toNat.toUInt8))) w:=by
  rw[run_callFunc_extern Tryz.func267 rfl rfl rfl rfl,Lib.run_indexByteString];rfl
 refine dZ rfl rfl rfl rfl (by intro c h;cases h) (λa b=>?_) (v:=.int .i64 (ξ0 s.data.toList c.toNat.toUInt8)) (w':=w) (d:=7) ?_
 .have f:=b.get 5 _ rfl;have g:=b.get 6 _ rfl;simp only[execOp,ξ5,resolve,Act.eval,Deferred.ofValue,Sem.run_pure,ξF,invoke];simpa[Act.eval,f,g] using j
 refine aA ah [3] [(4,.int .i64 (ξ0 s.data.toList c.toNat.toUInt8))] rfl ⟨rfl,trivial⟩ (aQ (aK (cO ?_)));exact dv rfl ⟨rfl,i⟩
def xx:fe SS:=⟨245,λxs k=>match xs with
 |[.one (.v (.string s)),.one (.v (.int .u8 c))]=>k (.ret (.s (.one (.v (.int .i64 (ξ0 s.data.toList c.toNat.toUInt8))))))
 |_=>none⟩
theorem ac7 {R:Type} (xs:List (aE SS)) (k:Rs SS->Option R) (z:R) (_:xs.all aE.pure=true) (a:xx.out xs k=some z): ∃r,k r=some z/\d_ KK γ 245 xs r:=by
 simp only[xx] at a;split at a
 .rename_i s c j;refine⟨_,a,cp aU ζ3 rfl,λA O w vs h m l=>?_⟩;obtain⟨y,ys,rfl,⟨b,_⟩,n,i,rfl,⟨d,_⟩,f⟩:=h;cases b;cases d;rw[show i=[] from f];refine(ac6 s c).mono ?_;rintro e w' ⟨rfl,g⟩;exact⟨⟨_,rfl,rfl,rfl⟩,g⟩
 .cases a
set_option maxRecDepth 100000
noncomputable def G2:bW SS:= {G1 with C:=xx::G1.C}
theorem X1:aj G2 γ:=aj.hO (c:=xx) X0 ac7
end Go.Proofs.YtdhaaaeffhaadaaGreatDoor
end
section
namespace Go.Proofs.YtdhaaaeffhaadaaGreatDoor
open Go.RowKit Go.Dc Go.Vx
theorem Uf (e:Int) (w:World):(ξf (.iface 40 (.int .i64 e)) 20 40 true).run γ w= .ok (.tuple #[.int .i64 e,.bool true]) w:=by
 simp[ξf,run_underlying Tryz.underlying40]
theorem Rm (e:Int) (w:World) (ox oy:Operand):(do eqGuard .neq 20 ox oy (.iface 40 (.int .i64 e)) .nilIface;binOp .neq 20 (.iface 40 (.int .i64 e)) .nilIface:Sem Value).run γ w= .ok (.bool true) w:=by
 simp[go_sem]
theorem Rn (w:World) (ox:Operand):(do eqGuard .neq 20 ox (.const .nilIface) .nilIface .nilIface;binOp .neq 20 .nilIface .nilIface:Sem Value).run γ w= .ok (.bool false) w:=by
 simp[go_sem,eqGuard]
set_option maxHeartbeats 4000000 in
theorem abo {w:World} {p1 p2:Value}:
  CallsDIn (fw none) 0 γ 251 #[p1,p2] .returning w (λf k w'=>(∃v,f= .returned v)/\k= .returning/\w'=w):=by
 refine callsDIn_of_wpSIn ξp rfl (by simp[fw]) λm cs hu=>?_;apply wpSIn_seq;apply wpSIn_region;simp[wpOpsSIn,go_sem,recoverD,hu,ξY,ξG];refine wpSIn_of_wpIn rfl ?_;obtain⟨b,e⟩: ∃b:Env,b=[(0,p1),(1,p2),(2,.nilIface)]:=⟨_,rfl⟩;refine(show WC γ none 18 _ _ b [] w from ?_) _ ⟨by simp,rfl,b4 (by subst e;refine⟨?_,?_,?_,trivial⟩<;>simp)⟩;subst e;refine aJ (aR (l:=[0,1]) rfl (aA ah [0] [(6,.nilIface)] rfl ⟨rfl,trivial⟩ (dZ (d:=7) rfl rfl rfl rfl (by intro c h;cases h) (λa g=>?_) (v:=.bool false) (w':=w) ?_)))
 .have h:=g.get 6 _ rfl;show(do let v<-(do eqGuard .neq 20 (.tmp 6) (.const .nilIface) (a.tmps.getD 6 undef) .nilIface;binOp .neq 20 (a.tmps.getD 6 undef) .nilIface:Sem Value);pure (ξk v):Sem Next).run _ w=_;rw[ξ5,h,Rn];rfl
 refine aQ (aK (hF rfl (dh λa i=>?_)));have j:(results Tryz.f251 a.tmps).run γ w= .ok (.tuple #[]) w:=by simp[results,ξP]
 simp only[bodyPostS];refine⟨i.defers,.returning,?_,.tuple #[],j,?_⟩
 .rw[<-hu]
 .simp
set_option maxHeartbeats 4000000 in
theorem abq {w:World} {b f:Nat} {n o:Γb} (e:Int) (r:bK w b 25 n) (i:bK w f 40 o) (k:n.length=17) (m:o.length=1) (t:b≠f):
  CallsDIn (fw none) 0 γ 251 #[.pointer (some ⟨b,0,none⟩),.pointer (some ⟨f,0,none⟩)] (.panicking [{v:=.iface 40 (.int .i64 e),recovered:=false}]) w
   (λq z w'=>(∃v,q= .returned v)/\settle z= .returning/\ ∃w1,Fr [b] w w1/\bK w1 b 25 (υ 16 (.int .i64 0)++[.slice none 0 0])/\Fr [f] w1 w'/\bK w' f 40 [.int .i64 e]):=by
 refine callsDIn_of_wpSIn ξp rfl (by simp[fw]) λA cs hu=>?_;apply wpSIn_seq;apply wpSIn_region;simp[wpOpsSIn,go_sem,recoverD,hu,ξY,ξG];refine wpSIn_of_wpIn rfl ?_;obtain⟨g,p⟩: ∃g:Env,g=[(0,.pointer (some ⟨b,0,none⟩)),(1,.pointer (some ⟨f,0,none⟩)),(2,.iface 40 (.int .i64 e))]:=⟨_,rfl⟩;refine(show WC γ none 18 _ _ g [] w from ?_) _ ⟨by simp,rfl,b4 (by subst p;refine⟨?_,?_,?_,trivial⟩<;>simp)⟩;subst p;refine aJ (aR (l:=[0,1]) rfl (aA ah [0] [(0,.pointer (some ⟨b,0,none⟩)),(1,.pointer (some ⟨f,0,none⟩)),(2,.iface 40 (.int .i64 e)),(6,.iface 40 (.int .i64 e))] rfl ⟨rfl,rfl,rfl,rfl,trivial⟩ (dZ (d:=7) rfl rfl rfl rfl (by intro c h;cases h) (λa j=>?_) (v:=.bool true) (w':=w) ?_)))
 .have h:=j.get 6 _ rfl;show(do let v<-(do eqGuard .neq 20 (.tmp 6) (.const .nilIface) (a.tmps.getD 6 undef) .nilIface;binOp .neq 20 (a.tmps.getD 6 undef) .nilIface:Sem Value);pure (ξk v):Sem Next).run _ w=_;rw[ξ5,h,Rm];rfl
 refine aQ (aK (iF rfl (aJ (aR (l:=[0,1,2,3,4,5,6]) rfl (aA ah [0] [(0,.pointer (some ⟨b,0,none⟩)),(1,.pointer (some ⟨f,0,none⟩)),(9,.iface 40 (.int .i64 e))] rfl ⟨rfl,rfl,rfl,trivial⟩ (dZ (d:=10) rfl rfl rfl rfl (by intro c h;cases h) (λa j=>?_) (v:=.tuple #[.int .i64 e,.bool true]) (w':=w) ?_))))))
 .have h:=j.get 9 _ rfl;show(do let v<-ξf (a.tmps.getD 9 undef) 20 40 true;pure (ξk v):Sem Next).run _ w=_;rw[ξ5,h,Uf];rfl
 refine aA ah [2,3,4,5,6] [(0,.pointer (some ⟨b,0,none⟩)),(1,.pointer (some ⟨f,0,none⟩)),(3,.int .i64 e),(4,.bool true)] rfl ⟨rfl,rfl,rfl,rfl,trivial⟩ (aQ (aK (aJ (aJ (aR (l:=[0,1]) rfl (aA ah [0,1] [(0,.pointer (some ⟨b,0,none⟩)),(1,.pointer (some ⟨f,0,none⟩)),(3,.int .i64 e),(14,.bool false)] rfl ⟨rfl,rfl,rfl,rfl,trivial⟩ (aQ (aK (hF rfl (dh (aK (aR (l:=[0,1,2,3]) rfl (aA ah [0,1] [(0,.pointer (some ⟨b,0,none⟩)),(1,.pointer (some ⟨f,0,none⟩)),(16,.agg (υ 16 (ξe .i64 0)++[ξc none 0 0]).toArray),(17,.int .i64 e)] rfl ⟨rfl,rfl,rfl,rfl,trivial⟩ (eZ ah rfl rfl rfl rfl rfl rfl rfl r (υ 16 (.int .i64 0)++[.slice none 0 0]) rfl rfl (by simp[υ,ξx]) (by rw[k];rfl) (υ 16 (.int .i64 0)++[.slice none 0 0]) (by unfold putAt;rw[ξ3 (by simp[k,m])];rfl) (λw1 x f1=>?_)))))))))))))));have i:=i.fr f1 (by simpa using t.symm);refine eZ ah rfl rfl rfl rfl rfl rfl rfl i [.int .i64 e] rfl rfl (by simp[ξx]) (by rw[m];rfl) [.int .i64 e] (by unfold putAt;rw[ξ3 (by simp[k,m])];rfl) (λw2 y f2=>?_);refine aQ λa s=>?_;have u:(results Tryz.f251 a.tmps).run γ w2= .ok (.tuple #[]) w2:=by simp[results,ξP]
 simp only[bodyPostS];refine⟨s.defers,.panicking [{v:=.iface 40 (.int .i64 e),recovered:=true}],rfl,.tuple #[],u,⟨.tuple #[],rfl⟩,rfl,w1,f1,x,f2,y⟩
def yX:Γb:=υ 16 (.int .i64 0)++[.slice none 0 0]
def vp:mR SS:=⟨251,λcs p a k=>match cs with
 |[.one (.bl i 0),.one (.bl j 0)]=>(match p with
  |none=>k none []
  |some (.iface 40 (.int .i64 e))=>(match a i,a j with
   |some (.box 25 b),some (.box 40 c)=>bif !(ρ i j)&&(ρ (dX b) 17&&ρ (dX c) 1) then k none [(i,some (.box 25 (yX.map .v))),(j,some (.box 40 [.v (.int .i64 e)]))] else none
   |_,_=>none)
  |_=>none)
 |_=>none⟩
theorem Rl {i j:Nat} (h:(!(ρ i j))=true):i≠j:=λe=>by subst e;simp at h
theorem abp {R:Type} (cs:List (aE SS)) (p:Option Value) (c:Nat->Option (Ob SS)) (k:Option Value->Up SS->Option R) (z:R) (a:vp.out cs p c k=some z): ∃q up,k q up=some z/\mS KK γ 251 cs p c q up:=by
 simp only[vp] at a;split at a
 rotate_left
 .cases a
 rename_i i j;split at a
 .refine⟨_,_,a,cp aU ξp rfl,λA O w xs u t b f K hm=>?_⟩;obtain⟨Z,ys,rfl,⟨l,_,m⟩,aa,x,rfl,⟨y,_,n⟩,o⟩:=t;cases m;cases n;rw[show x=[] from o,show u=_ from hm];refine abo.mono ?_;rintro e Y w' ⟨d,rfl,rfl⟩;exact⟨d,rfl,A,O,b_.none f⟩
 .rename_i e;split at a
  rotate_left
  .cases a
  rename_i G B d r;cases s:(!(ρ i j)&&(ρ (dX G) 17&&ρ (dX B) 1))<;>rw[s] at a
  .cases a
  simp only[ξo] at s;obtain⟨g,N,P⟩:=s;have g:=Rl g;refine⟨_,_,a,cp aU ξp rfl,λA O w xs u t b f K hm=>?_⟩;obtain⟨l,ah,p1,Q,W,af⟩:=q' b d;obtain⟨y,ai,p2,S,X,ag⟩:=q' b r;obtain⟨Z,ys,rfl,⟨ab,D,m⟩,aa,x,rfl,⟨ad,E,n⟩,o⟩:=t;rw[p1] at D;rw[p2] at E;cases D;cases E;cases m;cases n;rw[show x=[] from o,show u=_ from hm];have M:l≠y:=λe=>b.dj i j _ _ _ _ l g d r p1 p2 rfl (by rw[e];rfl);refine(abq e Q S ((gT W).trans (κ N)) ((gT X).trans (κ P)) M).mono ?_;rintro ae Y w' ⟨I,J,w1,f1,T,f2,U⟩;have h:b_ A O w c [(i,some (.box 25 (yX.map .v)))] A O w1:=vt b f d p1 f1 T (SO (by decide));have L:=b.ca f h;have H:b7 c [(i,some (.box 25 (yX.map LV.v)))] j=some (.box 40 B):=by
   rw[ed (λV C=>g (by simp at C;exact C.1.symm))];exact r
  have F:b_ A O w1 (b7 c [(i,some (.box 25 (yX.map .v)))]) [(j,some (.box 40 [.v (.int .i64 e)]))] A O w':=vt L h.ob H p2 f2 U ⟨[.int .i64 e],[],rfl,⟨rfl,rfl⟩,rfl⟩;exact⟨I,J,A,O,b_.two b g h F f⟩
 .cases a
set_option maxHeartbeats 4000000 in
theorem abl {w:World} {p1 p2 p3:Value}:
  CallsDIn (fw none) 0 γ 107 #[p1,p2,p3] .returning w (λf k w'=>(∃v,f= .returned v)/\k= .returning/\w'=w):=by
 refine callsDIn_of_wpSIn ξq rfl (by simp[fw]) λm cs hu=>?_;apply wpSIn_seq;apply wpSIn_region;simp[wpOpsSIn,go_sem,recoverD,hu,ξZ,ξG];refine wpSIn_of_wpIn rfl ?_;obtain⟨b,e⟩: ∃b:Env,b=[(0,p1),(1,p2),(2,p3),(3,.nilIface)]:=⟨_,rfl⟩;refine(show WC γ none 20 _ _ b [] w from ?_) _ ⟨by simp,rfl,b4 (by subst e;refine⟨?_,?_,?_,?_,trivial⟩<;>simp)⟩;subst e;refine aJ (aR (l:=[0,1]) rfl (aA ah [0] [(7,.nilIface)] rfl ⟨rfl,trivial⟩ (dZ (d:=8) rfl rfl rfl rfl (by intro c h;cases h) (λa g=>?_) (v:=.bool false) (w':=w) ?_)))
 .have h:=g.get 7 _ rfl;show(do let v<-(do eqGuard .neq 20 (.tmp 7) (.const .nilIface) (a.tmps.getD 7 undef) .nilIface;binOp .neq 20 (a.tmps.getD 7 undef) .nilIface:Sem Value);pure (ξk v):Sem Next).run _ w=_;rw[ξ5,h,Rn];rfl
 refine aQ (aK (hF rfl (dh λa i=>?_)));have j:(results Tryz.f107 a.tmps).run γ w= .ok (.tuple #[]) w:=by simp[results,ξQ]
 simp only[bodyPostS];refine⟨i.defers,.returning,?_,.tuple #[],j,?_⟩
 .rw[<-hu]
 .simp
set_option maxHeartbeats 4000000 in
theorem abn {w:World} {i b f:Nat} {g o p:Γb} (e:Int) (x:bK w i 36 g) (y:bK w b 36 o) (m:bK w f 53 p) (j:g.length=22) (r:o.length=22) (s:p.length=2) (B: ∀u∈g,u.oneCell'=true) (A:b≠f):
  CallsDIn (fw none) 0 γ 107 #[.pointer (some ⟨i,0,none⟩),.pointer (some ⟨b,0,none⟩),.pointer (some ⟨f,0,none⟩)] (.panicking [{v:=.iface 40 (.int .i64 e),recovered:=false}]) w
   (λt F w'=>(∃v,t= .returned v)/\settle F= .returning/\ ∃w1,Fr [b] w w1/\bK w1 b 36 g/\Fr [f] w1 w'/\bK w' f 53 [.int .i64 e,.int .u64 0]):=by
 refine callsDIn_of_wpSIn ξq rfl (by simp[fw]) λG cs hu=>?_;apply wpSIn_seq;apply wpSIn_region;simp[wpOpsSIn,go_sem,recoverD,hu,ξZ,ξG];refine wpSIn_of_wpIn rfl ?_;obtain⟨k,q⟩: ∃k:Env,k=[(0,.pointer (some ⟨i,0,none⟩)),(1,.pointer (some ⟨b,0,none⟩)),(2,.pointer (some ⟨f,0,none⟩)),(3,.iface 40 (.int .i64 e))]:=⟨_,rfl⟩;refine(show WC γ none 20 _ _ k [] w from ?_) _ ⟨by simp,rfl,b4 (by subst q;refine⟨?_,?_,?_,?_,trivial⟩<;>simp)⟩;subst q;refine aJ (aR (l:=[0,1]) rfl (aA ah [0] [(0,.pointer (some ⟨i,0,none⟩)),(1,.pointer (some ⟨b,0,none⟩)),(2,.pointer (some ⟨f,0,none⟩)),(3,.iface 40 (.int .i64 e)),(7,.iface 40 (.int .i64 e))] rfl ⟨rfl,rfl,rfl,rfl,rfl,trivial⟩ (dZ (d:=8) rfl rfl rfl rfl (by intro c h;cases h) (λa n=>?_) (v:=.bool true) (w':=w) ?_)))
 .have h:=n.get 7 _ rfl;show(do let v<-(do eqGuard .neq 20 (.tmp 7) (.const .nilIface) (a.tmps.getD 7 undef) .nilIface;binOp .neq 20 (a.tmps.getD 7 undef) .nilIface:Sem Value);pure (ξk v):Sem Next).run _ w=_;rw[ξ5,h,Rm];rfl
 refine aQ (aK (iF rfl (aJ (aR (l:=[0,1,2,3,4,5,6]) rfl (aA ah [0] [(0,.pointer (some ⟨i,0,none⟩)),(1,.pointer (some ⟨b,0,none⟩)),(2,.pointer (some ⟨f,0,none⟩)),(10,.iface 40 (.int .i64 e))] rfl ⟨rfl,rfl,rfl,rfl,trivial⟩ (dZ (d:=11) rfl rfl rfl rfl (by intro c h;cases h) (λa n=>?_) (v:=.tuple #[.int .i64 e,.bool true]) (w':=w) ?_))))))
 .have h:=n.get 10 _ rfl;show(do let v<-ξf (a.tmps.getD 10 undef) 20 40 true;pure (ξk v):Sem Next).run _ w=_;rw[ξ5,h,Uf];rfl
 refine aA ah [2,3,4,5,6] [(0,.pointer (some ⟨i,0,none⟩)),(1,.pointer (some ⟨b,0,none⟩)),(2,.pointer (some ⟨f,0,none⟩)),(4,.int .i64 e),(5,.bool true)] rfl ⟨rfl,rfl,rfl,rfl,rfl,trivial⟩ (aQ (aK (aJ (aJ (aR (l:=[0,1]) rfl (aA ah [0,1] [(0,.pointer (some ⟨i,0,none⟩)),(1,.pointer (some ⟨b,0,none⟩)),(2,.pointer (some ⟨f,0,none⟩)),(4,.int .i64 e),(15,.bool false)] rfl ⟨rfl,rfl,rfl,rfl,rfl,trivial⟩ (aQ (aK (hF rfl (dh (aK (aR (l:=[0,1,2,3,4]) rfl (cS ah rfl rfl rfl rfl rfl rfl rfl x g (by rw[ξW];exact List.take_of_length_le (by rw[j];decide)) j (.inl rfl) (.agg g.toArray) rfl ?_)))))))))))));refine aA ah [1,2] [(1,.pointer (some ⟨b,0,none⟩)),(2,.pointer (some ⟨f,0,none⟩)),(17,.agg g.toArray),(19,.agg #[.int .i64 e,.int .u64 0])] rfl ⟨rfl,rfl,rfl,rfl,trivial⟩ (eZ ah rfl rfl rfl rfl rfl rfl rfl y g rfl j B (by rw[r];rfl) g (by unfold putAt;rw[ξ3 (by simp[r,j]),ξ4];rfl) (λw1 D f1=>?_));have m:=m.fr f1 (by simpa using A.symm);refine eZ ah rfl rfl rfl rfl rfl rfl rfl m [.int .i64 e,.int .u64 0] rfl rfl (by simp[ξx]) (by rw[s];rfl) [.int .i64 e,.int .u64 0] (by unfold putAt;rw[ξ3 (by simp[s])];rfl) (λw2 E f2=>?_);refine aQ λa z=>?_;have C:(results Tryz.f107 a.tmps).run γ w2= .ok (.tuple #[]) w2:=by simp[results,ξQ]
 simp only[bodyPostS];refine⟨z.defers,.panicking [{v:=.iface 40 (.int .i64 e),recovered:=true}],rfl,.tuple #[],C,⟨.tuple #[],rfl⟩,rfl,w1,f1,D,f2,E⟩
def vn:mR SS:=⟨107,λcs p a k=>match cs with
 |[.one (.bl h 0),.one (.bl i 0),.one (.bl j 0)]=>(match p with
  |none=>k none []
  |some (.iface 40 (.int .i64 e))=>(match a h,a i,a j with
   |some (.box 36 b),some (.box 36 c),some (.box 53 d)=>bif !(ρ i j)&&(ρ (dX b) 22&&(ρ (dX c) 22&&ρ (dX d) 2)) then k none [(i,some (.box 36 b)),(j,some (.box 53 [.v (.int .i64 e),.v (.int .u64 0)]))] else none
   |_,_,_=>none)
  |_=>none)
 |_=>none⟩
theorem abm {R:Type} (cs:List (aE SS)) (p:Option Value) (c:Nat->Option (Ob SS)) (k:Option Value->Up SS->Option R) (z:R) (a:vn.out cs p c k=some z): ∃q up,k q up=some z/\mS KK γ 107 cs p c q up:=by
 simp only[vn] at a;split at a
 rotate_left
 .cases a
 rename_i h i j;split at a
 .refine⟨_,_,a,cp aU ξq rfl,λA O w xs u B b f T hm=>?_⟩;obtain⟨ak,ao,rfl,⟨L,_,o⟩,al,ys,rfl,⟨n,_,r⟩,an,D,rfl,⟨E,_,s⟩,t⟩:=B;cases o;cases r;cases s;rw[show D=[] from t,show u=_ from hm];refine abl.mono ?_;rintro e aj w' ⟨d,rfl,rfl⟩;exact⟨d,rfl,A,O,b_.none f⟩
 .rename_i e;split at a
  rotate_left
  .cases a
  rename_i l M F N d x;cases y:(!(ρ i j)&&(ρ (dX l) 22&&(ρ (dX M) 22&&ρ (dX F) 2)))<;>rw[y] at a
  .cases a
  simp only[ξo] at y;obtain⟨g,X,Y,Z⟩:=y;have g:=Rl g;refine⟨_,_,a,cp aU ξq rfl,λA O w xs u B b f T hm=>?_⟩;obtain⟨L,ax,ag,k0,C,o0⟩:=q' b N;obtain⟨n,ay,p1,aa,ah,af⟩:=q' b d;obtain⟨E,az,p2,ab,ai,aw⟩:=q' b x;obtain⟨ak,ao,rfl,⟨aq,H,o⟩,al,ys,rfl,⟨ar,I,r⟩,an,D,rfl,⟨au,J,s⟩,t⟩:=B;rw[ag] at H;rw[p1] at I;rw[p2] at J;cases H;cases I;cases J;cases o;cases r;cases s;rw[show D=[] from t,show u=_ from hm];have W:n≠E:=λe=>b.dj i j _ _ _ _ n g d x p1 p2 rfl (by rw[e];rfl);refine(abn e k0 aa ab ((gT C).trans (κ X)) ((gT ah).trans (κ Y)) ((gT ai).trans (κ Z)) (SK C) W).mono ?_;rintro av aj w' ⟨Q,S,w1,f1,ad,f2,ae⟩;have m:b_ A O w c [(i,some (.box 36 l))] A O w1:=vt b f d p1 f1 ad (k7 (f1.tr (hx af)) (Pl.le.refl A) C);have U:=b.ca f m;have P:b7 c [(i,some (.box 36 l))] j=some (.box 53 F):=by
   rw[ed (λV G=>g (by simp at G;exact G.1.symm))];exact x
  have K:b_ A O w1 (b7 c [(i,some (.box 36 l))]) [(j,some (.box 53 [.v (.int .i64 e),.v (.int .u64 0)]))] A O w':=vt U m.ob P p2 f2 ae ⟨[.int .i64 e],[.int .u64 0],rfl,⟨rfl,rfl⟩,[.int .u64 0],[],rfl,⟨rfl,rfl⟩,rfl⟩;exact⟨Q,S,A,O,b_.two b g m K f⟩
 .cases a
noncomputable def zo:bW SS:= {G2 with D:=vp::G2.D}
theorem X3:aj zo γ:=aj.NK (c:=vp) X1 abp
noncomputable def G3:bW SS:= {zo with D:=vn::zo.D}
theorem X2:aj G3 γ:=aj.NK (c:=vn) X3 abm
end Go.Proofs.YtdhaaaeffhaadaaGreatDoor
end
section
namespace Go.Proofs
open Go.Shelf
def Tryz.Ph:Go.Shelf.Ren:=⟨λ|156=>212|165=>246|166=>247|169=>248|240=>268|241=>269|276=>276|277=>277|n=>n,λ|31=>185|9=>9|3=>3|4=>4|0=>0|20=>20|72=>283|76=>287|70=>281|37=>175|75=>286|127=>298|164=>302|5=>5|80=>289|n=>n,λ|n=>n⟩
theorem Tryz.Pg:ζi γ Tryz.Ph:= {
 mixed:=by kernel_rfl
 f156:=ζ4.trans (congrArg some (by kernel_rfl))
 f165:=Tryz.func246.trans (congrArg some (by kernel_rfl))
 f166:=Tryz.func247.trans (congrArg some (by kernel_rfl))
 f169:=Tryz.func248.trans (congrArg some (by kernel_rfl))
 f240:=Tryz.func268.trans (congrArg some (by kernel_rfl))
 f241:=Tryz.func269.trans (congrArg some (by kernel_rfl))
 f276:=Tryz.func276.trans (congrArg some (by kernel_rfl))
 f277:=Tryz.func277.trans (congrArg some (by kernel_rfl))
 t0:=Tryz.underlying0
 a0:=Tryz.isAgg0
 z0:=Tryz.sizeOf0
 v0:=Tryz.zeroValue0
 t3:=ξn
 a3:=Tryz.isAgg3
 z3:=Tryz.sizeOf3
 v3:=Tryz.zeroValue3
 t4:=Tryz.underlying4
 a4:=Tryz.isAgg4
 z4:=Tryz.sizeOf4
 v4:=Tryz.zeroValue4
 t9:=Tryz.underlying9
 a9:=Tryz.isAgg9
 z9:=Tryz.sizeOf9
 v9:=Tryz.zeroValue9
 t20:=Tryz.underlying20
 a20:=Tryz.isAgg20
 z20:=Tryz.sizeOf20
 v20:=Tryz.zeroValue20
 t31:=Tryz.underlying185
 a31:=Tryz.isAgg185
 z31:=Tryz.sizeOf185
 v31:=Tryz.zeroValue185
 t37:=Tryz.underlying175
 a37:=Tryz.isAgg175
 z37:=Tryz.sizeOf175
 v37:=Tryz.zeroValue175
 t70:=Tryz.underlying281
 a70:=Tryz.isAgg281
 z70:=Tryz.sizeOf281
 v70:=Tryz.zeroValue281
 t72:=Tryz.underlying283
 a72:=Tryz.isAgg283
 z72:=Tryz.sizeOf283
 v72:=Tryz.zeroValue283
 t75:=Tryz.underlying286
 a75:=Tryz.isAgg286
 z75:=Tryz.sizeOf286
 v75:=Tryz.zeroValue286
 t76:=Tryz.underlying287
 a76:=Tryz.isAgg287
 z76:=Tryz.sizeOf287
 v76:=Tryz.zeroValue287
 t127:=Tryz.underlying298
 a127:=Tryz.isAgg298
 z127:=Tryz.sizeOf298
 v127:=Tryz.zeroValue298
 t164:=Tryz.underlying302
 a164:=Tryz.isAgg302
 z164:=Tryz.sizeOf302
 v164:=Tryz.zeroValue302}
theorem Tryz.Ku:Builder.Extra γ Tryz.Ph:= {
 sizeBuilder:=by kernel_rfl
 liesBuilder:=by kernel_rfl
 t5:=Tryz.underlying5
 a5:=Tryz.isAgg5
 z5:=Tryz.sizeOf5
 v5:=Tryz.zeroValue5
 infoByte:=by kernel_rfl
 cellsByte:=by kernel_rfl
 sizeByte:=by kernel_rfl
 neB5:=by decide}
open Go.RowKit in
theorem Tryz.strings_Join_none (a:Option Addr) (c:Nat) (sep:ByteArray) (w:World):
 Calls γ 212 #[.slice a 0 c,.string sep] w λe w'=>e= .returned (.string ⟨#[]⟩)/\w'=w:=Any.strings_Join_none Tryz.Pg Tryz.Ku a c sep w
open Go.RowKit in
theorem Tryz.strings_Join (bk o c:Nat) (xs:List ByteArray) (sep:ByteArray) (w:World) (d: ∀(j:Nat) x,xs[j]? =some x->w.cell? ⟨bk,o+j,none⟩=some (.string x)) (a:bk<w.heap.size) (hN:xs.length<=140737488355328) (b:xs.length<=c) (hlen:(ζk (xs.map (·.data.toList)) sep.data.toList).length<=140737488355328):
 Calls γ 212 #[.slice (some ⟨bk,o,none⟩) xs.length c,.string sep] w λe w'=>e= .returned (.string ⟨(ζk (xs.map (·.data.toList)) sep.data.toList).toArray⟩)/\Below w.heap.size w w':=Any.strings_Join Tryz.Pg Tryz.Ku bk o c xs sep w d a hN b hlen
end Go.Proofs
end
section
namespace Go.Proofs.YtdhaaaeffhaadaaGreatDoor
open Go.RowKit Go.Dc Go.Vx
def hr (es:List ByteArray) (sep:ByteArray):ByteArray:=⟨(ζk (es.map (·.data.toList)) sep.data.toList).toArray⟩
theorem ah7 {w:World} {ad:Addr} {v:Value} (h:w.cell? ad=some v):ad.spot=none:=by
 unfold World.cell? at h;split at h
 .split at h
  .cases h
  .rename_i a;simpa using a
 .cases h
theorem adn {O:Γ} {w:World} {v:Value} {es:List ByteArray} (sep:ByteArray) (B:(Ty.slice Ty.str).is O w v es) (hN:es.length<=140737488355328) (hlen:(hr es sep).size<=140737488355328):
  Calls γ 212 #[v,.string sep] w (λe w'=>e= .returned (.string (hr es sep))/\Fr [] w w'):=by
 obtain⟨cs,⟨A,c,t,hl,p⟩,i⟩:=B;subst t;have i:v= .slice A es.length c:=i;subst i;cases es with
 |nil=>
  refine(Tryz.strings_Join_none A c sep w).mono ?_;rintro e w' ⟨rfl,rfl⟩;exact⟨rfl,Fr.refl _ _⟩
 |cons f es=>
  obtain⟨ad,u,g,s,D,a,he⟩:=p 0 f rfl;subst g;have a:u=[.string f]:=a;subst a;have r:(ad.add (0*Ty.str.n)).add 0=ad:=by simp[Addr.add]
  have l:=he.1 0 (.string f) rfl;rw[r] at l;have h:=ah7 l;obtain⟨b,o,sp⟩:=ad;have h:sp=none:=h;subst h;refine(Tryz.strings_Join b o c (f::es) sep w (λj x y=>?_) s hN hl.1 (by simpa[hr,ByteArray.size] using hlen)).mono ?_
  .obtain⟨C,u,g,_,_,a,he⟩:=p j x y;cases g;have a:u=[.string x]:=a;subst a;have m:=he.1 0 (.string x) rfl;have q:((⟨b,o,none⟩:Addr).add (j*Ty.str.n)).add 0=⟨b,o+j,none⟩:=by
    rw[add_add,show j*Ty.str.n+0=j by show j*1+0=j;omega];unfold Addr.add;split<;>simp_all
   rw[q] at m;exact m
  .rintro e w' ⟨rfl,d⟩;exact⟨rfl,d.os,d.tape,d.output,d.size,λk z _=>d.block k z⟩
def xE:fe SS:=⟨212,λxs k=>match xs with
 |[.one l,.one (.v (.string sep))]=>(match dU KK (λ_=>none) 9 l with
  |some es=>bif decide (List.length (α:=ByteArray) es<=140737488355328)&&decide ((hr es sep).size<=140737488355328) then k (.ret (.s (.one (.v (.string (hr es sep)))))) else none
  |none=>none)
 |_=>none⟩
theorem ado {R:Type} (xs:List (aE SS)) (k:Rs SS->Option R) (z:R) (t:xs.all aE.pure=true) (a:xE.out xs k=some z): ∃r,k r=some z/\d_ KK γ 212 xs r:=by
 clear t;simp only[xE] at a;split at a
 rotate_left
 .cases a
 rename_i l sep;split at a
 rotate_left
 .cases a
 rename_i es o;rcases iR a with⟨c,a⟩|⟨_,a⟩
 rotate_left
 .cases a
 simp only[ξo,decide_eq_true_eq] at c;refine⟨_,a,cp aU ζ4 rfl,λA O w vs u B x=>?_⟩;obtain⟨y,ys,rfl,d,C,v,rfl,⟨f,_⟩,g⟩:=u;cases f;rw[show v=[] from g];have s:bS A O w (λ_=>(none:Option (Ob SS))):=⟨(λi X h=>nomatch h),(λi j X Y p q b _ h=>nomatch h)⟩;have n:=jK cH s o d;refine(adn sep n c.1 c.2).mono ?_;rintro e w' ⟨rfl,m⟩;exact⟨⟨_,rfl,rfl,rfl⟩,m⟩
noncomputable def G4:bW SS:= {G3 with C:=xE::G3.C}
theorem X4:aj G4 γ:=aj.hO (c:=xE) X2 ado
end Go.Proofs.YtdhaaaeffhaadaaGreatDoor
end
section
namespace Go.Dc
open Go.RowKit
def k5 (k:IntKind):Ty (Int×Value) where
 agg:=true
 n:=2
 rep _ _ cs x:=cs=[.int k x.1,x.2]/\ ∃A n c,x.2= .slice A n c
 tr _ h:=h
 len:=λ⟨h,_⟩=>by rw[h];rfl
 one:=λ⟨h,A,n,c,a⟩ u hu=>by
  rw[h,a] at hu;simp only[ξz,ξm,or_false] at hu;rcases hu with rfl|rfl<;>rfl
 e6 h:=by cases h
theorem Jc (k:IntKind):(k5 k).Flat:=λh=>h
structure cZ {α:Type} (T:Ty α) (e B:Nat) (w:World) (v:Value) (xs:List α):Prop where
 ex: ∃cs,w.ownsRow B e T.n v xs.length cs/\bN T [] w cs xs
section
variable {α:Type} {T:Ty α} {e B:Nat} {O O':Γ} {w w':World} {v:Value} {xs:List α}
theorem Own.iY (h:Own T e B O w v xs):cZ T e B w v xs:=by
 obtain⟨cs,a,b⟩:=h.ex;exact⟨cs,a,b.tr (Tr.less (mA _))⟩
theorem cZ.own (d:T.Flat) (h:cZ T e B w v xs) (c: ∀g,v.ownBlock=some g->g∈O):Own T e B O w v xs:=by
 obtain⟨cs,a,b⟩:=h.ex;exact⟨⟨cs,a,rC d b⟩,c⟩
theorem cZ.lt (h:cZ T e B w v xs): ∀g,v.ownBlock=some g->B<=g/\g<w.heap.size:=by
 obtain⟨cs,a,_⟩:=h.ex;exact a.lt
theorem cZ.keep (f:T.Flat) (h:cZ T e B w v xs) (k: ∀g,v.ownBlock=some g->w'.heap[g]? =w.heap[g]?):cZ T e B w' v xs:=by
 obtain⟨cs,⟨c,a⟩,d⟩:=h.ex;refine⟨cs,⟨c,?_⟩,rC f d⟩;rcases a with a|⟨g,cap,cur,b,i,j,r⟩
 .exact .inl a
 .refine .inr ⟨g,cap,cur,b,i,?_,r⟩;rw[k g (by rw[b];rfl)];exact j
theorem cZ.b6 (a:T.Flat) (h:cZ T e B w v xs) (b:Fr [] w w'):cZ T e B w' v xs:=h.keep a λg c=>b.block g (h.lt g c).2 (by simp)
theorem cZ.less {b:Nat} (h:cZ T e B w v xs) (f:b<=B):cZ T e b w v xs:=by
 obtain⟨cs,⟨c,a⟩,d⟩:=h.ex;refine⟨cs,⟨c,?_⟩,d⟩;rcases a with a|⟨g,cap,cur,j,i,r⟩
 .exact .inl a
 .exact .inr ⟨g,cap,cur,j,ζ5 f i,r⟩
theorem cZ.form (h:cZ T e B w v xs): ∃A c,v= .slice A xs.length c/\xs.length<=c/\c<=maxLen:=by
 obtain⟨cs,⟨_,a⟩,_⟩:=h.ex;rcases a with⟨rfl,b⟩|⟨g,cap,cur,rfl,_,_,d,f,_⟩
 .exact⟨none,0,by rw[b],by omega,by unfold maxLen;omega⟩
 .exact⟨_,cap,rfl,d,f⟩
theorem cZ.data (j:T.Flat) (h:cZ T e B w v xs) (hn: ∀g,v.ownBlock=some g->g∉O):T.slice.is O w v xs:=by
 obtain⟨cs,⟨l,b⟩,c⟩:=h.ex;rcases b with⟨rfl,hl⟩|⟨g,cap,cur,rfl,n,k,d,f,m,i⟩
 .have:xs=[]:=ξ1 hl;subst this;exact fR _ _ _
 .have a:bN T O w cs xs:=rC j c;exact ou k (hn g rfl) a (by rw[a.len];exact i) d f
theorem cZ.f':cZ T e B w (.slice none 0 0) []:=⟨[],World.ownsRow_nil w B e T.n,rfl⟩
end
def SP.iY {α:Type} (T:Ty α) (a:T.Flat) (e B:Nat) (xs:List α):SP:=⟨λw v=>cZ T e B w v xs,λb h=>h.b6 a b⟩
theorem OD {α:Type} {T:Ty α} {e B:Nat} {O:Γ} {w w':World} {zs:List α} {a:Ending} (b:w.heap.size=B) (h:eR T e B O w (.slice none 0 0) zs a w'):gi (λ_ w v zs=>cZ T e B w v zs) O w zs a w':=by
 subst b;obtain⟨c,O',he,ap⟩:=h;exact⟨c,he,ap.own.iY,ap.b6 Own.f' (Fr.refl [] w)⟩
def c6 {β:Type} (T:Ty β) (e B:Nat) (w:World):Γ->Γd->List (Int×List β)->Prop
 |S,[],[]=>S=[]
 |S,x::r,y::b=> ∃a,x.1=y.1/\S=x.2.ownBlock.toList++a/\cZ T e B w x.2 y.2/\c6 T e B w a r b
 |_,_,_=>False
section
variable {β:Type} {T:Ty β} {e B:Nat} {w w':World}
theorem c6.keep (b:T.Flat): ∀ {S:Γ} {rs:Γd} {xs:List (Int×List β)},c6 T e B w S rs xs->(∀g∈S,w'.heap[g]? =w.heap[g]?)->c6 T e B w' S rs xs
 |_,[],[],h,_=>h
 |_,_::_,_::_,⟨d,f,i,j,k⟩,c=>by
  subst i;exact⟨d,f,rfl,j.keep b λg a=>c g (ξv _ (by rw[a];simp)),c6.keep b k λg a=>c g (ξd _ a)⟩
 |_,[],_::_,h,_=>h.elim
 |_,_::_,[],h,_=>h.elim
theorem c6.lt: ∀ {S:Γ} {rs:Γd} {xs:List (Int×List β)},c6 T e B w S rs xs-> ∀g∈S,B<=g/\g<w.heap.size
 |_,[],[],h,g,a=>by rw[show _=[] from h] at a;cases a
 |_,_::_,_::_,⟨f,i,b,c,d⟩,g,a=>by
  subst b;rcases ξr.1 a with a|a
  .exact c.lt g (by simpa using a)
  .exact c6.lt d g a
 |_,[],_::_,h,_,_=>h.elim
 |_,_::_,[],h,_,_=>h.elim
theorem c6.b6 (a:T.Flat) {S:Γ} {rs:Γd} {xs:List (Int×List β)} (h:c6 T e B w S rs xs) (b:Fr [] w w'):c6 T e B w' S rs xs:=h.keep a λg c=>b.block g (h.lt g c).2 (by simp)
theorem c6.len: ∀ {S:Γ} {rs:Γd} {xs:List (Int×List β)},c6 T e B w S rs xs->rs.length=xs.length
 |_,[],[],_=>rfl
 |_,_::_,_::_,⟨_,_,_,_,a⟩=>by simp[c6.len a]
 |_,[],_::_,h=>h.elim
 |_,_::_,[],h=>h.elim
theorem c6.app: ∀ {S S':Γ} {rs a:Γd} {xs b:List (Int×List β)},c6 T e B w S rs xs->c6 T e B w S' a b->c6 T e B w (S++S') (rs++a) (xs++b)
 |_,_,[],_,[],_,h,k=>by rw[show _=[] from h];exact k
 |_,_,_::_,_,_::_,_,⟨c,d,f,g,i⟩,k=>by subst f;exact⟨c++_,d,by simp,g,c6.app i k⟩
 |_,_,[],_,_::_,_,h,_=>h.elim
 |_,_,_::_,_,[],_,h,_=>h.elim
theorem c6.at_: ∀ {S:Γ} {rs:Γd} {xs:List (Int×List β)} {j:Nat} {x:Int×List β},c6 T e B w S rs xs->xs[j]? =some x->
  ∃v k b,rs[j]? =some (x.1,v)/\S=k++v.ownBlock.toList++b/\cZ T e B w v x.2/\
   ∀ {w':World} {d:Value} {ys:List β},(∀g∈k++b,w'.heap[g]? =w.heap[g]?)->T.Flat->cZ T e B w' d ys->c6 T e B w' (k++d.ownBlock.toList++b) (rs.set j (x.1,d)) (xs.set j (x.1,ys))
 |_,[],[],_,_,_,a=>by simp at a
 |_,r::rs,y::xs,0,x,⟨b,l,m,n,o⟩,a=>by
  simp at a;subst a;refine⟨r.2,[],b,by simp[<-l],by simpa using m,n,λ{w' d ys} i f p=>?_⟩;exact⟨b,rfl,by simp,p,o.keep f λg c=>i g (by simpa using c)⟩
 |_,r::rs,y::xs,j+1,x,⟨b,l,m,n,o⟩,a=>by
  obtain⟨v,q,s,t,u,z,A⟩:=c6.at_ o (by simpa using a);refine⟨v,r.2.ownBlock.toList++q,s,by simpa using t,by rw[m,u];simp,z,λ{w' d ys} i f p=>?_⟩;exact⟨q++d.ownBlock.toList++s,l,by simp,n.keep f λg c=>i g (by simp[c]),A (λg c=>i g (by simp at c ⊢;exact .inr c)) f p⟩
 |_,[],_::_,_,_,h,_=>h.elim
 |_,_::_,[],_,_,_,a=>by simp at a
theorem c6.ins: ∀ {S:Γ} {rs:Γd} {xs:List (Int×List β)} (j:Nat) (p:Int),j<=rs.length->c6 T e B w S rs xs->c6 T e B w S (rs.take j++[(p,.slice none 0 0)]++rs.drop j) (xs.take j++[(p,[])]++xs.drop j)
 |S,rs,xs,0,p,_,h=>by
  simp only[List.take_zero,List.nil_append,ξW,List.singleton_append];exact⟨S,rfl,rfl,cZ.f',h⟩
 |_,r::rs,y::xs,j+1,p,a,⟨b,c,d,f,g⟩=>by
  simp only[List.take_succ_cons,List.drop_succ_cons,List.cons_append];exact⟨b,c,d,f,c6.ins j p (by simpa using a) g⟩
 |_,[],_,j+1,p,a,_=>by simp at a
 |_,_::_,[],j+1,p,_,h=>h.elim
end
end Go.Dc
end
section
namespace Go.Proofs.YtdhaaaeffhaadaaGreatDoor
open Go.RowKit Go.Dc Go.Vx
def nO (xs:List ai) (j:Int) (ys:List ai):Option (List ai):=hW 24 xs j ys
def nP (xs:List av) (j:Int) (ys:List av):Option (List av):=hW 16 xs j ys
def lZ (xs:List ag) (j:Int) (ys:List ag):Option (List ag):=hW 32 xs j ys
def yv (xs:Γd) (j:Int) (ys:Γd):Option (Γd):=hW 32 xs j ys
set_option maxRecDepth 100000 in
set_option maxHeartbeats 12000000 in
theorem xB:(∀ {O:Γ} {w:World},OB O w-> ∀ {B:Nat},B<=w.heap.size-> ∀ {v:Value} {xs:List ai},Go.Dc.Own eY 89 B O w v xs-> ∀ {v1:Value} {j:Int},(Ty.int .i64).is O w v1 j-> ∀ {u:Value} {ys:List ai},(Ty.slice eY).is O w u ys->Plain w u-> ∀ {zs:List ai},nO xs j ys=some zs->let T:Ty ai:=eY;let e:Nat:=89;let S:Nat:=3;Calls γ 231 #[v,v1,u] w (eR T e B O w v zs))/\(∀ {O:Γ} {w:World},OB O w-> ∀ {B:Nat},B<=w.heap.size-> ∀ {v:Value} {xs:List av},Go.Dc.Own cY 93 B O w v xs-> ∀ {v1:Value} {j:Int},(Ty.int .i64).is O w v1 j-> ∀ {u:Value} {ys:List av},(Ty.slice cY).is O w u ys->Plain w u-> ∀ {zs:List av},nP xs j ys=some zs->let T:Ty av:=cY;let e:Nat:=93;let S:Nat:=2;Calls γ 240 #[v,v1,u] w (eR T e B O w v zs))/\(∀ {O:Γ} {w:World},OB O w-> ∀ {B:Nat},B<=w.heap.size-> ∀ {v:Value} {xs:List ag},Go.Dc.Own eO 69 B O w v xs-> ∀ {v1:Value} {j:Int},(Ty.int .i64).is O w v1 j-> ∀ {u:Value} {ys:List ag},(Ty.slice eO).is O w u ys->Plain w u-> ∀ {zs:List ag},lZ xs j ys=some zs->let T:Ty ag:=eO;let e:Nat:=69;let S:Nat:=4;Calls γ 256 #[v,v1,u] w (eR T e B O w v zs))/\(∀ {O:Γ} {w:World},OB O w-> ∀ {B:Nat},B<=w.heap.size-> ∀ {v:Value} {xs:Γd},Go.Dc.Own (k5 .u64) 82 B O w v xs-> ∀ {v1:Value} {j:Int},(Ty.int .i64).is O w v1 j-> ∀ {u:Value} {ys:Γd},(Ty.slice (k5 .u64)).is O w u ys->Plain w u-> ∀ {zs:Γd},yv xs j ys=some zs->let T:Ty (Int×Value):=(k5 .u64);let e:Nat:=82;let S:Nat:=2;Calls γ 169 #[v,v1,u] w (eR T e B O w v zs)):=by
 refine⟨?_,?_,?_,?_⟩
 all_goals
  intro O w P B aM v xs aa v1 j bh u ys hu hp zs bH T e S;obtain rfl:=dx.1 bh;obtain⟨bS,bT,bc,rfl⟩:=O2 bH;obtain⟨k,rfl⟩: ∃k:Nat,j=k:=⟨j.toNat,by omega⟩;simp only[Int.toNat_natCast] at*
  have aE:k<=xs.length:=by omega
  obtain⟨A,c,rfl,bz,bQ⟩:=aa.form;obtain⟨D,i,rfl,bW,bX⟩:=dr hu;refine e8 (args:=[.slice A xs.length c,.int .i64 k,.slice D ys.length i]) (N:=95) (by first|exact ζ6|exact ζ7|exact ζ8|exact Tryz.func169) rfl rfl rfl ?_;refine aJ (aR (l:=[0]) rfl (aA ah [0] [(0,.slice A xs.length c),(1,.int .i64 k),(2,.slice D ys.length i)] rfl ⟨rfl,rfl,rfl,trivial⟩ (aQ (aK (aJ (aR (l:=[0,1,2]) rfl (aA ah [0,1] [(0,.slice A xs.length c),(1,.int .i64 k),(2,.slice D ys.length i),(10,.slice A xs.length c),(11,.int .i64 k)] rfl ⟨rfl,rfl,rfl,rfl,rfl,trivial⟩ (rU ah rfl rfl rfl rfl rfl rfl rfl rfl rfl rfl bz aE (aQ (aK (aJ (aR (l:=[0,1,2]) rfl (aA ah [0,1,2] [(0,.slice A xs.length c),(1,.int .i64 k),(2,.slice D ys.length i),(7,.int .i64 (ys.length:Int))] rfl ⟨rfl,rfl,rfl,rfl,trivial⟩ (aQ (aK (aJ (aJ (aR (l:=[0,1]) rfl (aA ah [0,1] [(0,.slice A xs.length c),(1,.int .i64 k),(2,.slice D ys.length i),(7,.int .i64 (ys.length:Int)),(16,.bool ((ys.length:Int)==0))] rfl ⟨rfl,rfl,rfl,rfl,rfl,trivial⟩ (aQ (aK ?_)))))))))))))))))))))
  by_cases aF:ys.length=0
  .have bG:ys=[]:=ξ1 aF;refine eJ rfl (by simp[aF]) ?_;refine aJ (aR (l:=[0,1]) rfl (aA ah [0,1] [(6,.slice A xs.length c)] rfl ⟨rfl,trivial⟩ (aQ (aK (cO (eQ (dv rfl ⟨_,O,rfl,?_⟩)))))));have e:xs.take k++ys++xs.drop k=xs:=by rw[bG];simp
   rw[e];exact⟨aa,Tr.refl _ _,P,Sub.refl _,λ_ _ _=>rfl,λ_ _ h=>h⟩
  refine eP rfl (beq_eq_false_iff_ne.2 (by omega)) ?_;refine dh (aK (aJ (aR (l:=[0,1,2]) rfl (aA ah [0,1,2] [(0,.slice A xs.length c),(1,.int .i64 k),(2,.slice D ys.length i),(7,.int .i64 (ys.length:Int)),(8,.int .i64 (xs.length:Int))] rfl ⟨rfl,rfl,rfl,rfl,rfl,trivial⟩ (aQ (aK (aJ (aJ (aR (l:=[0,1,2]) rfl (aA ah [0,1,2] [(0,.slice A xs.length c),(1,.int .i64 k),(2,.slice D ys.length i),(7,.int .i64 (ys.length:Int)),(8,.int .i64 (xs.length:Int)),(22,.bool ((k:Int)==(xs.length:Int)))] rfl ⟨rfl,rfl,rfl,rfl,rfl,rfl,trivial⟩ (aQ (aK ?_))))))))))))
  by_cases a8:k=xs.length
  .refine eJ rfl (by simp[a8]) ?_;refine aJ (aR (l:=[0,1,2,3]) rfl (aA ah [0,1] [(23,.slice A xs.length c),(24,.slice D ys.length i)] rfl ⟨rfl,rfl,trivial⟩ (U1 ah rfl rfl rfl rfl rfl rfl rfl rfl rfl (by decide) rfl (by decide) rfl rfl aM P aa hu (by simp only[ζ0] at bc ⊢;omega) (λbJ w' O' bq=>?_))));refine aA ah [3] [(6,bJ)] rfl ⟨rfl,trivial⟩ (aQ (aK (cO (eQ (dv rfl ⟨_,O',rfl,?_⟩)))));have e:xs.take k++ys++xs.drop k=xs++ys:=by subst a8;simp
   rw[e];exact bq
  refine eP rfl (by simp;omega) ?_;refine dh (aK ?_);obtain⟨cs,⟨au,aI⟩,W⟩:=aa.ex;rcases aI with⟨_,bV⟩|⟨g,c2,cur,aI,bm,K,ak,bt,aw,ay⟩
  .omega
  injection aI with bl bY F;subst bl;subst F;have aB:=aa.mem g rfl;cases D with
  |none=>exact absurd (kd hu) (λh=>aF (by rw[h];rfl))
  |some ad=>
  obtain⟨b3,bM,b7,aD⟩:=hp ad _ _ rfl;obtain⟨_,us,X,aZ⟩:=rH hu;have s:us.length=ys.length*S:=X.len;have au:cs.length=xs.length*S:=au;have Q:T.n=S:=rfl;rw[Q] at aw ay;have aY:ad.block≠g:=by
   intro e;obtain⟨y,bF⟩: ∃y,ys[0]? =some y:=⟨_,List.getElem?_eq_getElem (by omega)⟩;obtain⟨bL,bf,bC⟩:=JM hu bF;cases bf;obtain⟨_,⟨_,_,br,_,a_,_⟩,F⟩:=bC;subst br;have F:Value.pointer (some (ad.add (0*T.n)))= .pointer (some _):=F;injection F with F;injection F with F;rw[<-F,fA,e] at a_;exact a_ aB
  have bs: ∀j,w.cell? ⟨g,j,none⟩=cur[j]? :=λj=>cell_of_row w g j cur e (0,0) K;have bu: ∀j x,cs[j]? =some x->cur.toList[j]? =some x:=λj x r=>by
   rw[<-ay,ξA] at r;split at r
   .exact r
   .cases r
  have ax: ∀q,dJ w ⟨g,q,none⟩ (cs.drop q):=λq j x r=>by
   rw[fg,bs,<-Array.getElem?_toList];rw[List.getElem?_drop] at r;exact bu _ x r
  have bU:k*S<=xs.length*S:=ξ7 _ aE;have bP:xs.length*S<=c*S:=ξ7 _ ak;have a': ∀x∈cs,x.oneCell'=true:=W.one;refine aJ (aJ (aR (l:=[0,1,2,3,4,5]) rfl ?_));have aL:δ.wrap ((xs.length:Int)+(ys.length:Int))=((xs.length+ys.length:Nat):Int):=by
   rw[ξg];unfold maxLen at*;omega
  refine aA ah [0,1,2,3,4,5] [(0,.slice (some ⟨g,0,none⟩) xs.length c),(1,.int .i64 k),(2,.slice (some ad) ys.length i),(7,.int .i64 (ys.length:Int)),(8,.int .i64 (xs.length:Int)),(31,.bool (decide (δ.wrap ((xs.length:Int)+(ys.length:Int))>(c:Int))))] rfl ⟨rfl,rfl,rfl,rfl,rfl,rfl,trivial⟩ (aQ (aK ?_));rw[aL]
  by_cases bR:c<xs.length+ys.length
  .refine eJ rfl (by simp;omega) ?_;refine aJ (aR (l:=[0,1,2,3,4,5,6,7,8,9]) rfl (aA ah [0,1] [(0,.slice (some ⟨g,0,none⟩) xs.length c),(1,.int .i64 k),(2,.slice (some ad) ys.length i),(7,.int .i64 (ys.length:Int)),(8,.int .i64 (xs.length:Int)),(32,.slice (some ⟨g,0,none⟩) xs.length c),(33,.int .i64 k)] rfl ⟨rfl,rfl,rfl,rfl,rfl,rfl,rfl,trivial⟩ (Ki ah rfl rfl rfl rfl rfl rfl rfl rfl rfl rfl ak (by omega) ?_)));refine aA ah [3,4,5,6,7] [(0,.slice (some ⟨g,0,none⟩) xs.length c),(1,.int .i64 k),(2,.slice (some ad) ys.length i),(7,.int .i64 (ys.length:Int)),(34,.slice (some ⟨g,0,none⟩) k c),(39,.int .i64 (δ.wrap (δ.wrap ((xs.length:Int)+(ys.length:Int))-(k:Int))))] rfl ⟨rfl,rfl,rfl,rfl,rfl,rfl,trivial⟩ ?_;have bE:δ.wrap (δ.wrap ((xs.length:Int)+(ys.length:Int))-(k:Int))=((xs.length+ys.length-k:Nat):Int):=by
    rw[aL,ξg];unfold maxLen at*;omega
   rw[bE];have o:(cs.take (k*S)).length=k*S:=by rw[ξ9];omega
   refine ajc ah rfl rfl rfl rfl rfl rfl rfl rfl rfl rfl rfl rfl rfl (us:=cs.take (k*S)) (λj x r=>by
    rw[ξA] at r;split at r
    .have:=ax 0 j x (by simpa using r);exact this
    .cases r) o (by omega) (by omega) (by simp only[ζ0] at bc ⊢;omega) rfl ?_
   have bA:k+(xs.length+ys.length-k)=xs.length+ys.length:=by omega
   rw[bA];generalize aN:grownCap w (xs.length+ys.length) c e=C;have an:xs.length+ys.length<=C:=by rw[<-aN];exact grownCap_ge _ _ _ _
   have bn:C<=maxLen:=by rw[<-aN];exact grownCap_le_maxLen _ _ _ _ (by unfold maxLen at*;omega)
   have bN:(xs.length+ys.length)*S<=C*S:=ξ7 _ an;refine aA ah [9] [(0,.slice (some ⟨g,0,none⟩) xs.length c),(1,.int .i64 k),(2,.slice (some ad) ys.length i),(7,.int .i64 (ys.length:Int)),(9,.slice (some ⟨w.heap.size,0,none⟩) (xs.length+ys.length) C)] rfl ⟨rfl,rfl,rfl,rfl,rfl,trivial⟩ (aQ (aK ?_));obtain⟨Z,aU,aq⟩:=ahk (cs:=cs.take (k*S)) (xs.length+ys.length-k) (C-(xs.length+ys.length)) (by first|exact(show(ξy (.agg #[.int .u64 0,.int .i64 0,.int .u64 0])).size=S from(λ(_:e=89)=>rfl) rfl)|exact(show(ξy (.agg #[.int .u64 0,.int .u64 0])).size=S from(λ(_:e=93)=>rfl) rfl)|exact(show(ξy (.agg #[.int .u64 0,.int .u64 0,.bool false,.int .u64 0])).size=S from(λ(_:e=69)=>rfl) rfl)|exact(show(ξy (.agg #[.int .u64 0,.slice none 0 0])).size=S from(λ(_:e=82)=>rfl) rfl));rw[show xs.length+ys.length-k+(C-(xs.length+ys.length))=C-k by omega] at aq;generalize (cs.take (k*S)).toArray++ξH _ (xs.length+ys.length-k)++ξH _ (C-(xs.length+ys.length))=row at*
   have bO:(C-k)*S+k*S=C*S:=by rw[<-ξ6];congr 1;omega
   have b2:row.size=C*S:=by rw[<-ο,aU,η,aq,o];omega
   have aG:=kU (O:=O) (w:=w.drew) P e row.toList;simp only[Array.toArray_toList] at aG;generalize b5:w.drew.alloc (.cells row e)=w1 at*
   have ao:w1.heap[w.heap.size]? =some (.cells row e (0,0)):=by have:=aG.bI;unfold bK at this;simpa using this
   have a6:Fr [] w w1:=(Fr.drew [] w).trans aG.fr;have bD:(xs.length+ys.length)*S=k*S+ys.length*S+(xs.length-k)*S:=by rw[<-ξ6,<-ξ6];congr 1;omega
   have a7:(k+ys.length)*S=k*S+ys.length*S:=ξ6 _ _ _;have bB:(xs.length-k)*S+k*S=xs.length*S:=by rw[<-ξ6];congr 1;omega
   refine aJ (aR (l:=[0,1,2,3,4]) rfl (aA ah [0,1] [(0,.slice (some ⟨g,0,none⟩) xs.length c),(1,.int .i64 k),(2,.slice (some ad) ys.length i),(7,.int .i64 (ys.length:Int)),(9,.slice (some ⟨w.heap.size,0,none⟩) (xs.length+ys.length) C),(41,.slice (some ⟨w.heap.size,0,none⟩) (xs.length+ys.length) C),(42,.int .i64 k)] rfl ⟨rfl,rfl,rfl,rfl,rfl,rfl,rfl,trivial⟩ (rU ah rfl rfl rfl rfl rfl rfl rfl rfl rfl rfl an (by omega) ?_)));rw[if_neg (by omega),χ,fg,ξa];refine aA ah [3] [(0,.slice (some ⟨g,0,none⟩) xs.length c),(1,.int .i64 k),(7,.int .i64 (ys.length:Int)),(9,.slice (some ⟨w.heap.size,0,none⟩) (xs.length+ys.length) C),(43,.slice (some ⟨w.heap.size,k*S,none⟩) (xs.length+ys.length-k) (C-k)),(44,.slice (some ad) ys.length i)] rfl ⟨rfl,rfl,rfl,rfl,rfl,rfl,trivial⟩ ?_;have ar:ad.block<w.heap.size:=(ι.1 aD).1;refine Kh ah rfl rfl rfl rfl rfl rfl rfl rfl rfl rfl ao (aZ.keep (a6.block _ ar (by simp))) s X.one (by omega) (by omega) (λz=>?_);rw[aU,ξb o];generalize ba:(cs.take (k*S)++us++ξR (k*S+us.length) (cs.take (k*S)++Z)).toArray=J;obtain⟨af,aV,aW⟩: ∃af:Γb,J.toList=cs.take (k*S)++us++af/\af.length=C*S-(k*S+ys.length*S):=by
    refine⟨_,by rw[<-ba],?_⟩;simp only[ξ,η,o,aq,s];omega
   clear ba;have bw:=kc (new:=J) ao;have aS:(w1.setRow w.heap.size J).heap[w.heap.size]? =some (.cells J e (0,0)):=setRow_heap w1 _ _ _ _ _ ao;generalize b6:w1.setRow w.heap.size J=w2 at*
   have bo:Fr [] w w2:=a6.own bw (ν _);refine aQ (aK (aJ ?_));have al:δ.wrap ((k:Int)+(ys.length:Int))=((k+ys.length:Nat):Int):=by rw[ξg];unfold maxLen at*;omega
   refine yS mixed [⟨46,[],[9]⟩,⟨47,[],[1]⟩,⟨48,[],[7]⟩,⟨49,[1,2],[]⟩,⟨50,[0,3],[]⟩,⟨51,[],[0]⟩,⟨52,[],[1]⟩,⟨53,[5,6],[]⟩] [SP.eq (.slice (some ⟨w.heap.size,0,none⟩) (xs.length+ys.length) C),SP.eq (.int .i64 k),SP.eq (.int .i64 (ys.length:Int)),SP.eq (.int .i64 (δ.wrap ((k:Int)+(ys.length:Int)))),SP.eq (.slice (some ⟨w.heap.size,(k+ys.length)*S,none⟩) (xs.length-k) (C-(k+ys.length))),SP.eq (.slice (some ⟨g,0,none⟩) xs.length c),SP.eq (.int .i64 k),SP.eq (.slice (some ⟨g,k*S,none⟩) (xs.length-k) (c-k))] rfl rfl rfl rfl ⟨?_,?_,?_,?_,?_,?_,?_,?_,trivial⟩ ?_
   .intro a w3 m hN b d f;exact cX ah ⟨hN,b,b4 (E:=[(9,.slice (some ⟨w.heap.size,0,none⟩) (xs.length+ys.length) C)]) ⟨d 9 rfl _ rfl,trivial⟩⟩ rfl rfl rfl rfl rfl
   .intro a w3 m hN b d f;exact cX ah ⟨hN,b,b4 (E:=[(1,.int .i64 k)]) ⟨d 1 rfl _ rfl,trivial⟩⟩ rfl rfl rfl rfl rfl
   .intro a w3 m hN b d f;exact cX ah ⟨hN,b,b4 (E:=[(7,.int .i64 (ys.length:Int))]) ⟨d 7 rfl _ rfl,trivial⟩⟩ rfl rfl rfl rfl rfl
   .intro a w3 m hN b d f;exact cX ah ⟨hN,b,b4 (E:=[(47,.int .i64 k),(48,.int .i64 (ys.length:Int))]) ⟨f 1 rfl _ _ rfl rfl,f 2 rfl _ _ rfl rfl,trivial⟩⟩ rfl rfl rfl rfl rfl
   .intro a w3 m hN b d f;have bj:a.tmps.getD 49 undef= .int .i64 ((k+ys.length:Nat):Int):=by rw[<-al];exact f 3 rfl _ _ rfl rfl
    refine(re ah ⟨hN,b,b4 (E:=[(46,.slice (some ⟨w.heap.size,0,none⟩) (xs.length+ys.length) C),(49,.int .i64 ((k+ys.length:Nat):Int))]) ⟨f 0 rfl _ _ rfl rfl,bj,trivial⟩⟩ rfl rfl rfl rfl rfl rfl rfl rfl rfl an (by omega)).weaken (λu w4 ⟨hu,I⟩=>⟨?_,I⟩);rw[hu,if_neg (by omega),χ,fg,ξa,show xs.length+ys.length-(k+ys.length)=xs.length-k by omega];rfl
   .intro a w3 m hN b d f;exact cX ah ⟨hN,b,b4 (E:=[(0,.slice (some ⟨g,0,none⟩) xs.length c)]) ⟨d 0 rfl _ rfl,trivial⟩⟩ rfl rfl rfl rfl rfl
   .intro a w3 m hN b d f;exact cX ah ⟨hN,b,b4 (E:=[(1,.int .i64 k)]) ⟨d 1 rfl _ rfl,trivial⟩⟩ rfl rfl rfl rfl rfl
   .intro a w3 m hN b d f;refine(re ah ⟨hN,b,b4 (E:=[(51,.slice (some ⟨g,0,none⟩) xs.length c),(52,.int .i64 k)]) ⟨f 5 rfl _ _ rfl rfl,f 6 rfl _ _ rfl rfl,trivial⟩⟩ rfl rfl rfl rfl rfl rfl rfl rfl rfl ak aE).weaken (λu w4 ⟨hu,I⟩=>⟨?_,I⟩);rw[hu,if_neg (by omega),χ,fg,ξa];rfl
   intro a w3 f3 hN b d U;have H:w3.heap[w.heap.size]? =some (.cells J e (0,0)):=(f3.block _ (ι.1 aS).1 (by simp)).trans aS;have aO:Fr [] w w3:=bo.trans f3;refine rV (E:=[(9,.slice (some ⟨w.heap.size,0,none⟩) (xs.length+ys.length) C),(50,.slice (some ⟨w.heap.size,(k+ys.length)*S,none⟩) (xs.length-k) (C-(k+ys.length))),(53,.slice (some ⟨g,k*S,none⟩) (xs.length-k) (c-k))]) (l:=[8]) hN b ⟨d 9 _ rfl rfl,U 4 _ _ rfl rfl,U 7 _ _ rfl rfl,trivial⟩ rfl ?_;have aC:g<w.heap.size:=(ι.1 K).1;have bZ:J.size=C*S:=by rw[<-ο,aV,η,η,o,s,aW];omega
   have G:(cs.drop (k*S)).length=(xs.length-k)*S:=by rw[ξ];omega
   refine Kh ah rfl rfl rfl rfl rfl rfl rfl rfl rfl rfl H ((ax (k*S)).keep (aO.block _ aC (by simp))) G (λu hu=>a' u (ξw hu)) (ν _) (by omega) (λz=>?_);rw[aV,ξb (by rw[η,o,s,a7])];generalize V:(cs.take (k*S)++us++cs.drop (k*S)++ξR ((k+ys.length)*S+(cs.drop (k*S)).length) (cs.take (k*S)++us++af)).toArray=p;obtain⟨t,R,aj⟩: ∃t:Γb,p.toList=cs.take (k*S)++us++cs.drop (k*S)++t/\t.length=C*S-(xs.length+ys.length)*S:=by
    refine⟨_,by rw[<-V],?_⟩;simp only[ξ,η,o,aW,s,au];omega
   clear V;have az:=kc (new:=p) H;have M:(w3.setRow w.heap.size p).heap[w.heap.size]? =some (.cells p e (0,0)):=setRow_heap w3 _ _ _ _ _ H;generalize w3.setRow w.heap.size p=w4 at*
   have L:Fr [] w w4:=aO.own az (ν _);refine aQ (aK (aJ (aR (l:=[0,1]) rfl (aA ah [0,1] [(6,.slice (some ⟨w.heap.size,0,none⟩) (xs.length+ys.length) C)] rfl ⟨rfl,trivial⟩ (aQ (aK (cO (eQ (dv rfl ⟨_,w.heap.size::O,rfl,?_⟩)))))))));have ab:(xs.take k++ys++xs.drop k).length=xs.length+ys.length:=by simp only[η,ξ9,ξ];omega
   have aH:Tr O w (w.heap.size::O) w4:=JT L (ν _);have:=OM (T:=T) (e:=e) (B:=B) (v:=.slice (some ⟨g,0,none⟩) xs.length c) (zs:=xs.take k++ys++xs.drop k) (cap:=C) (cs:=cs.take (k*S)++us++cs.drop (k*S)) P (ν _) aM L M (by rw[Q,<-ο,R];simp only[η,o,s,G,aj];omega) bn (by omega)
    ((((W.take k).app X).app (W.drop k)).tr aH) (by rw[ab,Q,R];exact ξb (by simp only[η,o,s,G];omega))
   rw[ab] at this;exact this
  ·
   refine eP rfl (by simp;omega) ?_;refine dh (aK ?_);have b1:(xs.length+ys.length)*S<=c*S:=ξ7 _ (by omega);have bD:(xs.length+ys.length)*S=k*S+ys.length*S+(xs.length-k)*S:=by rw[<-ξ6,<-ξ6];congr 1;omega
   have a7:(k+ys.length)*S=k*S+ys.length*S:=ξ6 _ _ _;have bB:(xs.length-k)*S+k*S=xs.length*S:=by rw[<-ξ6];congr 1;omega
   have G:(cs.drop (k*S)).length=(xs.length-k)*S:=by rw[ξ];omega
   have o:(cs.take (k*S)).length=k*S:=by rw[ξ9];omega
   refine aJ (aR (l:=[0,1,2,3,4,5]) rfl (aA ah [0,1,2,3] [(1,.int .i64 k),(2,.slice (some ad) ys.length i),(7,.int .i64 (ys.length:Int)),(8,.int .i64 (xs.length:Int)),(56,.slice (some ⟨g,0,none⟩) xs.length c),(59,.int .i64 (δ.wrap ((xs.length:Int)+(ys.length:Int))))] rfl ⟨rfl,rfl,rfl,rfl,rfl,rfl,trivial⟩ ?_));rw[aL];refine Ki ah rfl rfl rfl rfl rfl rfl rfl rfl rfl rfl ak (by omega) ?_;refine aA ah [5] [(0,.slice (some ⟨g,0,none⟩) (xs.length+ys.length) c),(1,.int .i64 k),(2,.slice (some ad) ys.length i),(7,.int .i64 (ys.length:Int)),(8,.int .i64 (xs.length:Int))] rfl ⟨rfl,rfl,rfl,rfl,rfl,trivial⟩ (aQ (aK (aJ (aJ (aR (l:=[0,1,2,3,4,5,6,7]) rfl ?_)))));have al:δ.wrap ((k:Int)+(ys.length:Int))=((k+ys.length:Nat):Int):=by rw[ξg];unfold maxLen at*;omega
   refine aA ah [0,1,2,3,4] [(0,.slice (some ⟨g,0,none⟩) (xs.length+ys.length) c),(1,.int .i64 k),(2,.slice (some ad) ys.length i),(7,.int .i64 (ys.length:Int)),(8,.int .i64 (xs.length:Int)),(61,.slice (some ad) ys.length i),(62,.slice (some ⟨g,0,none⟩) (xs.length+ys.length) c),(65,.int .i64 (δ.wrap ((k:Int)+(ys.length:Int))))] rfl ⟨rfl,rfl,rfl,rfl,rfl,rfl,rfl,rfl,trivial⟩ ?_;rw[al];refine rU ah rfl rfl rfl rfl rfl rfl rfl rfl rfl rfl (by omega) (by omega) ?_;rw[if_neg (by omega),χ,fg,ξa];refine ajk ah rfl rfl rfl rfl rfl (by first|exact Tryz.func258|exact Tryz.func264|exact Tryz.func271|exact Tryz.func206) rfl rfl rfl rfl rfl rfl rfl rfl rfl aY aD K (by rw[aw];omega) ?_;refine aA ah [7] [(0,.slice (some ⟨g,0,none⟩) (xs.length+ys.length) c),(1,.int .i64 k),(2,.slice (some ad) ys.length i),(7,.int .i64 (ys.length:Int)),(68,.bool (!false))] rfl ⟨rfl,rfl,rfl,rfl,rfl,trivial⟩ (aQ (aK (eJ rfl rfl (aJ (yS mixed [⟨69,[],[0]⟩,⟨70,[],[1]⟩,⟨71,[],[7]⟩,⟨72,[1,2],[]⟩,⟨73,[0,3],[]⟩,⟨74,[],[0]⟩,⟨75,[],[1]⟩,⟨76,[5,6],[]⟩] [SP.eq (.slice (some ⟨g,0,none⟩) (xs.length+ys.length) c),SP.eq (.int .i64 k),SP.eq (.int .i64 (ys.length:Int)),SP.eq (.int .i64 (δ.wrap ((k:Int)+(ys.length:Int)))),SP.eq (.slice (some ⟨g,(k+ys.length)*S,none⟩) (xs.length-k) (c-(k+ys.length))),SP.eq (.slice (some ⟨g,0,none⟩) (xs.length+ys.length) c),SP.eq (.int .i64 k),SP.eq (.slice (some ⟨g,k*S,none⟩) (xs.length+ys.length-k) (c-k))] rfl rfl rfl rfl ⟨?_,?_,?_,?_,?_,?_,?_,?_,trivial⟩ ?_)))))
   .intro a w3 m hN b d f;exact cX ah ⟨hN,b,b4 (E:=[(0,.slice (some ⟨g,0,none⟩) (xs.length+ys.length) c)]) ⟨d 0 rfl _ rfl,trivial⟩⟩ rfl rfl rfl rfl rfl
   .intro a w3 m hN b d f;exact cX ah ⟨hN,b,b4 (E:=[(1,.int .i64 k)]) ⟨d 1 rfl _ rfl,trivial⟩⟩ rfl rfl rfl rfl rfl
   .intro a w3 m hN b d f;exact cX ah ⟨hN,b,b4 (E:=[(7,.int .i64 (ys.length:Int))]) ⟨d 7 rfl _ rfl,trivial⟩⟩ rfl rfl rfl rfl rfl
   .intro a w3 m hN b d f;exact cX ah ⟨hN,b,b4 (E:=[(70,.int .i64 k),(71,.int .i64 (ys.length:Int))]) ⟨f 1 rfl _ _ rfl rfl,f 2 rfl _ _ rfl rfl,trivial⟩⟩ rfl rfl rfl rfl rfl
   .intro a w3 m hN b d f;have bk:a.tmps.getD 72 undef= .int .i64 ((k+ys.length:Nat):Int):=by rw[<-al];exact f 3 rfl _ _ rfl rfl
    refine(re ah ⟨hN,b,b4 (E:=[(69,.slice (some ⟨g,0,none⟩) (xs.length+ys.length) c),(72,.int .i64 ((k+ys.length:Nat):Int))]) ⟨f 0 rfl _ _ rfl rfl,bk,trivial⟩⟩ rfl rfl rfl rfl rfl rfl rfl rfl rfl (by omega) (by omega)).weaken (λu w4 ⟨hu,I⟩=>⟨?_,I⟩);rw[hu,if_neg (by omega),χ,fg,ξa,show xs.length+ys.length-(k+ys.length)=xs.length-k by omega];rfl
   .intro a w3 m hN b d f;exact cX ah ⟨hN,b,b4 (E:=[(0,.slice (some ⟨g,0,none⟩) (xs.length+ys.length) c)]) ⟨d 0 rfl _ rfl,trivial⟩⟩ rfl rfl rfl rfl rfl
   .intro a w3 m hN b d f;exact cX ah ⟨hN,b,b4 (E:=[(1,.int .i64 k)]) ⟨d 1 rfl _ rfl,trivial⟩⟩ rfl rfl rfl rfl rfl
   .intro a w3 m hN b d f;refine(re ah ⟨hN,b,b4 (E:=[(74,.slice (some ⟨g,0,none⟩) (xs.length+ys.length) c),(75,.int .i64 k)]) ⟨f 5 rfl _ _ rfl rfl,f 6 rfl _ _ rfl rfl,trivial⟩⟩ rfl rfl rfl rfl rfl rfl rfl rfl rfl (by omega) (by omega)).weaken (λu w4 ⟨hu,I⟩=>⟨?_,I⟩);rw[hu,if_neg (by omega),χ,fg,ξa];rfl
   intro a w3 f3 hN b d U;have H:w3.heap[g]? =some (.cells cur e (0,0)):=(f3.block _ (ι.1 K).1 (by simp)).trans K;refine rV (E:=[(0,.slice (some ⟨g,0,none⟩) (xs.length+ys.length) c),(1,.int .i64 k),(2,.slice (some ad) ys.length i),(73,.slice (some ⟨g,(k+ys.length)*S,none⟩) (xs.length-k) (c-(k+ys.length))),(76,.slice (some ⟨g,k*S,none⟩) (xs.length+ys.length-k) (c-k))]) (l:=[8]) hN b ⟨d 0 _ rfl rfl,d 1 _ rfl rfl,d 2 _ rfl rfl,U 4 _ _ rfl rfl,U 7 _ _ rfl rfl,trivial⟩ rfl ?_;have aC:g<w.heap.size:=(ι.1 K).1;have ar:ad.block<w.heap.size:=(ι.1 aD).1;refine aje ah rfl rfl rfl rfl rfl rfl rfl rfl rfl rfl H ((ax (k*S)).keep (f3.block _ aC (by simp))) G (λu hu=>a' u (ξw hu)) (by omega) (by omega) (λz=>?_);generalize V:(cur.toList.take ((k+ys.length)*S)++cs.drop (k*S)++ξR ((k+ys.length)*S+(cs.drop (k*S)).length) cur.toList).toArray=p;have a1:cur.toList.length=c*S:=by rw[ο,aw]
   obtain⟨Y,t,R,aT,aj⟩: ∃Y t:Γb,p.toList=cs.take (k*S)++Y++cs.drop (k*S)++t/\Y.length=ys.length*S/\t.length=c*S-(xs.length+ys.length)*S:=by
    refine⟨(cur.toList.take ((k+ys.length)*S)).drop (k*S),ξR ((k+ys.length)*S+(cs.drop (k*S)).length) cur.toList,?_,?_,?_⟩
    .rw[<-V];have e:cs.take (k*S)=(cur.toList.take ((k+ys.length)*S)).take (k*S):=by
      rw[<-ay,ξX,ξX];congr 1;omega
     rw[e,List.take_append_drop]
    .rw[ξ,ξ9,a1];omega
    .rw[ξ,a1,G];omega
   clear V;have az:=kc (new:=p) H;have M:(w3.setRow g p).heap[g]? =some (.cells p e (0,0)):=setRow_heap w3 _ _ _ _ _ H;generalize w3.setRow g p=w4 at*
   have L:Fr [g] w w4:=(f3.more (by simp)).trans az;refine aQ (aK (aJ (aR (l:=[0,1,2,3,4]) rfl (aA ah [0,1] [(0,.slice (some ⟨g,0,none⟩) (xs.length+ys.length) c),(2,.slice (some ad) ys.length i),(78,.slice (some ⟨g,0,none⟩) (xs.length+ys.length) c),(79,.int .i64 k)] rfl ⟨rfl,rfl,rfl,rfl,trivial⟩ (rU ah rfl rfl rfl rfl rfl rfl rfl rfl rfl rfl (by omega) (by omega) ?_)))));rw[if_neg (by omega),χ,fg,ξa];refine aA ah [3] [(0,.slice (some ⟨g,0,none⟩) (xs.length+ys.length) c),(80,.slice (some ⟨g,k*S,none⟩) (xs.length+ys.length-k) (c-k)),(81,.slice (some ad) ys.length i)] rfl ⟨rfl,rfl,rfl,trivial⟩ ?_;have b0:p.size=c*S:=by rw[<-ο,R];simp only[η,o,aT,G,aj];omega
   refine Kh ah rfl rfl rfl rfl rfl rfl rfl rfl rfl rfl M (aZ.keep (L.block _ ar (by simp[aY]))) s X.one (by omega) (by omega) (λz=>?_);have bg:(p.toList.take (k*S)++us++p.toList.drop (k*S+us.length))=cs.take (k*S)++us++(cs.drop (k*S)++t):=by
    rw[R,ψ (cs.take (k*S)++Y),ψ (cs.take (k*S)),ξb o,<-ψ (cs.take (k*S)),List.drop_left' (by rw[η,o,aT,s])]
   rw[bg];generalize bb:(cs.take (k*S)++us++(cs.drop (k*S)++t)).toArray=ae;have aX:ae.toList=cs.take (k*S)++us++cs.drop (k*S)++t:=by rw[<-bb,<-ψ]
   clear bb;have bx:=kc (new:=ae) M;have bp:(w4.setRow g ae).heap[g]? =some (.cells ae e (0,0)):=setRow_heap w4 _ _ _ _ _ M;generalize w4.setRow g ae=bd at*
   have aP:Fr [g] w bd:=L.trans bx;refine aQ (aK (aJ (aR (l:=[0,1]) rfl (aA ah [0,1] [(6,.slice (some ⟨g,0,none⟩) (xs.length+ys.length) c)] rfl ⟨rfl,trivial⟩ (aQ (aK (cO (eQ (dv rfl ⟨_,O,rfl,?_⟩)))))))));have ab:(xs.take k++ys++xs.drop k).length=xs.length+ys.length:=by simp only[η,ξ9,ξ];omega
   have aH:Tr O w O bd:=aP.tr (hx aB);have:=Kl (T:=T) (e:=e) (B:=B) (n0:=xs.length) (zs:=xs.take k++ys++xs.drop k) (cap:=c) (cs:=cs.take (k*S)++us++cs.drop (k*S)) P aB bm aP bp (by rw[Q,<-ο,aX];simp only[η,o,s,G,aj];omega) bt (by omega)
    ((((W.take k).app X).app (W.drop k)).tr aH) (by rw[ab,Q,aX];exact ξb (by simp only[η,o,s,G];omega))
   rw[ab] at this;exact this
def HR:e0 SS:=qX KK 231 89 nO
theorem ac_ {R:Type} (xs:List (aE SS)) (h:AH SS) (k:Rs SS->AH SS->Γ->Option R) (z:R) (a:(HR).out xs h k=some z): ∃r h' dt,k r h' dt=some z/\eu KK γ 231 xs h r h' dt:=
 HU (e:=89) (ins:=nO) cH (cp aU ζ6 rfl) (λO w v u xs ys zs j c b d hu hp a=>xB.1 c b d (dx.2 rfl) hu hp a) xs h k z a
def HS:e0 SS:=qX KK 240 93 nP
theorem ac' {R:Type} (xs:List (aE SS)) (h:AH SS) (k:Rs SS->AH SS->Γ->Option R) (z:R) (a:(HS).out xs h k=some z): ∃r h' dt,k r h' dt=some z/\eu KK γ 240 xs h r h' dt:=
 HU (e:=93) (ins:=nP) cH (cp aU ζ7 rfl) (λO w v u xs ys zs j c b d hu hp a=>xB.2.1 c b d (dx.2 rfl) hu hp a) xs h k z a
def HT:e0 SS:=qX KK 256 69 lZ
theorem ada {R:Type} (xs:List (aE SS)) (h:AH SS) (k:Rs SS->AH SS->Γ->Option R) (z:R) (a:(HT).out xs h k=some z): ∃r h' dt,k r h' dt=some z/\eu KK γ 256 xs h r h' dt:=
 HU (e:=69) (ins:=lZ) cH (cp aU ζ8 rfl) (λO w v u xs ys zs j c b d hu hp a=>xB.2.2.1 c b d (dx.2 rfl) hu hp a) xs h k z a
theorem ahM {O:Γ} {w:World} (c:OB O w) {B:Nat} (b:B<=w.heap.size) {v:Value} {xs:Γd} (d:Go.Dc.Own (k5 .u64) 82 B O w v xs) {v1:Value} {j:Int} (a:(Ty.int .i64).is O w v1 j) {u:Value} {ys:Γd} (hu:(Ty.slice (k5 .u64)).is O w u ys) (hp:Plain w u) {zs:Γd} (e:yv xs j ys=some zs):
 Calls γ 169 #[v,v1,u] w (eR (k5 .u64) 82 B O w v zs):=xB.2.2.2 c b d a hu hp e
set_option maxRecDepth 100000
noncomputable def zp:bW SS:= {G4 with H:=HR::G4.H}
theorem X5:aj zp γ:=aj.gM (c:=HR) X4 ac_
noncomputable def zq:bW SS:= {zp with H:=HS::zp.H}
theorem X6:aj zq γ:=aj.gM (c:=HS) X5 ac'
noncomputable def G5:bW SS:= {zq with H:=HT::zq.H}
theorem K6:aj G5 γ:=aj.gM (c:=HT) X6 ada
end Go.Proofs.YtdhaaaeffhaadaaGreatDoor
end
section

/- Words for b entries of a. -/
namespace Go.Vx
noncomputable def vs {S:bh} (x:LV S):AV S:=.s (.one x)
noncomputable def li {S:bh} (x:Int):LV S:=.v (.int .i64 x)
noncomputable def lu {S:bh} (x:Int):LV S:=.v (.int .u64 x)
noncomputable def vi {S:bh} (x:Int):AV S:=.s (.one (.v (.int .i64 x)))
noncomputable def vu {S:bh} (x:Int):AV S:=.s (.one (.v (.int .u64 x)))
noncomputable def vb {S:bh} (x:Bool):AV S:=.s (.one (.v (.bool x)))
noncomputable def va {S:bh} (x y:Nat):AV S:=.s (.one (.bl x y))
noncomputable def vd {S:bh} (t:Nat) (x:S.El t):AV S:=.s (.one (.aG t x))
noncomputable def vo {S:bh} (x:Nat):AV S:=.s (.one (.own x))
noncomputable def vc {S:bh} (x:Nat):AV S:=.s (.one (.bA x))
noncomputable def bX {S:bh} (t:Nat) (x:List (LV S)):Option (Ob S):=some (.box t x)
noncomputable def rX {S:bh} (t:Nat) (x:List (S.El t)):Option (Ob S):=some (.row t x)
noncomputable def vl {S:bh} {α:Type} (x:List α):AV S:=.s (.one (.v (.int .i64 (x.length:Int))))
noncomputable def a_ {S:bh} (c:fe S) (G:bW S):bW S:= {G with C:=c::G.C}
def bo {S:bh} (G:bW S) (L:Nat->Nat->Γ) (fn:Func) (f:Nat) (cs:List (a7 S)):bW S:= {G with T:=h8 G.T f ⟨⟨fn,L f⟩,cs⟩}
abbrev KX (S:bh) (R:Type):=AX->AS S->Option R
abbrev LS {S:bh} (K:bp S) (P:Program) (L:Nat->Nat->Γ) (fn:Func) (f id:Nat) (c:a7 S):Prop:=aW K P ⟨fn,L f⟩ (l3 (ct fn) id) c
def sX {S:bh} {α:Type} (f:Option (LV S)->Option α) (j:Nat):AS S->Option α:=λst=>f (c9 st j 0)
def hX {S:bh} {α:Type} (f:Option (LV S)->Option α) (i j:Nat):AS S->Option α:=λst=>f (dQ st i j)
def sI {S:bh}:Nat->AS S->Option Int:=sX db
def hI {S:bh}:Nat->Nat->AS S->Option Int:=hX db
def sD {S:bh} (t:Nat):Nat->AS S->Option (S.El t):=sX (ez t)
def hD {S:bh} (t:Nat):Nat->Nat->AS S->Option (S.El t):=hX (ez t)
def hR {S:bh} (j t:Nat) (st:AS S):Option (List (S.El t)):=eh st j t
def sq {S:bh} {α β:Type} (f:AS S->Option α) (g:AS S->Option β):AS S->Option (α×β):=λst=>(f st).bind λa=>(g st).bind λb=>some (a,b)
def gq {S:bh} {β:Type} (f:AS S->Option Unit) (g:AS S->Option β):AS S->Option β:=λst=>(f st).bind λ_=>g st
noncomputable def xe {S:bh} (l:a8 S) (st:AS S):AS S:= {st with env:=l++st.env}
universe u
section
variable {S:bh} {P:Program} {G E:bW S} {K:bp S}
def bD (K:bp S) (t:Nat) {R:Type} (k:Rs S->Option R) (r:S.El t):Option R:=k (.ret (.s (K.bg t r)))
def ea (K:bp S) (t u:Nat) {R:Type} (k:Rs S->Option R) (r:S.El t×S.El u):Option R:=k (.ret (.bG [K.bg t r.1,K.bg u r.2]))
def fN (K:bp S) (t u v:Nat) {R:Type} (k:Rs S->Option R) (r:S.El t×S.El u×S.El v):Option R:=k (.ret (.bG [K.bg t r.1,K.bg u r.2.1,K.bg v r.2.2]))
def u2 {A0 A1:Type} {D:Type u} (f:A0->A1->D) (p:A0×A1):D:=f p.1 p.2
def u3 {A0 A1 A2:Type} {D:Type u} (f:A0->A1->A2->D) (p:A0×A1×A2):D:=f p.1 p.2.1 p.2.2
def u4 {A0 A1 A2 a:Type} {D:Type u} (f:A0->A1->A2->a->D) (p:A0×A1×A2×a):D:=f p.1 p.2.1 p.2.2.1 p.2.2.2
def u5 {A0 A1 A2 a b:Type} {D:Type u} (f:A0->A1->A2->a->b->D) (p:A0×A1×A2×a×b):D:=f p.1 p.2.1 p.2.2.1 p.2.2.2.1 p.2.2.2.2
def u6 {A0 A1 A2 a b c:Type} {D:Type u} (f:A0->A1->A2->a->b->c->D) (p:A0×A1×A2×a×b×c):D:=f p.1 p.2.1 p.2.2.1 p.2.2.2.1 p.2.2.2.2.1 p.2.2.2.2.2
def u7 {A0 A1 A2 a b c d:Type} {D:Type u} (f:A0->A1->A2->a->b->c->d->D) (p:A0×A1×A2×a×b×c×d):D:=f p.1 p.2.1 p.2.2.1 p.2.2.2.1 p.2.2.2.2.1 p.2.2.2.2.2.1 p.2.2.2.2.2.2
def u8 {A0 A1 A2 a b c d e:Type} {D:Type u} (f:A0->A1->A2->a->b->c->d->e->D) (p:A0×A1×A2×a×b×c×d×e):D:=f p.1 p.2.1 p.2.2.1 p.2.2.2.1 p.2.2.2.2.1 p.2.2.2.2.2.1 p.2.2.2.2.2.2.1 p.2.2.2.2.2.2.2
def u9 {A0 A1 A2 a b c d e g:Type} {D:Type u} (f:A0->A1->A2->a->b->c->d->e->g->D) (p:A0×A1×A2×a×b×c×d×e×g):D:=f p.1 p.2.1 p.2.2.1 p.2.2.2.1 p.2.2.2.2.1 p.2.2.2.2.2.1 p.2.2.2.2.2.2.1 p.2.2.2.2.2.2.2.1 p.2.2.2.2.2.2.2.2
def Ul {A0 A1 A2 a b c d e g h:Type} {D:Type u} (f:A0->A1->A2->a->b->c->d->e->g->h->D) (p:A0×A1×A2×a×b×c×d×e×g×h):D:=f p.1 p.2.1 p.2.2.1 p.2.2.2.1 p.2.2.2.2.1 p.2.2.2.2.2.1 p.2.2.2.2.2.2.1 p.2.2.2.2.2.2.2.1 p.2.2.2.2.2.2.2.2.1 p.2.2.2.2.2.2.2.2.2
def Uq {A0 A1 A2 q r s t v w x a b c d e g h i j k l m n o:Type} {D:Type u} (f:A0->A1->A2->q->r->s->t->v->w->x->a->b->c->d->e->g->h->i->j->k->l->m->n->o->D) (p:A0×A1×A2×q×r×s×t×v×w×x×a×b×c×d×e×g×h×i×j×k×l×m×n×o):D:=f p.1 p.2.1 p.2.2.1 p.2.2.2.1 p.2.2.2.2.1 p.2.2.2.2.2.1 p.2.2.2.2.2.2.1 p.2.2.2.2.2.2.2.1 p.2.2.2.2.2.2.2.2.1 p.2.2.2.2.2.2.2.2.2.1 p.2.2.2.2.2.2.2.2.2.2.1 p.2.2.2.2.2.2.2.2.2.2.2.1 p.2.2.2.2.2.2.2.2.2.2.2.2.1 p.2.2.2.2.2.2.2.2.2.2.2.2.2.1 p.2.2.2.2.2.2.2.2.2.2.2.2.2.2.1 p.2.2.2.2.2.2.2.2.2.2.2.2.2.2.2.1 p.2.2.2.2.2.2.2.2.2.2.2.2.2.2.2.2.1 p.2.2.2.2.2.2.2.2.2.2.2.2.2.2.2.2.2.1 p.2.2.2.2.2.2.2.2.2.2.2.2.2.2.2.2.2.2.1 p.2.2.2.2.2.2.2.2.2.2.2.2.2.2.2.2.2.2.2.1 p.2.2.2.2.2.2.2.2.2.2.2.2.2.2.2.2.2.2.2.2.1 p.2.2.2.2.2.2.2.2.2.2.2.2.2.2.2.2.2.2.2.2.2.1 p.2.2.2.2.2.2.2.2.2.2.2.2.2.2.2.2.2.2.2.2.2.2.1 p.2.2.2.2.2.2.2.2.2.2.2.2.2.2.2.2.2.2.2.2.2.2.2
def w3 {A0 A1 A2 B:Type} {D:Type u} (f:A0->A1->A2->D) (p:A0×A1×A2×B):D:=f p.1 p.2.1 p.2.2.1
def w4 {A0 A1 A2 a B:Type} {D:Type u} (f:A0->A1->A2->a->D) (p:A0×A1×A2×a×B):D:=f p.1 p.2.1 p.2.2.1 p.2.2.2.1
def w5 {A0 A1 A2 a b B:Type} {D:Type u} (f:A0->A1->A2->a->b->D) (p:A0×A1×A2×a×b×B):D:=f p.1 p.2.1 p.2.2.1 p.2.2.2.1 p.2.2.2.2.1
def w7 {A0 A1 A2 a b c d B:Type} {D:Type u} (f:A0->A1->A2->a->b->c->d->D) (p:A0×A1×A2×a×b×c×d×B):D:=f p.1 p.2.1 p.2.2.1 p.2.2.2.1 p.2.2.2.2.1 p.2.2.2.2.2.1 p.2.2.2.2.2.2.1
def w8 {A0 A1 A2 a b c d e B:Type} {D:Type u} (f:A0->A1->A2->a->b->c->d->e->D) (p:A0×A1×A2×a×b×c×d×e×B):D:=f p.1 p.2.1 p.2.2.1 p.2.2.2.1 p.2.2.2.2.1 p.2.2.2.2.2.1 p.2.2.2.2.2.2.1 p.2.2.2.2.2.2.2.1
def w9 {A0 A1 A2 a b c d e g B:Type} {D:Type u} (f:A0->A1->A2->a->b->c->d->e->g->D) (p:A0×A1×A2×a×b×c×d×e×g×B):D:=f p.1 p.2.1 p.2.2.1 p.2.2.2.1 p.2.2.2.2.1 p.2.2.2.2.2.1 p.2.2.2.2.2.2.1 p.2.2.2.2.2.2.2.1 p.2.2.2.2.2.2.2.2.1
theorem bw {L:Nat->Nat->Γ} {fn:Func} {f:Nat} {lc:a7 S} {c:Code} (h:aX G P) (g:P.funcs[f]? =some fn) (a:fn.body=some c) (hN:oL P) (d:xW c lc.id=true) (e:aW G.K P ⟨fn,L f⟩ (l3 c lc.id) lc):aX (bo G L fn f [lc]) P:=aX.fu h g (by rw[a];rfl) hN λi b=>by rw[a] at b;cases b;exact aO.cons aO.nil d e
abbrev KF (S:bh) (X:Type):= {R:Type}->(Rs S->Option R)->X->Option R
noncomputable def kD (K:bp S) (f:Nat) {X:Type} (F:Option X) (kf:KF S X):fe S:=hd K f [] (λ{R} xs k=>match xs with| .nil=>(F).bind (kf k))
def R0 (K:bp S) (E:bW S) (f:Nat) {X:Type} (rs:Γ) (T:T X) (kf:KF S X):Prop:= ∀ {R:Type} (k:Rs S->Option R),gE E 100 f [] [] (k1 K rs k)=(T).run (kf k)
theorem ni {f:Nat} {X:Type} {rs:Γ} {T:T X} {kf:KF S X} (h:aj G P) (g:aX E P) (e:G.K=K) (b:E.K=K) (i:R0 K E f rs T kf):aj {G with C:=kD K f (shut.s _ (T).val) kf::G.C} P:=by
 subst e;refine aj.hO (c:=kD G.K f (shut.s _ (T).val) kf) h λxs k z _ d=>?_;rw[<-b] at d ⊢;refine vm g (rs:=rs) (λ{R} xs k z a=>?_) d
 match xs,a with
 | .nil,a=>exact⟨100,by rw[b];exact(i k).trans (wg a)⟩
noncomputable def cK (K:bp S) (f t0:Nat) {X:Type} (F:S.El t0->Option X) (kf:KF S X):fe S:=hd K f [t0] (λ{R} xs k=>match xs with| .cons a .nil=>(F a).bind (kf k))
def R1 (K:bp S) (E:bW S) (f t0:Nat) {X:Type} (rs:Γ) (T:S.El t0->T X) (kf:KF S X):Prop:= ∀ {R:Type} (a:S.El t0) (k:Rs S->Option R),gE E 100 f [K.bg t0 a] [] (k1 K rs k)=(T a).run (kf k)
theorem cR {f t0:Nat} {X:Type} {rs:Γ} {T:S.El t0->T X} {kf:KF S X} (h:aj G P) (i:aX E P) (g:G.K=K) (d:E.K=K) (j:R1 K E f t0 rs T kf):aj {G with C:=cK K f t0 (λa=>shut.s _ (T a).val) kf::G.C} P:=by
 subst g;refine aj.hO (c:=cK G.K f t0 (λa=>shut.s _ (T a).val) kf) h λxs k z _ e=>?_;rw[<-d] at e ⊢;refine vm i (rs:=rs) (λ{R} xs k z b=>?_) e
 match xs,b with
 | .cons a .nil,b=>exact⟨100,by rw[d];exact(j a k).trans (wg b)⟩
noncomputable def bY (K:bp S) (f t0 t1:Nat) {X:Type} (F:S.El t0->S.El t1->Option X) (kf:KF S X):fe S:=hd K f [t0,t1] (λ{R} xs k=>match xs with| .cons a (.cons b .nil)=>(F a b).bind (kf k))
def R2 (K:bp S) (E:bW S) (f t0 t1:Nat) {X:Type} (rs:Γ) (T:S.El t0->S.El t1->T X) (kf:KF S X):Prop:= ∀ {R:Type} (a:S.El t0) (b:S.El t1) (k:Rs S->Option R),gE E 100 f [K.bg t0 a,K.bg t1 b] [] (k1 K rs k)=(T a b).run (kf k)
theorem bZ {f t0 t1:Nat} {X:Type} {rs:Γ} {T:S.El t0->S.El t1->T X} {kf:KF S X} (h:aj G P) (j:aX E P) (i:G.K=K) (e:E.K=K) (l:R2 K E f t0 t1 rs T kf):aj {G with C:=bY K f t0 t1 (λa b=>shut.s _ (T a b).val) kf::G.C} P:=by
 subst i;refine aj.hO (c:=bY G.K f t0 t1 (λa b=>shut.s _ (T a b).val) kf) h λxs k z _ g=>?_;rw[<-e] at g ⊢;refine vm j (rs:=rs) (λ{R} xs k z d=>?_) g
 match xs,d with
 | .cons a (.cons b .nil),d=>exact⟨100,by rw[e];exact(l a b k).trans (wg d)⟩
noncomputable def fV (K:bp S) (f t0 t1 t2:Nat) {X:Type} (F:S.El t0->S.El t1->S.El t2->Option X) (kf:KF S X):fe S:=hd K f [t0,t1,t2] (λ{R} xs k=>match xs with| .cons a (.cons b (.cons c .nil))=>(F a b c).bind (kf k))
def R3 (K:bp S) (E:bW S) (f t0 t1 t2:Nat) {X:Type} (rs:Γ) (T:S.El t0->S.El t1->S.El t2->T X) (kf:KF S X):Prop:= ∀ {R:Type} (a:S.El t0) (b:S.El t1) (c:S.El t2) (k:Rs S->Option R),gE E 100 f [K.bg t0 a,K.bg t1 b,K.bg t2 c] [] (k1 K rs k)=(T a b c).run (kf k)
theorem gI {f t0 t1 t2:Nat} {X:Type} {rs:Γ} {T:S.El t0->S.El t1->S.El t2->T X} {kf:KF S X} (h:aj G P) (j:aX E P) (i:G.K=K) (e:E.K=K) (l:R3 K E f t0 t1 t2 rs T kf):aj {G with C:=fV K f t0 t1 t2 (λa b c=>shut.s _ (T a b c).val) kf::G.C} P:=by
 subst i;refine aj.hO (c:=fV G.K f t0 t1 t2 (λa b c=>shut.s _ (T a b c).val) kf) h λxs k z _ g=>?_;rw[<-e] at g ⊢;refine vm j (rs:=rs) (λ{R} xs k z d=>?_) g
 match xs,d with
 | .cons a (.cons b (.cons c .nil)),d=>exact⟨100,by rw[e];exact(l a b c k).trans (wg d)⟩
end
end Go.Vx
end
section
namespace Go.Proofs.YtdhaaaeffhaadaaGreatDoor
open Go.RowKit Go.Dc Go.Vx
variable (U:Sh)
def YJ (U:Sh) (pid:Int):T Int:=.ok (δ.wrap (pid.tmod 64))
def lS (pid:Int):=U.s _ (YJ U pid).val
def BU:=a_ (cK KK 93 28 (lS U) (bD KK 3)) G5
theorem tu:aj (BU shut) γ:=cR (rs:=[3]) K6 (aj.all K6 rfl) rfl rfl λpid k=>by kernel_rfl
def qq (a:Γa) (p1:List ag) (p2:Int):AS SS:=⟨[(0,vs (.fK 0 0 16)),(1,vs (.v (.func (.func 90) (.mk []) (.mk [])))),(7,vi 16),(8,vi p2)],[bX 25 [.br .i64 16 a,.aG 23 p1]],1,none,false,[],[]⟩
def DA (U:Sh) (b:Γa) (p1:List ag) (a:Int):T (Int⊕Int⊕(Bool×Int)):=.bf (decide (a<16)) (.bd (dq a 16) λz0=>.bf (decide (aw b z0<0)) (.ok (.inr (.inl a)))<|.bf (decide (aw b z0>65536)) (.ok (.inr (.inl a)))<|.ok (.inl (δ.wrap (a+1))))<|.ok (.inr (.inr (decide (a<16),a)))
def Cb (a:Γa) (p1:List ag) (p2:Int):=bU U (DA U a p1) 1000000 p2
def Y3 {R} (k:KX SS R) (a:Γa) (p1:List ag) (x:Int⊕(Bool×Int)):Option R:=x.elim (λv=>k .ret {qq a p1 v with env:=[(4,vi v)]}) (λv=>k (.exit 0) (xe [(9,vb v.1)] (qq a p1 v.2)))
def PC:a7 SS:=bc 3 (sq (hX dO 0 0) (sq (hD 23 0 1) (sI 8))) (u3 qq) (u3 (Cb shut)) (λk p=>Y3 k p.1 p.2.1)
theorem Sd:LS KK γ ay Tryz.f126 126 3 PC:=
 aW.bU (π:=Γa×List ag×Int) (σ:=Int) (aj.all tu rfl) (aO.nil) rfl 60 (λp a=>qq p.1 p.2.1 a) (λp=>p.2.2) (St:=λp=>DA shut p.1 p.2.1) (λp=>1000000) (λp=>rfl)
  (λm p a k=>by kernel_rfl)
def iq (a:Γa) (p1:List ag) (p2 p3:Int):AS SS:=⟨[(0,vs .c_),(1,va 4 0),(9,vl p1),(10,vi p3)],[bX 142 [.br .i64 16 a,.aG 23 p1],bX 28 [lu p2],bX 143 [.v (.pointer none)],some (.bA 127 [] [.one (.bl 4 0)]),bX 140 [.bl 0 0]],5,some ⟨⟨θ,ay 89⟩,[9,10],eW (ct θ) 4,eX (ct θ) 4,[(3,va 1 0),(4,va 2 0),(8,vc 3)],none⟩,false,[],[]⟩
def tV (U:Sh) (b:Γa) (p1:List ag) (p2 p3:Int) (z0:ag) (a:Unit):T (Unit⊕ag⊕(Bool×Int)):=.bf (z0.aa==p2) (.ok (.inr (.inl z0)))<|.ok (.inl ())
def sb (U:Sh) (b:Γa) (p1:List ag) (p2 p3:Int) (a:Unit):T (ag⊕(Bool×Int)):=.ok (.inr (decide (p3<(↑p1.length:Int)),p3))
def iK (a:Γa) (p1:List ag) (p2:Int):=bC U (tV U a p1 p2) (sb U a p1 p2) p1 ()
def Y9 {R} (k:KX SS R) (a:Γa) (p1:List ag) (p2:Int) (x:ag⊕(Bool×Int)):Option R:=x.elim (λv=>k .ret ⟨[],[bX 142 [.br .i64 16 a,.aG 23 p1],bX 28 [lu p2],bX 143 [.ptr 69 v 0],some (.bA 127 [] [.one (.bl 4 0)]),bX 140 [.bl 0 0]],5,some ⟨⟨θ,ay 89⟩,[9,10],eW (ct θ) 4,eX (ct θ) 4,[(3,va 1 0),(4,va 2 0),(8,vc 3)],some .ret⟩,false,[],[2]⟩) (λv=>k (.exit 0) {iq a p1 p2 p2 with env:=[(11,vb v.1),(0,vs .c_),(1,va 4 0),(9,vl p1),(10,vi v.2)]})
def H':a7 SS:=bc 2 (gq (λst=>(dd st 3 127).bind λ_=>gv st 18 4) (sq (hX dO 0 0) (sq (hD 23 0 1) (hI 1 0)))) (λp=>u3 iq p 0) (u3 (iK shut)) (λk=>u3 (Y9 k))
def y2:=bo (BU shut) ay Tryz.f126 126 [PC]
theorem KY:aX y2 γ:=bw (aj.all tu rfl) ζ9 rfl aU (by kernel_rfl) Sd
theorem Sf:LS KK γ ay τ 127 2 H':=
 aW.bH KY (aO.nil) rfl 60 (λp i a=>u3 iq p i) (λp=>p.2.1) (λp=>()) (St:=u3 (tV shut)) (F:=u3 (sb shut)) (λp=>rfl)
  (λm p i a k=>by kernel_rfl) (by rintro p (x|x)<;>exact⟨_,_,λ_=>rfl⟩) (λp N C A O w a b=>Ik b (j:=0) (n:=1) (t:=23) rfl rfl λv h=>bO h)
def qt (a:Γa) (p1:List ag) (p2:Int):AS SS:=⟨[(0,vs .c_),(1,va 7 0),(9,vl p1),(10,vi p2)],[bX 25 [.br .i64 16 a,.aG 23 p1],bX 40 [li 0],bX 138 [.bA 3],some (.bA 88 [] [.one (.bl 4 0)]),bX 140 [.bl 5 0],bX 142 [.br .i64 16 a,.aG 23 p1],some (.bA 127 [] [.one (.bl 7 0)]),bX 140 [.bl 5 0]],8,some ⟨⟨ξB,ay 46⟩,[34,35],eW (ct ξB) 10,eX (ct ξB) 10,[(1,va 0 0),(2,va 1 0),(4,va 2 0),(33,vc 6)],none⟩,false,[],[]⟩
def tU (b:Γa) (p1:List ag) (p2:Int) (z0:ag) (a:Unit):T (Unit⊕Unit⊕(Bool×Int)):=.bd (lS U z0.aa) λg=>.bf (decide (g>=1)) (.bf (decide (g<=16)) (.bf (p2==0) (.bd (dq (δ.wrap (g-1)) 16) λz2=>.bf (ζ.wrap (ζ.wrap (z0.aa.tdiv 64)+1) !=ζ.wrap (aw b z2)) (.ok (.inr (.inl ())))<|.bf (z0.ba) (.bf (z0.aT==0) (.ok (.inr (.inl ())))<|.bf (!z0.ba) (.bf (z0.bT !=0) (.ok (.inr (.inl ())))<|.bf (z0.aT !=0) (.bf (z0.aT==z0.aa) (.ok (.inr (.inl ())))<|.gd (iq b p1 z0.aT 0)<|.bd (iK U b p1 z0.aT) λf=>.cs f (λc=>.bf (!!c.ba) (.ok (.inr (.inl ())))<|.ok (.inl ())) λc=>.ok (.inr (.inl ())))<|.ok (.inl ()))<|.bf (z0.aT !=0) (.bf (z0.aT==z0.aa) (.ok (.inr (.inl ())))<|.gd (iq b p1 z0.aT 0)<|.bd (iK U b p1 z0.aT) λe=>.cs e (λc=>.bf (!!c.ba) (.ok (.inr (.inl ())))<|.ok (.inl ())) λc=>.ok (.inr (.inl ())))<|.ok (.inl ()))<|.bf (!z0.ba) (.bf (z0.bT !=0) (.ok (.inr (.inl ())))<|.bf (z0.aT !=0) (.bf (z0.aT==z0.aa) (.ok (.inr (.inl ())))<|.gd (iq b p1 z0.aT 0)<|.bd (iK U b p1 z0.aT) λe=>.cs e (λc=>.bf (!!c.ba) (.ok (.inr (.inl ())))<|.ok (.inl ())) λc=>.ok (.inr (.inl ())))<|.ok (.inl ()))<|.bf (z0.aT !=0) (.bf (z0.aT==z0.aa) (.ok (.inr (.inl ())))<|.gd (iq b p1 z0.aT 0)<|.bd (iK U b p1 z0.aT) λx9=>.cs x9 (λc=>.bf (!!c.ba) (.ok (.inr (.inl ())))<|.ok (.inl ())) λc=>.ok (.inr (.inl ())))<|.ok (.inl ()))<|.bd (idx p1 (δ.wrap (p2-1))) λz2=>.bd (lS U z2.aa) λc=>.bf (!decide (c<g)) (.ok (.inr (.inl ())))<|.bd (dq (δ.wrap (g-1)) 16) λz4=>.bf (ζ.wrap (ζ.wrap (z0.aa.tdiv 64)+1) !=ζ.wrap (aw b z4)) (.ok (.inr (.inl ())))<|.bf (z0.ba) (.bf (z0.aT==0) (.ok (.inr (.inl ())))<|.bf (!z0.ba) (.bf (z0.bT !=0) (.ok (.inr (.inl ())))<|.bf (z0.aT !=0) (.bf (z0.aT==z0.aa) (.ok (.inr (.inl ())))<|.gd (iq b p1 z0.aT 0)<|.bd (iK U b p1 z0.aT) λh=>.cs h (λd=>.bf (!!d.ba) (.ok (.inr (.inl ())))<|.ok (.inl ())) λd=>.ok (.inr (.inl ())))<|.ok (.inl ()))<|.bf (z0.aT !=0) (.bf (z0.aT==z0.aa) (.ok (.inr (.inl ())))<|.gd (iq b p1 z0.aT 0)<|.bd (iK U b p1 z0.aT) λf=>.cs f (λd=>.bf (!!d.ba) (.ok (.inr (.inl ())))<|.ok (.inl ())) λd=>.ok (.inr (.inl ())))<|.ok (.inl ()))<|.bf (!z0.ba) (.bf (z0.bT !=0) (.ok (.inr (.inl ())))<|.bf (z0.aT !=0) (.bf (z0.aT==z0.aa) (.ok (.inr (.inl ())))<|.gd (iq b p1 z0.aT 0)<|.bd (iK U b p1 z0.aT) λf=>.cs f (λd=>.bf (!!d.ba) (.ok (.inr (.inl ())))<|.ok (.inl ())) λd=>.ok (.inr (.inl ())))<|.ok (.inl ()))<|.bf (z0.aT !=0) (.bf (z0.aT==z0.aa) (.ok (.inr (.inl ())))<|.gd (iq b p1 z0.aT 0)<|.bd (iK U b p1 z0.aT) λe=>.cs e (λd=>.bf (!!d.ba) (.ok (.inr (.inl ())))<|.ok (.inl ())) λd=>.ok (.inr (.inl ())))<|.ok (.inl ()))<|.ok (.inr (.inl ())))<|.ok (.inr (.inl ()))
def sa (U:Sh) (b:Γa) (p1:List ag) (p2:Int) (a:Unit):T (Unit⊕(Bool×Int)):=.ok (.inr (decide (p2<(↑p1.length:Int)),p2))
def tB (a:Γa) (p1:List ag):=bC U (tU U a p1) (sa U a p1) p1 ()
def Y8 {R} (k:KX SS R) (a:Γa) (p1:List ag) (x:Unit⊕(Bool×Int)):Option R:=x.elim (λv=>k .ret ⟨[],[bX 25 [.br .i64 16 a,.aG 23 p1],bX 40 [li 320],bX 138 [.bA 3],some (.bA 88 [] [.one (.bl 4 0)]),bX 140 [.bl 5 0],bX 142 [.br .i64 16 a,.aG 23 p1],some (.bA 127 [] [.one (.bl 7 0)]),bX 140 [.bl 5 0]],8,some ⟨⟨ξB,ay 46⟩,[34,35],eW (ct ξB) 10,eX (ct ξB) 10,[(1,va 0 0),(2,va 1 0),(4,va 2 0),(33,vc 6)],some .ret⟩,false,[],[1]⟩) (λv=>k (.exit 0) (xe [(11,vb v.1)] (qt a p1 v.2)))
def PF:a7 SS:=bc 2 (gq (λst=>(dd st 3 88).bind λ_=>(dd st 6 127).bind λ_=>gv st 132 10) (sq (hX dO 0 0) (hD 23 0 1))) (λp=>u2 qt p 0) (u2 (tB shut)) (λk=>u2 (Y8 k))
def Xn:=bo y2 ay τ 127 [H']
theorem Xo:aX Xn γ:=bw KY ω rfl aU (by kernel_rfl) Sf
theorem afA:LS KK γ ay τ 127 2 PF:=
 aW.bH Xo (aO.nil) rfl 60 (λp i a=>u2 qt p i) (λp=>p.2) (λp=>()) (St:=u2 (tU shut)) (F:=u2 (sa shut)) (λp=>rfl)
  (λm p i a k=>by kernel_rfl) (by rintro p (x|x)<;>exact⟨_,_,λ_=>rfl⟩) (λp N C A O w a b=>Ik b (j:=0) (n:=1) (t:=23) rfl rfl λv h=>bO h)
def Xp:=bo y2 ay τ 127 [pq (λst=>(dd st 3 127).bind λ_=>gv st 18 4) H' (PF)]
theorem Xq:aX Xp γ:=bw (aX.fu (aj.all tu rfl) ζ9 rfl aU λc a=>by cases a;exact aO.cons (aO.nil) (by kernel_rfl) Sd) ω rfl aU (by kernel_rfl) (aW.alt Sf afA)
def EZ (p:aV):T Int:=.bf ((↑p.ab.length:Int)==0) (.ok 320)<|.bd (idx p.ab 0) λz0=>.bf (!fL z0 (ag.mk 1 0 false 0)) (.ok 320)<|.gd (qq p.az p.ab 0)<|.bd (Cb U p.az p.ab 0) λc=>.cs c (λb=>.bf (decide (b>=0)) (.ok 320)<|.gd (qt p.az p.ab 0)<|.bd (tB U p.az p.ab) λa=>.cs a (λ_=>.ok 320) λd=>.ok 0) λb=>.gd (qt p.az p.ab 0)<|.bd (tB U p.az p.ab) λa=>.cs a (λ_=>.ok 320) λd=>.ok 0
def kI (p:aV):=U.s _ (EZ U p).val
def L8:=a_ (cK KK 46 25 (kI U) (bD KK 40)) (BU U)
theorem L9:aj (L8 shut) γ:=cR (rs:=[40]) tu Xq rfl rfl λp k=>by kernel_rfl
def Fk (U:Sh) (d:ai):T Bool:=.bf (decide (d.aa<4294967296)) (.bf (decide (d.bm>=0)) (.ok (decide (d.bm<8)))<|.ok false)<|.ok false
def Hb (d:ai):=U.s _ (Fk U d).val
def Mt:=a_ (cK KK 94 89 (Hb U) (bD KK 4)) (L8 U)
theorem Mu:aj (Mt shut) γ:=cR (rs:=[4]) L9 (aj.all L9 rfl) rfl rfl λd k=>by kernel_rfl
def DX (U:Sh) (x y:Int):T Int:=.bf (x !=x) (.bf (y !=y) (.ok 0)<|.ok (-1))<|.bf (y !=y) (.ok 1)<|.bf (decide (x<y)) (.ok (-1))<|.bf (decide (x>y)) (.ok 1)<|.ok 0
def ik (x y:Int):=U.s _ (DX U x y).val
def Ln:=a_ (bY KK 129 28 28 (ik U) (bD KK 3)) (Mt U)
theorem Lo:aj (Ln shut) γ:=bZ (rs:=[3]) Mu (aj.all Mu rfl) rfl rfl λx y k=>by kernel_rfl
def Yy (U:Sh) (x y:Int):T Int:=.bf (x !=x) (.bf (y !=y) (.ok 0)<|.ok (-1))<|.bf (y !=y) (.ok 1)<|.bf (decide (x<y)) (.ok (-1))<|.bf (decide (x>y)) (.ok 1)<|.ok 0
def Gx (x y:Int):=U.s _ (Yy U x y).val
def zE:=a_ (bY KK 130 3 3 (Gx U) (bD KK 3)) (Ln U)
theorem zF:aj (zE shut) γ:=bZ (rs:=[3]) Lo (aj.all Lo rfl) rfl rfl λx y k=>by kernel_rfl
def qu (a:Γa) (p1:Int):AS SS:=⟨[(3,vi 0),(6,vo 0),(7,vi 2),(8,vi p1)],[rX 3 a],1,none,false,[],[]⟩
def kt (U:Sh) (b:Γa) (a:Int):T (Int⊕Int⊕(Bool×Int)):=.bf (decide (a<2)) (.bd (idx b a) λz0=>.bd (b[a.toNat]?) λc=>.bf (c !=0) (.ok (.inr (.inl c)))<|.ok (.inl (δ.wrap (a+1))))<|.ok (.inr (.inr (decide (a<2),a)))
def Cg (a:Γa) (p1:Int):=bU U (kt U a) 1000000 p1
def Y' {R} (k:KX SS R) (a:Γa) (x:Int⊕(Bool×Int)):Option R:=x.elim (λv=>k .ret {qu a v with env:=[(2,vi v)]}) (λv=>k (.exit 0) (xe [(9,vb v.1)] (qu a v.2)))
def PH:a7 SS:=bc 4 (sq (hR 0 3) (sI 8)) (u2 qu) (u2 (Cg shut)) (λk p=>Y' k p.1)
theorem afC:LS KK γ ay Tryz.f128 128 4 PH:=
 aW.bU (π:=Γa×Int) (σ:=Int) (aj.all zF rfl) (aO.nil) rfl 60 (λp a=>qu p.1 a) (λp=>p.2) (St:=λp=>kt shut p.1) (λp=>1000000) (λp=>rfl)
  (λm p a k=>by kernel_rfl)
def XO:=bo (zE shut) ay Tryz.f128 128 [PH]
theorem XP:aX XO γ:=bw (aj.all zF rfl) Tryz.func128 rfl aU (by kernel_rfl) afC
def Fl (a b:ai):T Int:=.bd (ik U a.aa b.aa) λc=>.bd (Gx U a.bm b.bm) λd=>.gd (qu [c,d] 0)<|.bd (Cg U [c,d] 0) λf=>.cs f (λe=>.ok e) λe=>.ok 0
def p0 (a b:ai):=U.s _ (Fl U a b).val
def BV:=a_ (bY KK 95 89 89 (p0 U) (bD KK 3)) (zE U)
theorem BW:aj (BV shut) γ:=bZ (rs:=[3]) zF XP rfl rfl λa b k=>by kernel_rfl
def qO (a:List ai) (p1:Int):AS SS:=⟨[(0,vd 26 a),(8,vd 26 a),(9,vl a),(10,vi p1)],[],0,none,false,[],[]⟩
def o8 (b:List ai) (p1:Int) (z0:ai) (a:Unit):T (Unit⊕Unit⊕(Bool×Int)):=.bd (Hb U z0) λc=>.bf (!c) (.ok (.inr (.inl ())))<|.bf (decide (p1>0)) (.bd (idx b (δ.wrap (p1-1))) λz2=>.bd (p0 U z2 z0) λd=>.bf (decide (d>=0)) (.ok (.inr (.inl ())))<|.ok (.inl ()))<|.ok (.inl ())
def sT (U:Sh) (b:List ai) (p1:Int) (a:Unit):T (Unit⊕(Bool×Int)):=.ok (.inr (decide (p1<(↑b.length:Int)),p1))
def C' (a:List ai):=bC U (o8 U a) (sT U a) a ()
def Z8 {R} (k:KX SS R) (a:List ai) (x:Unit⊕(Bool×Int)):Option R:=x.elim (λv=>k .ret {qO a 0 with env:=[(2,vi 330)]}) (λv=>k (.exit 0) (xe [(11,vb v.1)] (qO a v.2)))
def QB:a7 SS:=bc 5 (sD 26 0) (λp=>qO p 0) (λp=>C' shut p) (λk p=>Z8 k p)
theorem agy:LS KK γ ay Tryz.f47 47 5 QB:=
 aW.bH (π:=List ai) (aj.all BW rfl) (aO.nil) rfl 60 (λp i a=>qO p i) (λp=>p) (λp=>()) (St:=λp=>o8 shut p) (F:=λp=>sT shut p) (λp=>rfl)
  (λm p i a k=>by kernel_rfl) (by rintro p (x|x)<;>exact⟨_,_,λ_=>rfl⟩) (λp N C A O w a b=>bQ b (t:=26) (sl:=0) rfl λv h=>bO h)
def Xr:=bo (BV shut) ay Tryz.f47 47 [QB]
theorem Xs:aX Xr γ:=bw (aj.all BW rfl) Tryz.func47 rfl aU (by kernel_rfl) agy
def E0 (l:List ai):T Int:=.bf (decide ((↑l.length:Int)>64)) (.ok 330)<|.gd (qO l 0)<|.bd (C' U l) λa=>.cs a (λ_=>.ok 330) λb=>.ok 0
def iW (l:List ai):=U.s _ (E0 U l).val
def tp:=a_ (cK KK 47 26 (iW U) (bD KK 40)) (BV U)
theorem Bo:aj (tp shut) γ:=cR (rs:=[40]) BW Xs rfl rfl λl k=>by kernel_rfl
def m8 (U:Sh) (p:Int):T Bool:=.bf (decide (p>=1)) (.ok (decide (p<4294967296)))<|.ok false
def nF (p:Int):=U.s _ (m8 U p).val
theorem Ue:R1 KK (tp shut) 99 28 [4] (m8 shut) (bD KK 4):=by intro R p k;kernel_rfl
def B0:=a_ (cK KK 99 28 (nF U) (bD KK 4)) (tp U)
theorem B1:aj (B0 shut) γ:=cR Bo (aj.all Bo rfl) rfl rfl Ue
def qS (a:ByteArray) (p1:Γa) (p2 p3:Int):AS SS:=⟨[(0,vs (.v (.string a))),(5,vu p2),(14,.s (.agg [.br .u8 8 p1])),(15,vi p3)],[],0,none,false,[],[]⟩
def o9 (U:Sh) (c:ByteArray) (p1:Γa) (a:Int×Int):T ((Int×Int)⊕Unit⊕(Bool×Int×Int)):=.bf (decide (a.2<8)) (.bd (dq a.2 8) λz0=>.bf (aw p1 z0==0) (.bf (decide (a.2<(↑c.size:Int))) (.ok (.inr (.inl ())))<|.bd (my ζ (ζ.wrap (aw p1 z0)) (δ.wrap (8*a.2))) λb=>.ok (.inl (bits BinOp.or ζ a.1 b,δ.wrap (a.2+1))))<|.bd (my ζ (ζ.wrap (aw p1 z0)) (δ.wrap (8*a.2))) λb=>.ok (.inl (bits BinOp.or ζ a.1 b,δ.wrap (a.2+1))))<|.ok (.inr (.inr (decide (a.2<8),a.1,a.2)))
def Dl (a:ByteArray) (p1:Γa) (p2 p3:Int):=bU U (o9 U a p1) 1000000 (p2,p3)
def aan {R} (k:KX SS R) (a:ByteArray) (p1:Γa) (x:Unit⊕(Bool×Int×Int)):Option R:=x.elim (λv=>k .ret {qS a p1 0 0 with env:=[(2,vu 0),(3,vi 2)]}) (λv=>k (.exit 0) {qS a p1 v.2.1 v.2.1 with env:=[(16,vb v.1),(0,vs (.v (.string a))),(5,vu v.2.1),(14,.s (.agg [.br .u8 8 p1])),(15,vi v.2.2)]})
def QS:a7 SS:=bc 8 (sq (sX jO 0) (sq (sX dO 14) (sq (sI 5) (sI 15)))) (u4 qS) (u4 (Dl shut)) (λk p=>aan k p.1 p.2.1)
theorem agP:LS KK γ ay Tryz.f79 79 8 QS:=
 aW.bU (π:=ByteArray×Γa×Int×Int) (σ:=Int×Int) (aj.all B1 rfl) (aO.nil) rfl 60 (λp a=>qS p.1 p.2.1 a.1 a.2) (λp=>(p.2.2.1,p.2.2.2)) (St:=λp=>o9 shut p.1 p.2.1) (λp=>1000000) (λp=>rfl)
  (λm p a k=>by kernel_rfl)
def XK:=bo (B0 shut) ay Tryz.f79 79 [QS]
theorem XL:aX XK γ:=bw (aj.all B1 rfl) Tryz.func79 rfl aU (by kernel_rfl) agP
def Fb (s:ByteArray):T (Int×Int):=.bf (decide ((↑s.size:Int)>8)) (.ok (0,111))<|.bd (yA KK (aM (eG (eG (eG (eG (eG (eG (eG (eG [] []++[]) []++[]) []++[]) []++[]) []++[]) []++[some (Ob.box 174 (List.map LV.v [ξe ξ2 0,ξe ξ2 0,ξe ξ2 0,ξe ξ2 0,ξe ξ2 0,ξe ξ2 0,ξe ξ2 0,ξe ξ2 0]))]) []++[]) []++[])) 5 ξ2 8 (LV.v (Value.string s))) λz0=>.gd (qS s (cg [0,0,0,0,0,0,0,0] z0) 0 0)<|.bd (Dl U s (cg [0,0,0,0,0,0,0,0] z0) 0 0) λa=>.cs a (λ_=>.ok (0,2)) λb=>.ok (b.2.1,0)
def pX (s:ByteArray):=U.s _ (Fb U s).val
def BF:=a_ (cK KK 79 9 (pX U) (ea KK 28 40)) (B0 U)
theorem BG:aj (BF shut) γ:=cR (rs:=[28,40]) B1 XL rfl rfl λs k=>by kernel_rfl
def wG (a p1:Int) (p2:Γa):AS SS:=⟨[(0,vu a),(4,vo 0),(5,vu p1)],[rX 5 p2],0,none,false,[],[]⟩
def oR (U:Sh) (b:Int) (a:Int×Γa):T ((Int×Γa)⊕(Bool×Int×Int×Γa)):=.bf (bits ζa ζ a.1 255 !=0) (.bd (app 1 a.2 [ξ2.wrap a.1]) λz0=>.ok (.inl (a.1.fdiv 256,z0)))<|.ok (.inr (bits ζa ζ a.1 255 !=0,bits ζa ζ a.1 255,a.1,a.2))
def Ch (a p1:Int) (p2:Γa):=bU U (oR U a) 1000000 (p1,p2)
def Za {R} (k:KX SS R) (a:Int) (x:(Bool×Int×Int×Γa)):Option R:=(λv=>k (.exit 0) {wG a a v.2.2.2 with env:=[(12,vb v.1),(11,vu v.2.1),(10,vu v.2.2.1),(0,vu a),(4,vo 0),(5,vu v.2.2.1)]}) x
def PI:a7 SS:=bc 4 (sq (sI 0) (sq (sI 5) (hR 0 5))) (u3 wG) (u3 (Ch shut)) (λk p=>Za k p.1)
theorem afD:LS KK γ ay Tryz.f132 132 4 PI:=
 aW.bU (π:=Int×Int×Γa) (σ:=Int×Γa) (aj.all BG rfl) (aO.nil) rfl 60 (λp a=>wG p.1 a.1 a.2) (λp=>(p.2.1,p.2.2)) (St:=λp=>oR shut p.1) (λp=>1000000) (λp=>rfl)
  (λm p a k=>by kernel_rfl)
def Vz:=bo (BF shut) ay Tryz.f132 132 [PI]
theorem VA:aX Vz γ:=bw (aj.all BG rfl) Tryz.func132 rfl aU (by kernel_rfl) afD
def DZ (w:Int):T (ByteArray×Int):=.gd (wG w w [])<|.bd (Ch U w w []) λc=>.bd (jb KK 5 ξ2 c.2.2.2) λb=>.bd (pX U (strOf b)) λa=>.bf (a.2 !=0) (.ok (μ #[],2))<|.bf (a.1 !=w) (.ok (μ #[],2))<|.ok (strOf b,0)
def vA (w:Int):=U.s _ (DZ U w).val
def zG:=a_ (cK KK 132 28 (vA U) (ea KK 9 40)) (BF U)
theorem zH:aj (zG shut) γ:=cR (rs:=[9,40]) BG VA rfl rfl λw k=>by kernel_rfl
def i' (a:Bool) (p1:ByteArray) (p2:Nat):AS SS:=⟨[(5,vb a),(20,vs (.cW 0))],[some (.cW p1 p2)],0,none,false,[],[]⟩
def kx (U:Sh) (p1:ByteArray) (a:Bool×Nat):T ((Bool×Nat)⊕(Bool×Bool×Int×Bool×Bool×Bool×Bool×Int×Nat)⊕(Bool×Int×Bool×Bool×Bool×Int×Nat)⊕(Bool×Bool×Int×Bool×Bool×Bool×Int×Nat)⊕(Bool×Int×Bool×Bool×Int×Nat)⊕(Bool×Int×Int×Nat)⊕(Bool×Nat)):=.bf (decide (a.2<p1.size)) (.bf (a.1) (.bf (decide ((↑(ε p1 a.2).fst:Int)>=97)) (.bf (decide ((↑(ε p1 a.2).fst:Int)<=122)) (.ok (.inl (true,a.2+(ε p1 a.2).snd)))<|.bf (decide ((↑(ε p1 a.2).fst:Int)>=48)) (.bf (!decide ((↑(ε p1 a.2).fst:Int)<=57)) (.ok (.inr (.inl (!decide ((↑(ε p1 a.2).fst:Int)<=57),decide ((↑(ε p1 a.2).fst:Int)<=57),(↑(ε p1 a.2).fst:Int),decide ((↑(ε p1 a.2).fst:Int)>=48),decide ((↑(ε p1 a.2).fst:Int)<=122),decide ((↑(ε p1 a.2).fst:Int)>=97),a.1,(↑a.2:Int),a.2+(ε p1 a.2).snd))))<|.ok (.inl (decide ((↑(ε p1 a.2).fst:Int)<=57),a.2+(ε p1 a.2).snd)))<|.ok (.inr (.inr (.inl (decide ((↑(ε p1 a.2).fst:Int)>=48),(↑(ε p1 a.2).fst:Int),decide ((↑(ε p1 a.2).fst:Int)<=122),decide ((↑(ε p1 a.2).fst:Int)>=97),a.1,(↑a.2:Int),a.2+(ε p1 a.2).snd)))))<|.bf (decide ((↑(ε p1 a.2).fst:Int)>=48)) (.bf (!decide ((↑(ε p1 a.2).fst:Int)<=57)) (.ok (.inr (.inr (.inr (.inl (!decide ((↑(ε p1 a.2).fst:Int)<=57),decide ((↑(ε p1 a.2).fst:Int)<=57),(↑(ε p1 a.2).fst:Int),decide ((↑(ε p1 a.2).fst:Int)>=48),decide ((↑(ε p1 a.2).fst:Int)>=97),a.1,(↑a.2:Int),a.2+(ε p1 a.2).snd))))))<|.ok (.inl (decide ((↑(ε p1 a.2).fst:Int)<=57),a.2+(ε p1 a.2).snd)))<|.ok (.inr (.inr (.inr (.inr (.inl (decide ((↑(ε p1 a.2).fst:Int)>=48),(↑(ε p1 a.2).fst:Int),decide ((↑(ε p1 a.2).fst:Int)>=97),a.1,(↑a.2:Int),a.2+(ε p1 a.2).snd)))))))<|.ok (.inr (.inr (.inr (.inr (.inr (.inl (a.1,(↑(ε p1 a.2).fst:Int),(↑a.2:Int),a.2+(ε p1 a.2).snd))))))))<|.ok (.inr (.inr (.inr (.inr (.inr (.inr (a.1,a.2)))))))
def oK (a:Bool) (p1:ByteArray) (p2:Nat):=bU U (kx U p1) 1000000 (a,p2)
def aau {R} (k:KX SS R) (p1:ByteArray) (x:(Bool×Bool×Int×Bool×Bool×Bool×Bool×Int×Nat)⊕(Bool×Int×Bool×Bool×Bool×Int×Nat)⊕(Bool×Bool×Int×Bool×Bool×Bool×Int×Nat)⊕(Bool×Int×Bool×Bool×Int×Nat)⊕(Bool×Int×Int×Nat)⊕(Bool×Nat)):Option R:=x.elim (λv=>k (.exit 0) {i' v.1 p1 v.2.2.2.2.2.2.2.2 with env:=[(42,vb v.1),(41,vb v.2.1),(5,vb v.2.1),(40,vb v.2.1),(39,vb v.2.1),(25,vb true),(38,vb v.2.1),(32,vb false),(37,vb v.2.1),(35,vb true),(36,vs (.v (.int .i32 v.2.2.1))),(35,vb true),(35,vb v.2.2.2.1),(32,vb false),(34,vb v.2.2.2.1),(32,vb false),(33,vs (.v (.int .i32 v.2.2.1))),(32,vb false),(32,vb v.2.2.2.2.1),(25,vb true),(31,vb v.2.2.2.2.1),(25,vb true),(30,vb v.2.2.2.2.1),(28,vb true),(29,vs (.v (.int .i32 v.2.2.1))),(28,vb true),(28,vb v.2.2.2.2.2.1),(25,vb true),(27,vb v.2.2.2.2.2.1),(25,vb true),(26,vs (.v (.int .i32 v.2.2.1))),(25,vb true),(25,vb v.2.2.2.2.2.2.1),(24,vb v.2.2.2.2.2.2.1),(7,vs (.v (.int .i32 v.2.2.1))),(23,vs (.v (.int .i32 v.2.2.1))),(22,vb true),(21,.bG [.one (.v (.bool true)),.one (li v.2.2.2.2.2.2.2.1),.one (.v (.int .i32 v.2.2.1))]),(5,vb v.2.2.2.2.2.2.1),(20,vs (.cW 0))]}) (ζ1 (λv=>k (.exit 0) {i' v.1 p1 v.2.2.2.2.2.2 with env:=[(42,vb true),(41,vb false),(5,vb false),(40,vb false),(39,vb false),(25,vb true),(38,vb false),(32,vb false),(37,.bG []),(35,vb false),(36,.bG []),(35,vb false),(35,vb v.1),(32,vb false),(34,vb v.1),(32,vb false),(33,vs (.v (.int .i32 v.2.1))),(32,vb false),(32,vb v.2.2.1),(25,vb true),(31,vb v.2.2.1),(25,vb true),(30,vb v.2.2.1),(28,vb true),(29,vs (.v (.int .i32 v.2.1))),(28,vb true),(28,vb v.2.2.2.1),(25,vb true),(27,vb v.2.2.2.1),(25,vb true),(26,vs (.v (.int .i32 v.2.1))),(25,vb true),(25,vb v.2.2.2.2.1),(24,vb v.2.2.2.2.1),(7,vs (.v (.int .i32 v.2.1))),(23,vs (.v (.int .i32 v.2.1))),(22,vb true),(21,.bG [.one (.v (.bool true)),.one (li v.2.2.2.2.2.1),.one (.v (.int .i32 v.2.1))]),(5,vb v.2.2.2.2.1),(20,vs (.cW 0))]}) (ζ1 (λv=>k (.exit 0) {i' v.1 p1 v.2.2.2.2.2.2.2 with env:=[(42,vb v.1),(41,vb v.2.1),(5,vb v.2.1),(40,vb v.2.1),(39,vb v.2.1),(25,vb true),(38,vb v.2.1),(32,vb false),(37,vb v.2.1),(35,vb true),(36,vs (.v (.int .i32 v.2.2.1))),(35,vb true),(35,vb v.2.2.2.1),(32,vb false),(34,vb v.2.2.2.1),(32,vb false),(33,vs (.v (.int .i32 v.2.2.1))),(32,vb false),(32,vb false),(25,vb true),(31,vb false),(25,vb true),(30,.bG []),(28,vb false),(29,.bG []),(28,vb false),(28,vb v.2.2.2.2.1),(25,vb true),(27,vb v.2.2.2.2.1),(25,vb true),(26,vs (.v (.int .i32 v.2.2.1))),(25,vb true),(25,vb v.2.2.2.2.2.1),(24,vb v.2.2.2.2.2.1),(7,vs (.v (.int .i32 v.2.2.1))),(23,vs (.v (.int .i32 v.2.2.1))),(22,vb true),(21,.bG [.one (.v (.bool true)),.one (li v.2.2.2.2.2.2.1),.one (.v (.int .i32 v.2.2.1))]),(5,vb v.2.2.2.2.2.1),(20,vs (.cW 0))]}) (ζ1 (λv=>k (.exit 0) {i' v.1 p1 v.2.2.2.2.2 with env:=[(42,vb true),(41,vb false),(5,vb false),(40,vb false),(39,vb false),(25,vb true),(38,vb false),(32,vb false),(37,.bG []),(35,vb false),(36,.bG []),(35,vb false),(35,vb v.1),(32,vb false),(34,vb v.1),(32,vb false),(33,vs (.v (.int .i32 v.2.1))),(32,vb false),(32,vb false),(25,vb true),(31,vb false),(25,vb true),(30,.bG []),(28,vb false),(29,.bG []),(28,vb false),(28,vb v.2.2.1),(25,vb true),(27,vb v.2.2.1),(25,vb true),(26,vs (.v (.int .i32 v.2.1))),(25,vb true),(25,vb v.2.2.2.1),(24,vb v.2.2.2.1),(7,vs (.v (.int .i32 v.2.1))),(23,vs (.v (.int .i32 v.2.1))),(22,vb true),(21,.bG [.one (.v (.bool true)),.one (li v.2.2.2.2.1),.one (.v (.int .i32 v.2.1))]),(5,vb v.2.2.2.1),(20,vs (.cW 0))]}) (ζ1 (λv=>k (.exit 0) (xe [(42,vb true),(41,vb false),(5,vb false),(40,vb false),(39,.bG []),(25,vb false),(38,.bG []),(37,.bG []),(36,.bG []),(35,.bG []),(34,.bG []),(33,.bG []),(32,.bG []),(25,vb false),(31,.bG []),(25,vb false),(30,.bG []),(29,.bG []),(28,.bG []),(25,vb false),(27,.bG []),(25,vb false),(26,.bG []),(25,vb false),(25,vb v.1),(24,vb v.1),(7,vs (.v (.int .i32 v.2.1))),(23,vs (.v (.int .i32 v.2.1))),(22,vb true),(21,.bG [.one (.v (.bool true)),.one (li v.2.2.1),.one (.v (.int .i32 v.2.1))])] (i' v.1 p1 v.2.2.2))) (λv=>k (.exit 0) (xe [(22,vb false),(21,.bG [.one (.v (.bool false))])] (i' v.1 p1 v.2)))))))
def QZ:a7 SS:=bc 5 (sq (sX hS 5) (sq (λst=>hpS st 0) (λst=>OT st 0))) (u3 i') (u3 (oK shut)) (λk p=>aau k p.2.1)
theorem agW:LS KK γ ay Tryz.f98 98 5 QZ:=
 aW.bU (π:=Bool×ByteArray×Nat) (σ:=Bool×Nat) (aj.all zH rfl) (aO.nil) rfl 60 (λp a=>i' a.1 p.2.1 a.2) (λp=>(p.1,p.2.2)) (St:=λp=>kx shut p.2.1) (λp=>1000000) (λp=>rfl)
  (λm p a k=>by kernel_rfl)
def XQ:=bo (zG shut) ay Tryz.f98 98 [QZ]
theorem XR:aX XQ γ:=bw (aj.all zH rfl) Tryz.func98 rfl aU (by kernel_rfl) agW
def Fo (w:Int):T Bool:=.bd (vA U w) λb=>.bf (b.2==0) (.gd (i' (!b.1.toList==(μ #[]).toList) b.1 0)<|.bd (oK U (!b.1.toList==(μ #[]).toList) b.1 0) λh=>.cs h (λa=>.ok a.2.1) λi=>.cs i (λa=>.ok false) λj=>.cs j (λa=>.ok a.2.1) λk=>.cs k (λa=>.ok false) λl=>.cs l (λa=>.ok false) λa=>.ok a.1)<|.gd (i' false b.1 0)<|.bd (oK U false b.1 0) λc=>.cs c (λa=>.ok a.2.1) λd=>.cs d (λa=>.ok false) λe=>.cs e (λa=>.ok a.2.1) λf=>.cs f (λa=>.ok false) λg=>.cs g (λa=>.ok false) λa=>.ok a.1
def jW (w:Int):=U.s _ (Fo U w).val
def BZ:=a_ (cK KK 98 28 (jW U) (bD KK 4)) (zG U)
theorem tv:aj (BZ shut) γ:=cR (rs:=[4]) zH XR rfl rfl λw k=>by kernel_rfl
def xm (a:List av) (p1:List aq) (p2:Int):AS SS:=⟨[(1,va 0 0),(12,vd 31 a),(13,vl a),(14,vi p2)],[bX 34 [.aG 31 a,.aG 32 p1]],0,none,false,[],[]⟩
def uM (b:List av) (p1:List aq) (p2:Int) (z0:av) (a:Unit):T (Unit⊕Unit⊕(Bool×Int)):=.bd (jW U z0.aY) λc=>.bf (!c) (.ok (.inr (.inl ())))<|.bd (nF U z0.aa) λd=>.bf (!d) (.ok (.inr (.inl ())))<|.bf (decide (p2>0)) (.bd (idx b (δ.wrap (p2-1))) λz3=>.bf (decide (z3.aY>=z0.aY)) (.ok (.inr (.inl ())))<|.ok (.inl ()))<|.ok (.inl ())
def sW (U:Sh) (b:List av) (p1:List aq) (p2:Int) (a:Unit):T (Unit⊕(Bool×Int)):=.ok (.inr (decide (p2<(↑b.length:Int)),p2))
def Db (a:List av) (p1:List aq):=bC U (uM U a p1) (sW U a p1) a ()
def Z' {R} (k:KX SS R) (a:List av) (p1:List aq) (x:Unit⊕(Bool×Int)):Option R:=x.elim (λv=>k .ret ⟨[(2,vi 350)],[],0,none,false,[],[]⟩) (λv=>k (.exit 0) (xe [(15,vb v.1)] (xm a p1 v.2)))
def QE:a7 SS:=bc 5 (sq (sD 31 12) (hD 32 0 1)) (λp=>u2 xm p 0) (u2 (Db shut)) (λk=>u2 (Z' k))
theorem agB:LS KK γ ay ζl 49 5 QE:=
 aW.bH (aj.all tv rfl) (aO.nil) rfl 60 (λp i a=>u2 xm p i) (λp=>p.1) (λp=>()) (St:=u2 (uM shut)) (F:=u2 (sW shut)) (λp=>rfl)
  (λm p i a k=>by kernel_rfl) (by rintro p (x|x)<;>exact⟨_,_,λ_=>rfl⟩) (λp N C A O w a b=>bQ b (t:=31) (sl:=12) rfl λv h=>bO h)
def xl (a:List aq) (p1:List av) (p2:Int):AS SS:=⟨[(1,va 0 0),(47,vd 32 a),(48,vl a),(49,vi p2)],[bX 34 [.aG 31 p1,.aG 32 a]],0,none,false,[],[]⟩
def uL (b:List aq) (p1:List av) (p2:Int) (z0:aq) (a:Unit):T (Unit⊕Unit⊕(Bool×Int)):=.bd (nF U z0.aa) λc=>.bf (!c) (.ok (.inr (.inl ())))<|.bf (decide ((↑z0.a6.length:Int)<1)) (.ok (.inr (.inl ())))<|.bf (decide ((↑z0.a6.length:Int)>4)) (.ok (.inr (.inl ())))<|.bf (decide (p2>0)) (.bd (idx b (δ.wrap (p2-1))) λz2=>.bf (decide (z2.aa>=z0.aa)) (.ok (.inr (.inl ())))<|.ok (.inl ()))<|.ok (.inl ())
def sV (U:Sh) (b:List aq) (p1:List av) (p2:Int) (a:Unit):T (Unit⊕(Bool×Int)):=.ok (.inr (decide (p2<(↑b.length:Int)),p2))
def Da (a:List aq) (p1:List av):=bC U (uL U a p1) (sV U a p1) a ()
def Z_ {R} (k:KX SS R) (a:List aq) (p1:List av) (x:Unit⊕(Bool×Int)):Option R:=x.elim (λv=>k .ret ⟨[(2,vi 350)],[],0,none,false,[],[]⟩) (λv=>k (.exit 2) (xe [(50,vb v.1)] (xl a p1 v.2)))
def QD:a7 SS:=bc 11 (sq (sD 32 47) (hD 31 0 0)) (λp=>u2 xl p 0) (u2 (Da shut)) (λk=>u2 (Z_ k))
theorem agA:LS KK γ ay ζl 49 11 QD:=
 aW.bH (aj.all tv rfl) (aO.nil) rfl 60 (λp i a=>u2 xl p i) (λp=>p.1) (λp=>()) (St:=u2 (uL shut)) (F:=u2 (sV shut)) (λp=>rfl)
  (λm p i a k=>by kernel_rfl) (by rintro p (x|x)<;>exact⟨_,_,λ_=>rfl⟩) (λp N C A O w a b=>bQ b (t:=32) (sl:=47) rfl λv h=>bO h)
def y3:=bo (BZ shut) ay ζl 49 [QE,QD]
theorem K1:aX y3 γ:=(aX.fu (aj.all tv rfl) Tryz.func49 rfl aU λc a=>by cases a;exact aO.cons (aO.cons (aO.nil) (by kernel_rfl) agA) (by kernel_rfl) agB)
def uV (s:aC):T Int:=.bf (decide ((↑s.an.length:Int)>16)) (.ok 350)<|.gd (xm s.an s.ak 0)<|.bd (Db U s.an s.ak) λa=>.cs a (λ_=>.ok 350) λc=>.gd (xl s.ak s.an 0)<|.bd (Da U s.ak s.an) λb=>.cs b (λ_=>.ok 350) λd=>.ok 0
def jU (s:aC):=U.s _ (uV U s).val
theorem Uc:R1 KK y3 49 34 [40] (uV shut) (bD KK 40):=by intro R s k;kernel_rfl
def Br:=a_ (cK KK 49 34 (jU U) (bD KK 40)) (BZ U)
theorem Bs:aj (Br shut) γ:=cR tv K1 rfl rfl Uc
end Go.Proofs.YtdhaaaeffhaadaaGreatDoor
end
section
namespace Go.Proofs.YtdhaaaeffhaadaaGreatDoor
open Go.RowKit Go.Dc Go.Vx
variable (U:Sh)
def wT (a:ByteArray) (p1:Nat):AS SS:=⟨[(0,vs (.v (.string a))),(6,vs (.cW 0))],[some (.cW a p1)],0,none,false,[],[]⟩
def m1 (U:Sh) (b:ByteArray) (a:Nat):T (Nat⊕Unit⊕Nat):=.bf (decide (a<b.size)) (.bf (decide ((↑(ε b a).fst:Int)>=97)) (.bf (decide ((↑(ε b a).fst:Int)<=122)) (.ok (.inl (a+(ε b a).snd)))<|.bf (decide ((↑(ε b a).fst:Int)>=48)) (.bf (!decide ((↑(ε b a).fst:Int)<=57)) (.ok (.inr (.inl ())))<|.ok (.inl (a+(ε b a).snd)))<|.ok (.inr (.inl ())))<|.bf (decide ((↑(ε b a).fst:Int)>=48)) (.bf (!decide ((↑(ε b a).fst:Int)<=57)) (.ok (.inr (.inl ())))<|.ok (.inl (a+(ε b a).snd)))<|.ok (.inr (.inl ())))<|.ok (.inr (.inr a))
def CD (a:ByteArray) (p1:Nat):=bU U (m1 U a) 1000000 p1
def Zy {R} (k:KX SS R) (a:ByteArray) (x:Unit⊕Nat):Option R:=x.elim (λv=>k .ret ⟨[(2,vb false)],[],0,none,false,[],[]⟩) (λv=>k (.exit 0) (xe [(8,vb false),(7,.bG [.one (.v (.bool false))])] (wT a v)))
def P7:a7 SS:=bc 3 (sq (sX jO 0) (λst=>OT st 0)) (u2 wT) (u2 (CD shut)) (λk p=>Zy k p.1)
theorem af1:LS KK γ ay Tryz.f175 175 3 P7:=
 aW.bU (π:=ByteArray×Nat) (σ:=Nat) (aj.all Bs rfl) (aO.nil) rfl 60 (λp a=>wT p.1 a) (λp=>p.2) (St:=λp=>m1 shut p.1) (λp=>1000000) (λp=>rfl)
  (λm p a k=>by kernel_rfl)
def Wc:=bo (Br shut) ay Tryz.f175 175 [P7]
theorem Wd:aX Wc γ:=bw (aj.all Bs rfl) Tryz.func175 rfl aU (by kernel_rfl) af1
def Ej (s:ByteArray):T Bool:=.gd (wT s 0)<|.bd (CD U s 0) λa=>.cs a (λ_=>.ok false) λb=>.ok (!s.toList==(μ #[]).toList)
def pQ (s:ByteArray):=U.s _ (Ej U s).val
def Am:=a_ (cK KK 175 9 (pQ U) (bD KK 4)) (Br U)
theorem An:aj (Am shut) γ:=cR (rs:=[4]) Bs Wd rfl rfl λs k=>by kernel_rfl
def qJ (a:List ByteArray) (p1:Int):AS SS:=⟨[(0,vd 185 a),(1,vc 0),(7,vl a),(8,vi p1)],[some (.bA 250 [] [.one (.bl 1 0)]),bX 178 [.v (.func (.func 175) (.mk []) (.mk []))]],2,none,false,[],[]⟩
def uD (c:List ByteArray) (p1:Int) (z0:ByteArray) (a:Unit):T (Unit⊕Int⊕(Bool×Int)):=.bd (pQ U z0) λb=>.bf (!b) (.ok (.inr (.inl p1)))<|.ok (.inl ())
def sL (U:Sh) (b:List ByteArray) (p1:Int) (a:Unit):T (Int⊕(Bool×Int)):=.ok (.inr (decide (p1<(↑b.length:Int)),p1))
def C2 (a:List ByteArray):=bC U (uD U a) (sL U a) a ()
def ZY {R} (k:KX SS R) (a:List ByteArray) (x:Int⊕(Bool×Int)):Option R:=x.elim (λv=>k .ret {qJ a v with env:=[(4,vi v)]}) (λv=>k (.exit 0) (xe [(9,vb v.1)] (qJ a v.2)))
def Qs:a7 SS:=bc 3 (gq (λst=>dd st 0 250) (sD 185 0)) (λp=>qJ p 0) (λp=>C2 shut p) (λk p=>ZY k p)
theorem agn:LS KK γ ay Tryz.f270 270 3 Qs:=
 aW.bH (π:=List ByteArray) (aj.all An rfl) (aO.nil) rfl 60 (λp i a=>qJ p i) (λp=>p) (λp=>()) (St:=λp=>uD shut p) (F:=λp=>sL shut p) (λp=>rfl)
  (λm p i a k=>by kernel_rfl) (by rintro p (x|x)<;>exact⟨_,_,λ_=>rfl⟩) (λp N C A O w a b=>bQ b (t:=185) (sl:=0) rfl λv h=>bO h)
def We:=bo (Am shut) ay Tryz.f270 270 [Qs]
theorem Wf:aX We γ:=bw (aj.all An rfl) Tryz.func270 rfl aU (by kernel_rfl) agn
def Ek (p:List ByteArray):T (Int×Bool):=.bf (decide (p.length<=140737488355328)&&decide ((hr p (μ #[47])).size<=140737488355328)) (.bd (ka (μ #[47]) (hr p (μ #[47]))) λz0=>.bd (pX U z0) λa=>.bf (a.2==0) (.bf (decide ((↑p.length:Int)<=4)) (.gd (qJ p 0)<|.bd (C2 U p) λc=>.cs c (λb=>.ok (a.1,!decide (b>=0))) λb=>.ok (a.1,true))<|.ok (a.1,false))<|.ok (a.1,false))<|.no
def jR (p:List ByteArray):=U.s _ (Ek U p).val
def Ao:=a_ (cK KK 176 186 (jR U) (ea KK 28 4)) (Am U)
theorem Ap:aj (Ao shut) γ:=cR (rs:=[28,4]) An Wf rfl rfl λp k=>by kernel_rfl
def wW (a:ByteArray) (p1:Int) (p2:Bool) (p3:ByteArray) (p4:List ByteArray):AS SS:=⟨[(0,vs .c_),(1,va 5 0)],[bX 188 [.v (.slice none 0 0),lu 0],bX 9 [.v (.string a)],bX 188 [.own 6,lu p1],bX 4 [.v (.bool p2)],some (.bA 208 [] [.one (.bl 5 0)]),bX 9 [.v (.string p3)],rX 9 p4],6,some ⟨⟨ξs,ay 131⟩,[27],eW (ct ξs) 9,eX (ct ξs) 9,[(0,vu p1),(2,va 0 0),(4,va 1 0),(6,va 2 0),(7,va 3 0),(26,vc 4)],none⟩,false,[],[3,2,5]⟩
def gC (d:ByteArray) (p1:Int) (a:Bool×ByteArray×List ByteArray):T ((Bool×ByteArray×List ByteArray)⊕(Bool×ByteArray×List ByteArray)⊕(Bool×ByteArray×Bool×List ByteArray)):=.bf (decide ((↑a.2.1.size:Int)>=1)) (.bd (eM a.2.1 none (some 1)) λz0=>.bf (z0.toList==(μ #[47]).toList) (.bd (eM a.2.1 (some 1) none) λc=>.bf (δ.wrap (ξ0 c.data.toList (ξS 47)+1)==0) (.bd (eM a.2.1 (some 1) (some (↑a.2.1.size:Int))) λz2=>.bf (d.toList==(μ #[47]).toList) (.ok (.inr (.inl (a.1,a.2.1,a.2.2))))<|.bd (pQ U z2) λb=>.bf (!b) (.ok (.inr (.inl (b,a.2.1,a.2.2))))<|.bd (app 16 a.2.2 [z2]) λz4=>.bd (eM a.2.1 (some (↑a.2.1.size:Int)) none) λz5=>.ok (.inl (b,z5,z4)))<|.bd (eM a.2.1 (some 1) (some (δ.wrap (ξ0 c.data.toList (ξS 47)+1)))) λz2=>.bf (d.toList==(μ #[47]).toList) (.ok (.inr (.inl (a.1,a.2.1,a.2.2))))<|.bd (pQ U z2) λb=>.bf (!b) (.ok (.inr (.inl (b,a.2.1,a.2.2))))<|.bd (app 16 a.2.2 [z2]) λz4=>.bd (eM a.2.1 (some (δ.wrap (ξ0 c.data.toList (ξS 47)+1))) none) λz5=>.ok (.inl (b,z5,z4)))<|.ok (.inr (.inr (z0.toList==(μ #[47]).toList,a.2.1,a.1,a.2.2))))<|.ok (.inr (.inr (false,a.2.1,a.1,a.2.2)))
def mV (a:ByteArray) (p1:Int) (p2:Bool) (p3:ByteArray) (p4:List ByteArray):=bU U (gC U a p1) 1000000 (p2,p3,p4)
def ZH {R} (k:KX SS R) (a:ByteArray) (p1:Int) (x:(Bool×ByteArray×List ByteArray)⊕(Bool×ByteArray×Bool×List ByteArray)):Option R:=x.elim (λv=>k .ret ⟨[],[bX 188 [.v (.slice none 0 0),lu 0],bX 9 [.v (.string a)],bX 188 [.own 6,lu p1],bX 4 [.v (.bool v.1)],some (.bA 208 [] [.one (.bl 5 0)]),bX 9 [.v (.string v.2.1)],rX 9 v.2.2],6,some ⟨⟨ξs,ay 131⟩,[27],eW (ct ξs) 9,eX (ct ξs) 9,[(0,vu p1),(2,va 0 0),(4,va 1 0),(6,va 2 0),(7,va 3 0),(26,vc 4)],some (.exit 0)⟩,false,[],[3,2,5]⟩) (λv=>k (.exit 0) (xe [(5,vb v.1),(4,vs (.v (.string v.2.1)))] (wW a p1 v.2.2.1 v.2.1 v.2.2.2)))
def Qe:a7 SS:=hs (λst=>gc (ay 208 1) (gn [3,2,5] (eb 2 0 9 (st))))<|bc 1 (λst=>((dd st 4 208).bind λ_=>gv st 59 9).bind λ_=>(jO (dQ st 1 0)).bind λa=>(db (dQ st 2 1)).bind λp1=>(hS (dQ st 3 0)).bind λp2=>(jO (dQ st 5 0)).bind λp3=>(eh st 6 9).bind λp4=>some (a,p1,p2,p3,p4)) (u5 wW) (u5 (mV shut)) (λk p=>ZH k p.1 p.2.1)
theorem af_:LS KK γ ay Tryz.f208 208 1 Qe:=aW.pre (b5.comp (b5.gc (ay 208 1)) (b5.comp (b5.gn [3,2,5]) (b5.eb 2 0 9)))<|
 aW.bU (π:=ByteArray×Int×Bool×ByteArray×List ByteArray) (σ:=Bool×ByteArray×List ByteArray) (aj.all Ap rfl) (aO.nil) rfl 60 (λp a=>wW p.1 p.2.1 a.1 a.2.1 a.2.2) (λp=>(p.2.2.1,p.2.2.2.1,p.2.2.2.2)) (St:=λp=>gC shut p.1 p.2.1) (λp=>1000000) (λp=>rfl)
  (λm p a k=>by kernel_rfl)
def Vw:=bo (Ao shut) ay Tryz.f208 208 [Qe]
theorem Vy:aX Vw γ:=bw (aj.all Ap rfl) Tryz.func208 rfl aU (by kernel_rfl) af_
def DY (w:Int):T (jz×Bool):=.bd (vA U w) λb=>.bf (b.2 !=0) (.ok (⟨[],0⟩,false))<|.bf (b.1.toList==(μ #[]).toList) (.ok (⟨[],0⟩,false))<|.gd (wW b.1 w true b.1 [])<|.bd (mV U b.1 w true b.1 []) λd=>.cs d (λa=>.bd (jR U a.2.2) λc=>.bf (!a.1) (.ok (⟨[],0⟩,false))<|.bf (!c.2) (.ok (⟨[],0⟩,false))<|.bf (c.1 !=w) (.ok (⟨[],0⟩,false))<|.ok (⟨a.2.2,w⟩,true)) λa=>.bd (jR U a.2.2.2) λc=>.bf (!a.2.2.1) (.ok (⟨[],0⟩,false))<|.bf (!c.2) (.ok (⟨[],0⟩,false))<|.bf (c.1 !=w) (.ok (⟨[],0⟩,false))<|.ok (⟨a.2.2.2,w⟩,true)
def lL (w:Int):=U.s _ (DY U w).val
def Lr:=a_ (cK KK 131 28 (lL U) (ea KK 188 4)) (Ao U)
theorem Ls:aj (Lr shut) γ:=cR (rs:=[188,4]) Ap Vy rfl rfl λw k=>by kernel_rfl
def Fm (w:Int):T Int:=.bd (lL U w) λa=>.bf (!a.2) (.ok 310)<|.ok 0
def p9 (w:Int):=U.s _ (Fm U w).val
def BX:=a_ (cK KK 96 28 (p9 U) (bD KK 40)) (Lr U)
theorem BY:aj (BX shut) γ:=cR (rs:=[40]) Ls (aj.all Ls rfl) rfl rfl λw k=>by kernel_rfl
def xk (a:List ax) (p1 p2 p3:Int):AS SS:=⟨[(1,va 0 0),(3,vu p2),(7,vd 27 a),(8,vl a),(9,vi p3)],[bX 30 [.aG 27 a,lu p1]],0,none,false,[],[]⟩
def ku (c:List ax) (p1 p3:Int) (z0:ax) (a:Int):T (Int⊕Unit⊕(Bool×Int×Int)):=.bd (p9 U z0.aP) λb=>.bf (b !=0) (.ok (.inr (.inl ())))<|.bf (decide (z0.aS<=a)) (.ok (.inr (.inl ())))<|.bf (decide (z0.aS>=p1)) (.ok (.inr (.inl ())))<|.ok (.inl z0.aS)
def sU (U:Sh) (b:List ax) (p1 p3 a:Int):T (Unit⊕(Bool×Int×Int)):=.ok (.inr (decide (p3<(↑b.length:Int)),a,p3))
def tE (a:List ax) (p1 p2:Int):=bC U (ku U a p1) (sU U a p1) a p2
def Z9 {R} (k:KX SS R) (a:List ax) (p1:Int) (x:Unit⊕(Bool×Int×Int)):Option R:=x.elim (λv=>k .ret ⟨[(2,vi 340)],[],0,none,false,[],[]⟩) (λv=>k (.exit 0) {xk a p1 p1 p1 with env:=[(10,vb v.1),(1,va 0 0),(3,vu v.2.1),(7,vd 27 a),(8,vl a),(9,vi v.2.2)]})
def QC:a7 SS:=bc 4 (sq (sD 27 7) (sq (hI 0 1) (sI 3))) (λp=>u3 xk p 0) (u3 (tE shut)) (λk p=>Z9 k p.1 p.2.1)
theorem agz:LS KK γ ay Tryz.f48 48 4 QC:=
 aW.bH (π:=List ax×Int×Int) (σ:=Int) (aj.all BY rfl) (aO.nil) rfl 60 (λp i a=>xk p.1 p.2.1 a i) (λp=>p.1) (λp=>p.2.2) (St:=λp=>ku shut p.1 p.2.1) (F:=λp=>sU shut p.1 p.2.1) (λp=>rfl)
  (λm p i a k=>by kernel_rfl) (by rintro p (x|x)<;>exact⟨_,_,λ_=>rfl⟩) (λp N C A O w a b=>bQ b (t:=27) (sl:=7) rfl λv h=>bO h)
def HI (a:List ax) (p1:Int) (p2:Γc):AS SS:=⟨[(3,vs (.mp 0)),(8,vd 27 a),(9,vl a),(10,vi p1)],[some (.map .u64 .u64 p2)],0,none,false,[],[]⟩
def TN (a:List ax) (p2:Γc):AS SS:=HI a 0 p2
def DG (U:Sh) (b:List ax) (p1:Int) (z0:ax) (a:(Γc)):T (((Γc))⊕(Bool×Int×(Γc))):=.ok (.inl (cL a z0.aP z0.aS))
def s' (U:Sh) (b:List ax) (p1:Int) (a:(Γc)):T ((Bool×Int×(Γc))):=.ok (decide (p1<(↑b.length:Int)),p1,a)
def tH (a:List ax) (p2:Γc):Option ((Bool×Int×(Γc))):=bC U (DG U a) (s' U a) a p2
def aat {R} (k:KX SS R) (a:List ax) (x:(Bool×Int×(Γc))):Option R:=(λv=>k (.exit 0) (xe [(11,vb v.1)] (HI a v.2.1 v.2.2))) x
def QY:a7 SS:=bc 4 (sq (sD 27 8) (λst=>hq st 0)) (u2 TN) (u2 (tH shut)) (λk p=>aat k p.1)
def KZ:=bo (BX shut) ay Tryz.f48 48 [QC]
theorem K0:aX KZ γ:=bw (aj.all BY rfl) Tryz.func48 rfl aU (by kernel_rfl) agz
theorem agV:LS KK γ ay ξh 97 4 QY:=
 aW.bH (π:=List ax×(Γc)) (σ:=(Γc)) K0 (aO.nil) rfl 60 (λp i a=>HI p.1 i a) (λp=>p.1) (λp=>p.2) (St:=λp=>DG shut p.1) (F:=λp=>s' shut p.1) (λp=>rfl)
  (λm p i a k=>by kernel_rfl) (λp x=>⟨_,_,λ_=>rfl⟩) (λp N C A O w a b=>bQ b (t:=27) (sl:=8) rfl λv h=>bO h)
def Xt:=bo KZ ay ξh 97 [QY]
theorem Xu:aX Xt γ:=bw K0 ξl rfl aU (by kernel_rfl) agV
def E1 (m:a1):T Int:=.gd (xk m.ab m.aL 0 0)<|.bd (tE U m.ab m.aL 0) λa=>.cs a (λ_=>.ok 340) λc=>.bf (decide ((↑m.ab.length:Int)>16)) (.ok 340)<|.gd (TN m.ab [])<|.bd (tH U m.ab []) λb=>.bf (decide ((↑b.2.2.length:Int)<(↑m.ab.length:Int))) (.ok 340)<|.bf (decide (m.aL<1)) (.ok 340)<|.bf (decide (m.aL>1073741825)) (.ok 340)<|.ok 0
def pV (m:a1):=U.s _ (E1 U m).val
def Bp:=a_ (cK KK 48 30 (pV U) (bD KK 40)) (BX U)
theorem Bq:aj (Bp shut) γ:=cR (rs:=[40]) BY Xu rfl rfl λm k=>by kernel_rfl
end Go.Proofs.YtdhaaaeffhaadaaGreatDoor
end
section
namespace Go.Vx
open Go.RowKit Go.Dc
section
variable {S:bh} {K:bp S} {P:Program}
theorem lU {X:Type} {t:T X} {x:X} (h:shut.s _ t.val=some x):t.val=some x:=by rw[ot] at h;exact h
theorem om {G:bW S} (a:aX G P) {n f:Nat} {ajF:List (aE S)} {rs:Γ} {X:Type} {t:T X} {kf: {R:Type}->(Rs S->Option R)->X->Option R}
  (h: ∀ {R:Type} (k:Rs S->Option R),gE G n f ajF [] (k1 G.K rs k)=t.run (kf k)) (hp:ajF.all aE.pure=true) {x:X} (o:t.val=some x) {r:Rs S} (m: ∀ {R:Type} (k:Rs S->Option R),kf k x=k r):d_ G.K P f ajF r:=by
 have b:gE G n f ajF [] (k1 G.K rs (λr=>some (ULift.up.{0} r).down))=some r:=by
  rw[h,T.oo,o];exact m _
 obtain⟨q,h',dt,c,d⟩:=Fs a b;obtain⟨s,g,i⟩:=d_.Rz a.K hp d c;obtain⟨p,j,l⟩:=RU a.K g i;have e:p=r:=by simpa using j
 rw[<-e];exact l
theorem e3 (g:b9 K P) {A:Pl} {O:Γ} {w:World} {t:Nat} {x:S.El t} {v:Value} (c:(S.ty t).agg=(match K.bg t x with| .agg _=>true| .one _=>false)) (d:(match K.bg t x with| .agg _=>true| .one l=>ρ l.sz 1)=true) (h:(S.ty t).is O w v x):(K.bg t x).rel A O w v:=by
 obtain⟨cs,i,a⟩:=h;have b:=g.bg A O w t x cs i;unfold Ty.mk' at a
 revert b c d
 cases K.bg t x with
 |agg ls=>
  intro c d b;rw[c] at a;exact⟨cs,a,b⟩
 |one l=>
  intro c d b;rw[c] at a;obtain⟨ys,zs,rfl,e,f⟩:=b;rw[show zs=[] from f,ξ4] at a;have hl:=e.len;rw[κ d] at hl
  match ys,hl with
  |[u],_=>
   have:v=u:=a;rw[this];exact e
theorem qY (d:b9 K P) {A:Pl} {O:Γ} {w:World} {t:Nat} {x:S.El t} {v:Value} (a:K.cls t (K.bg t x).cells=some x) (b:(S.ty t).agg=(match K.bg t x with| .agg _=>true| .one _=>false)) (h:(K.bg t x).rel A O w v):(S.ty t).is O w v x:=by
 revert a b h
 cases K.bg t x with
 |agg ls=>
  rintro a b ⟨cs,rfl,c⟩;exact⟨cs,d.cls A O w t ls x cs a c,by unfold Ty.mk';rw[b];rfl⟩
 |one l=>
  intro a b c;exact⟨[v],d.cls A O w t [l] x [v] a ⟨[v],[],rfl,c,rfl⟩,by unfold Ty.mk';rw[b];rfl⟩
theorem pD (g:b9 K P) {f:Nat} {b:Γ} {spec: {R:Type}->h_ S b->(Rs S->Option R)->Option R}
  (h: ∀ {R:Type} (xs:h_ S b) (k:Rs S->Option R) (z:R),spec xs k=some z-> ∃r,k r=some z/\d_ K P f (kX K xs) r) {R:Type} (ajF:List (aE S)) (k:Rs S->Option R) (z:R) (_:ajF.all aE.pure=true) (a:(hd K f b spec).out ajF k=some z): ∃r,k r=some z/\d_ K P f ajF r:=by
 simp only[hd] at a;split at a
 rotate_left
 .cases a
 rename_i xs l;cases hp:(kX K xs).all aE.pure<;>rw[hp] at a
 .cases a
 simp only[cond_true] at a;obtain⟨r,d,c⟩:=h xs k z a;exact⟨r,d,c.1,λA O w vs j i e=>c.2 A O w vs (yc g l j) i e⟩
theorem H3 {α:Type} {T:Ty α} {O:Γ} {w:World} {v:Value} {x:α} (h:T.is O w v x):T.is [] w v x:=h.tr (Tr.less λ_ a=>by cases a)
end
end Go.Vx
end
section
namespace Go.Vx
open Go.RowKit Go.Dc
def oz {α:Type} (n:Nat) (T:Ty α):Ty α where
 agg:=T.agg
 n:=T.n
 rep O w cs x:=T.rep O w cs x/\n<=w.heap.size
 tr a h:=⟨T.tr a h.1,ζ5 h.2 a.size⟩
 len h:=T.len h.1
 one h:=T.one h.1
 e6:=T.e6
theorem rk {α:Type} {T T':Ty α} {e B:Nat} {O R:Γ} {w:World} {v:Value} {xs:List α} (h:Dc.Own T e B O w v xs) (hn:T'.n=T.n) (k: ∀(cs:Γb) (x:α),T.rep O w cs x->T'.rep R w cs x) (hR: ∀g,v.ownBlock=some g->g∉R):T'.slice.is R w v xs:=by
 obtain⟨cs,⟨q,b⟩,a⟩:=h.ex;have hm: ∀ {xs:List α} {cs:Γb},bN T O w cs xs->bN T' R w cs xs:=λ{xs}=>by
  induction xs with
  |nil=>exact λh=>h
  |cons x r l=>exact λ⟨c,p,e,m,o⟩=>⟨c,p,e,k c x m,l o⟩
 rcases b with⟨rfl,hl⟩|⟨g,cap,cur,rfl,t,j,d,f,s,i⟩
 .have:xs=[]:=ξ1 hl;subst this;exact fR _ _ _
 .exact ou j (hR g rfl) (hm a) (by rw[bN.len a];exact i) d f
end Go.Vx
namespace Go.Proofs.YtdhaaaeffhaadaaGreatDoor
open Go.RowKit Go.Dc Go.Vx
set_option maxRecDepth 100000
set_option maxHeartbeats 4000000
def yE (n0:Nat):Ty aq:=(Ty.pair (Ty.int .u64) (Ty.slice (oz n0 (Ty.int .u64)))).ei λd=>(d.aa,d.a6)
def T_ (R0:Γ):Ty aq:=(Ty.pair (Ty.int .u64) (Ix R0 (Ty.slice (Ty.int .u64)))).ei λd=>(d.aa,d.a6)
def aic (n0:Nat):Ty aC:=(Ty.pair (Ty.slice cY) (Ty.slice (yE n0))).ei λd=>(d.an,d.ak)
def Ua (n0:Nat):Ty aF:=(Ty.pair mE (Ty.pair (Ty.slice eY) (Ty.pair mD (aic n0)))).ei λd=>(d.ar,d.aB,d.au,d.ao)
def rK (n0:Nat) (R0:Γ) (t:Nat):(α:Type)×Ty α:=match t with
 |36=>⟨aF,Ua n0⟩
 |23=>⟨List ag,Ty.slice eO⟩
 |26=>⟨List ai,Ty.slice eY⟩
 |27=>⟨List ax,Ty.slice fH⟩
 |31=>⟨List av,Ty.slice cY⟩
 |32=>⟨List aq,Ty.slice (yE n0)⟩
 |76=>⟨Γa,Ty.slice (oz n0 (Ty.int .u64))⟩
 |28=>⟨Int,oz n0 (Ty.int .u64)⟩
 |1082=>⟨aq,yE n0⟩
 |1076=>⟨Γa,Ix R0 (Ty.slice (Ty.int .u64))⟩
 |82=>⟨aq,T_ R0⟩
 |69=>⟨ag,eO⟩
 |89=>⟨ai,eY⟩
 |71=>⟨ax,fH⟩
 |93=>⟨av,cY⟩
 |_=>⟨Unit,nX⟩
abbrev SN (n0:Nat) (R0:Γ):bh:=⟨λt=>(rK n0 R0 t).1,λt=>(rK n0 R0 t).2⟩
section
variable (n0:Nat) (R0:Γ)
def JL (t:Nat):Option (lC (SN n0 R0) t):=match t with
 |23=>some ⟨69,id,id⟩
 |26=>some ⟨89,id,id⟩
 |27=>some ⟨71,id,id⟩
 |31=>some ⟨93,id,id⟩
 |32=>some ⟨1082,id,id⟩
 |76=>some ⟨28,id,id⟩
 |_=>none
def RP:(t:Nat)->(SN n0 R0).El t->aE (SN n0 R0):=λt=>match t with
 |36=>λx=>.agg [.br .i64 16 x.ar.az,.aG 23 x.ar.ab,.aG 26 x.aB,.aG 27 x.au.ab,.v (.int .u64 x.au.aL),.aG 31 x.ao.an,.aG 32 x.ao.ak]
 |1082=>λx=>.agg [.v (.int .u64 x.aa),.aG 76 x.a6]
 |82=>λx=>.agg [.v (.int .u64 x.aa),.aG 1076 x.a6]
 |69=>λx=>.agg [.v (.int .u64 x.aa),.v (.int .u64 x.aT),.v (.bool x.ba),.v (.int .u64 x.bT)]
 |89=>λx=>.agg [.v (.int .u64 x.aa),.v (.int .i64 x.bm),.v (.int .u64 x.b3)]
 |71=>λx=>.agg [.v (.int .u64 x.aP),.v (.int .u64 x.aS)]
 |93=>λx=>.agg [.v (.int .u64 x.aY),.v (.int .u64 x.aa)]
 |t=>λx=>.one (.aG t x)
def FY:(t:Nat)->List (LV (SN n0 R0))->Option ((SN n0 R0).El t):=λt=>match t with
 |82=>λr=>b0 (fa (rdPair (ec .u64) (c8 (S:=SN n0 R0) 1076 none)) (λ(a0,a)=>(⟨a0,a⟩:aq)) r)
 |76=>λr=>b0 (c8 (S:=SN n0 R0) 76 none r)
 |t=>λr=>none
def KN:bp (SN n0 R0):=⟨Θ,JL n0 R0,λ_=>none,RP n0 R0,FY n0 R0,λ_=>none,λ_ _ _=>none⟩
theorem ad2 {t:Nat} (h:t∉([36,23,26,27,31,32,76,28,1082,1076,82,69,89,71,93]:Γ)) {O:Γ} {w:World} {cs:Γb} {x:(SN n0 R0).El t}: ¬((SN n0 R0).ty t).rep O w cs x:=by
 have a:rK n0 R0 t=⟨Unit,nX⟩:=by
  unfold rK;split<;>first|rfl|(exfalso;exact h (by decide))
 have key: ∀(p:(α:Type)×Ty α) (_:p=⟨Unit,nX⟩) (x:p.1),¬p.2.rep O w cs x:=by
  rintro _ rfl x b;exact b
 exact key (rK n0 R0 t) a x
theorem aeN (A:Pl) (O:Γ) (w:World) (t:Nat) (x:(SN n0 R0).El t) (cs:Γb) (h:((SN n0 R0).ty t).rep O w cs x):bz A O w (RP n0 R0 t x).cells cs:=by
 by_cases hm:t∈([36,23,26,27,31,32,76,28,1082,1076,82,69,89,71,93]:Γ)
 .simp only[ξz,ξm,or_false] at hm;rcases hm with rfl|rfl|rfl|rfl|rfl|rfl|rfl|rfl|rfl|rfl|rfl|rfl|rfl|rfl|rfl
  .exact(dV (cN (dV (cN l9 (cw (S:=SN n0 R0) (t:=23) rfl))) (cN (cw (S:=SN n0 R0) (t:=26) rfl) (cN (dV (cN (cw (S:=SN n0 R0) (t:=27) rfl) c0)) (dV (cN (cw (S:=SN n0 R0) (t:=31) rfl) (cw (S:=SN n0 R0) (t:=32) rfl))))))) A O w x cs h
  .exact(cw (S:=SN n0 R0) (t:=23) rfl) A O w x cs h
  .exact(cw (S:=SN n0 R0) (t:=26) rfl) A O w x cs h
  .exact(cw (S:=SN n0 R0) (t:=27) rfl) A O w x cs h
  .exact(cw (S:=SN n0 R0) (t:=31) rfl) A O w x cs h
  .exact(cw (S:=SN n0 R0) (t:=32) rfl) A O w x cs h
  .exact(cw (S:=SN n0 R0) (t:=76) rfl) A O w x cs h
  .exact(cw (S:=SN n0 R0) (t:=28) rfl) A O w x cs h
  .exact(dV (cN c0 (cw (S:=SN n0 R0) (t:=76) rfl))) A O w x cs h
  .exact(cw (S:=SN n0 R0) (t:=1076) rfl) A O w x cs h
  .exact(dV (cN c0 (cw (S:=SN n0 R0) (t:=1076) rfl))) A O w x cs h
  .exact(dV (cN c0 (cN c0 (cN IQ c0)))) A O w x cs h
  .exact(dV (cN c0 (cN c0 c0))) A O w x cs h
  .exact(dV (cN c0 c0)) A O w x cs h
  .exact(dV (cN c0 c0)) A O w x cs h
 .exact absurd h (ad2 n0 R0 hm)
theorem aa_ (A:Pl) (O:Γ) (w:World) (t:Nat) (ls:List (LV (SN n0 R0))) (x:(SN n0 R0).El t) (cs:Γb) (a:FY n0 R0 t ls=some x) (h:bz A O w ls cs):((SN n0 R0).ty t).rep O w cs x:=by
 unfold FY at a;split at a
 .exact fQ (S:=SN n0 R0) (fF (ek eE (di (S:=SN n0 R0) (t:=1076) λx b=>by cases b)) λ_=>rfl) a h
 .exact fQ (S:=SN n0 R0) (di (S:=SN n0 R0) (t:=76) λx b=>by cases b) a h
 .cases a
theorem ahZ (t:Nat) (I:lC (SN n0 R0) t) (h:JL n0 R0 t=some I):((SN n0 R0).ty t).agg=false/\ ∃R:Γ,(∀(O:Γ) (w:World) (v:Value) (x:(SN n0 R0).El t),((SN n0 R0).ty t).is O w v x->((SN n0 R0).ty I.e).slice.is (O++R) w v (I.to x))/\ ∀(O:Γ) (w:World) (v:Value) (xs:List ((SN n0 R0).El I.e)),((SN n0 R0).ty I.e).slice.is (O++R) w v xs->((SN n0 R0).ty t).is O w v (I.of xs):=by
 unfold JL at h;split at h<;>first|(cases h;exact⟨rfl,[],λO _ _ _ h=>by rw[ξ4];exact h,λO _ _ _ h=>by rw[ξ4] at h;exact h⟩)|cases h
theorem lx:b9 (KN n0 R0) γ:=⟨ah,ahZ n0 R0,(λe I h=>by cases h),aeN n0 R0,aa_ n0 R0,(λA O w t ls ms b xs ys ox oy h=>by cases h)⟩
def FT:e0 (SN n0 R0):=hZ (KN n0 R0) 35 69 (λxs=>app 32 [] xs)
theorem aa5 {R:Type} (xs:List (aE (SN n0 R0))) (h:AH (SN n0 R0)) (k:Rs (SN n0 R0)->AH (SN n0 R0)->Γ->Option R) (z:R) (a:(FT n0 R0).out xs h k=some z): ∃r h' dt,k r h' dt=some z/\eu (KN n0 R0) γ 35 xs h r h' dt:=
 jg (e:=69) (cl:=λxs=>app 32 [] xs) (lx n0 R0) (cp aU ξK rfl) (λ_ _ _ _ _ _ h=>h) (λO w v xs zs b c a=>Nv b c a) xs h k z a
def FU:e0 (SN n0 R0):=hZ (KN n0 R0) 36 89 (λxs=>app 24 [] xs)
theorem aa6 {R:Type} (xs:List (aE (SN n0 R0))) (h:AH (SN n0 R0)) (k:Rs (SN n0 R0)->AH (SN n0 R0)->Γ->Option R) (z:R) (a:(FU n0 R0).out xs h k=some z): ∃r h' dt,k r h' dt=some z/\eu (KN n0 R0) γ 36 xs h r h' dt:=
 jg (e:=89) (cl:=λxs=>app 24 [] xs) (lx n0 R0) (cp aU ξL rfl) (λ_ _ _ _ _ _ h=>h) (λO w v xs zs b c a=>Nw b c a) xs h k z a
def FV:e0 (SN n0 R0):=hZ (KN n0 R0) 37 71 (λxs=>app 16 [] xs)
theorem aa7 {R:Type} (xs:List (aE (SN n0 R0))) (h:AH (SN n0 R0)) (k:Rs (SN n0 R0)->AH (SN n0 R0)->Γ->Option R) (z:R) (a:(FV n0 R0).out xs h k=some z): ∃r h' dt,k r h' dt=some z/\eu (KN n0 R0) γ 37 xs h r h' dt:=
 jg (e:=71) (cl:=λxs=>app 16 [] xs) (lx n0 R0) (cp aU ξM rfl) (λ_ _ _ _ _ _ h=>h) (λO w v xs zs b c a=>Nx b c a) xs h k z a
def FW:e0 (SN n0 R0):=hZ (KN n0 R0) 38 93 (λxs=>app 16 [] xs)
theorem aa8 {R:Type} (xs:List (aE (SN n0 R0))) (h:AH (SN n0 R0)) (k:Rs (SN n0 R0)->AH (SN n0 R0)->Γ->Option R) (z:R) (a:(FW n0 R0).out xs h k=some z): ∃r h' dt,k r h' dt=some z/\eu (KN n0 R0) γ 38 xs h r h' dt:=
 jg (e:=93) (cl:=λxs=>app 16 [] xs) (lx n0 R0) (cp aU ξN rfl) (λ_ _ _ _ _ _ h=>h) (λO w v xs zs b c a=>FK b c a) xs h k z a
def FZ:fe (SN n0 R0):=hd (KN n0 R0) 39 [76] (λ{R} xs k=>match xs with| .cons s .nil=>(app 8 [] (s:Γa)).bind λr=>k (.ret (.s (.one (.aG 1076 r)))))
theorem aa' {R0:Γ} (hR: ∀b∈R0,b<n0) {R:Type} (us:List (aE (SN n0 R0))) (k:Rs (SN n0 R0)->Option R) (z:R) (hp:us.all aE.pure=true) (g:(FZ n0 R0).out us k=some z): ∃r,k r=some z/\d_ (KN n0 R0) γ 39 us r:=
 pD (lx n0 R0) (λ{R} xs k z h=>by
  match xs,h with
  | .cons s .nil,h=>
   obtain⟨zs,f,e⟩:=bind_some h;refine⟨_,e,cp aU ξO rfl,λA O w vs B n J=>?_⟩;obtain⟨v0,_,rfl,⟨v1,p,d,_⟩,v⟩:=B;cases p;rw[show _=[] from v];have d:(Ty.slice (oz n0 (Ty.int .u64))).is O w v0 s:=d;have u:(Ty.slice (Ty.int .u64)).is O w v0 s:=let⟨cs,i,j⟩:=d;⟨cs,rI (T:=oz n0 (Ty.int .u64)) (T':=Ty.int .u64) rfl (λ_ _ h=>h.1) i,j⟩
   refine(FL n u f).mono ?_;rintro I w' o;have a:s=[]\/OB (O++R0) w:=by
    rcases a:(s:Γa) with _|⟨y,ys⟩
    .exact .inl rfl
    .right;obtain⟨cs,⟨A',m,F,G,q⟩,H⟩:=d;obtain⟨ad,es,_,_,_,t,_⟩:=q 0 y (by rw[a];rfl);intro b c;rcases ξr.1 c with c|c
     .exact n b c
     .exact Nat.lt_of_lt_of_le (hR b c) t.2
   rcases a with a|a
   .obtain⟨l,E,rfl,ap⟩:=o;have g:zs=[]:=by subst a;simp[app] at f;exact f
    subst g;obtain⟨A',m,rfl,C,D⟩:=ap.own.form;exact⟨⟨_,rfl,_,rfl,⟨_,⟨A',m,rfl,⟨C,D⟩,λk x e=>by simp at e⟩,rfl⟩,rfl⟩,ap.b6 Own.f' (Fr.refl [] w)⟩
   .obtain⟨l,rfl,i,j⟩:=acu (T:=Ty.int .u64) (λh=>h) a o;exact⟨⟨l,rfl,l,rfl,i,rfl⟩,j⟩) us k z hp g
noncomputable def GN:bW (SN n0 R0):=⟨KN n0 R0,[FZ n0 R0],[FT n0 R0,FU n0 R0,FV n0 R0,FW n0 R0],[],mB γ ay,[]⟩
end
theorem tb {n0:Nat} {R0:Γ} (hR: ∀b∈R0,b<n0):aj (GN n0 R0) γ:=by
 have a:aj (⟨KN n0 R0,[],[],[],mB γ ay,[]⟩:bW (SN n0 R0)) γ:=⟨lx n0 R0,⟨(λf k h=>by cases h),(λc h=>by cases h)⟩,(λf m h=>by cases h),(λg l h=>by cases h),mixed,aU⟩;have d:=aj.gM (c:=FW n0 R0) a (aa8 n0 R0);have e:=aj.gM (c:=FV n0 R0) d (aa7 n0 R0);have i:=aj.gM (c:=FU n0 R0) e (aa6 n0 R0);have j:=aj.gM (c:=FT n0 R0) i (aa5 n0 R0);exact aj.hO (c:=FZ n0 R0) j (aa' n0 hR)
abbrev zS {S:bh}:List (LV S):=[.v (.int .i64 0),.v (.int .i64 0),.v (.int .i64 0),.v (.int .i64 0),.v (.int .i64 0),.v (.int .i64 0),.v (.int .i64 0),.v (.int .i64 0),.v (.int .i64 0),.v (.int .i64 0),.v (.int .i64 0),.v (.int .i64 0),.v (.int .i64 0),.v (.int .i64 0),.v (.int .i64 0),.v (.int .i64 0),.v (.slice none 0 0),.v (.slice none 0 0),.v (.slice none 0 0),.v (.int .u64 0),.v (.slice none 0 0),.v (.slice none 0 0)]
def o_ (U:Sh) (c:List aq) (p1:Γa) (p2:Int) (p3:List aq) (p4:List ag) (p5:List ai) (p6:List ax) (p7:List av) (p8:Int) (z0:aq) (a:List aq):T (List aq⊕(Bool×Int×List aq)):=
 .bd (dn z0.a6 none (some (if 6<(↑z0.a6.length:Int) then 6 else(↑z0.a6.length:Int))) none) λb=>
  .bd (app 8 [] b) λz2=>
   .bd (app 32 a [aq.mk z0.aa z2]) λz3=>
    .ok (.inl z3)
def ta (U:Sh) (b:List aq) (p1:Γa) (p2:Int) (p3:List aq) (p4:List ag) (p5:List ai) (p6:List ax) (p7:List av) (p8:Int) (a:List aq):T ((Bool×Int×List aq)):=.ok (decide (p8<(↑b.length:Int)),p8,a)
def tI (U:Sh) (a:List aq) (p1:Γa) (p2:Int) (p3:List aq) (p4:List ag) (p5:List ai) (p6:List ax) (p7:List av) (b:List aq):Option ((Bool×Int×List aq)):=bC U (o_ U a p1 p2 p3 p4 p5 p6 p7) (ta U a p1 p2 p3 p4 p5 p6 p7) a b
def MU (U:Sh) (b:List aq) (p1:Γa) (p2:Int) (p3:List ag) (p4:List ai) (p5:List ax) (p6:List av) (p7:Int) (a:Int×List aq):T ((Int×List aq)⊕(Bool×Int×List aq)):=.bf (decide (a.1<p7)) (.bd (idx b a.1) λz0=>.bd (app 8 [] z0.a6) λc=>.bd (app 32 a.2 [aq.mk z0.aa c]) λz2=>.ok (.inl (δ.wrap (a.1+1),z2)))<|.ok (.inr (decide (a.1<p7),a.1,a.2))
def Dg (U:Sh) (a:List aq) (p1:Γa) (p2:Int) (p3:List ag) (p4:List ai) (p5:List ax) (p6:List av) (p7 p8:Int) (b:List aq):Option ((Bool×Int×List aq)):=bU U (MU U a p1 p2 p3 p4 p5 p6 p7) 1000000 (p8,b)
def OS (n0:Nat) (R0:Γ) (a:List aq) (p1:Γa) (p2:Int) (p3:List aq) (p4:List ag) (p5:List ai) (p6:List ax) (p7:List av) (p8:Int) (b:List aq):AS (SN n0 R0):=⟨[(1,va 0 0),(2,va 5 0),(3,vo 6),(59,vd 32 a),(60,vl a),(61,vi p8)],[bX 36 [.br .i64 16 p1,.own 1,.own 2,.own 3,lu p2,.own 4,.aG 32 p3],rX 69 p4,rX 89 p5,rX 71 p6,rX 93 p7,bX 36 zS,rX 82 b],0,none,false,[],[]⟩
def TY (n0:Nat) (R0:Γ) (a:List aq) (p1:Γa) (p2:Int) (p3:List aq) (p4:List ag) (p5:List ai) (p6:List ax) (p7:List av) (b:List aq):AS (SN n0 R0):=OS n0 R0 a p1 p2 p3 p4 p5 p6 p7 0 b
def abP (n0:Nat) (R0:Γ) (a:List aq) (p1:Γa) (p2:Int) (p3:List aq) (p4:List ag) (p5:List ai) (p6:List ax) (p7:List av) (a0:Bool) (b:Int) (a2:List aq):AS (SN n0 R0):=⟨[(62,vb a0),(1,va 0 0),(2,va 5 0),(3,vo 6),(59,vd 32 a),(60,vl a),(61,vi b)],[bX 36 [.br .i64 16 p1,.own 1,.own 2,.own 3,lu p2,.own 4,.aG 32 p3],rX 69 p4,rX 89 p5,rX 71 p6,rX 93 p7,bX 36 zS,rX 82 a2],0,none,false,[],[]⟩
def aaw (n0:Nat) (R0:Γ) {R:Type} (k:AX->AS (SN n0 R0)->Option R) (a:List aq) (p1:Γa) (p2:Int) (p3:List aq) (p4:List ag) (p5:List ai) (p6:List ax) (p7:List av) (x:(Bool×Int×List aq)):Option R:=(λv=>k (.exit 0) (abP n0 R0 a p1 p2 p3 p4 p5 p6 p7 v.1 v.2.1 v.2.2)) x
def Ih (n0:Nat) (R0:Γ):a7 (SN n0 R0):=bc 8 (λst=>(ez 32 (c9 st 59 0)).bind λa=>(dO (dQ st 0 0)).bind λp1=>(db (dQ st 0 4)).bind λp2=>(ez 32 (dQ st 0 6)).bind λp3=>(eh st 1 69).bind λp4=>(eh st 2 89).bind λp5=>(eh st 3 71).bind λp6=>(eh st 4 93).bind λp7=>(eh st 6 82).bind λb=>some (a,p1,p2,p3,p4,p5,p6,p7,b)) (λp:List aq×Γa×Int×List aq×List ag×List ai×List ax×List av×List aq=>u9 (TY n0 R0) p) (u9 (tI shut)) (λk=>w8 (aaw n0 R0 k))
theorem ahg {n0:Nat} {R0:Γ} (hR: ∀b∈R0,b<n0):aW (KN n0 R0) γ ⟨ζ2,ay 9⟩ (l3 (ct ζ2) 8) (Ih n0 R0):=
 aW.bH (G:=(GN n0 R0)) (I:=⟨⟨ζ2,ay 9⟩,[]⟩) (π:=List aq×Γa×Int×List aq×List ag×List ai×List ax×List av×List aq) (σ:=List aq) (aj.all (tb hR) rfl) (aO.nil) rfl 60 (w8 (OS n0 R0)) (λp=>p.1) (λp=>p.2.2.2.2.2.2.2.2) (St:=w8 (o_ shut)) (F:=w8 (ta shut)) (λp=>rfl)
  (λm p i a k=>by kernel_rfl) (λp x=>⟨_,_,λ_=>rfl⟩) (λp N C A O w a c=>bQ c (t:=32) (sl:=59) rfl λv h=>h)
def K3 (n0:Nat) (R0:Γ):bW (SN n0 R0):= {(GN n0 R0) with T:=h8 ((GN n0 R0).T) 9 ⟨⟨ζ2,ay 9⟩,[Ih n0 R0]⟩}
theorem XT {n0:Nat} {R0:Γ} (hR: ∀b∈R0,b<n0):aX (K3 n0 R0) γ:=(aX.fu (f:=9) (J:=⟨⟨ζ2,ay 9⟩,[Ih n0 R0]⟩) (aj.all (tb hR) rfl) Tryz.func9 rfl aU λc a=>by cases a;exact aO.cons (aO.nil) (by kernel_rfl) (ahg hR))
def pf (n0:Nat) (R0:Γ) (U:Sh) (s:aF):T (aF):=
 .bd (dn s.ar.ab none (some (if 18<(↑s.ar.ab.length:Int) then 18 else(↑s.ar.ab.length:Int))) none) λz0=>
  .bd (app 32 [] z0) λa=>
   .bd (dn s.aB none (some (if 66<(↑s.aB.length:Int) then 66 else(↑s.aB.length:Int))) none) λz2=>
    .bd (app 24 [] z2) λz3=>
     .bd (dn s.au.ab none (some (if 18<(↑s.au.ab.length:Int) then 18 else(↑s.au.ab.length:Int))) none) λz4=>
      .bd (app 16 [] z4) λz5=>
       .bd (dn s.ao.an none (some (if 18<(↑s.ao.an.length:Int) then 18 else(↑s.ao.an.length:Int))) none) λe=>
        .bd (app 16 [] e) λb=>
         .bd (dn s.ao.ak none (some (if 18<(↑s.ao.ak.length:Int) then 18 else(↑s.ao.ak.length:Int))) none) λc=>
          .gd (TY n0 R0 c s.ar.az s.au.aL s.ao.ak a z3 z5 b [])<|
           .bd (tI U c s.ar.az s.au.aL s.ao.ak a z3 z5 b []) λd=>
            .ok (⟨⟨s.ar.az,a⟩,z3,⟨z5,s.au.aL⟩,⟨b,d.2.2⟩⟩)
def OR (n0:Nat) (R0:Γ) (a:List aq) (p1:Γa) (p2:Int) (p3:List ag) (p4:List ai) (p5:List ax) (p6:List av) (p7 p8:Int) (b:List aq):AS (SN n0 R0):=⟨[(1,va 0 0),(2,va 6 0),(31,vd 32 a),(32,vi p7),(33,vi p8)],[bX 36 [.br .i64 16 p1,.own 1,.own 2,.own 3,lu p2,.own 4,.own 5],rX 69 p3,rX 89 p4,rX 71 p5,rX 93 p6,rX 82 b,bX 36 zS],0,none,false,[],[]⟩
def TX (n0:Nat) (R0:Γ) (a:List aq) (p1:Γa) (p2:Int) (p3:List ag) (p4:List ai) (p5:List ax) (p6:List av) (p7 p8:Int) (b:List aq):AS (SN n0 R0):=OR n0 R0 a p1 p2 p3 p4 p5 p6 p7 p8 b
def abO (n0:Nat) (R0:Γ) (b:List aq) (p1:Γa) (p2:Int) (p3:List ag) (p4:List ai) (p5:List ax) (p6:List av) (p7:Int) (a0:Bool) (a:Int) (a2:List aq):AS (SN n0 R0):=⟨[(34,vb a0),(1,va 0 0),(2,va 6 0),(31,vd 32 b),(32,vi p7),(33,vi a)],[bX 36 [.br .i64 16 p1,.own 1,.own 2,.own 3,lu p2,.own 4,.own 5],rX 69 p3,rX 89 p4,rX 71 p5,rX 93 p6,rX 82 a2,bX 36 zS],0,none,false,[],[]⟩
def aav (n0:Nat) (R0:Γ) {R:Type} (k:AX->AS (SN n0 R0)->Option R) (a:List aq) (p1:Γa) (p2:Int) (p3:List ag) (p4:List ai) (p5:List ax) (p6:List av) (p7:Int) (x:(Bool×Int×List aq)):Option R:=(λv=>k (.exit 0) (abO n0 R0 a p1 p2 p3 p4 p5 p6 p7 v.1 v.2.1 v.2.2)) x
def Ig (n0:Nat) (R0:Γ):a7 (SN n0 R0):=hs (λst=>gc (ay 68 6) (eb 0 6 82 (st)))<|bc 6 (λst=>(ez 32 (c9 st 31 0)).bind λa=>(dO (dQ st 0 0)).bind λp1=>(db (dQ st 0 4)).bind λp2=>(eh st 1 69).bind λp3=>(eh st 2 89).bind λp4=>(eh st 3 71).bind λp5=>(eh st 4 93).bind λp6=>(db (c9 st 32 0)).bind λp7=>(db (c9 st 33 0)).bind λp8=>(eh st 5 82).bind λb=>some (a,p1,p2,p3,p4,p5,p6,p7,p8,b)) (λp:List aq×Γa×Int×List ag×List ai×List ax×List av×Int×Int×List aq=>Ul (TX n0 R0) p) (Ul (Dg shut)) (λk=>w8 (aav n0 R0 k))
theorem ahf {n0:Nat} {R0:Γ} (hR: ∀b∈R0,b<n0):aW (KN n0 R0) γ ⟨ξJ,ay 68⟩ (l3 (ct ξJ) 6) (Ig n0 R0):=aW.pre (b5.comp (b5.gc (ay 68 6)) (b5.eb 0 6 82))<|
 aW.bU (G:=(GN n0 R0)) (I:=⟨⟨ξJ,ay 68⟩,[]⟩) (π:=List aq×Γa×Int×List ag×List ai×List ax×List av×Int×Int×List aq) (σ:=Int×List aq) (aj.all (tb hR) rfl) (aO.nil) rfl 60 (λp a=>w8 (OR n0 R0) p a.1 a.2) (λp=>(p.2.2.2.2.2.2.2.2.1,p.2.2.2.2.2.2.2.2.2)) (St:=w8 (MU shut)) (λp=>1000000) (λp=>rfl)
  (λm p a k=>by kernel_rfl)
def K2 (n0:Nat) (R0:Γ):bW (SN n0 R0):= {(GN n0 R0) with T:=h8 ((GN n0 R0).T) 68 ⟨⟨ξJ,ay 68⟩,[Ig n0 R0]⟩}
theorem XS {n0:Nat} {R0:Γ} (hR: ∀b∈R0,b<n0):aX (K2 n0 R0) γ:=(aX.fu (f:=68) (J:=⟨⟨ξJ,ay 68⟩,[Ig n0 R0]⟩) (aj.all (tb hR) rfl) ζj rfl aU λc a=>by cases a;exact aO.cons (aO.nil) (by kernel_rfl) (ahf hR))
def pe (n0:Nat) (R0:Γ) (U:Sh) (s:aF):T (aF):=.bd (app 32 [] s.ar.ab) λz0=>.bd (app 24 [] s.aB) λa=>.bd (app 16 [] s.au.ab) λz2=>.bd (app 16 [] s.ao.an) λz3=>.gd (TX n0 R0 s.ao.ak s.ar.az s.au.aL z0 a z2 z3 ((↑s.ao.ak.length:Int)) 0 [])<|.bd (Dg U s.ao.ak s.ar.az s.au.aL z0 a z2 z3 ((↑s.ao.ak.length:Int)) 0 []) λb=>.ok (⟨⟨s.ar.az,z0⟩,a,⟨z2,s.au.aL⟩,⟨z3,b.2.2⟩⟩)
def eA (U:Sh) (s:aF):Option (aF):=U.s _ (pf 0 [] U s).val
def lP (U:Sh) (s:aF):Option (aF):=U.s _ (pe 0 [] U s).val
def rN (n0:Nat) (R0:Γ) (r:aF):Rs (SN n0 R0):=.ret (.s (.agg [.br .i64 16 r.ar.az,.own 0,.own 1,.own 2,.v (.int .u64 r.au.aL),.own 3,.own 4]))
def hN (n0:Nat) (R0:Γ) (r:aF):AH (SN n0 R0):=[some (.row 69 r.ar.ab),some (.row 89 r.aB),some (.row 71 r.au.ab),some (.row 93 r.ao.an),some (.row 82 r.ao.ak)]
theorem ail (n0:Nat) (R0:Γ) {R:Type} (s:aF) (k:Rs (SN n0 R0)->AH (SN n0 R0)->Γ->Option R):gE (K3 n0 R0) 100 9 [(KN n0 R0).bg 36 s] [] k=(pf n0 R0 shut s).run (λr=>k (rN n0 R0 r) (hN n0 R0 r) []):=by kernel_rfl
theorem aik (n0:Nat) (R0:Γ) {R:Type} (s:aF) (k:Rs (SN n0 R0)->AH (SN n0 R0)->Γ->Option R):gE (K2 n0 R0) 100 68 [(KN n0 R0).bg 36 s] [] k=(pe n0 R0 shut s).run (λr=>k (rN n0 R0 r) (hN n0 R0 r) []):=by kernel_rfl
def ad3:Pl:=⟨λ_=>none,none⟩
theorem ah8 {w:World} {v:Value} {x:aF} (h:en.is [] w v x):(Ua w.heap.size).is [] w v x:=by
 obtain⟨cs,⟨c1,c2,e,o,c3,c4,j,hD,c5,f,k,n,g,i,l,hN,m⟩,p⟩:=h;exact⟨cs,⟨c1,c2,e,o,c3,c4,j,hD,c5,f,k,n,g,i,l,hN,rI (T:=eI) (T':=yE w.heap.size) rfl (λcs x ⟨a,a2,b,c,d⟩=>⟨a,a2,b,c,rI (T:=Ty.int .u64) (T':=oz w.heap.size (Ty.int .u64)) rfl (λ_ _ h=>⟨h,ν _⟩) d⟩) m⟩,p⟩
theorem ah9 {R0 O':Γ} {n0:Nat} {w':World} {A':Pl} {v:Value} {r:aF} (m:(AV.s (.agg [.br .i64 16 r.ar.az,.own 0,.own 1,.own 2,.v (.int .u64 r.au.aL),.own 3,.own 4]):AV (SN n0 R0)).rel A' O' w' v) (n:bS A' O' w' (aM (hN n0 R0 r))) (o: ∀b∈O',b∉R0):en.is R0 w' v r:=by
 have row: ∀ {i e:Nat} {xs:List ((SN n0 R0).El e)} {ys:Γb},aM (hN n0 R0 r) i=some (.row e xs)->(LV.own i:LV (SN n0 R0)).rel A' O' w' ys-> ∃p,ys=[p]/\Dc.Own ((SN n0 R0).ty e) e 1 O' w' p xs:=by
  intro i e xs ys hi ⟨p,hp,w,_⟩;obtain⟨q,a,hR,_⟩:=n.al i _ hi;rw[hp] at a;cases a;exact⟨p,w,hR⟩
 have nt: ∀ {α:Type} {T:Ty α} {e:Nat} {p:Value} {xs:List α},Dc.Own T e 1 O' w' p xs-> ∀g,p.ownBlock=some g->g∉R0:=λh g t=>o g (h.mem g t);obtain⟨xs,rfl,L,S,rfl,⟨g1,rfl⟩,M,z2,rfl,A,N,z3,rfl,B,O,z4,rfl,C,P,z5,rfl,⟨rfl,_⟩,Q,U,rfl,D,R,K,rfl,E,F⟩:=m;rw[show K=[] from F];obtain⟨p2,rfl,c⟩:=row (e:=69) (i:=0) rfl A;obtain⟨p3,rfl,d⟩:=row (e:=89) (i:=1) rfl B;obtain⟨p4,rfl,f⟩:=row (e:=71) (i:=2) rfl C;obtain⟨p6,rfl,j⟩:=row (e:=93) (i:=3) rfl D;obtain⟨p7,rfl,l⟩:=row (e:=82) (i:=4) rfl E;have s2:(Ty.slice eO).is R0 w' p2 r.ar.ab:=rk (T:=eO) c rfl (λ_ _ h=>h) (nt c);have G:(Ty.slice eY).is R0 w' p3 r.aB:=rk (T:=eY) d rfl (λ_ _ h=>h) (nt d);have H:(Ty.slice fH).is R0 w' p4 r.au.ab:=rk (T:=fH) f rfl (λ_ _ h=>h) (nt f);have I:(Ty.slice cY).is R0 w' p6 r.ao.an:=rk (T:=cY) j rfl (λ_ _ h=>h) (nt j);have J:(Ty.slice eI).is R0 w' p7 r.ao.ak:=rk (T:=T_ R0) (T':=eI) l rfl (λcs x ⟨c1,c2,e,y,z⟩=>⟨c1,c2,e,y,(Ty.slice (Ty.int .u64)).tr (Tr.less λk u=>ξd _ u) z⟩) (nt l);exact⟨_,⟨_,_,(ψ _ _ _).symm,⟨_,_,rfl,⟨g1,rfl⟩,gf rfl s2⟩,_,_,rfl,gf rfl G,_,_,(ψ _ _ _).symm,⟨_,_,rfl,gf rfl H,rfl⟩,_,_,rfl,gf rfl I,gf rfl J⟩,rfl⟩
theorem R4 {f:Nat} {R0:Γ} {w:World} (hR:OB R0 w) (o:0<w.heap.size) {t:T aF} {E:bW (SN w.heap.size R0)} (y:aX E γ) (z:E.K=KN w.heap.size R0) {v:Value} {x r:aF}
  (C: ∀ {R:Type} (k:Rs (SN w.heap.size R0)->AH (SN w.heap.size R0)->Γ->Option R),gE E 100 f [(KN w.heap.size R0).bg 36 x] [] k=t.run (λr=>k (rN w.heap.size R0 r) (hN w.heap.size R0 r) [])) (D:t.val=some r) (F:en.is [] w v x):
  Calls γ f #[v] w (λe w'=> ∃a,e= .returned a/\en.is R0 w' a r/\Fr [] w w'):=by
 have s:gE E 100 f [(KN w.heap.size R0).bg 36 x] [] (λr h' dt=>some (ULift.up.{0} (r,h',dt)).down)=some (rN w.heap.size R0 r,hN w.heap.size R0 r,[]):=by
  rw[C,T.oo,D];rfl
 obtain⟨H,h',dt,d,u⟩:=Fs y s;injection d with d;injection d with m c;injection c with c n;subst m;subst c;subst n;refine(u.2 ad3 [] w [v] ⟨v,[],rfl,e3 (lx w.heap.size R0) (t:=36) rfl rfl (ah8 F),rfl⟩ ⟨λi X h=>by simp[aM] at h,λi j X Y p q b _ h=>by simp[aM] at h⟩ (λb l=>by cases l) ⟨o,λg t x h=>by rw[z] at h;cases h⟩ (λ_ _=>rfl) (λi X h=>by simp[aM] at h)).mono ?_;rintro e w' ⟨A',O',⟨a,rfl,G⟩,hp⟩;exact⟨a,rfl,ah9 G hp.rel λb l A=>(hp.tr.keep b (hR b A) (by simp)).1 l,⟨hp.tr.os,hp.tr.tape,hp.tr.output,hp.tr.size,λk B _=>(hp.tr.keep k B (by simp)).2⟩⟩
theorem RX {R0:Γ} {w:World} (hR:OB R0 w) (b:0<w.heap.size) {v:Value} {x r:aF} (c:eA shut x=some r) (d:en.is [] w v x):Calls γ 9 #[v] w (λe w'=> ∃a,e= .returned a/\en.is R0 w' a r/\Fr [] w w'):=
 R4 hR b (XT hR) rfl (λk=>ail w.heap.size R0 x k) (lU c:(pf 0 [] shut x).val=some r) d
theorem RV {R0:Γ} {w:World} (hR:OB R0 w) (b:0<w.heap.size) {v:Value} {x r:aF} (c:lP shut x=some r) (d:en.is [] w v x):Calls γ 68 #[v] w (λe w'=> ∃a,e= .returned a/\en.is R0 w' a r/\Fr [] w w'):=
 R4 hR b (XS hR) rfl (λk=>aik w.heap.size R0 x k) (lU c:(pe 0 [] shut x).val=some r) d
theorem aaR {O:Γ} {w:World} {cs:Γb} {x:aq} (h:eI.rep (O++[0]) w cs x):ju.rep O w cs x:=h
theorem FG {O:Γ} {w:World} {v:Value} {x:List aq} (h:(Ty.slice eI).is (O++[0]) w v x):(eH ju).is O w v x:=
 let⟨cs,a,b⟩:=h;⟨cs,rI (T:=eI) (T':=ju) rfl (λcs x h=>aaR (eI.tr (Tr.less λk c=>by simpa using c) h)) a,b⟩
theorem FF {O:Γ} {w:World} {v:Value} {x:List aq} (h:(eH ju).is O w v x):(Ty.slice eI).is (O++[0]) w v x:=
 let⟨cs,a,b⟩:=h;⟨cs,rI (T:=ju) (T':=eI) rfl (λcs x h=>eI.tr (O:=O++[0]++[0]) (Tr.less λk c=>ξv _ c) h) a,b⟩
theorem q_ {O:Γ} {w:World} (c:OB O w) (b:cB KK O w):OB (O++[0]) w:=λk a=>by
 rcases ξr.1 a with a|a
 .exact c k a
 .simp at a;subst a;exact b.1
theorem adi {O:Γ} {w:World} {cs:Γb} {x:aC} (h:dY.rep (O++[0]) w cs x):k'.rep O w cs x:=by
 obtain⟨c1,c2,e,a,b⟩:=h;obtain⟨u,rfl,hu⟩:=hA rfl b;exact⟨c1,_,e,a,gf rfl (FG hu)⟩
theorem adh {O:Γ} {w:World} {cs:Γb} {x:aC} (h:k'.rep O w cs x):dY.rep (O++[0]) w cs x:=by
 obtain⟨c1,c2,e,a,b⟩:=h;obtain⟨u,rfl,hu⟩:=hA rfl b;exact⟨c1,_,e,a,gf rfl (FF hu)⟩
theorem yC {O:Γ} {w:World} {cs:Γb} {x:aF} (h:en.rep (O++[0]) w cs x):gA.rep O w cs x:=
 let⟨c1,c2,e,f,c3,c4,b,hD,c5,a,c,d,hI⟩:=h;⟨c1,c2,e,f,c3,c4,b,hD,c5,a,c,d,adi hI⟩
theorem T3 {O:Γ} {w:World} {cs:Γb} {x:aF} (h:gA.rep O w cs x):en.rep (O++[0]) w cs x:=
 let⟨c1,c2,e,f,c3,c4,b,hD,c5,a,c,d,hI⟩:=h;⟨c1,c2,e,f,c3,c4,b,hD,c5,a,c,d,adh hI⟩
theorem JQ {O:Γ} {w:World} {v:Value} {x:aF} (h:gA.is O w v x):en.is [] w v x:=
 let⟨cs,a,b⟩:=h;⟨cs,en.tr (Tr.less λk c=>by cases c) (T3 a),b⟩
def F0 (f:Nat) (F:aF->Option aF):fe SS:=hd KK f [36] (λ{R} xs (k:Rs SS->Option R)=>match xs with| .cons s .nil=>(F s).bind (λr=>k (.ret (.s (KK.bg 36 r)))))
theorem NC {f:Nat} {F:aF->Option aF} (he:et γ f) (a: ∀ {R0:Γ} {w:World},OB R0 w->0<w.heap.size-> ∀ {v:Value} {x r:aF},F x=some r->en.is [] w v x->Calls γ f #[v] w (λe w'=> ∃b,e= .returned b/\en.is R0 w' b r/\Fr [] w w')) {R:Type} (us:List (aE SS)) (k:Rs SS->Option R) (z:R) (hp:us.all aE.pure=true) (p:(F0 f F).out us k=some z): ∃r,k r=some z/\d_ KK γ f us r:=
 pD cH (λ{R} xs k z h=>by
  match xs,h with
  | .cons s .nil,h=>
   obtain⟨r,m,l⟩:=bind_some h;refine⟨_,l,he,λA O w vs o j c=>?_⟩;obtain⟨v,_,rfl,⟨cs,rfl,hl⟩,i⟩:=o;rw[show _=[] from i];have g:gA.is O w (.agg cs.toArray) s:=⟨cs,nh A O w 36 _ s cs rfl hl,rfl⟩;refine(a (R0:=O++[0]) (q_ j c) c.1 m (JQ g)).mono ?_;rintro e w' ⟨b,rfl,⟨d,n,rfl⟩,a⟩;exact⟨⟨_,rfl,e3 cH (t:=36) rfl rfl ⟨d,yC n,rfl⟩⟩,a⟩) us k z hp p
def abe (U:Sh):fe SS:=F0 9 (eA U)
def abd (U:Sh):fe SS:=F0 68 (lP U)
end Go.Proofs.YtdhaaaeffhaadaaGreatDoor
end
section
namespace Go.Proofs.YtdhaaaeffhaadaaGreatDoor
open Go.RowKit Go.Dc Go.Vx
variable (U:Sh)
def qQ (a p1:List ai) (p2:Int):AS SS:=⟨[(0,vd 26 a),(1,vd 26 p1),(12,vl a),(13,vi p2)],[],0,none,false,[],[]⟩
def DB (U:Sh) (c p1:List ai) (p2:Int) (z0:ai) (a:Unit):T (Unit⊕Unit⊕(Bool×Int)):=.bd (idx p1 p2) λb=>.bf (!hP z0 b) (.ok (.inr (.inl ())))<|.ok (.inl ())
def sZ (U:Sh) (b p1:List ai) (p2:Int) (a:Unit):T (Unit⊕(Bool×Int)):=.ok (.inr (decide (p2<(↑b.length:Int)),p2))
def MG (a p1:List ai):=bC U (DB U a p1) (sZ U a p1) a ()
def aae {R} (k:KX SS R) (a p1:List ai) (x:Unit⊕(Bool×Int)):Option R:=x.elim (λv=>k .ret {qQ a p1 0 with env:=[(4,vb false)]}) (λv=>k (.exit 0) (xe [(14,vb v.1)] (qQ a p1 v.2)))
def QJ:a7 SS:=bc 5 (sq (sD 26 0) (sD 26 1)) (λp=>u2 qQ p 0) (u2 (MG shut)) (λk=>u2 (aae k))
theorem agG:LS KK γ ay Tryz.f57 57 5 QJ:=
 aW.bH (aj.all Bq rfl) (aO.nil) rfl 60 (λp i a=>u2 qQ p i) (λp=>p.1) (λp=>()) (St:=u2 (DB shut)) (F:=u2 (sZ shut)) (λp=>rfl)
  (λm p i a k=>by kernel_rfl) (by rintro p (x|x)<;>exact⟨_,_,λ_=>rfl⟩) (λp N C A O w a b=>bQ b (t:=26) (sl:=0) rfl λv h=>bO h)
def Xw:=bo (Bp shut) ay Tryz.f57 57 [QJ]
theorem Xx:aX Xw γ:=bw (aj.all Bq rfl) Tryz.func57 rfl aU (by kernel_rfl) agG
def E3 (a b:List ai):T Bool:=.bf ((↑a.length:Int) !=(↑b.length:Int)) (.ok false)<|.gd (qQ a b 0)<|.bd (MG U a b) λc=>.cs c (λ_=>.ok false) λd=>.ok true
def GX (a b:List ai):=U.s _ (E3 U a b).val
def Bt:=a_ (bY KK 57 26 26 (GX U) (bD KK 4)) (Bp U)
theorem Bu:aj (Bt shut) γ:=bZ (rs:=[4]) Bq Xx rfl rfl λa b k=>by kernel_rfl
def qj (a p1:List ag) (p2:Int):AS SS:=⟨[(0,vd 23 a),(1,vd 23 p1),(12,vl a),(13,vi p2)],[],0,none,false,[],[]⟩
def Du (U:Sh) (c p1:List ag) (p2:Int) (z0:ag) (a:Unit):T (Unit⊕Unit⊕(Bool×Int)):=.bd (idx p1 p2) λb=>.bf (!fL z0 b) (.ok (.inr (.inl ())))<|.ok (.inl ())
def r0 (U:Sh) (b p1:List ag) (p2:Int) (a:Unit):T (Unit⊕(Bool×Int)):=.ok (.inr (decide (p2<(↑b.length:Int)),p2))
def MA (a p1:List ag):=bC U (Du U a p1) (r0 U a p1) a ()
def YL {R} (k:KX SS R) (a p1:List ag) (x:Unit⊕(Bool×Int)):Option R:=x.elim (λv=>k .ret {qj a p1 0 with env:=[(4,vb false)]}) (λv=>k (.exit 0) (xe [(14,vb v.1)] (qj a p1 v.2)))
def Pj:a7 SS:=bc 5 (sq (sD 23 0) (sD 23 1)) (λp=>u2 qj p 0) (u2 (MA shut)) (λk=>u2 (YL k))
theorem afg:LS KK γ ay Tryz.f100 100 5 Pj:=
 aW.bH (aj.all Bu rfl) (aO.nil) rfl 60 (λp i a=>u2 qj p i) (λp=>p.1) (λp=>()) (St:=u2 (Du shut)) (F:=u2 (r0 shut)) (λp=>rfl)
  (λm p i a k=>by kernel_rfl) (by rintro p (x|x)<;>exact⟨_,_,λ_=>rfl⟩) (λp N C A O w a b=>bQ b (t:=23) (sl:=0) rfl λv h=>bO h)
def Vc:=bo (Bt shut) ay Tryz.f100 100 [Pj]
theorem Vd:aX Vc γ:=bw (aj.all Bu rfl) Tryz.func100 rfl aU (by kernel_rfl) afg
def DI (a b:List ag):T Bool:=.bf ((↑a.length:Int) !=(↑b.length:Int)) (.ok false)<|.gd (qj a b 0)<|.bd (MA U a b) λc=>.cs c (λ_=>.ok false) λd=>.ok true
def Gl (a b:List ag):=U.s _ (DI U a b).val
def zt:=a_ (bY KK 100 23 23 (Gl U) (bD KK 4)) (Bt U)
theorem zu:aj (zt shut) γ:=bZ (rs:=[4]) Bu Vd rfl rfl λa b k=>by kernel_rfl
def qk (a p1:List ax) (p2:Int):AS SS:=⟨[(0,vd 27 a),(1,vd 27 p1),(12,vl a),(13,vi p2)],[],0,none,false,[],[]⟩
def Dv (U:Sh) (c p1:List ax) (p2:Int) (z0:ax) (a:Unit):T (Unit⊕Unit⊕(Bool×Int)):=.bd (idx p1 p2) λb=>.bf (!jL z0 b) (.ok (.inr (.inl ())))<|.ok (.inl ())
def r1 (U:Sh) (b p1:List ax) (p2:Int) (a:Unit):T (Unit⊕(Bool×Int)):=.ok (.inr (decide (p2<(↑b.length:Int)),p2))
def MB (a p1:List ax):=bC U (Dv U a p1) (r1 U a p1) a ()
def YM {R} (k:KX SS R) (a p1:List ax) (x:Unit⊕(Bool×Int)):Option R:=x.elim (λv=>k .ret {qk a p1 0 with env:=[(4,vb false)]}) (λv=>k (.exit 0) (xe [(14,vb v.1)] (qk a p1 v.2)))
def Pk:a7 SS:=bc 5 (sq (sD 27 0) (sD 27 1)) (λp=>u2 qk p 0) (u2 (MB shut)) (λk=>u2 (YM k))
theorem afh:LS KK γ ay Tryz.f101 101 5 Pk:=
 aW.bH (aj.all zu rfl) (aO.nil) rfl 60 (λp i a=>u2 qk p i) (λp=>p.1) (λp=>()) (St:=u2 (Dv shut)) (F:=u2 (r1 shut)) (λp=>rfl)
  (λm p i a k=>by kernel_rfl) (by rintro p (x|x)<;>exact⟨_,_,λ_=>rfl⟩) (λp N C A O w a b=>bQ b (t:=27) (sl:=0) rfl λv h=>bO h)
def Ve:=bo (zt shut) ay Tryz.f101 101 [Pk]
theorem Vf:aX Ve γ:=bw (aj.all zu rfl) Tryz.func101 rfl aU (by kernel_rfl) afh
def DJ (a b:List ax):T Bool:=.bf ((↑a.length:Int) !=(↑b.length:Int)) (.ok false)<|.gd (qk a b 0)<|.bd (MB U a b) λc=>.cs c (λ_=>.ok false) λd=>.ok true
def Gm (a b:List ax):=U.s _ (DJ U a b).val
def zv:=a_ (bY KK 101 27 27 (Gm U) (bD KK 4)) (zt U)
theorem zw:aj (zv shut) γ:=bZ (rs:=[4]) zu Vf rfl rfl λa b k=>by kernel_rfl
def ql (a p1:List av) (p2:Int):AS SS:=⟨[(0,vd 31 a),(1,vd 31 p1),(12,vl a),(13,vi p2)],[],0,none,false,[],[]⟩
def Dw (U:Sh) (c p1:List av) (p2:Int) (z0:av) (a:Unit):T (Unit⊕Unit⊕(Bool×Int)):=.bd (idx p1 p2) λb=>.bf (!jM z0 b) (.ok (.inr (.inl ())))<|.ok (.inl ())
def r2 (U:Sh) (b p1:List av) (p2:Int) (a:Unit):T (Unit⊕(Bool×Int)):=.ok (.inr (decide (p2<(↑b.length:Int)),p2))
def MC (a p1:List av):=bC U (Dw U a p1) (r2 U a p1) a ()
def YN {R} (k:KX SS R) (a p1:List av) (x:Unit⊕(Bool×Int)):Option R:=x.elim (λv=>k .ret {ql a p1 0 with env:=[(4,vb false)]}) (λv=>k (.exit 0) (xe [(14,vb v.1)] (ql a p1 v.2)))
def Pm:a7 SS:=bc 5 (sq (sD 31 0) (sD 31 1)) (λp=>u2 ql p 0) (u2 (MC shut)) (λk=>u2 (YN k))
theorem afi:LS KK γ ay Tryz.f102 102 5 Pm:=
 aW.bH (aj.all zw rfl) (aO.nil) rfl 60 (λp i a=>u2 ql p i) (λp=>p.1) (λp=>()) (St:=u2 (Dw shut)) (F:=u2 (r2 shut)) (λp=>rfl)
  (λm p i a k=>by kernel_rfl) (by rintro p (x|x)<;>exact⟨_,_,λ_=>rfl⟩) (λp N C A O w a b=>bQ b (t:=31) (sl:=0) rfl λv h=>bO h)
def Vg:=bo (zv shut) ay Tryz.f102 102 [Pm]
theorem Vh:aX Vg γ:=bw (aj.all zw rfl) Tryz.func102 rfl aU (by kernel_rfl) afi
def DK (a b:List av):T Bool:=.bf ((↑a.length:Int) !=(↑b.length:Int)) (.ok false)<|.gd (ql a b 0)<|.bd (MC U a b) λc=>.cs c (λ_=>.ok false) λd=>.ok true
def Gn (a b:List av):=U.s _ (DK U a b).val
def zx:=a_ (bY KK 102 31 31 (Gn U) (bD KK 4)) (zv U)
theorem zy:aj (zx shut) γ:=bZ (rs:=[4]) zw Vh rfl rfl λa b k=>by kernel_rfl
def qn (a p1:Γa) (p2:Int):AS SS:=⟨[(0,vd 76 a),(1,vd 76 p1),(12,vl a),(13,vi p2)],[],0,none,false,[],[]⟩
def Dx (U:Sh) (c p1:Γa) (p2 z0:Int) (a:Unit):T (Unit⊕Unit⊕(Bool×Int)):=.bd (idx p1 p2) λb=>.bf (z0 !=b) (.ok (.inr (.inl ())))<|.ok (.inl ())
def r4 (U:Sh) (b p1:Γa) (p2:Int) (a:Unit):T (Unit⊕(Bool×Int)):=.ok (.inr (decide (p2<(↑b.length:Int)),p2))
def MD (a p1:Γa):=bC U (Dx U a p1) (r4 U a p1) a ()
def YP {R} (k:KX SS R) (a p1:Γa) (x:Unit⊕(Bool×Int)):Option R:=x.elim (λv=>k .ret {qn a p1 0 with env:=[(4,vb false)]}) (λv=>k (.exit 0) (xe [(14,vb v.1)] (qn a p1 v.2)))
def Po:a7 SS:=bc 5 (sq (sD 76 0) (sD 76 1)) (λp=>u2 qn p 0) (u2 (MD shut)) (λk=>u2 (YP k))
theorem afk:LS KK γ ay Tryz.f105 105 5 Po:=
 aW.bH (aj.all zy rfl) (aO.nil) rfl 60 (λp i a=>u2 qn p i) (λp=>p.1) (λp=>()) (St:=u2 (Dx shut)) (F:=u2 (r4 shut)) (λp=>rfl)
  (λm p i a k=>by kernel_rfl) (by rintro p (x|x)<;>exact⟨_,_,λ_=>rfl⟩) (λp N C A O w a b=>bQ b (t:=76) (sl:=0) rfl λv h=>bO h)
def Vi:=bo (zx shut) ay Tryz.f105 105 [Po]
theorem Vj:aX Vi γ:=bw (aj.all zy rfl) Tryz.func105 rfl aU (by kernel_rfl) afk
def DL (a b:Γa):T Bool:=.bf ((↑a.length:Int) !=(↑b.length:Int)) (.ok false)<|.gd (qn a b 0)<|.bd (MD U a b) λc=>.cs c (λ_=>.ok false) λd=>.ok true
def Gp (a b:Γa):=U.s _ (DL U a b).val
def K8:=a_ (bY KK 105 76 76 (Gp U) (bD KK 4)) (zx U)
theorem K9:aj (K8 shut) γ:=bZ (rs:=[4]) zy Vj rfl rfl λa b k=>by kernel_rfl
def E2 (a b:aV):T Bool:=.bf (a.az==b.az) (.bd (Gl U a.ab b.ab) λc=>.ok c)<|.ok false
def GW (a b:aV):=U.s _ (E2 U a b).val
def L_:=a_ (bY KK 56 25 25 (GW U) (bD KK 4)) (K8 U)
theorem L':aj (L_ shut) γ:=bZ (rs:=[4]) K9 (aj.all K9 rfl) rfl rfl λa b k=>by kernel_rfl
def E4 (a b:a1):T Bool:=.bf (a.aL==b.aL) (.bd (Gm U a.ab b.ab) λc=>.ok c)<|.ok false
def GY (a b:a1):=U.s _ (E4 U a b).val
def Bv:=a_ (bY KK 58 30 30 (GY U) (bD KK 4)) (L_ U)
theorem Bw:aj (Bv shut) γ:=bZ (rs:=[4]) L' (aj.all L' rfl) rfl rfl λa b k=>by kernel_rfl
def qm (a p1:List aq) (p2:Int):AS SS:=⟨[(1,vd 32 a),(2,vs (.v (.func (.func 104) (.mk []) (.mk [])))),(15,vd 32 p1),(16,vl p1),(17,vi p2)],[],0,none,false,[],[]⟩
def tN (c p1:List aq) (p2:Int) (z0:aq) (a:Unit):T (Unit⊕Unit⊕(Bool×Int)):=.bd (idx c p2) λb=>.bf (z0.aa==b.aa) (.bd (Gp U z0.a6 b.a6) λd=>.bf (!d) (.ok (.inr (.inl ())))<|.ok (.inl ()))<|.ok (.inr (.inl ()))
def r3 (U:Sh) (b p1:List aq) (p2:Int) (a:Unit):T (Unit⊕(Bool×Int)):=.ok (.inr (decide (p2<(↑p1.length:Int)),p2))
def B2 (a p1:List aq):=bC U (tN U a p1) (r3 U a p1) p1 ()
def YO {R} (k:KX SS R) (a p1:List aq) (x:Unit⊕(Bool×Int)):Option R:=x.elim (λv=>k .ret {qm a p1 0 with env:=[(6,vb false)]}) (λv=>k (.exit 0) (xe [(18,vb v.1)] (qm a p1 v.2)))
def Pn:a7 SS:=bc 5 (sq (sD 32 1) (sD 32 15)) (λp=>u2 qm p 0) (u2 (B2 shut)) (λk=>u2 (YO k))
theorem afj:LS KK γ ay Tryz.f103 103 5 Pn:=
 aW.bH (aj.all Bw rfl) (aO.nil) rfl 60 (λp i a=>u2 qm p i) (λp=>p.2) (λp=>()) (St:=u2 (tN shut)) (F:=u2 (r3 shut)) (λp=>rfl)
  (λm p i a k=>by kernel_rfl) (by rintro p (x|x)<;>exact⟨_,_,λ_=>rfl⟩) (λp N C A O w a b=>bQ b (t:=32) (sl:=15) rfl λv h=>bO h)
def Xy:=bo (Bv shut) ay Tryz.f103 103 [Pn]
theorem Xz:aX Xy γ:=bw (aj.all Bw rfl) Tryz.func103 rfl aU (by kernel_rfl) afj
def E5 (a b:aC):T Bool:=.bd (Gn U a.an b.an) λd=>.bf (d) (.bf ((↑a.ak.length:Int) !=(↑b.ak.length:Int)) (.ok false)<|.gd (qm b.ak a.ak 0)<|.bd (B2 U b.ak a.ak) λc=>.cs c (λ_=>.ok false) λe=>.ok true)<|.ok false
def GZ (a b:aC):=U.s _ (E5 U a b).val
def Ma:=a_ (bY KK 59 34 34 (GZ U) (bD KK 4)) (Bv U)
theorem Mb:aj (Ma shut) γ:=bZ (rs:=[4]) Bw Xz rfl rfl λa b k=>by kernel_rfl
def DT (a b:aF):T Bool:=.bd (GW U a.ar b.ar) λc=>.bf (c) (.bd (GX U a.aB b.aB) λd=>.bf (d) (.bd (GY U a.au b.au) λe=>.bf (e) (.bd (GZ U a.ao b.ao) λf=>.ok f)<|.ok false)<|.ok false)<|.ok false
def vz (a b:aF):=U.s _ (DT U a b).val
def Li:=a_ (bY KK 12 36 36 (vz U) (bD KK 4)) (Ma U)
theorem Lp:aj (Li shut) γ:=bZ (rs:=[4]) Mb (aj.all Mb rfl) rfl rfl λa b k=>by kernel_rfl
def YE (U:Sh):T aV:=.ok (⟨[1,0,0,0,0,0,0,0,0,0,0,0,0,0,0,0],[ag.mk 1 0 false 0]⟩)
def N9:=U.s _ (YE U).val
def Mc:=a_ (kD KK 64 (N9 U) (bD KK 25)) (Li U)
theorem Md:aj (Mc shut) γ:=ni (rs:=[25]) Lp (aj.all Lp rfl) rfl rfl λk=>by kernel_rfl
def YF (U:Sh):T a1:=.ok (⟨[],1⟩)
def N_:=U.s _ (YF U).val
def Me:=a_ (kD KK 65 (N_ U) (bD KK 30)) (Mc U)
theorem Mf:aj (Me shut) γ:=ni (rs:=[30]) Md (aj.all Md rfl) rfl rfl λk=>by kernel_rfl
def YA:T aF:=.bd (N9 U) λa=>.bd (N_ U) λb=>.ok (⟨a,[],b,⟨[],[]⟩⟩)
def N7:=U.s _ (YA U).val
def Ly:=a_ (kD KK 16 (N7 U) (bD KK 36)) (Me U)
theorem LD:aj (Ly shut) γ:=ni (rs:=[36]) Mf (aj.all Mf rfl) rfl rfl λk=>by kernel_rfl
def EH (U:Sh) (c:bq):T Bool:=.bf (c.bb==9) (.ok true)<|.ok (c.bb==12)
def jS (c:bq):=U.s _ (EH U c).val
def LR:=a_ (cK KK 22 50 (jS U) (bD KK 4)) (Ly U)
theorem LU:aj (LR shut) γ:=cR (rs:=[4]) LD (aj.all LD rfl) rfl rfl λc k=>by kernel_rfl
def YD (s:ByteArray):T Int:=.bd (pX U s) λa=>.ok a.1
def v7 (s:ByteArray):=U.s _ (YD U s).val
def L0:=a_ (cK KK 34 9 (v7 U) (bD KK 28)) (LR U)
theorem X':aj (L0 shut) γ:=cR (rs:=[28]) LU (aj.all LU rfl) rfl rfl λs k=>by kernel_rfl
def Ms:=a_ (abe U) (L0 U)
theorem Ya:aj (Ms shut) γ:=aj.hO X' (NC (cp aU Tryz.func9 rfl) RX)
def BE:=a_ (abd U) (Ms U)
theorem ts:aj (BE shut) γ:=aj.hO Ya (NC (cp aU ζj rfl) RV)
def Hp (a:List ag) (p1:Γa) (p2:List ai) (p3:List ax) (p4:Int) (p5:List av) (p6:List aq) (p7:Int) (p8:Γc):AS SS:=⟨[(1,va 0 0),(3,va 1 0),(4,va 3 0),(37,vd 23 a),(38,vl a),(39,vi p7)],[bX 36 [.br .i64 16 p1,.aG 23 a,.aG 26 p2,.aG 27 p3,lu p4,.aG 31 p5,.aG 32 p6],bX 67 [.mp 2],some (.map .u64 .i64 p8),bX 67 [.mp 4],some (.map .u64 .i64 [])],0,none,false,[],[]⟩
def Ts (a:List ag) (p1:Γa) (p2:List ai) (p3:List ax) (p4:Int) (p5:List av) (p6:List aq) (p8:Γc):AS SS:=Hp a p1 p2 p3 p4 p5 p6 0 p8
def oN (U:Sh) (b:List ag) (p1:Γa) (p2:List ai) (p3:List ax) (p4:Int) (p5:List av) (p6:List aq) (p7:Int) (z0:ag) (a:(Γc)):T (((Γc))⊕(Bool×Int×(Γc))):=.bf (!z0.ba) (.ok (.inl (cL a z0.aa 1)))<|.ok (.inl a)
def r_ (U:Sh) (b:List ag) (p1:Γa) (p2:List ai) (p3:List ax) (p4:Int) (p5:List av) (p6:List aq) (p7:Int) (a:(Γc)):T ((Bool×Int×(Γc))):=.ok (decide (p7<(↑b.length:Int)),p7,a)
def tz (a:List ag) (p1:Γa) (p2:List ai) (p3:List ax) (p4:Int) (p5:List av) (p6:List aq) (p8:Γc):Option ((Bool×Int×(Γc))):=bC U (oN U a p1 p2 p3 p4 p5 p6) (r_ U a p1 p2 p3 p4 p5 p6) a p8
def YY {R} (k:KX SS R) (a:List ag) (p1:Γa) (p2:List ai) (p3:List ax) (p4:Int) (p5:List av) (p6:List aq) (x:(Bool×Int×(Γc))):Option R:=(λv=>k (.exit 0) {Hp a p1 p2 p3 p4 p5 p6 p4 v.2.2 with env:=[(40,vb v.1),(1,va 0 0),(3,va 1 0),(4,va 3 0),(37,vd 23 a),(38,vl a),(39,vi v.2.1)]}) x
def Px:a7 SS:=bc 6 (sq (sD 23 37) (sq (hX dO 0 0) (sq (hD 26 0 2) (sq (hD 27 0 3) (sq (hI 0 4) (sq (hD 31 0 5) (sq (hD 32 0 6) (λst=>hq st 2)))))))) (u8 Ts) (u8 (tz shut)) (λk=>w7 (YY k))
theorem aft:LS KK γ ay ζm 11 6 Px:=
 aW.bH (π:=List ag×Γa×List ai×List ax×Int×List av×List aq×(Γc)) (σ:=(Γc)) (aj.all ts rfl) (aO.nil) rfl 60 (w7 Hp) (λp=>p.1) (λp=>p.2.2.2.2.2.2.2) (St:=w7 (oN shut)) (F:=w7 (r_ shut)) (λp=>rfl)
  (λm p i a k=>by kernel_rfl) (λp x=>⟨_,_,λ_=>rfl⟩) (λp N C A O w a b=>bQ b (t:=23) (sl:=37) rfl λv h=>bO h)
def Ho (a:List ax) (p1:Γa) (p2:List ag) (p3:List ai) (p4:Int) (p5:List av) (p6:List aq) (p7:Γc) (p8:Int) (b:Γc):AS SS:=⟨[(1,va 0 0),(3,va 1 0),(4,va 3 0),(52,vd 27 a),(53,vl a),(54,vi p8)],[bX 36 [.br .i64 16 p1,.aG 23 p2,.aG 26 p3,.aG 27 a,lu p4,.aG 31 p5,.aG 32 p6],bX 67 [.mp 2],some (.map .u64 .i64 p7),bX 67 [.mp 4],some (.map .u64 .i64 b)],0,none,false,[],[]⟩
def Tq (a:List ax) (p1:Γa) (p2:List ag) (p3:List ai) (p4:Int) (p5:List av) (p6:List aq) (p7 b:Γc):AS SS:=Ho a p1 p2 p3 p4 p5 p6 p7 0 b
def Dz (U:Sh) (b:List ax) (p1:Γa) (p2:List ag) (p3:List ai) (p4:Int) (p5:List av) (p6:List aq) (p7:Γc) (p8:Int) (z0:ax) (a:(Γc)):T (((Γc))⊕(Bool×Int×(Γc))):=.ok (.inl (cL a z0.aS 1))
def r9 (U:Sh) (b:List ax) (p1:Γa) (p2:List ag) (p3:List ai) (p4:Int) (p5:List av) (p6:List aq) (p7:Γc) (p8:Int) (a:(Γc)):T ((Bool×Int×(Γc))):=.ok (decide (p8<(↑b.length:Int)),p8,a)
def tw (a:List ax) (p1:Γa) (p2:List ag) (p3:List ai) (p4:Int) (p5:List av) (p6:List aq) (p7 b:Γc):Option ((Bool×Int×(Γc))):=bC U (Dz U a p1 p2 p3 p4 p5 p6 p7) (r9 U a p1 p2 p3 p4 p5 p6 p7) a b
def YX {R} (k:KX SS R) (a:List ax) (p1:Γa) (p2:List ag) (p3:List ai) (p4:Int) (p5:List av) (p6:List aq) (p7:Γc) (x:(Bool×Int×(Γc))):Option R:=(λv=>k (.exit 2) {Ho a p1 p2 p3 p4 p5 p6 p7 p4 v.2.2 with env:=[(55,vb v.1),(1,va 0 0),(3,va 1 0),(4,va 3 0),(52,vd 27 a),(53,vl a),(54,vi v.2.1)]}) x
def Pw:a7 SS:=bc 12 (sq (sD 27 52) (sq (hX dO 0 0) (sq (hD 23 0 1) (sq (hD 26 0 2) (sq (hI 0 4) (sq (hD 31 0 5) (sq (hD 32 0 6) (sq (λst=>hq st 2) (λst=>hq st 4))))))))) (u9 Tq) (u9 (tw shut)) (λk=>w8 (YX k))
theorem afs:LS KK γ ay ζm 11 12 Pw:=
 aW.bH (π:=List ax×Γa×List ag×List ai×Int×List av×List aq×(Γc)×(Γc)) (σ:=(Γc)) (aj.all ts rfl) (aO.nil) rfl 60 (w8 Ho) (λp=>p.1) (λp=>p.2.2.2.2.2.2.2.2) (St:=w8 (Dz shut)) (F:=w8 (r9 shut)) (λp=>rfl)
  (λm p i a k=>by kernel_rfl) (λp x=>⟨_,_,λ_=>rfl⟩) (λp N C A O w a b=>bQ b (t:=27) (sl:=52) rfl λv h=>bO h)
def xn (a:List ai) (p1 p2:Γc) (p3:Bool) (p4:Int):AS SS:=⟨[(1,vc 0),(5,vb p3),(8,vd 26 a),(9,vl a),(10,vi p4)],[some (.bA 51 [] [.one (.bl 1 0),.one (.bl 3 0)]),bX 67 [.mp 2],some (.map .u64 .i64 p1),bX 67 [.mp 4],some (.map .u64 .i64 p2)],5,none,false,[],[]⟩
def m4 (U:Sh) (b:List ai) (p1 p2:Γc) (p4:Int) (z0:ai) (a:Bool):T (Bool⊕(Bool×Bool×Int×Int×Int×ai×Bool×Bool×Int)⊕(Bool×Bool×Int)):=
 .bf ((match bR p1 z0.aa with
 |some x=>x
 |none=>0)==
 1) (
  .bf (!(match bR p2 z0.b3 with
   |some x=>x
   |none=>0)==
   1) (
   .ok (.inr (.inl ((!(match bR p2 z0.b3 with
   |some x=>x
   |none=>0)==
   1),((match bR p2 z0.b3 with
 |some x=>x
 |none=>0)==
 1),z0.aa,z0.bm,z0.b3,z0,decide (p4<(↑b.length:Int)),a,p4))))<|
  .ok (.inl ((match bR p2 z0.b3 with
 |some x=>x
 |none=>0)==
 1)))<|
 .ok (.inr (.inl (true,false,z0.aa,z0.bm,z0.b3,z0,decide (p4<(↑b.length:Int)),a,p4)))
def zb (U:Sh) (b:List ai) (p1 p2:Γc) (p4:Int) (a:Bool):T ((Bool×Bool×Int×Int×Int×ai×Bool×Bool×Int)⊕(Bool×Bool×Int)):=.ok (.inr (decide (p4<(↑b.length:Int)),a,p4))
def Dd (a:List ai) (p1 p2:Γc) (p3:Bool):=bC U (m4 U a p1 p2) (zb U a p1 p2) a p3
def aab {R} (k:KX SS R) (a:List ai) (p1 p2:Γc) (x:(Bool×Bool×Int×Int×Int×ai×Bool×Bool×Int)⊕(Bool×Bool×Int)):Option R:=x.elim (λv=>k (.exit 0) ⟨[(18,vb v.1),(17,vb v.2.1),(5,vb v.2.1),(16,vb v.2.1),(15,.s (.agg [lu v.2.2.1,li v.2.2.2.1,lu v.2.2.2.2.1])),(14,vc 0),(7,va 5 0),(13,.s (.agg [lu v.2.2.1,li v.2.2.2.1,lu v.2.2.2.2.1])),(12,vs (.ptr 89 v.2.2.2.2.2.1 0)),(11,vb v.2.2.2.2.2.2.1),(1,vc 0),(5,vb v.2.2.2.2.2.2.2.1),(8,vd 26 a),(9,vl a),(10,vi v.2.2.2.2.2.2.2.2)],[some (.bA 51 [] [.one (.bl 1 0),.one (.bl 3 0)]),bX 67 [.mp 2],some (.map .u64 .i64 p1),bX 67 [.mp 4],some (.map .u64 .i64 p2),bX 89 [lu v.2.2.1,li v.2.2.2.1,lu v.2.2.2.2.1]],5,none,false,[],[]⟩) (λv=>k (.exit 0) {xn a p1 p2 v.1 v.2.2 with env:=[(11,vb v.1),(1,vc 0),(5,vb v.2.1),(8,vd 26 a),(9,vl a),(10,vi v.2.2)]})
def QG:a7 SS:=bc 4 (gq (λst=>dd st 0 51) (sq (sD 26 8) (sq (λst=>hq st 2) (sq (λst=>hq st 4) (sX hS 5))))) (λp=>u4 xn p 0) (u4 (Dd shut)) (λk=>w3 (aab k))
def Kv:=bo (BE shut) ay ζm 11 [Px,Pw]
theorem Kw:aX Kv γ:=(aX.fu (aj.all ts rfl) Tryz.func11 rfl aU λc a=>by cases a;exact aO.cons (aO.cons (aO.nil) (by kernel_rfl) afs) (by kernel_rfl) aft)
theorem agD:LS KK γ ay Tryz.f50 50 4 QG:=
 aW.bH (π:=List ai×(Γc)×(Γc)×Bool) (σ:=Bool) Kw (aO.nil) rfl 60 (λp i a=>w3 xn p a i) (λp=>p.1) (λp=>p.2.2.2) (St:=w3 (m4 shut)) (F:=w3 (zb shut)) (λp=>rfl)
  (λm p i a k=>by kernel_rfl) (by rintro p (x|x)<;>exact⟨_,_,λ_=>rfl⟩) (λp N C A O w a b=>bQ b (t:=26) (sl:=8) rfl λv h=>bO h)
def qP (a:List av) (p1:Γc) (p2:Bool) (p3:Int):AS SS:=⟨[(1,vc 0),(5,vb p2),(8,vd 31 a),(9,vl a),(10,vi p3)],[some (.bA 53 [] [.one (.bl 1 0)]),bX 67 [.mp 2],some (.map .u64 .i64 p1)],3,none,false,[],[]⟩
def m5 (U:Sh) (b:List av) (p1:Γc) (p3:Int) (z0:av) (a:Bool):T (Bool⊕(Bool×Bool×Int×Int×av×Bool×Bool×Int)⊕(Bool×Bool×Int)):=
 .bf (!(match bR p1 z0.aa with
   |some x=>x
   |none=>0)==
   1) (
  .ok (.inr (.inl ((!(match bR p1 z0.aa with
   |some x=>x
   |none=>0)==
   1),((match bR p1 z0.aa with
 |some x=>x
 |none=>0)==
 1),z0.aY,z0.aa,z0,decide (p3<(↑b.length:Int)),a,p3))))<|
 .ok (.inl ((match bR p1 z0.aa with
 |some x=>x
 |none=>0)==
 1))
def zc (U:Sh) (b:List av) (p1:Γc) (p3:Int) (a:Bool):T ((Bool×Bool×Int×Int×av×Bool×Bool×Int)⊕(Bool×Bool×Int)):=.ok (.inr (decide (p3<(↑b.length:Int)),a,p3))
def tG (a:List av) (p1:Γc) (p2:Bool):=bC U (m5 U a p1) (zc U a p1) a p2
def aac {R} (k:KX SS R) (a:List av) (p1:Γc) (x:(Bool×Bool×Int×Int×av×Bool×Bool×Int)⊕(Bool×Bool×Int)):Option R:=x.elim (λv=>k (.exit 0) ⟨[(18,vb v.1),(17,vb v.2.1),(5,vb v.2.1),(16,vb v.2.1),(15,.s (.agg [lu v.2.2.1,lu v.2.2.2.1])),(14,vc 0),(7,va 3 0),(13,.s (.agg [lu v.2.2.1,lu v.2.2.2.1])),(12,vs (.ptr 93 v.2.2.2.2.1 0)),(11,vb v.2.2.2.2.2.1),(1,vc 0),(5,vb v.2.2.2.2.2.2.1),(8,vd 31 a),(9,vl a),(10,vi v.2.2.2.2.2.2.2)],[some (.bA 53 [] [.one (.bl 1 0)]),bX 67 [.mp 2],some (.map .u64 .i64 p1),bX 93 [lu v.2.2.1,lu v.2.2.2.1]],3,none,false,[],[]⟩) (λv=>k (.exit 0) {qP a p1 v.1 v.2.2 with env:=[(11,vb v.1),(1,vc 0),(5,vb v.2.1),(8,vd 31 a),(9,vl a),(10,vi v.2.2)]})
def QH:a7 SS:=bc 4 (gq (λst=>dd st 0 53) (sq (sD 31 8) (sq (λst=>hq st 2) (sX hS 5)))) (λp=>u3 qP p 0) (u3 (tG shut)) (λk p=>aac k p.1 p.2.1)
def Kx:=bo Kv ay Tryz.f50 50 [QG]
theorem Ky:aX Kx γ:=bw Kw Tryz.func50 rfl aU (by kernel_rfl) agD
theorem agE:LS KK γ ay Tryz.f52 52 4 QH:=
 aW.bH (π:=List av×(Γc)×Bool) (σ:=Bool) Ky (aO.nil) rfl 60 (λp i a=>qP p.1 p.2.1 a i) (λp=>p.1) (λp=>p.2.2) (St:=λp=>m5 shut p.1 p.2.1) (F:=λp=>zc shut p.1 p.2.1) (λp=>rfl)
  (λm p i a k=>by kernel_rfl) (by rintro p (x|x)<;>exact⟨_,_,λ_=>rfl⟩) (λp N C A O w a b=>bQ b (t:=31) (sl:=8) rfl λv h=>bO h)
def lW (a:List aq) (p1:Γc) (p2:Bool) (p3:Int):AS SS:=⟨[(1,vc 0),(5,vb p2),(8,vd 32 a),(9,vl a),(10,vi p3)],[some (.bA 55 [] [.one (.bl 1 0)]),bX 67 [.mp 2],some (.map .u64 .i64 p1)],3,none,false,[],[]⟩
def m6 (U:Sh) (b:List aq) (p1:Γc) (p3:Int) (z0:aq) (a:Bool):T (Bool⊕(Bool×Bool×Int×Γa×aq×Bool×Bool×Int)⊕(Bool×Bool×Int)):=
 .bf (!(match bR p1 z0.aa with
   |some x=>x
   |none=>0)==
   1) (
  .ok (.inr (.inl ((!(match bR p1 z0.aa with
   |some x=>x
   |none=>0)==
   1),((match bR p1 z0.aa with
 |some x=>x
 |none=>0)==
 1),z0.aa,z0.a6,z0,decide (p3<(↑b.length:Int)),a,p3))))<|
 .ok (.inl ((match bR p1 z0.aa with
 |some x=>x
 |none=>0)==
 1))
def zd (U:Sh) (b:List aq) (p1:Γc) (p3:Int) (a:Bool):T ((Bool×Bool×Int×Γa×aq×Bool×Bool×Int)⊕(Bool×Bool×Int)):=.ok (.inr (decide (p3<(↑b.length:Int)),a,p3))
def mW (a:List aq) (p1:Γc) (p2:Bool):=bC U (m6 U a p1) (zd U a p1) a p2
def aad {R} (k:KX SS R) (a:List aq) (p1:Γc) (x:(Bool×Bool×Int×Γa×aq×Bool×Bool×Int)⊕(Bool×Bool×Int)):Option R:=x.elim (λv=>k (.exit 0) ⟨[(18,vb v.1),(17,vb v.2.1),(5,vb v.2.1),(16,vb v.2.1),(15,.s (.agg [lu v.2.2.1,.aG 76 v.2.2.2.1])),(14,vc 0),(7,va 3 0),(13,.s (.agg [lu v.2.2.1,.aG 76 v.2.2.2.1])),(12,vs (.ptr 82 v.2.2.2.2.1 0)),(11,vb v.2.2.2.2.2.1),(1,vc 0),(5,vb v.2.2.2.2.2.2.1),(8,vd 32 a),(9,vl a),(10,vi v.2.2.2.2.2.2.2)],[some (.bA 55 [] [.one (.bl 1 0)]),bX 67 [.mp 2],some (.map .u64 .i64 p1),bX 82 [lu v.2.2.1,.aG 76 v.2.2.2.1]],3,none,false,[],[]⟩) (λv=>k (.exit 0) {lW a p1 v.1 v.2.2 with env:=[(11,vb v.1),(1,vc 0),(5,vb v.2.1),(8,vd 32 a),(9,vl a),(10,vi v.2.2)]})
def QI:a7 SS:=bc 4 (gq (λst=>dd st 0 55) (sq (sD 32 8) (sq (λst=>hq st 2) (sX hS 5)))) (λp=>u3 lW p 0) (u3 (mW shut)) (λk p=>aad k p.1 p.2.1)
def Kz:=bo Kx ay Tryz.f52 52 [QH]
theorem KA:aX Kz γ:=bw Ky Tryz.func52 rfl aU (by kernel_rfl) agE
theorem agF:LS KK γ ay Tryz.f54 54 4 QI:=
 aW.bH (π:=List aq×(Γc)×Bool) (σ:=Bool) KA (aO.nil) rfl 60 (λp i a=>lW p.1 p.2.1 a i) (λp=>p.1) (λp=>p.2.2) (St:=λp=>m6 shut p.1 p.2.1) (F:=λp=>zd shut p.1 p.2.1) (λp=>rfl)
  (λm p i a k=>by kernel_rfl) (by rintro p (x|x)<;>exact⟨_,_,λ_=>rfl⟩) (λp N C A O w a b=>bQ b (t:=32) (sl:=8) rfl λv h=>bO h)
def Vo:=bo Kz ay Tryz.f54 54 [QI]
theorem Vp:aX Vo γ:=bw KA Tryz.func54 rfl aU (by kernel_rfl) agF
def DN (s:aF):T Int:=.bd (kI U s.ar) λh=>.bf (h !=0) (.ok 360)<|.bd (iW U s.aB) λi=>.bf (i !=0) (.ok 360)<|.bd (pV U s.au) λj=>.bf (j !=0) (.ok 360)<|.bd (jU U s.ao) λk=>.bf (k !=0) (.ok 360)<|.gd (Ts s.ar.ab s.ar.az s.aB s.au.ab s.au.aL s.ao.an s.ao.ak [])<|.bd (tz U s.ar.ab s.ar.az s.aB s.au.ab s.au.aL s.ao.an s.ao.ak []) λa=>.gd (Tq s.au.ab s.ar.az s.ar.ab s.aB s.au.aL s.ao.an s.ao.ak a.2.2 [])<|.bd (tw U s.au.ab s.ar.az s.ar.ab s.aB s.au.aL s.ao.an s.ao.ak a.2.2 []) λf=>.gd (xn s.aB a.2.2 f.2.2 true 0)<|.bd (Dd U s.aB a.2.2 f.2.2 true) λg=>.cs g (λe=>.gd (qP s.ao.an a.2.2 true 0)<|.bd (tG U s.ao.an a.2.2 true) λmO=>.cs mO (λd=>.bf (!e.2.1) (.ok 360)<|.bf (!d.2.1) (.ok 360)<|.gd (lW s.ao.ak a.2.2 true 0)<|.bd (mW U s.ao.ak a.2.2 true) λc=>.cs c (λb=>.bf (!b.2.1) (.ok 360)<|.ok 0) λb=>.bf (!b.2.1) (.ok 360)<|.ok 0) λd=>.bf (!e.2.1) (.ok 360)<|.bf (!d.2.1) (.ok 360)<|.gd (lW s.ao.ak a.2.2 true 0)<|.bd (mW U s.ao.ak a.2.2 true) λc=>.cs c (λb=>.bf (!b.2.1) (.ok 360)<|.ok 0) λb=>.bf (!b.2.1) (.ok 360)<|.ok 0) λe=>.gd (qP s.ao.an a.2.2 true 0)<|.bd (tG U s.ao.an a.2.2 true) λmO=>.cs mO (λd=>.bf (!e.2.1) (.ok 360)<|.bf (!d.2.1) (.ok 360)<|.gd (lW s.ao.ak a.2.2 true 0)<|.bd (mW U s.ao.ak a.2.2 true) λc=>.cs c (λb=>.bf (!b.2.1) (.ok 360)<|.ok 0) λb=>.bf (!b.2.1) (.ok 360)<|.ok 0) λd=>.bf (!e.2.1) (.ok 360)<|.bf (!d.2.1) (.ok 360)<|.gd (lW s.ao.ak a.2.2 true 0)<|.bd (mW U s.ao.ak a.2.2 true) λc=>.cs c (λb=>.bf (!b.2.1) (.ok 360)<|.ok 0) λb=>.bf (!b.2.1) (.ok 360)<|.ok 0
def hT (s:aF):=U.s _ (DN U s).val
def zA:=a_ (cK KK 11 36 (hT U) (bD KK 40)) (BE U)
theorem zB:aj (zA shut) γ:=cR (rs:=[40]) ts Vp rfl rfl λs k=>by kernel_rfl
def wM (a:List aq) (p1:Γa) (p2:List ag) (p3:List ai) (p4:List ax) (p5:Int) (p6:List av) (p7 p8:Int):AS SS:=⟨[(1,va 0 0),(2,va 1 0),(3,vi p7),(12,vd 32 a),(13,vl a),(14,vi p8)],[bX 36 [.br .i64 16 p1,.aG 23 p2,.aG 26 p3,.aG 27 p4,lu p5,.aG 31 p6,.aG 32 a],bX 43 [li 0,li 0,li 0,li 0,li 0]],0,none,false,[],[]⟩
def MS (U:Sh) (b:List aq) (p1:Γa) (p2:List ag) (p3:List ai) (p4:List ax) (p5:Int) (p6:List av) (p8:Int) (z0:aq) (a:Int):T (Int⊕(Bool×Int×Int)):=.ok (.inl (δ.wrap (a+(↑z0.a6.length:Int))))
def K4 (U:Sh) (b:List aq) (p1:Γa) (p2:List ag) (p3:List ai) (p4:List ax) (p5:Int) (p6:List av) (p8 a:Int):T ((Bool×Int×Int)):=.ok (decide (p8<(↑b.length:Int)),a,p8)
def MF (a:List aq) (p1:Γa) (p2:List ag) (p3:List ai) (p4:List ax) (p5:Int) (p6:List av) (p7:Int):=bC U (MS U a p1 p2 p3 p4 p5 p6) (K4 U a p1 p2 p3 p4 p5 p6) a p7
def Zn {R} (k:KX SS R) (a:List aq) (p1:Γa) (p2:List ag) (p3:List ai) (p4:List ax) (p5:Int) (p6:List av) (x:(Bool×Int×Int)):Option R:=(λv=>k (.exit 0) {wM a p1 p2 p3 p4 p5 p6 p5 p5 with env:=[(15,vb v.1),(1,va 0 0),(2,va 1 0),(3,vi v.2.1),(12,vd 32 a),(13,vl a),(14,vi v.2.2)]}) x
def PW:a7 SS:=bc 6 (sq (sD 32 12) (sq (hX dO 0 0) (sq (hD 23 0 1) (sq (hD 26 0 2) (sq (hD 27 0 3) (sq (hI 0 4) (sq (hD 31 0 5) (sI 3)))))))) (λp=>u8 wM p 0) (u8 (MF shut)) (λk=>w7 (Zn k))
theorem afQ:LS KK γ ay Tryz.f15 15 6 PW:=
 aW.bH (π:=List aq×Γa×List ag×List ai×List ax×Int×List av×Int) (σ:=Int) (aj.all zB rfl) (aO.nil) rfl 60 (λp i a=>w7 wM p a i) (λp=>p.1) (λp=>p.2.2.2.2.2.2.2) (St:=w7 (MS shut)) (F:=w7 (K4 shut)) (λp=>rfl)
  (λm p i a k=>by kernel_rfl) (λp x=>⟨_,_,λ_=>rfl⟩) (λp N C A O w a b=>bQ b (t:=32) (sl:=12) rfl λv h=>bO h)
def VT:=bo (zA shut) ay Tryz.f15 15 [PW]
theorem VU:aX VT γ:=bw (aj.all zB rfl) Tryz.func15 rfl aU (by kernel_rfl) afQ
def Yz (s:aF):T (Γa):=.bd (hT U s) λa=>.bf (a !=0) (.ok ([0,0,0,0,0]))<|.gd (wM s.ao.ak s.ar.az s.ar.ab s.aB s.au.ab s.au.aL s.ao.an 0 0)<|.bd (MF U s.ao.ak s.ar.az s.ar.ab s.aB s.au.ab s.au.aL s.ao.an 0) λb=>.ok ([(↑s.ao.an.length:Int),(↑s.au.ab.length:Int),(↑s.ar.ab.length:Int),(↑s.aB.length:Int),b.2.1])
def N6 (s:aF):=U.s _ (Yz U s).val
def zM:=a_ (cK KK 15 36 (N6 U) (bD KK 43)) (zA U)
theorem z_:aj (zM shut) γ:=cR (rs:=[43]) zB VU rfl rfl λs k=>by kernel_rfl
end Go.Proofs.YtdhaaaeffhaadaaGreatDoor
end
section
namespace Go.Proofs.YtdhaaaeffhaadaaGreatDoor
open Go.RowKit Go.Dc Go.Vx
variable (U:Sh)
def wF (a:Γa) (p1:List ag) (p2 p3:Int):AS SS:=⟨[(0,vs .c_),(1,va 4 0),(9,vl p1),(10,vi p3)],[bX 142 [.br .i64 16 a,.aG 23 p1],bX 28 [lu p2],bX 143 [.v (.pointer none)],some (.bA 127 [] [.one (.bl 4 0)]),bX 140 [.bl 0 0]],5,some ⟨⟨θ,ay 89⟩,[9,10],eW (ct θ) 4,eX (ct θ) 4,[(3,va 1 0),(4,va 2 0),(8,vc 3)],none⟩,false,[],[]⟩
def tW (U:Sh) (b:Γa) (p1:List ag) (p2 p3:Int) (z0:ag) (a:Unit):T (Unit⊕ag⊕(Bool×Int)):=.bf (z0.aa==p2) (.ok (.inr (.inl z0)))<|.ok (.inl ())
def sd (U:Sh) (b:Γa) (p1:List ag) (p2 p3:Int) (a:Unit):T (ag⊕(Bool×Int)):=.ok (.inr (decide (p3<(↑p1.length:Int)),p3))
def Cf (a:Γa) (p1:List ag) (p2:Int):=bC U (tW U a p1 p2) (sd U a p1 p2) p1 ()
def Y_ {R} (k:KX SS R) (a:Γa) (p1:List ag) (p2:Int) (x:ag⊕(Bool×Int)):Option R:=x.elim (λv=>k .ret ⟨[],[bX 142 [.br .i64 16 a,.aG 23 p1],bX 28 [lu p2],bX 143 [.ptr 69 v 0],some (.bA 127 [] [.one (.bl 4 0)]),bX 140 [.bl 0 0]],5,some ⟨⟨θ,ay 89⟩,[9,10],eW (ct θ) 4,eX (ct θ) 4,[(3,va 1 0),(4,va 2 0),(8,vc 3)],some .ret⟩,false,[],[2]⟩) (λv=>k (.exit 0) {wF a p1 p2 p2 with env:=[(11,vb v.1),(0,vs .c_),(1,va 4 0),(9,vl p1),(10,vi v.2)]})
def PG:a7 SS:=bc 2 (gq (λst=>(dd st 3 127).bind λ_=>gv st 18 4) (sq (hX dO 0 0) (sq (hD 23 0 1) (hI 1 0)))) (λp=>u3 wF p 0) (u3 (Cf shut)) (λk=>u3 (Y_ k))
theorem afB:LS KK γ ay τ 127 2 PG:=
 aW.bH (aj.all z_ rfl) (aO.nil) rfl 60 (λp i a=>u3 wF p i) (λp=>p.2.1) (λp=>()) (St:=u3 (tW shut)) (F:=u3 (sd shut)) (λp=>rfl)
  (λm p i a k=>by kernel_rfl) (by rintro p (x|x)<;>exact⟨_,_,λ_=>rfl⟩) (λp N C A O w a b=>Ik b (j:=0) (n:=1) (t:=23) rfl rfl λv h=>bO h)
def XI:=bo (zM shut) ay τ 127 [PG]
theorem XJ:aX XI γ:=bw (aj.all z_ rfl) ω rfl aU (by kernel_rfl) afB
def Fa (p:aV) (pid:Int):T (ag×Bool):=.bd (kI U p) λc=>.bf (c !=0) (.ok (⟨0,0,false,0⟩,false))<|.gd (wF p.az p.ab pid 0)<|.bd (Cf U p.az p.ab pid) λb=>.cs b (λa=>.ok (a,true)) λa=>.ok (⟨0,0,false,0⟩,false)
def G_ (p:aV) (pid:Int):=U.s _ (Fa U p pid).val
def Mm:=a_ (bY KK 72 25 28 (G_ U) (ea KK 69 4)) (zM U)
theorem Mn:aj (Mm shut) γ:=bZ (rs:=[69,4]) z_ XJ rfl rfl λp pid k=>by kernel_rfl
def EP (p:aV) (pid:Int):T Bool:=.bd (G_ U p pid) λa=>.bf (a.2) (.ok (!a.1.ba))<|.ok false
def pU (p:aV) (pid:Int):=U.s _ (EP U p pid).val
def oG:=a_ (bY KK 28 25 28 (pU U) (bD KK 4)) (Mm U)
theorem oH:aj (oG shut) γ:=bZ (rs:=[4]) Mn (aj.all Mn rfl) rfl rfl λp pid k=>by kernel_rfl
def wC (a:Γa) (p1:List ag) (p2 p3:Int):AS SS:=⟨[(0,vs .c_),(1,va 5 0),(9,vl p1),(10,vi p3)],[bX 142 [.br .i64 16 a,.own 1],rX 69 p1,bX 28 [lu p2],bX 143 [.v (.pointer none)],some (.bA 127 [] [.one (.bl 5 0)]),bX 140 [.bl 0 0]],6,some ⟨⟨θ,ay 89⟩,[9,10],eW (ct θ) 4,eX (ct θ) 4,[(3,va 2 0),(4,va 3 0),(8,vc 4)],none⟩,false,[],[]⟩
def MP (U:Sh) (c:Γa) (p1:List ag) (p2 p3:Int) (z0:ag) (a:Unit):T (Unit⊕Nat⊕(Bool×Int)):=.bd (p1[p3.toNat]?) λb=>.bf (b.aa==p2) (.ok (.inr (.inl p3.toNat)))<|.ok (.inl ())
def y6 (U:Sh) (b:Γa) (p1:List ag) (p2 p3:Int) (a:Unit):T (Nat⊕(Bool×Int)):=.ok (.inr (decide (p3<(↑p1.length:Int)),p3))
def Cc (a:Γa) (p1:List ag) (p2:Int):=bC U (MP U a p1 p2) (y6 U a p1 p2) p1 ()
def Y4 {R} (k:KX SS R) (a:Γa) (p1:List ag) (p2:Int) (x:Nat⊕(Bool×Int)):Option R:=x.elim (λv=>k .ret ⟨[],[bX 142 [.br .i64 16 a,.own 1],rX 69 p1,bX 28 [lu p2],bX 143 [.eU 69 1 v 0],some (.bA 127 [] [.one (.bl 5 0)]),bX 140 [.bl 0 0]],6,some ⟨⟨θ,ay 89⟩,[9,10],eW (ct θ) 4,eX (ct θ) 4,[(3,va 2 0),(4,va 3 0),(8,vc 4)],some .ret⟩,false,[],[3]⟩) (λv=>k (.exit 0) {wC a p1 p2 p2 with env:=[(11,vb v.1),(0,vs .c_),(1,va 5 0),(9,vl p1),(10,vi v.2)]})
def H9:a7 SS:=bc 2 (gq (λst=>(dd st 4 127).bind λ_=>gv st 18 4) (sq (hX dO 0 0) (sq (hR 1 69) (hI 2 0)))) (λp=>u3 wC p 0) (u3 (Cc shut)) (λk=>u3 (Y4 k))
theorem Ja:LS KK γ ay τ 127 2 H9:=
 aW.bH (aj.all oH rfl) (aO.nil) rfl 60 (λp i a=>u3 wC p i) (λp=>p.2.1) (λp=>()) (St:=u3 (MP shut)) (F:=u3 (y6 shut)) (λp=>rfl)
  (λm p i a k=>by kernel_rfl) (by rintro p (x|x)<;>exact⟨_,_,λ_=>rfl⟩) (λp N C A O w a b=>kP (j:=1) b rfl)
def qG (a:List ag) (p1 p2:Int):AS SS:=⟨[(0,vo 0),(1,vc 1),(7,vl a),(8,vi p2)],[rX 69 a,some (.bA 253 [] [.one (.bl 2 0)]),bX 3 [li p1]],3,none,false,[],[]⟩
def ux (b:List ag) (p1 p2:Int) (z0:ag) (a:Unit):T (Unit⊕Int⊕(Bool×Int)):=.bd (b[p2.toNat]?) λd=>.bd (lS U d.aa) λc=>.bf (c==δ.wrap (p1+1)) (.ok (.inr (.inl p2)))<|.ok (.inl ())
def sG (U:Sh) (b:List ag) (p1 p2:Int) (a:Unit):T (Int⊕(Bool×Int)):=.ok (.inr (decide (p2<(↑b.length:Int)),p2))
def CT (a:List ag) (p1:Int):=bC U (ux U a p1) (sG U a p1) a ()
def ZP {R} (k:KX SS R) (a:List ag) (p1:Int) (x:Int⊕(Bool×Int)):Option R:=x.elim (λv=>k .ret {qG a p1 p1 with env:=[(4,vi v)]}) (λv=>k (.exit 0) {qG a p1 p1 with env:=[(9,vb v.1),(0,vo 0),(1,vc 1),(7,vl a),(8,vi v.2)]})
def Ic:a7 SS:=bc 3 (gq (λst=>dd st 1 253) (sq (hR 0 69) (hI 2 0))) (λp=>u2 qG p 0) (u2 (CT shut)) (λk=>u2 (ZP k))
def y1:=bo (oG shut) ay τ 127 [H9]
theorem KB:aX y1 γ:=bw (aj.all oH rfl) ω rfl aU (by kernel_rfl) Ja
theorem Sj:LS KK γ ay ξT 254 3 Ic:=
 aW.bH KB (aO.nil) rfl 60 (λp i a=>u2 qG p i) (λp=>p.1) (λp=>()) (St:=u2 (ux shut)) (F:=u2 (sG shut)) (λp=>rfl)
  (λm p i a k=>by kernel_rfl) (by rintro p (x|x)<;>exact⟨_,_,λ_=>rfl⟩) (λp N C A O w a b=>kP (j:=0) b rfl)
def wX (a:Γa) (p1:List ag) (p2:Int):AS SS:=⟨[(0,va 0 0),(3,va 2 0)],[bX 142 [.br .i64 16 a,.own 1],rX 69 p1,bX 3 [li p2]],2,none,false,[],[]⟩
def m2 (c:Γa) (p1:List ag) (a:Int):T (Int⊕(Bool×Int)⊕(Bool×Int×Nat×Int×Bool×Bool×Bool)):=.bf (!decide (a<16)) (.ok (.inr (.inl (decide (a<16),a))))<|.gd (qG p1 a 0)<|.bd (CT U p1 a) λe=>.cs e (λd=>.bf (!decide (d>=0)) (.bd (dq a 16) λb=>.bf (decide (aw c b<=65535)) (.ok (.inr (.inr (decide (aw c b<=65535),aw c b,b,a,!decide (d>=0),decide (d>=0),decide (a<16)))))<|.ok (.inl (δ.wrap (a+1))))<|.ok (.inl (δ.wrap (a+1)))) λd=>.bd (dq a 16) λb=>.bf (decide (aw c b<=65535)) (.ok (.inr (.inr (decide (aw c b<=65535),aw c b,b,a,true,false,decide (a<16)))))<|.ok (.inl (δ.wrap (a+1)))
def CM (a:Γa) (p1:List ag) (p2:Int):=bU U (m2 U a p1) 1000000 p2
def ZI {R} (k:KX SS R) (a:Γa) (p1:List ag) (x:(Bool×Int)⊕(Bool×Int×Nat×Int×Bool×Bool×Bool)):Option R:=x.elim (λv=>k (.bB (.iface 40 (.int .i64 322))) (xe [(6,vb v.1),(5,vi v.2)] (wX a p1 v.2))) (λv=>k (.exit 0) ⟨[(26,vb v.1),(25,vb v.1),(17,vb true),(24,vi v.2.1),(17,vb true),(23,vs (.fh 0 0 16 v.2.2.1)),(17,vb true),(22,va 0 0),(17,vb true),(21,va 0 0),(17,vb true),(20,va 0 0),(17,vb true),(19,vi v.2.2.2.1),(17,vb true),(18,va 0 0),(17,vb true),(17,vb v.2.2.2.2.1),(16,vb v.2.2.2.2.1),(15,vb v.2.2.2.2.2.1),(4,vb v.2.2.2.2.2.1),(14,vb v.2.2.2.2.2.1),(13,vc 3),(12,vo 1),(11,va 0 16),(10,va 0 0),(9,va 0 0),(8,va 0 0),(7,.bG []),(6,vb v.2.2.2.2.2.2),(5,vi v.2.2.2.1),(0,va 0 0),(3,va 2 0)],[bX 142 [.br .i64 16 a,.own 1],rX 69 p1,bX 3 [li v.2.2.2.1],some (.bA 253 [] [.one (.bl 2 0)])],2,none,false,[],[]⟩)
def Ia:a7 SS:=bc 3 (sq (hX dO 0 0) (sq (hR 1 69) (hI 2 0))) (u3 wX) (u3 (CM shut)) (λk p=>ZI k p.1 p.2.1)
def Wg:=bo y1 ay ξT 254 [Ic]
theorem Wh:aX Wg γ:=bw KB ζb rfl aU (by kernel_rfl) Sj
theorem Sg:LS KK γ ay ζc 217 3 Ia:=
 aW.bU (π:=Γa×List ag×Int) (σ:=Int) Wh (aO.nil) rfl 60 (λp a=>wX p.1 p.2.1 a) (λp=>p.2.2) (St:=λp=>m2 shut p.1 p.2.1) (λp=>1000000) (λp=>rfl)
  (λm p a k=>by kernel_rfl)
def qH (a:List ag) (p1 p2 p3:Int):AS SS:=⟨[(0,vo 0),(1,vc 1),(7,vl a),(8,vi p3)],[rX 69 a,some (.bA 255 [] [.one (.bl 2 0)]),bX 69 [lu p1,lu p2,.v (.bool false),lu 0]],3,none,false,[],[]⟩
def uy (b:List ag) (p1 p2 p3:Int) (z0:ag) (a:Unit):T (Unit⊕Int⊕(Bool×Int)):=.bd (b[p3.toNat]?) λe=>.bd (lS U e.aa) λc=>.bd (lS U p1) λd=>.bf (decide (c>d)) (.ok (.inr (.inl p3)))<|.ok (.inl ())
def sH (U:Sh) (b:List ag) (p1 p2 p3:Int) (a:Unit):T (Int⊕(Bool×Int)):=.ok (.inr (decide (p3<(↑b.length:Int)),p3))
def CU (a:List ag) (p1 p2:Int):=bC U (uy U a p1 p2) (sH U a p1 p2) a ()
def ZQ {R} (k:KX SS R) (a:List ag) (p1 p2:Int) (x:Int⊕(Bool×Int)):Option R:=x.elim (λv=>k .ret {qH a p1 p2 p1 with env:=[(4,vi v)]}) (λv=>k (.exit 0) {qH a p1 p2 p1 with env:=[(9,vb v.1),(0,vo 0),(1,vc 1),(7,vl a),(8,vi v.2)]})
def Qk:a7 SS:=bc 3 (gq (λst=>dd st 1 255) (sq (hR 0 69) (sq (hI 2 0) (hI 2 1)))) (λp=>u3 qH p 0) (u3 (CU shut)) (λk=>u3 (ZQ k))
def Wi:=bo y1 ay ζc 217 [Ia]
theorem Wj:aX Wi γ:=bw (aX.fu (aj.all oH rfl) ω rfl aU λc a=>by cases a;exact aO.cons (aO.nil) (by kernel_rfl) Ja) ζd rfl aU (by kernel_rfl) Sg
theorem age:LS KK γ ay ξT 254 3 Qk:=
 aW.bH Wj (aO.nil) rfl 60 (λp i a=>u3 qH p i) (λp=>p.1) (λp=>()) (St:=u3 (uy shut)) (F:=u3 (sH shut)) (λp=>rfl)
  (λm p i a k=>by kernel_rfl) (by rintro p (x|x)<;>exact⟨_,_,λ_=>rfl⟩) (λp N C A O w a b=>kP (j:=0) b rfl)
def Wk:bW SS:= {(oG shut) with T:=h8 (h8 (h8 ((oG shut).T) 127 ⟨⟨τ,ay 127⟩,[H9]⟩) 254 ⟨⟨ξT,ay 254⟩,[pq (λst=>dd st 1 253) Ic (Qk)]⟩) 217 ⟨⟨ζc,ay 217⟩,[Ia]⟩}
theorem Wl:aX Wk γ:=bw (aX.fu (aX.fu (aj.all oH rfl) ω rfl aU λc a=>by cases a;exact aO.cons (aO.nil) (by kernel_rfl) Ja) ζb rfl aU λc a=>by cases a;exact aO.cons (aO.nil) (by kernel_rfl) (aW.alt Sj age)) ζd rfl aU (by kernel_rfl) Sg
def Em (p:aV) (parent:Int):T (aV×Int×Int):=.bd (kI U p) λj=>.bf (!j==0) (.ok (⟨[0,0,0,0,0,0,0,0,0,0,0,0,0,0,0,0],[]⟩,0,320))<|.bd (app 32 [] p.ab) λb=>.gd (wC p.az b parent 0)<|.bd (Cc U p.az b parent) λh=>.cs h (λf=>.bd (b[f]?) λz3=>.bf (!!z3.ba) (.ok (⟨[0,0,0,0,0,0,0,0,0,0,0,0,0,0,0,0],[]⟩,0,321))<|.gd (wX p.az b 0)<|.bd (CM U p.az b 0) λi=>.cs i (λa=>.ok (⟨[0,0,0,0,0,0,0,0,0,0,0,0,0,0,0,0],[]⟩,0,322)) λa=>.bd (dq a.2.2.2.1 16) λz5=>.bd (dq a.2.2.2.1 16) λd=>.bd (dq a.2.2.2.1 16) λe=>.bf (true&&p.az.length.beq 16) (.gd (qH b (ζ.wrap (δ.wrap (δ.wrap (δ.wrap (aw p.az z5*64)+a.2.2.2.1)+1))) parent 0)<|.bd (CU U b (ζ.wrap (δ.wrap (δ.wrap (δ.wrap (aw p.az z5*64)+a.2.2.2.1)+1))) parent) λg=>.cs g (λc=>.bf (decide (c<0)) (.bd (lZ b (↑b.length:Int) [ag.mk (ζ.wrap (δ.wrap (δ.wrap (δ.wrap (aw p.az z5*64)+a.2.2.2.1)+1))) parent false 0]) λz9=>.ok (⟨p.az.set e (δ.wrap (aw p.az d+1)),z9⟩,ζ.wrap (δ.wrap (δ.wrap (δ.wrap (aw p.az z5*64)+a.2.2.2.1)+1)),0))<|.bd (lZ b c [ag.mk (ζ.wrap (δ.wrap (δ.wrap (δ.wrap (aw p.az z5*64)+a.2.2.2.1)+1))) parent false 0]) λz9=>.ok (⟨p.az.set e (δ.wrap (aw p.az d+1)),z9⟩,ζ.wrap (δ.wrap (δ.wrap (δ.wrap (aw p.az z5*64)+a.2.2.2.1)+1)),0)) λc=>.bd (lZ b (↑b.length:Int) [ag.mk (ζ.wrap (δ.wrap (δ.wrap (δ.wrap (aw p.az z5*64)+a.2.2.2.1)+1))) parent false 0]) λz9=>.ok (⟨p.az.set e (δ.wrap (aw p.az d+1)),z9⟩,ζ.wrap (δ.wrap (δ.wrap (δ.wrap (aw p.az z5*64)+a.2.2.2.1)+1)),0))<|.no) λf=>.ok (⟨[0,0,0,0,0,0,0,0,0,0,0,0,0,0,0,0],[]⟩,0,321)
def vG (p:aV) (parent:Int):=U.s _ (Em U p parent).val
def mT:=a_ (bY KK 177 25 28 (vG U) (fN KK 25 28 40)) (oG U)
theorem oF:aj (mT shut) γ:=bZ (rs:=[25,28,40]) oH Wl rfl rfl λp parent k=>by kernel_rfl
def wD (a:Γa) (p1:List ag) (p2 p3:Int):AS SS:=⟨[(0,vs .c_),(1,va 5 0),(9,vl p1),(10,vi p3)],[bX 142 [.br .i64 16 a,.own 1],rX 69 p1,bX 28 [lu p2],bX 143 [.v (.pointer none)],some (.bA 127 [] [.one (.bl 5 0)]),bX 140 [.bl 0 0]],6,some ⟨⟨θ,ay 89⟩,[9,10],eW (ct θ) 4,eX (ct θ) 4,[(3,va 2 0),(4,va 3 0),(8,vc 4)],none⟩,false,[],[]⟩
def MQ (U:Sh) (c:Γa) (p1:List ag) (p2 p3:Int) (z0:ag) (a:Unit):T (Unit⊕Nat⊕(Bool×Int)):=.bd (p1[p3.toNat]?) λb=>.bf (b.aa==p2) (.ok (.inr (.inl p3.toNat)))<|.ok (.inl ())
def y7 (U:Sh) (b:Γa) (p1:List ag) (p2 p3:Int) (a:Unit):T (Nat⊕(Bool×Int)):=.ok (.inr (decide (p3<(↑p1.length:Int)),p3))
def Cd (a:Γa) (p1:List ag) (p2:Int):=bC U (MQ U a p1 p2) (y7 U a p1 p2) p1 ()
def Y5 {R} (k:KX SS R) (a:Γa) (p1:List ag) (p2:Int) (x:Nat⊕(Bool×Int)):Option R:=x.elim (λv=>k .ret ⟨[],[bX 142 [.br .i64 16 a,.own 1],rX 69 p1,bX 28 [lu p2],bX 143 [.eU 69 1 v 0],some (.bA 127 [] [.one (.bl 5 0)]),bX 140 [.bl 0 0]],6,some ⟨⟨θ,ay 89⟩,[9,10],eW (ct θ) 4,eX (ct θ) 4,[(3,va 2 0),(4,va 3 0),(8,vc 4)],some .ret⟩,false,[],[3]⟩) (λv=>k (.exit 0) {wD a p1 p2 p2 with env:=[(11,vb v.1),(0,vs .c_),(1,va 5 0),(9,vl p1),(10,vi v.2)]})
def H_:a7 SS:=bc 2 (gq (λst=>(dd st 4 127).bind λ_=>gv st 18 4) (sq (hX dO 0 0) (sq (hR 1 69) (hI 2 0)))) (λp=>u3 wD p 0) (u3 (Cd shut)) (λk=>u3 (Y5 k))
theorem Se:LS KK γ ay τ 127 2 H_:=
 aW.bH (aj.all oF rfl) (aO.nil) rfl 60 (λp i a=>u3 wD p i) (λp=>p.2.1) (λp=>()) (St:=u3 (MQ shut)) (F:=u3 (y7 shut)) (λp=>rfl)
  (λm p i a k=>by kernel_rfl) (by rintro p (x|x)<;>exact⟨_,_,λ_=>rfl⟩) (λp N C A O w a b=>kP (j:=1) b rfl)
def wY (a:List ag) (p1:Int) (p2:Bool) (p3 p4:Int) (p5:List ag):AS SS:=⟨[(1,vc 1),(5,vo 4),(8,vo 0),(9,vi p3),(10,vi p4)],[rX 69 a,some (.bA 222 [] [.one (.bl 2 0),.one (.bl 3 0)]),bX 28 [lu p1],bX 4 [.v (.bool p2)],rX 69 p5],4,none,false,[],[]⟩
def oZ (U:Sh) (c:List ag) (p1:Int) (p2:Bool) (p3:Int) (a:Int×List ag):T ((Int×List ag)⊕(Bool×Int×List ag)):=.bf (decide (a.1<p3)) (.bd (idx c a.1) λz0=>.bd (c[a.1.toNat]?) λb=>.bf (b.aa !=p1) (.bf (b.aT !=p1) (.bd (app 32 a.2 [b]) λz2=>.ok (.inl (δ.wrap (a.1+1),z2)))<|.bf (!b.ba) (.bd (app 32 a.2 [b]) λz2=>.ok (.inl (δ.wrap (a.1+1),z2)))<|.ok (.inl (δ.wrap (a.1+1),a.2)))<|.bf (!p2) (.bf (b.aT !=p1) (.bd (app 32 a.2 [b]) λz2=>.ok (.inl (δ.wrap (a.1+1),z2)))<|.bf (!b.ba) (.bd (app 32 a.2 [b]) λz2=>.ok (.inl (δ.wrap (a.1+1),z2)))<|.ok (.inl (δ.wrap (a.1+1),a.2)))<|.ok (.inl (δ.wrap (a.1+1),a.2)))<|.ok (.inr (decide (a.1<p3),a.1,a.2))
def CN (a:List ag) (p1:Int) (p2:Bool) (p3 p4:Int) (p5:List ag):=bU U (oZ U a p1 p2 p3) 1000000 (p4,p5)
def ZJ {R} (k:KX SS R) (a:List ag) (p1:Int) (p2:Bool) (p3:Int) (x:(Bool×Int×List ag)):Option R:=(λv=>k (.exit 0) {wY a p1 p2 p3 p1 v.2.2 with env:=[(11,vb v.1),(1,vc 1),(5,vo 4),(8,vo 0),(9,vi p3),(10,vi v.2.1)]}) x
def Ib:a7 SS:=bc 4 (gq (λst=>dd st 1 222) (sq (hR 0 69) (sq (hI 2 0) (sq (hX hS 3 0) (sq (sI 9) (sq (sI 10) (hR 4 69))))))) (u6 wY) (u6 (CN shut)) (λk=>w4 (ZJ k))
def Wm:=bo (mT shut) ay τ 127 [H_]
theorem Wn:aX Wm γ:=bw (aj.all oF rfl) ω rfl aU (by kernel_rfl) Se
theorem Si:LS KK γ ay ξC 221 4 Ib:=
 aW.bU (π:=List ag×Int×Bool×Int×Int×List ag) (σ:=Int×List ag) Wn (aO.nil) rfl 60 (λp a=>w4 wY p a.1 a.2) (λp=>(p.2.2.2.2.1,p.2.2.2.2.2)) (St:=w4 (oZ shut)) (λp=>1000000) (λp=>rfl)
  (λm p a k=>by kernel_rfl)
def wE (a:Γa) (p1:List ag) (p2 p3:Int) (p4:List ag) (p5:Int) (p6:List ag):AS SS:=⟨[(0,vs .c_),(1,va 6 0),(9,vl p4),(10,vi p5)],[bX 142 [.br .i64 16 a,.own 4],rX 69 p1,bX 28 [lu p2],bX 28 [lu p3],rX 69 p6,some (.bA 127 [] [.one (.bl 6 0)]),bX 140 [.bl 0 0]],7,some ⟨⟨ζe,ay 219⟩,[41,42],eW (ct ζe) 8,eX (ct ζe) 8,[(1,va 2 0),(40,vc 5)],none⟩,false,[],[4]⟩
def oQ (U:Sh) (c:Γa) (p1:List ag) (p2 p3:Int) (p4:List ag) (a:Int×List ag):T ((Int×List ag)⊕(Bool×Int×List ag)):=.bf (decide (a.1<(↑p4.length:Int))) (.bd (idx a.2 a.1) λz0=>.bd (a.2[a.1.toNat]?) λb=>.bf (b.aT==p2) (.bd (a.2[a.1.toNat]?) λz2=>.ok (.inl (δ.wrap (a.1+1),a.2.set a.1.toNat (ag.mk z2.aa 0 z2.ba z2.bT))))<|.ok (.inl (δ.wrap (a.1+1),a.2)))<|.ok (.inr (decide (a.1<(↑p4.length:Int)),a.1,a.2))
def Ce (a:Γa) (p1:List ag) (p2 p3:Int) (p4:List ag) (p5:Int) (p6:List ag):=bU U (oQ U a p1 p2 p3 p4) 1000000 (p5,p6)
def Y6 {R} (k:KX SS R) (a:Γa) (p1:List ag) (p2 p3:Int) (p4:List ag) (x:(Bool×Int×List ag)):Option R:=(λv=>k (.exit 0) {wE a p1 p2 p3 p4 p2 v.2.2 with env:=[(11,vb v.1),(0,vs .c_),(1,va 6 0),(9,vl p4),(10,vi v.2.1)]}) x
def PD:a7 SS:=hs (λst=>gc (ay 127 2) (gn [4] (st)))<|bc 2 (λst=>((dd st 5 127).bind λ_=>gv st 52 8).bind λ_=>(dO (dQ st 0 0)).bind λa=>(eh st 1 69).bind λp1=>(db (dQ st 2 0)).bind λp2=>(db (dQ st 3 0)).bind λp3=>(eh st 4 69).bind λp4=>(db (c9 st 10 0)).bind λp5=>(eh st 4 69).bind λp6=>some (a,p1,p2,p3,p4,p5,p6)) (u7 wE) (u7 (Ce shut)) (λk=>w5 (Y6 k))
def Wo:=bo (mT shut) ay ξC 221 [Ib]
theorem Wp:aX Wo γ:=bw (aj.all oF rfl) ξI rfl aU (by kernel_rfl) Si
theorem afy:LS KK γ ay τ 127 2 PD:=aW.pre (b5.comp (b5.gc (ay 127 2)) (b5.gn [4]))<|
 aW.bU (π:=Γa×List ag×Int×Int×List ag×Int×List ag) (σ:=Int×List ag) Wp (aO.nil) rfl 60 (λp a=>w5 wE p a.1 a.2) (λp=>(p.2.2.2.2.2.1,p.2.2.2.2.2.2)) (St:=w5 (oQ shut)) (λp=>1000000) (λp=>rfl)
  (λm p a k=>by kernel_rfl)
def Wq:bW SS:= {(mT shut) with T:=h8 (h8 ((mT shut).T) 127 ⟨⟨τ,ay 127⟩,[pq (λst=>(dd st 4 127).bind λ_=>gv st 18 4) H_ (PD)]⟩) 221 ⟨⟨ξC,ay 221⟩,[Ib]⟩}
theorem Wr:aX Wq γ:=bw (aX.fu (aj.all oF rfl) ω rfl aU λc a=>by cases a;exact aO.cons (aO.nil) (by kernel_rfl) (aW.alt Se afy)) ξI rfl aU (by kernel_rfl) Si
def En (p:aV) (pid code:Int):T (aV×Int):=.bd (kI U p) λf=>.bf (!f==0) (.ok (⟨[0,0,0,0,0,0,0,0,0,0,0,0,0,0,0,0],[]⟩,320))<|.bd (app 32 [] p.ab) λb=>.gd (wD p.az b pid 0)<|.bd (Cd U p.az b pid) λe=>.cs e (λa=>.bd (b[a]?) λz3=>.bf (!!z3.ba) (.ok (⟨[0,0,0,0,0,0,0,0,0,0,0,0,0,0,0,0],[]⟩,321))<|.bf (!pid !=1) (.ok (⟨[0,0,0,0,0,0,0,0,0,0,0,0,0,0,0,0],[]⟩,323))<|.bd (b[a]?) λz4=>.bd ((b.set a (ag.mk z4.aa z4.aT true z4.bT))[a]?) λz5=>.bd (((b.set a (ag.mk z4.aa z4.aT true z4.bT)).set a (ag.mk z5.aa z5.aT z5.ba code))[a]?) λd=>.gd (wY ((b.set a (ag.mk z4.aa z4.aT true z4.bT)).set a (ag.mk z5.aa z5.aT z5.ba code)) pid (d.aT==0) ((↑((b.set a (ag.mk z4.aa z4.aT true z4.bT)).set a (ag.mk z5.aa z5.aT z5.ba code)).length:Int)) 0 [])<|.bd (CN U ((b.set a (ag.mk z4.aa z4.aT true z4.bT)).set a (ag.mk z5.aa z5.aT z5.ba code)) pid (d.aT==0) ((↑((b.set a (ag.mk z4.aa z4.aT true z4.bT)).set a (ag.mk z5.aa z5.aT z5.ba code)).length:Int)) 0 []) λc=>.gd (wE p.az ((b.set a (ag.mk z4.aa z4.aT true z4.bT)).set a (ag.mk z5.aa z5.aT z5.ba code)) pid code c.2.2 0 c.2.2)<|.bd (Ce U p.az ((b.set a (ag.mk z4.aa z4.aT true z4.bT)).set a (ag.mk z5.aa z5.aT z5.ba code)) pid code c.2.2 0 c.2.2) λg=>.ok (⟨p.az,g.2.2⟩,0)) λa=>.ok (⟨[0,0,0,0,0,0,0,0,0,0,0,0,0,0,0,0],[]⟩,321)
def vH (p:aV) (pid code:Int):=U.s _ (En U p pid code).val
def Aq:=a_ (fV KK 179 25 28 28 (vH U) (ea KK 25 40)) (mT U)
theorem Ar:aj (Aq shut) γ:=gI (rs:=[25,40]) oF Wr rfl rfl λp pid code k=>by kernel_rfl
def qs (a:Γa) (p1:List ag) (p2 p3:Int):AS SS:=⟨[(0,vs .c_),(1,va 5 0),(9,vl p1),(10,vi p3)],[bX 142 [.br .i64 16 a,.own 1],rX 69 p1,bX 28 [lu p2],bX 143 [.v (.pointer none)],some (.bA 127 [] [.one (.bl 5 0)]),bX 140 [.bl 0 0]],6,some ⟨⟨θ,ay 89⟩,[9,10],eW (ct θ) 4,eX (ct θ) 4,[(3,va 2 0),(4,va 3 0),(8,vc 4)],none⟩,false,[],[]⟩
def MR (U:Sh) (c:Γa) (p1:List ag) (p2 p3:Int) (z0:ag) (a:Unit):T (Unit⊕Nat⊕(Bool×Int)):=.bd (p1[p3.toNat]?) λb=>.bf (b.aa==p2) (.ok (.inr (.inl p3.toNat)))<|.ok (.inl ())
def y8 (U:Sh) (b:Γa) (p1:List ag) (p2 p3:Int) (a:Unit):T (Nat⊕(Bool×Int)):=.ok (.inr (decide (p3<(↑p1.length:Int)),p3))
def tA (a:Γa) (p1:List ag) (p2:Int):=bC U (MR U a p1 p2) (y8 U a p1 p2) p1 ()
def Y7 {R} (k:KX SS R) (a:Γa) (p1:List ag) (p2:Int) (x:Nat⊕(Bool×Int)):Option R:=x.elim (λv=>k .ret ⟨[],[bX 142 [.br .i64 16 a,.own 1],rX 69 p1,bX 28 [lu p2],bX 143 [.eU 69 1 v 0],some (.bA 127 [] [.one (.bl 5 0)]),bX 140 [.bl 0 0]],6,some ⟨⟨θ,ay 89⟩,[9,10],eW (ct θ) 4,eX (ct θ) 4,[(3,va 2 0),(4,va 3 0),(8,vc 4)],some .ret⟩,false,[],[3]⟩) (λv=>k (.exit 0) {qs a p1 p2 p2 with env:=[(11,vb v.1),(0,vs .c_),(1,va 5 0),(9,vl p1),(10,vi v.2)]})
def PE:a7 SS:=bc 2 (gq (λst=>(dd st 4 127).bind λ_=>gv st 18 4) (sq (hX dO 0 0) (sq (hR 1 69) (hI 2 0)))) (λp=>u3 qs p 0) (u3 (tA shut)) (λk=>u3 (Y7 k))
theorem afz:LS KK γ ay τ 127 2 PE:=
 aW.bH (aj.all Ar rfl) (aO.nil) rfl 60 (λp i a=>u3 qs p i) (λp=>p.2.1) (λp=>()) (St:=u3 (MR shut)) (F:=u3 (y8 shut)) (λp=>rfl)
  (λm p i a k=>by kernel_rfl) (by rintro p (x|x)<;>exact⟨_,_,λ_=>rfl⟩) (λp N C A O w a b=>kP (j:=1) b rfl)
def Hx (a:List ag) (p1 p2:Int) (p3:List ag):AS SS:=⟨[(1,vc 1),(5,vo 3),(8,vo 0),(9,vl a),(10,vi p2)],[rX 69 a,some (.bA 224 [] [.one (.bl 2 0)]),bX 28 [lu p1],rX 69 p3],3,none,false,[],[]⟩
def TB (a:List ag) (p1:Int) (p3:List ag):AS SS:=Hx a p1 0 p3
def uv (U:Sh) (c:List ag) (p1 p2:Int) (z0:ag) (a:List ag):T (List ag⊕(Bool×Int×List ag)):=.bd (c[p2.toNat]?) λb=>.bf (b.aa !=p1) (.bd (app 32 a [b]) λz2=>.ok (.inl z2))<|.ok (.inl a)
def sE (U:Sh) (b:List ag) (p1 p2:Int) (a:List ag):T ((Bool×Int×List ag)):=.ok (decide (p2<(↑b.length:Int)),p2,a)
def CO (a:List ag) (p1:Int) (p3:List ag):=bC U (uv U a p1) (sE U a p1) a p3
def ZK {R} (k:KX SS R) (a:List ag) (p1:Int) (x:(Bool×Int×List ag)):Option R:=(λv=>k (.exit 0) {Hx a p1 p1 v.2.2 with env:=[(11,vb v.1),(1,vc 1),(5,vo 3),(8,vo 0),(9,vl a),(10,vi v.2.1)]}) x
def Qf:a7 SS:=bc 4 (gq (λst=>dd st 1 224) (sq (hR 0 69) (sq (hI 2 0) (hR 3 69)))) (u3 TB) (u3 (CO shut)) (λk p=>ZK k p.1 p.2.1)
def KC:=bo (Aq shut) ay τ 127 [PE]
theorem KD:aX KC γ:=bw (aj.all Ar rfl) ω rfl aU (by kernel_rfl) afz
theorem af':LS KK γ ay ξC 221 4 Qf:=
 aW.bH (π:=List ag×Int×List ag) (σ:=List ag) KD (aO.nil) rfl 60 (λp i a=>Hx p.1 p.2.1 i a) (λp=>p.1) (λp=>p.2.2) (St:=λp=>uv shut p.1 p.2.1) (F:=λp=>sE shut p.1 p.2.1) (λp=>rfl)
  (λm p i a k=>by kernel_rfl) (λp x=>⟨_,_,λ_=>rfl⟩) (λp N C A O w a b=>kP (j:=0) b rfl)
def Ws:=bo KC ay ξC 221 [Qf]
theorem Wt:aX Ws γ:=bw KD ξI rfl aU (by kernel_rfl) af'
def Eo (p:aV) (pid child:Int):T (aV×Int×Int):=.bd (kI U p) λf=>.bf (!f==0) (.ok (⟨[0,0,0,0,0,0,0,0,0,0,0,0,0,0,0,0],[]⟩,0,320))<|.bd (app 32 [] p.ab) λa=>.gd (qs p.az a pid 0)<|.bd (tA U p.az a pid) λd=>.cs d (λc=>.bd (a[c]?) λz3=>.bf (!!z3.ba) (.ok (⟨[0,0,0,0,0,0,0,0,0,0,0,0,0,0,0,0],[]⟩,0,321))<|.gd (qs p.az a child 0)<|.bd (tA U p.az a child) λe=>.cs e (λb=>.bd (a[b]?) λz5=>.bf (!z5.aT==pid) (.ok (⟨[0,0,0,0,0,0,0,0,0,0,0,0,0,0,0,0],[]⟩,0,324))<|.bd (a[b]?) λh=>.bf (!h.ba) (.ok (⟨[0,0,0,0,0,0,0,0,0,0,0,0,0,0,0,0],[]⟩,0,322))<|.bd (a[b]?) λi=>.gd (TB a child [])<|.bd (CO U a child []) λg=>.ok (⟨p.az,g.2.2⟩,i.bT,0)) λb=>.ok (⟨[0,0,0,0,0,0,0,0,0,0,0,0,0,0,0,0],[]⟩,0,324)) λc=>.ok (⟨[0,0,0,0,0,0,0,0,0,0,0,0,0,0,0,0],[]⟩,0,321)
def vI (p:aV) (pid child:Int):=U.s _ (Eo U p pid child).val
def As:=a_ (fV KK 181 25 28 28 (vI U) (fN KK 25 28 40)) (Aq U)
theorem At:aj (As shut) γ:=gI (rs:=[25,28,40]) Ar Wt rfl rfl λp pid child k=>by kernel_rfl
end Go.Proofs.YtdhaaaeffhaadaaGreatDoor
end
section
namespace Go.Proofs.YtdhaaaeffhaadaaGreatDoor
open Go.RowKit Go.Dc Go.Vx
variable (U:Sh)
def HD (a:List ai) (p1 p2:Int) (p3:List ai):AS SS:=⟨[(1,vc 0),(5,vo 2),(8,vd 26 a),(9,vl a),(10,vi p2)],[some (.bA 74 [] [.one (.bl 1 0)]),bX 28 [lu p1],rX 89 p3],2,none,false,[],[]⟩
def TH (a:List ai) (p1:Int) (p3:List ai):AS SS:=HD a p1 0 p3
def uQ (U:Sh) (c:List ai) (p1 p2:Int) (z0:ai) (a:List ai):T (List ai⊕(Bool×Int×List ai)):=.bf (z0.aa !=p1) (.bd (app 24 a [z0]) λb=>.ok (.inl b))<|.ok (.inl a)
def s_ (U:Sh) (b:List ai) (p1 p2:Int) (a:List ai):T ((Bool×Int×List ai)):=.ok (decide (p2<(↑b.length:Int)),p2,a)
def Dk (a:List ai) (p1:Int) (p3:List ai):=bC U (uQ U a p1) (s_ U a p1) a p3
def aam {R} (k:KX SS R) (a:List ai) (p1:Int) (x:(Bool×Int×List ai)):Option R:=(λv=>k (.exit 0) {HD a p1 p1 v.2.2 with env:=[(11,vb v.1),(1,vc 0),(5,vo 2),(8,vd 26 a),(9,vl a),(10,vi v.2.1)]}) x
def QR:a7 SS:=bc 4 (gq (λst=>dd st 0 74) (sq (sD 26 8) (sq (hI 1 0) (hR 2 89)))) (u3 TH) (u3 (Dk shut)) (λk p=>aam k p.1 p.2.1)
theorem agO:LS KK γ ay ξD 73 4 QR:=
 aW.bH (π:=List ai×Int×List ai) (σ:=List ai) (aj.all At rfl) (aO.nil) rfl 60 (λp i a=>HD p.1 p.2.1 i a) (λp=>p.1) (λp=>p.2.2) (St:=λp=>uQ shut p.1 p.2.1) (F:=λp=>s_ shut p.1 p.2.1) (λp=>rfl)
  (λm p i a k=>by kernel_rfl) (λp x=>⟨_,_,λ_=>rfl⟩) (λp N C A O w a b=>bQ b (t:=26) (sl:=8) rfl λv h=>bO h)
def W':=bo (As shut) ay ξD 73 [QR]
theorem Xa:aX W' γ:=bw (aj.all At rfl) ξU rfl aU (by kernel_rfl) agO
def ER (l:List ai) (pid:Int):T (List ai×Int):=.bd (iW U l) λb=>.bf (b !=0) (.ok ([],0))<|.gd (TH l pid [])<|.bd (Dk U l pid []) λa=>.ok (a.2.2,δ.wrap ((↑l.length:Int)-(↑a.2.2.length:Int)))
def vX (l:List ai) (pid:Int):=U.s _ (ER U l pid).val
def Be:=a_ (bY KK 29 26 28 (vX U) (ea KK 26 3)) (As U)
theorem Bf:aj (Be shut) γ:=bZ (rs:=[26,3]) At Xa rfl rfl λl pid k=>by kernel_rfl
def w_ (a:List ai) (p1 p2 p3:Int):AS SS:=⟨[(0,vs .c_),(2,va 5 0),(6,vd 26 a),(7,vl a),(8,vi p3)],[bX 3 [li p1],bX 28 [lu 0],bX 4 [.v (.bool false)],some (.bA 257 [] [.one (.bl 4 0),.one (.bl 5 0)]),bX 26 [.aG 26 a],bX 28 [lu p2]],6,some ⟨⟨ξt,ay 232⟩,[15],eW (ct ξt) 6,eX (ct ξt) 6,[(5,va 0 0),(6,va 1 0),(7,va 2 0),(14,vc 3)],none⟩,false,[],[]⟩
def uB (U:Sh) (b:List ai) (p1 p2 p3:Int) (z0:ai) (a:Unit):T (Unit⊕Int⊕(Bool×Int)):=.bf (z0.aa==p2) (.bf (z0.bm==p1) (.ok (.inr (.inl z0.b3)))<|.ok (.inl ()))<|.ok (.inl ())
def sJ (U:Sh) (b:List ai) (p1 p2 p3:Int) (a:Unit):T (Int⊕(Bool×Int)):=.ok (.inr (decide (p3<(↑b.length:Int)),p3))
def CW (a:List ai) (p1 p2:Int):=bC U (uB U a p1 p2) (sJ U a p1 p2) a ()
def ZS {R} (k:KX SS R) (a:List ai) (p1 p2:Int) (x:Int⊕(Bool×Int)):Option R:=x.elim (λv=>k .ret ⟨[],[bX 3 [li p1],bX 28 [lu v],bX 4 [.v (.bool true)],some (.bA 257 [] [.one (.bl 4 0),.one (.bl 5 0)]),bX 26 [.aG 26 a],bX 28 [lu p2]],6,some ⟨⟨ξt,ay 232⟩,[15],eW (ct ξt) 6,eX (ct ξt) 6,[(5,va 0 0),(6,va 1 0),(7,va 2 0),(14,vc 3)],some .ret⟩,false,[],[1,2]⟩) (λv=>k (.exit 0) {w_ a p1 p2 p1 with env:=[(9,vb v.1),(0,vs .c_),(2,va 5 0),(6,vd 26 a),(7,vl a),(8,vi v.2)]})
def Qm:a7 SS:=bc 2 (gq (λst=>(dd st 3 257).bind λ_=>gv st 22 6) (sq (sD 26 6) (sq (hI 0 0) (hI 5 0)))) (λp=>u3 w_ p 0) (u3 (CW shut)) (λk=>u3 (ZS k))
theorem agh:LS KK γ ay ξV 257 2 Qm:=
 aW.bH (aj.all Bf rfl) (aO.nil) rfl 60 (λp i a=>u3 w_ p i) (λp=>p.1) (λp=>()) (St:=u3 (uB shut)) (F:=u3 (sJ shut)) (λp=>rfl)
  (λm p i a k=>by kernel_rfl) (by rintro p (x|x)<;>exact⟨_,_,λ_=>rfl⟩) (λp N C A O w a b=>bQ b (t:=26) (sl:=6) rfl λv h=>bO h)
def W3:=bo (Be shut) ay ξV 257 [Qm]
theorem W4:aX W3 γ:=bw (aj.all Bf rfl) ζf rfl aU (by kernel_rfl) agh
def EL (l:List ai) (pid fd:Int):T (Int×Bool):=.bd (iW U l) λc=>.bf (c !=0) (.ok (0,false))<|.gd (w_ l fd pid 0)<|.bd (CW U l fd pid) λb=>.cs b (λa=>.ok (a,true)) λa=>.ok (0,false)
def kH (l:List ai) (pid fd:Int):=U.s _ (EL U l pid fd).val
def A6:=a_ (fV KK 232 26 28 3 (kH U) (ea KK 28 4)) (Be U)
theorem A7:aj (A6 shut) γ:=gI (rs:=[28,4]) Bf W4 rfl rfl λl pid fd k=>by kernel_rfl
def HC (a:List ai) (p1 p2:Int) (p3:List ai):AS SS:=⟨[(1,vc 0),(5,vo 2),(8,vd 26 a),(9,vl a),(10,vi p2)],[some (.bA 234 [] [.one (.bl 1 0)]),bX 28 [lu p1],rX 89 p3],2,none,false,[],[]⟩
def TG (a:List ai) (p1:Int) (p3:List ai):AS SS:=HC a p1 0 p3
def uP (U:Sh) (c:List ai) (p1 p2:Int) (z0:ai) (a:List ai):T (List ai⊕(Bool×Int×List ai)):=.bf (z0.b3==p1) (.bd (app 24 a [z0]) λb=>.ok (.inl b))<|.ok (.inl a)
def s9 (U:Sh) (b:List ai) (p1 p2:Int) (a:List ai):T ((Bool×Int×List ai)):=.ok (decide (p2<(↑b.length:Int)),p2,a)
def Di (a:List ai) (p1:Int) (p3:List ai):=bC U (uP U a p1) (s9 U a p1) a p3
def aal {R} (k:KX SS R) (a:List ai) (p1:Int) (x:(Bool×Int×List ai)):Option R:=(λv=>k (.exit 0) {HC a p1 p1 v.2.2 with env:=[(11,vb v.1),(1,vc 0),(5,vo 2),(8,vd 26 a),(9,vl a),(10,vi v.2.1)]}) x
def QQ:a7 SS:=bc 4 (gq (λst=>dd st 0 234) (sq (sD 26 8) (sq (hI 1 0) (hR 2 89)))) (u3 TG) (u3 (Di shut)) (λk p=>aal k p.1 p.2.1)
theorem agN:LS KK γ ay ξD 73 4 QQ:=
 aW.bH (π:=List ai×Int×List ai) (σ:=List ai) (aj.all A7 rfl) (aO.nil) rfl 60 (λp i a=>HC p.1 p.2.1 i a) (λp=>p.1) (λp=>p.2.2) (St:=λp=>uP shut p.1 p.2.1) (F:=λp=>s9 shut p.1 p.2.1) (λp=>rfl)
  (λm p i a k=>by kernel_rfl) (λp x=>⟨_,_,λ_=>rfl⟩) (λp N C A O w a b=>bQ b (t:=26) (sl:=8) rfl λv h=>bO h)
def WG:=bo (A6 shut) ay ξD 73 [QQ]
theorem WH:aX WG γ:=bw (aj.all A7 rfl) ξU rfl aU (by kernel_rfl) agN
def Ew (l:List ai) (aZ:Int):T Int:=.bd (iW U l) λa=>.bf (a !=0) (.ok 0)<|.gd (TG l aZ [])<|.bd (Di U l aZ []) λb=>.ok ((↑b.2.2.length:Int))
def vN (l:List ai) (aZ:Int):=U.s _ (Ew U l aZ).val
def AD:=a_ (bY KK 192 26 28 (vN U) (bD KK 3)) (A6 U)
theorem AE:aj (AD shut) γ:=bZ (rs:=[3]) A7 WH rfl rfl λl aZ k=>by kernel_rfl
def Hz (a:List ai) (p1 p2 p3:Int) (p4:List Bool):AS SS:=⟨[(0,vs .c_),(2,va 3 0),(6,vd 26 a),(7,vl a),(8,vi p3)],[bX 261 [.c7 8 p4],some (.bA 257 [] [.one (.bl 2 0),.one (.bl 3 0)]),bX 26 [.aG 26 a],bX 28 [lu p1]],4,some ⟨⟨ζg,ay 184⟩,[26],eW (ct ζg) 9,eX (ct ζg) 9,[(0,vd 26 a),(1,vu p1),(2,vu p2),(9,va 0 0),(25,vc 1)],none⟩,false,[],[0]⟩
def TD (a:List ai) (p1 p2:Int) (p4:List Bool):AS SS:=Hz a p1 p2 0 p4
def uz (U:Sh) (c:List ai) (p1 p2 p3:Int) (z0:ai) (a:List Bool):T (List Bool⊕(Bool×Int×List Bool)):=.bf (z0.aa==p1) (.bd (dq z0.bm 8) λb=>.bf (a.length.beq 8) (.ok (.inl (a.set b true)))<|.no)<|.ok (.inl a)
def oD (U:Sh) (b:List ai) (p1 p2 p3:Int) (a:List Bool):T ((Bool×Int×List Bool)):=.ok (decide (p3<(↑b.length:Int)),p3,a)
def CV (a:List ai) (p1 p2:Int) (p4:List Bool):=bC U (uz U a p1 p2) (oD U a p1 p2) a p4
def ZR {R} (k:KX SS R) (a:List ai) (p1 p2:Int) (x:(Bool×Int×List Bool)):Option R:=(λv=>k (.exit 0) {Hz a p1 p2 p1 v.2.2 with env:=[(9,vb v.1),(0,vs .c_),(2,va 3 0),(6,vd 26 a),(7,vl a),(8,vi v.2.1)]}) x
def Ql:a7 SS:=hs (λst=>gc (ay 257 2) (gn [0] (kA 0 (st))))<|bc 2 (λst=>((dd st 1 257).bind λ_=>gv st 61 9).bind λ_=>(ez 26 (c9 st 6 0)).bind λa=>(db (dQ st 3 0)).bind λp1=>(db (lpL st 2 0)).bind λp2=>(N4 (dQ st 0 0)).bind λp4=>some (a,p1,p2,p4)) (u4 TD) (u4 (CV shut)) (λk=>w3 (ZR k))
theorem agf:LS KK γ ay ξV 257 2 Ql:=aW.pre (b5.comp (b5.gc (ay 257 2)) (b5.comp (b5.gn [0]) (b5.kA 0)))<|
 aW.bH (π:=List ai×Int×Int×List Bool) (σ:=List Bool) (aj.all AE rfl) (aO.nil) rfl 60 (w3 Hz) (λp=>p.1) (λp=>p.2.2.2) (St:=w3 (uz shut)) (F:=w3 (oD shut)) (λp=>rfl)
  (λm p i a k=>by kernel_rfl) (λp x=>⟨_,_,λ_=>rfl⟩) (λp N C A O w a b=>bQ b (t:=26) (sl:=6) rfl λv h=>bO h)
def qF (a:List Bool) (p1:Int):AS SS:=⟨[(0,vs (.fK 0 0 8)),(1,vb false),(7,vi 8),(8,vi p1)],[bX 261 [.c7 8 a]],1,none,false,[],[]⟩
def o1 (U:Sh) (b:List Bool) (a:Int):T (Int⊕Int⊕(Bool×Int)):=.bf (decide (a<8)) (.bd (dq a 8) λz0=>.bf (false==gw b z0) (.ok (.inr (.inl a)))<|.ok (.inl (δ.wrap (a+1))))<|.ok (.inr (.inr (decide (a<8),a)))
def CQ (a:List Bool) (p1:Int):=bU U (o1 U a) 1000000 p1
def ZM {R} (k:KX SS R) (a:List Bool) (x:Int⊕(Bool×Int)):Option R:=x.elim (λv=>k .ret {qF a v with env:=[(4,vi v)]}) (λv=>k (.exit 0) (xe [(9,vb v.1)] (qF a v.2)))
def Qh:a7 SS:=bc 3 (sq (hX N4 0 0) (sI 8)) (u2 qF) (u2 (CQ shut)) (λk p=>ZM k p.1)
def KH:=bo (AD shut) ay ξV 257 [Ql]
theorem KI:aX KH γ:=bw (aj.all AE rfl) ζf rfl aU (by kernel_rfl) agf
theorem agb:LS KK γ ay Tryz.f229 229 3 Qh:=
 aW.bU (π:=List Bool×Int) (σ:=Int) KI (aO.nil) rfl 60 (λp a=>qF p.1 a) (λp=>p.2) (St:=λp=>o1 shut p.1) (λp=>1000000) (λp=>rfl)
  (λm p a k=>by kernel_rfl)
def w6 (a:List ai) (p1 p2 p3 p4 p5 p6:Int):AS SS:=⟨[(0,vo 0),(2,vs (.v (.func (.func 95) (.mk []) (.mk [])))),(4,va 1 0),(8,vi p4),(9,vi p6),(10,vi p5)],[rX 89 a,bX 89 [lu p1,li p2,lu p3]],1,none,false,[],[]⟩
def o2 (b:List ai) (p1 p2 p3 p4:Int) (a:Int×Int):T ((Int×Int)⊕(Bool×Int×Int)):=.bf (decide (a.1<a.2)) (.bd (idx b (δ.wrap ((ζ.wrap (δ.wrap (a.1+a.2))).fdiv 2))) λz0=>.bd (b[(δ.wrap ((ζ.wrap (δ.wrap (a.1+a.2))).fdiv 2)).toNat]?) λd=>.bd (p0 U d (ai.mk p1 p2 p3)) λc=>.bf (decide (c<0)) (.ok (.inl (δ.wrap (δ.wrap ((ζ.wrap (δ.wrap (a.1+a.2))).fdiv 2)+1),a.2)))<|.ok (.inl (a.1,δ.wrap ((ζ.wrap (δ.wrap (a.1+a.2))).fdiv 2))))<|.ok (.inr (decide (a.1<a.2),a.2,a.1))
def CR (a:List ai) (p1 p2 p3 p4 p5 p6:Int):=bU U (o2 U a p1 p2 p3 p4) 1000000 (p6,p5)
def ZN {R} (k:KX SS R) (a:List ai) (p1 p2 p3 p4:Int) (x:(Bool×Int×Int)):Option R:=(λv=>k (.exit 0) {w6 a p1 p2 p3 p4 p1 p1 with env:=[(17,vb v.1),(16,vi v.2.1),(15,vi v.2.2),(0,vo 0),(2,vs (.v (.func (.func 95) (.mk []) (.mk [])))),(4,va 1 0),(8,vi p4),(9,vi v.2.2),(10,vi v.2.1)]}) x
def Qi:a7 SS:=bc 4 (sq (hR 0 89) (sq (hI 1 0) (sq (hI 1 1) (sq (hI 1 2) (sq (sI 8) (sq (sI 10) (sI 9))))))) (u7 w6) (u7 (CR shut)) (λk=>w5 (ZN k))
def KJ:=bo KH ay Tryz.f229 229 [Qh]
theorem KL:aX KJ γ:=bw KI Tryz.func229 rfl aU (by kernel_rfl) agb
theorem agc:LS KK γ ay Tryz.f230 230 4 Qi:=
 aW.bU (π:=List ai×Int×Int×Int×Int×Int×Int) (σ:=Int×Int) KL (aO.nil) rfl 60 (λp a=>w5 w6 p a.2 a.1) (λp=>(p.2.2.2.2.2.2,p.2.2.2.2.2.1)) (St:=w5 (o2 shut)) (λp=>1000000) (λp=>rfl)
  (λm p a k=>by kernel_rfl)
def Ww:=bo KJ ay Tryz.f230 230 [Qi]
theorem Wx:aX Ww γ:=bw KL Tryz.func230 rfl aU (by kernel_rfl) agc
def Er (l:List ai) (pid aZ:Int):T (List ai×Int×Int):=.bd (iW U l) λe=>.bf (e !=0) (.ok ([],0,330))<|.bf (decide (pid>=4294967296)) (.ok ([],0,2))<|.gd (TD l pid aZ [false,false,false,false,false,false,false,false])<|.bd (CV U l pid aZ [false,false,false,false,false,false,false,false]) λc=>.gd (qF c.2.2 0)<|.bd (CQ U c.2.2 0) λd=>.cs d (λa=>.bf (decide (a<0)) (.ok ([],0,6))<|.bf ((↑l.length:Int)==64) (.ok ([],0,6))<|.bd (nV 24 ((↑l.length:Int)) ((↑l.length:Int)) (ai.mk 0 0 0)) λz3=>.gd (w6 (cg z3 l) pid a aZ ((↑(cg z3 l).length:Int)) ((↑(cg z3 l).length:Int)) 0)<|.bd (CR U (cg z3 l) pid a aZ ((↑(cg z3 l).length:Int)) ((↑(cg z3 l).length:Int)) 0) λb=>.bf (decide (b.2.2<(↑(cg z3 l).length:Int))) (.bd (idx (cg z3 l) b.2.2) λz5=>.bd ((cg z3 l)[b.2.2.toNat]?) λf=>.bd (p0 U f (ai.mk pid a aZ)) λh=>.bd (nO (cg z3 l) b.2.2 [ai.mk pid a aZ]) λg=>.ok (g,a,0))<|.bd (nO (cg z3 l) b.2.2 [ai.mk pid a aZ]) λz5=>.ok (z5,a,0)) λa=>.ok ([],0,6)
def pR (l:List ai) (pid aZ:Int):=U.s _ (Er U l pid aZ).val
def LH:=a_ (fV KK 184 26 28 28 (pR U) (fN KK 26 3 40)) (AD U)
theorem LI:aj (LH shut) γ:=gI (rs:=[26,3,40]) AE Wx rfl rfl λl pid aZ k=>by kernel_rfl
def Et (l:List ai) (pid fd:Int):T (List ai×Int×Int):=.bd (iW U l) λc=>.bf (c !=0) (.ok ([],0,330))<|.bf (decide (pid>=4294967296)) (.ok ([],0,2))<|.bd (kH U l pid fd) λb=>.bf (!b.2) (.ok ([],0,4))<|.bd (pR U l pid b.1) λa=>.ok (a.1,a.2.1,a.2.2)
def vK (l:List ai) (pid fd:Int):=U.s _ (Et U l pid fd).val
def Aw:=a_ (fV KK 188 26 28 3 (vK U) (fN KK 26 3 40)) (LH U)
theorem Ax:aj (Aw shut) γ:=gI (rs:=[26,3,40]) LI (aj.all LI rfl) rfl rfl λl pid fd k=>by kernel_rfl
def HB (a:List ai) (p1 p2 p3 p4:Int) (p5:List ai):AS SS:=⟨[(1,vc 1),(5,vo 3),(8,vo 0),(9,vl a),(10,vi p4)],[rX 89 a,some (.bA 233 [] [.one (.bl 2 0)]),bX 89 [lu p1,li p2,lu p3],rX 89 p5],3,none,false,[],[]⟩
def TF (a:List ai) (p1 p2 p3:Int) (p5:List ai):AS SS:=HB a p1 p2 p3 0 p5
def uO (U:Sh) (c:List ai) (p1 p2 p3 p4:Int) (z0:ai) (a:List ai):T (List ai⊕(Bool×Int×List ai)):=.bd (c[p4.toNat]?) λb=>.bf (!hP b (ai.mk p1 p2 p3)) (.bd (app 24 a [b]) λz2=>.ok (.inl z2))<|.ok (.inl a)
def s8 (U:Sh) (b:List ai) (p1 p2 p3 p4:Int) (a:List ai):T ((Bool×Int×List ai)):=.ok (decide (p4<(↑b.length:Int)),p4,a)
def Dh (a:List ai) (p1 p2 p3:Int) (p5:List ai):=bC U (uO U a p1 p2 p3) (s8 U a p1 p2 p3) a p5
def aak {R} (k:KX SS R) (a:List ai) (p1 p2 p3:Int) (x:(Bool×Int×List ai)):Option R:=(λv=>k (.exit 0) {HB a p1 p2 p3 p1 v.2.2 with env:=[(11,vb v.1),(1,vc 1),(5,vo 3),(8,vo 0),(9,vl a),(10,vi v.2.1)]}) x
def QP:a7 SS:=bc 4 (gq (λst=>dd st 1 233) (sq (hR 0 89) (sq (hI 2 0) (sq (hI 2 1) (sq (hI 2 2) (hR 3 89)))))) (u5 TF) (u5 (Dh shut)) (λk=>w4 (aak k))
theorem agM:LS KK γ ay ξD 73 4 QP:=
 aW.bH (π:=List ai×Int×Int×Int×List ai) (σ:=List ai) (aj.all Ax rfl) (aO.nil) rfl 60 (w4 HB) (λp=>p.1) (λp=>p.2.2.2.2) (St:=w4 (uO shut)) (F:=w4 (s8 shut)) (λp=>rfl)
  (λm p i a k=>by kernel_rfl) (λp x=>⟨_,_,λ_=>rfl⟩) (λp N C A O w a b=>kP (j:=0) b rfl)
def qC (a:Int) (p1:Γa) (p2:List ai) (p3:Bool) (p4:Int):AS SS:=⟨[(1,vu a),(9,vo 0),(10,vb p3),(23,vd 147 p1),(24,vl p1),(25,vi p4)],[rX 89 p2],0,none,false,[],[]⟩
def uk (c:Int) (p1:Γa) (p4 z0:Int) (a:Bool×List ai):T ((Bool×List ai)⊕(Bool×Bool×Int×Int×Bool×Bool×Int×List ai)⊕(Bool×Bool×Int×List ai)):=.bd (kH U a.2 c z0) λb=>.bf (!b.2) (.ok (.inr (.inl (!b.2,b.2,b.1,z0,decide (p4<(↑p1.length:Int)),a.1,p4,a.2))))<|.gd (TF a.2 c z0 b.1 [])<|.bd (Dh U a.2 c z0 b.1 []) λd=>.ok (.inl (b.2,d.2.2))
def y_ (U:Sh) (b:Int) (p1:Γa) (p4:Int) (a:Bool×List ai):T ((Bool×Bool×Int×Int×Bool×Bool×Int×List ai)⊕(Bool×Bool×Int×List ai)):=.ok (.inr (decide (p4<(↑p1.length:Int)),a.1,p4,a.2))
def CF (a:Int) (p1:Γa) (p2:List ai) (p3:Bool):=bC U (uk U a p1) (y_ U a p1) p1 (p3,p2)
def ZA {R} (k:KX SS R) (a:Int) (p1:Γa) (x:(Bool×Bool×Int×Int×Bool×Bool×Int×List ai)⊕(Bool×Bool×Int×List ai)):Option R:=x.elim (λv=>k (.exit 0) {qC a p1 v.2.2.2.2.2.2.2 v.1 a with env:=[(38,vb v.1),(37,vb v.2.1),(10,vb v.2.1),(36,vb v.2.1),(14,vb v.2.1),(13,vu v.2.2.1),(35,vb v.2.1),(34,vu v.2.2.1),(29,.bG [.one (lu v.2.2.1),.one (.v (.bool v.2.1))]),(33,.bG [.one (lu v.2.2.1),.one (.v (.bool v.2.1))]),(32,vi v.2.2.2.1),(31,vu a),(30,vo 0),(12,vi v.2.2.2.1),(28,vi v.2.2.2.1),(27,vs (.ptr 3 v.2.2.2.1 0)),(26,vb v.2.2.2.2.1),(1,vu a),(9,vo 0),(10,vb v.2.2.2.2.2.1),(23,vd 147 p1),(24,vl p1),(25,vi v.2.2.2.2.2.2.1)]}) (λv=>k (.exit 0) {qC a p1 v.2.2.2 v.1 a with env:=[(26,vb v.1),(1,vu a),(9,vo 0),(10,vb v.2.1),(23,vd 147 p1),(24,vl p1),(25,vi v.2.2.1)]})
def P9:a7 SS:=bc 8 (sq (sI 1) (sq (sD 147 23) (sq (hR 0 89) (sX hS 10)))) (λp=>u4 qC p 0) (u4 (CF shut)) (λk p=>ZA k p.1 p.2.1)
def KM:=bo (Aw shut) ay ξD 73 [QP]
theorem KO:aX KM γ:=bw (aj.all Ax rfl) ξU rfl aU (by kernel_rfl) agM
theorem af3:LS KK γ ay Tryz.f186 186 8 P9:=
 aW.bH (π:=Int×Γa×List ai×Bool) (σ:=Bool×List ai) KO (aO.nil) rfl 60 (λp i a=>qC p.1 p.2.1 a.2 a.1 i) (λp=>p.2.1) (λp=>(p.2.2.2,p.2.2.1)) (St:=λp=>uk shut p.1 p.2.1) (F:=λp=>y_ shut p.1 p.2.1) (λp=>rfl)
  (λm p i a k=>by kernel_rfl) (by rintro p (x|x)<;>exact⟨_,_,λ_=>rfl⟩) (λp N C A O w a b=>bQ b (t:=147) (sl:=23) rfl λv h=>bO h)
def Wy:=bo KM ay Tryz.f186 186 [P9]
theorem Wz:aX Wy γ:=bw KO Tryz.func186 rfl aU (by kernel_rfl) af3
def Es (l:List ai) (pid:Int) (fds:Γa):T (List ai×Int):=.bd (iW U l) λb=>.bf (b !=0) (.ok ([],b))<|.bd (app 24 [] l) λc=>.gd (qC pid fds c true 0)<|.bd (CF U pid fds c true) λd=>.cs d (λa=>.bf (!a.2.1) (.ok ([],4))<|.ok (a.2.2.2.2.2.2.2,0)) λa=>.bf (!a.2.1) (.ok ([],4))<|.ok (a.2.2.2,0)
def vJ (l:List ai) (pid:Int) (fds:Γa):=U.s _ (Es U l pid fds).val
def LJ:=a_ (fV KK 186 26 28 147 (vJ U) (ea KK 26 40)) (Aw U)
theorem LK:aj (LJ shut) γ:=gI (rs:=[26,40]) Ax Wz rfl rfl λl pid fds k=>by kernel_rfl
end Go.Proofs.YtdhaaaeffhaadaaGreatDoor
end
section
namespace Go.Proofs.YtdhaaaeffhaadaaGreatDoor
open Go.RowKit Go.Dc Go.Vx
variable (U:Sh)
def EI (m:a1) (w:Int):T Int:=.bd (pV U m) λa=>.bf (a !=0) (.ok a)<|.bd (p9 U w) λb=>.ok b
def nE (m:a1) (w:Int):=U.s _ (EI U m w).val
def AZ:=a_ (bY KK 225 30 28 (nE U) (bD KK 40)) (LJ U)
theorem A3:aj (AZ shut) γ:=bZ (rs:=[40]) LK (aj.all LK rfl) rfl rfl λm w k=>by kernel_rfl
def wZ (a:List ByteArray) (p1 p2:Int) (p3:Γa):AS SS:=⟨[(4,va 0 0),(6,vo 1),(7,vi p2)],[bX 188 [.aG 185 a,lu p1],rX 28 p3],0,none,false,[],[]⟩
def m3 (b:List ByteArray) (p1:Int) (a:Int×Γa):T ((Int×Γa)⊕(Bool×Int×Γa)):=.bf (decide (a.1>=0)) (.bd (dn b none (some a.1) (some a.1)) λz0=>.bd (jR U z0) λc=>.bd (app 8 a.2 [c.1]) λz2=>.ok (.inl (δ.wrap (a.1-1),z2)))<|.ok (.inr (decide (a.1>=0),a.1,a.2))
def CP (a:List ByteArray) (p1 p2:Int) (p3:Γa):=bU U (m3 U a p1) 1000000 (p2,p3)
def ZL {R} (k:KX SS R) (a:List ByteArray) (p1:Int) (x:(Bool×Int×Γa)):Option R:=(λv=>k (.exit 0) {wZ a p1 p1 v.2.2 with env:=[(21,vb v.1),(20,vi v.2.1),(4,va 0 0),(6,vo 1),(7,vi v.2.1)]}) x
def Qg:a7 SS:=bc 7 (sq (hD 185 0 0) (sq (hI 0 1) (sq (sI 7) (hR 1 28)))) (u4 wZ) (u4 (CP shut)) (λk p=>ZL k p.1 p.2.1)
theorem aga:LS KK γ ay Tryz.f226 226 7 Qg:=
 aW.bU (π:=List ByteArray×Int×Int×Γa) (σ:=Int×Γa) (aj.all A3 rfl) (aO.nil) rfl 60 (λp a=>wZ p.1 p.2.1 a.1 a.2) (λp=>(p.2.2.1,p.2.2.2)) (St:=λp=>m3 shut p.1 p.2.1) (λp=>1000000) (λp=>rfl)
  (λm p a k=>by kernel_rfl)
def W1:=bo (AZ shut) ay Tryz.f226 226 [Qg]
theorem W2:aX W1 γ:=bw (aj.all A3 rfl) Tryz.func226 rfl aU (by kernel_rfl) aga
def EJ (w:Int):T (Γa×Int):=.bd (lL U w) λa=>.bf (!a.2) (.ok ([],310))<|.gd (wZ a.1.gK a.1.qe (↑a.1.gK.length:Int) [])<|.bd (CP U a.1.gK a.1.qe ((↑a.1.gK.length:Int)) []) λb=>.ok (b.2.2,0)
def GP (w:Int):=U.s _ (EJ U w).val
def A4:=a_ (cK KK 226 28 (GP U) (ea KK 76 40)) (AZ U)
theorem A5:aj (A4 shut) γ:=cR (rs:=[76,40]) A3 W2 rfl rfl λw k=>by kernel_rfl
def qK (a p1:List ByteArray) (p2:Int):AS SS:=⟨[(0,vd 185 a),(1,vd 185 p1),(12,vl a),(13,vi p2)],[],0,none,false,[],[]⟩
def uE (U:Sh) (c p1:List ByteArray) (p2:Int) (z0:ByteArray) (a:Unit):T (Unit⊕Unit⊕(Bool×Int)):=.bd (idx p1 p2) λb=>.bf (!ByteArray.toList z0==ByteArray.toList b) (.ok (.inr (.inl ())))<|.ok (.inl ())
def sM (U:Sh) (b p1:List ByteArray) (p2:Int) (a:Unit):T (Unit⊕(Bool×Int)):=.ok (.inr (decide (p2<(↑b.length:Int)),p2))
def C3 (a p1:List ByteArray):=bC U (uE U a p1) (sM U a p1) a ()
def ZZ {R} (k:KX SS R) (a p1:List ByteArray) (x:Unit⊕(Bool×Int)):Option R:=x.elim (λv=>k .ret {qK a p1 0 with env:=[(4,vb false)]}) (λv=>k (.exit 0) (xe [(14,vb v.1)] (qK a p1 v.2)))
def Qt:a7 SS:=bc 5 (sq (sD 185 0) (sD 185 1)) (λp=>u2 qK p 0) (u2 (C3 shut)) (λk=>u2 (ZZ k))
theorem ago:LS KK γ ay Tryz.f280 280 5 Qt:=
 aW.bH (aj.all A5 rfl) (aO.nil) rfl 60 (λp i a=>u2 qK p i) (λp=>p.1) (λp=>()) (St:=u2 (uE shut)) (F:=u2 (sM shut)) (λp=>rfl)
  (λm p i a k=>by kernel_rfl) (by rintro p (x|x)<;>exact⟨_,_,λ_=>rfl⟩) (λp N C A O w a b=>bQ b (t:=185) (sl:=0) rfl λv h=>bO h)
def W7:=bo (A4 shut) ay Tryz.f280 280 [Qt]
theorem W8:aX W7 γ:=bw (aj.all A5 rfl) Tryz.func280 rfl aU (by kernel_rfl) ago
def EO (a b:Int):T Bool:=.bd (lL U a) λc=>.bd (lL U b) λd=>.bf (c.2) (.bf (d.2) (.bf (decide ((↑c.1.gK.length:Int)<=(↑d.1.gK.length:Int))) (.bd (dn d.1.gK none (some (↑c.1.gK.length:Int)) none) λz2=>.bf ((↑c.1.gK.length:Int) !=(↑z2.length:Int)) (.ok false)<|.gd (qK c.1.gK z2 0)<|.bd (C3 U c.1.gK z2) λx9=>.cs x9 (λ_=>.ok false) λe=>.ok true)<|.ok false)<|.ok false)<|.ok false
def GQ (a b:Int):=U.s _ (EO U a b).val
def Bc:=a_ (bY KK 261 28 28 (GQ U) (bD KK 4)) (A4 U)
theorem Bd:aj (Bc shut) γ:=bZ (rs:=[4]) A5 W8 rfl rfl λa b k=>by kernel_rfl
def HF (a:List ax) (p1:Int) (p2:Γc):AS SS:=⟨[(3,vs (.mp 0)),(8,vd 27 a),(9,vl a),(10,vi p1)],[some (.map .u64 .u64 p2)],0,none,false,[],[]⟩
def TK (a:List ax) (p2:Γc):AS SS:=HF a 0 p2
def MW (U:Sh) (b:List ax) (p1:Int) (z0:ax) (a:(Γc)):T (((Γc))⊕(Bool×Int×(Γc))):=.ok (.inl (cL a z0.aP z0.aS))
def zf (U:Sh) (b:List ax) (p1:Int) (a:(Γc)):T ((Bool×Int×(Γc))):=.ok (decide (p1<(↑b.length:Int)),p1,a)
def Dn (a:List ax) (p2:Γc):Option ((Bool×Int×(Γc))):=bC U (MW U a) (zf U a) a p2
def aaq {R} (k:KX SS R) (a:List ax) (x:(Bool×Int×(Γc))):Option R:=(λv=>k (.exit 0) (xe [(11,vb v.1)] (HF a v.2.1 v.2.2))) x
def QV:a7 SS:=bc 4 (sq (sD 27 8) (λst=>hq st 0)) (u2 TK) (u2 (Dn shut)) (λk p=>aaq k p.1)
theorem agS:LS KK γ ay ξh 97 4 QV:=
 aW.bH (π:=List ax×(Γc)) (σ:=(Γc)) (aj.all Bd rfl) (aO.nil) rfl 60 (λp i a=>HF p.1 i a) (λp=>p.1) (λp=>p.2) (St:=λp=>MW shut p.1) (F:=λp=>zf shut p.1) (λp=>rfl)
  (λm p i a k=>by kernel_rfl) (λp x=>⟨_,_,λ_=>rfl⟩) (λp N C A O w a b=>bQ b (t:=27) (sl:=8) rfl λv h=>bO h)
def WA:=bo (Bc shut) ay ξh 97 [QV]
theorem WB:aX WA γ:=bw (aj.all Bd rfl) ξl rfl aU (by kernel_rfl) agS
def Eu (m:a1) (w:Int):T (a1×Int×Int):=
 .bd (nE U m w) λa=>
  .bf (a !=0) (
   .ok (⟨[],0⟩,0,a))<|
  .gd (TK m.ab [])<|
   .bd (Dn U m.ab []) λb=>
    .bf (match bR b.2.2 w with
|some val=>true
|none=>false) (
     .ok (⟨[],0⟩,0,5))<|
    .bf ((↑m.ab.length:Int)==16) (
     .ok (⟨[],0⟩,0,6))<|
    .bf (decide (m.aL>1073741824)) (
     .ok (⟨[],0⟩,0,6))<|
    .bd (nV 16 ((↑m.ab.length:Int)) (δ.wrap ((↑m.ab.length:Int)+1)) (ax.mk 0 0)) λz2=>
     .bd (app 16 (cg z2 m.ab) [ax.mk w m.aL]) λz3=>
      .ok (⟨z3,ζ.wrap (m.aL+1)⟩,m.aL,0)
def vL (m:a1) (w:Int):=U.s _ (Eu U m w).val
def Ay:=a_ (bY KK 189 30 28 (vL U) (fN KK 30 28 40)) (Bc U)
theorem Az:aj (Ay shut) γ:=bZ (rs:=[30,28,40]) Bd WB rfl rfl λm w k=>by kernel_rfl
def HG (a:List ax) (p1:Int) (p2:Γc):AS SS:=⟨[(3,vs (.mp 0)),(8,vd 27 a),(9,vl a),(10,vi p1)],[some (.map .u64 .u64 p2)],0,none,false,[],[]⟩
def TL (a:List ax) (p2:Γc):AS SS:=HG a 0 p2
def MX (U:Sh) (b:List ax) (p1:Int) (z0:ax) (a:(Γc)):T (((Γc))⊕(Bool×Int×(Γc))):=.ok (.inl (cL a z0.aP z0.aS))
def zg (U:Sh) (b:List ax) (p1:Int) (a:(Γc)):T ((Bool×Int×(Γc))):=.ok (decide (p1<(↑b.length:Int)),p1,a)
def Dp (a:List ax) (p2:Γc):Option ((Bool×Int×(Γc))):=bC U (MX U a) (zg U a) a p2
def aar {R} (k:KX SS R) (a:List ax) (x:(Bool×Int×(Γc))):Option R:=(λv=>k (.exit 0) (xe [(11,vb v.1)] (HG a v.2.1 v.2.2))) x
def QW:a7 SS:=bc 4 (sq (sD 27 8) (λst=>hq st 0)) (u2 TL) (u2 (Dp shut)) (λk p=>aar k p.1)
theorem agT:LS KK γ ay ξh 97 4 QW:=
 aW.bH (π:=List ax×(Γc)) (σ:=(Γc)) (aj.all Az rfl) (aO.nil) rfl 60 (λp i a=>HG p.1 i a) (λp=>p.1) (λp=>p.2) (St:=λp=>MX shut p.1) (F:=λp=>zg shut p.1) (λp=>rfl)
  (λm p i a k=>by kernel_rfl) (λp x=>⟨_,_,λ_=>rfl⟩) (λp N C A O w a b=>bQ b (t:=27) (sl:=8) rfl λv h=>bO h)
def WD:=bo (Ay shut) ay ξh 97 [QW]
theorem WE:aX WD γ:=bw (aj.all Az rfl) ξl rfl aU (by kernel_rfl) agT
def Ev (m:a1) (w:Int):T (Int×Int):=
 .bd (nE U m w) λa=>
  .bf (a !=0) (
   .ok (0,a))<|
  .gd (TL m.ab [])<|
   .bd (Dp U m.ab []) λb=>
    .bf (!match bR b.2.2 w with
 |some val=>true
 |none=>false) (
     .ok (0,4))<|
    .ok ((match bR b.2.2 w with
|some x=>x
|none=>0),0)
def vM (m:a1) (w:Int):=U.s _ (Ev U m w).val
def AA:=a_ (bY KK 191 30 28 (vM U) (ea KK 28 40)) (Ay U)
theorem AB:aj (AA shut) γ:=bZ (rs:=[28,40]) Az WE rfl rfl λm w k=>by kernel_rfl
def HH (a:List ax) (p1:Int) (p2:Γc):AS SS:=⟨[(3,vs (.mp 0)),(8,vd 27 a),(9,vl a),(10,vi p1)],[some (.map .u64 .u64 p2)],0,none,false,[],[]⟩
def TM (a:List ax) (p2:Γc):AS SS:=HH a 0 p2
def MY (U:Sh) (b:List ax) (p1:Int) (z0:ax) (a:(Γc)):T (((Γc))⊕(Bool×Int×(Γc))):=.ok (.inl (cL a z0.aP z0.aS))
def zh (U:Sh) (b:List ax) (p1:Int) (a:(Γc)):T ((Bool×Int×(Γc))):=.ok (decide (p1<(↑b.length:Int)),p1,a)
def Dq (a:List ax) (p2:Γc):Option ((Bool×Int×(Γc))):=bC U (MY U a) (zh U a) a p2
def aas {R} (k:KX SS R) (a:List ax) (x:(Bool×Int×(Γc))):Option R:=(λv=>k (.exit 0) (xe [(11,vb v.1)] (HH a v.2.1 v.2.2))) x
def QX:a7 SS:=bc 4 (sq (sD 27 8) (λst=>hq st 0)) (u2 TM) (u2 (Dq shut)) (λk p=>aas k p.1)
theorem agU:LS KK γ ay ξh 97 4 QX:=
 aW.bH (π:=List ax×(Γc)) (σ:=(Γc)) (aj.all AB rfl) (aO.nil) rfl 60 (λp i a=>HH p.1 i a) (λp=>p.1) (λp=>p.2) (St:=λp=>MY shut p.1) (F:=λp=>zh shut p.1) (λp=>rfl)
  (λm p i a k=>by kernel_rfl) (λp x=>⟨_,_,λ_=>rfl⟩) (λp N C A O w a b=>bQ b (t:=27) (sl:=8) rfl λv h=>bO h)
def xa (a:List ax) (p1 p2 p3:Int):AS SS:=⟨[(0,vs .c_),(2,va 6 0),(7,vd 27 a),(8,vl a),(9,vi p3)],[bX 30 [.aG 27 a,lu p1],bX 28 [lu p2],bX 30 [.v (.slice none 0 0),lu 0],bX 40 [li 0],some (.bA 260 [] [.one (.bl 5 0),.one (.bl 6 0)]),bX 30 [.aG 27 a,lu p1],bX 28 [lu p2]],7,some ⟨⟨ξu,ay 193⟩,[29],eW (ct ξu) 9,eX (ct ξu) 9,[(2,va 0 0),(3,va 1 0),(4,va 2 0),(5,va 3 0),(28,vc 4)],none⟩,false,[],[]⟩
def uC (c:List ax) (p1 p2 p3:Int) (z0:ax) (a:Unit):T (Unit⊕Unit⊕(Bool×Int)):=.bf (z0.aP !=p2) (.bd (GQ U p2 z0.aP) λb=>.bf (b) (.ok (.inr (.inl ())))<|.ok (.inl ()))<|.ok (.inl ())
def sK (U:Sh) (b:List ax) (p1 p2 p3:Int) (a:Unit):T (Unit⊕(Bool×Int)):=.ok (.inr (decide (p3<(↑b.length:Int)),p3))
def CX (a:List ax) (p1 p2:Int):=bC U (uC U a p1 p2) (sK U a p1 p2) a ()
def ZT {R} (k:KX SS R) (a:List ax) (p1 p2:Int) (x:Unit⊕(Bool×Int)):Option R:=x.elim (λv=>k .ret ⟨[],[bX 30 [.aG 27 a,lu p1],bX 28 [lu p2],bX 30 [.v (.slice none 0 0),lu 0],bX 40 [li 341],some (.bA 260 [] [.one (.bl 5 0),.one (.bl 6 0)]),bX 30 [.aG 27 a,lu p1],bX 28 [lu p2]],7,some ⟨⟨ξu,ay 193⟩,[29],eW (ct ξu) 9,eX (ct ξu) 9,[(2,va 0 0),(3,va 1 0),(4,va 2 0),(5,va 3 0),(28,vc 4)],some .ret⟩,false,[],[2,3]⟩) (λv=>k (.exit 0) {xa a p1 p2 p1 with env:=[(10,vb v.1),(0,vs .c_),(2,va 6 0),(7,vd 27 a),(8,vl a),(9,vi v.2)]})
def Qn:a7 SS:=bc 2 (gq (λst=>(dd st 4 260).bind λ_=>gv st 38 9) (sq (sD 27 7) (sq (hI 0 1) (hI 1 0)))) (λp=>u3 xa p 0) (u3 (CX shut)) (λk=>u3 (ZT k))
def KP:=bo (AA shut) ay ξh 97 [QX]
theorem KQ:aX KP γ:=bw (aj.all AB rfl) ξl rfl aU (by kernel_rfl) agU
theorem agi:LS KK γ ay Tryz.f260 260 2 Qn:=
 aW.bH KQ (aO.nil) rfl 60 (λp i a=>u3 xa p i) (λp=>p.1) (λp=>()) (St:=u3 (uC shut)) (F:=u3 (sK shut)) (λp=>rfl)
  (λm p i a k=>by kernel_rfl) (by rintro p (x|x)<;>exact⟨_,_,λ_=>rfl⟩) (λp N C A O w a b=>bQ b (t:=27) (sl:=7) rfl λv h=>bO h)
def Hy (a:List ax) (p1 p2:Int) (p3:List ax):AS SS:=⟨[(1,vc 0),(5,vo 2),(8,vd 27 a),(9,vl a),(10,vi p2)],[some (.bA 237 [] [.one (.bl 1 0)]),bX 28 [lu p1],rX 71 p3],2,none,false,[],[]⟩
def TC (a:List ax) (p1:Int) (p3:List ax):AS SS:=Hy a p1 0 p3
def uw (U:Sh) (c:List ax) (p1 p2:Int) (z0:ax) (a:List ax):T (List ax⊕(Bool×Int×List ax)):=.bf (z0.aP !=p1) (.bd (app 16 a [z0]) λb=>.ok (.inl b))<|.ok (.inl a)
def sF (U:Sh) (b:List ax) (p1 p2:Int) (a:List ax):T ((Bool×Int×List ax)):=.ok (decide (p2<(↑b.length:Int)),p2,a)
def CS (a:List ax) (p1:Int) (p3:List ax):=bC U (uw U a p1) (sF U a p1) a p3
def ZO {R} (k:KX SS R) (a:List ax) (p1:Int) (x:(Bool×Int×List ax)):Option R:=(λv=>k (.exit 0) {Hy a p1 p1 v.2.2 with env:=[(11,vb v.1),(1,vc 0),(5,vo 2),(8,vd 27 a),(9,vl a),(10,vi v.2.1)]}) x
def Qj:a7 SS:=bc 4 (gq (λst=>dd st 0 237) (sq (sD 27 8) (sq (hI 1 0) (hR 2 71)))) (u3 TC) (u3 (CS shut)) (λk p=>ZO k p.1 p.2.1)
def KR:=bo KP ay Tryz.f260 260 [Qn]
theorem KS:aX KR γ:=bw KQ Tryz.func260 rfl aU (by kernel_rfl) agi
theorem agd:LS KK γ ay Tryz.f236 236 4 Qj:=
 aW.bH (π:=List ax×Int×List ax) (σ:=List ax) KS (aO.nil) rfl 60 (λp i a=>Hy p.1 p.2.1 i a) (λp=>p.1) (λp=>p.2.2) (St:=λp=>uw shut p.1 p.2.1) (F:=λp=>sF shut p.1 p.2.1) (λp=>rfl)
  (λm p i a k=>by kernel_rfl) (λp x=>⟨_,_,λ_=>rfl⟩) (λp N C A O w a b=>bQ b (t:=27) (sl:=8) rfl λv h=>bO h)
def WI:=bo KR ay Tryz.f236 236 [Qj]
theorem WJ:aX WI γ:=bw KS Tryz.func236 rfl aU (by kernel_rfl) agd
def Ex (m:a1) (w:Int):T (a1×Int):=
 .bd (nE U m w) λa=>
  .bf (a !=0) (
   .ok (⟨[],0⟩,a))<|
  .gd (TM m.ab [])<|
   .bd (Dq U m.ab []) λc=>
    .bf (!match bR c.2.2 w with
 |some val=>true
 |none=>false) (
     .ok (⟨[],0⟩,4))<|
    .gd (xa m.ab m.aL w 0)<|
     .bd (CX U m.ab m.aL w) λb=>.cs b (λ_=>
      .ok (⟨[],0⟩,341)) λe=>
      .gd (TC m.ab w [])<|
       .bd (CS U m.ab w []) λd=>
        .ok (⟨d.2.2,m.aL⟩,0)
def vO (m:a1) (w:Int):=U.s _ (Ex U m w).val
def AF:=a_ (bY KK 193 30 28 (vO U) (ea KK 30 40)) (AA U)
theorem AG:aj (AF shut) γ:=bZ (rs:=[30,40]) AB WJ rfl rfl λm w k=>by kernel_rfl
def HE (a:List ax) (p1:Int) (p2:Γc):AS SS:=⟨[(3,vs (.mp 0)),(8,vd 27 a),(9,vl a),(10,vi p1)],[some (.map .u64 .u64 p2)],0,none,false,[],[]⟩
def TJ (a:List ax) (p2:Γc):AS SS:=HE a 0 p2
def MV (U:Sh) (b:List ax) (p1:Int) (z0:ax) (a:(Γc)):T (((Γc))⊕(Bool×Int×(Γc))):=.ok (.inl (cL a z0.aP z0.aS))
def ze (U:Sh) (b:List ax) (p1:Int) (a:(Γc)):T ((Bool×Int×(Γc))):=.ok (decide (p1<(↑b.length:Int)),p1,a)
def Dm (a:List ax) (p2:Γc):Option ((Bool×Int×(Γc))):=bC U (MV U a) (ze U a) a p2
def aap {R} (k:KX SS R) (a:List ax) (x:(Bool×Int×(Γc))):Option R:=(λv=>k (.exit 0) (xe [(11,vb v.1)] (HE a v.2.1 v.2.2))) x
def QU:a7 SS:=bc 4 (sq (sD 27 8) (λst=>hq st 0)) (u2 TJ) (u2 (Dm shut)) (λk p=>aap k p.1)
theorem agR:LS KK γ ay ξh 97 4 QU:=
 aW.bH (π:=List ax×(Γc)) (σ:=(Γc)) (aj.all AG rfl) (aO.nil) rfl 60 (λp i a=>HE p.1 i a) (λp=>p.1) (λp=>p.2) (St:=λp=>MV shut p.1) (F:=λp=>ze shut p.1) (λp=>rfl)
  (λm p i a k=>by kernel_rfl) (λp x=>⟨_,_,λ_=>rfl⟩) (λp N C A O w a b=>bQ b (t:=27) (sl:=8) rfl λv h=>bO h)
def qB (a:Γa) (p1:Γc) (p2 p3:Int):AS SS:=⟨[(10,vc 0),(11,vu p2),(28,vd 76 a),(29,vl a),(30,vi p3)],[some (.bA 227 [] [.one (.bl 1 0)]),bX 153 [.mp 2],some (.map .u64 .u64 p1)],0,none,false,[],[]⟩
def oX (U:Sh) (b:Γa) (p1:Γc) (p3 z0 a:Int):T (Int⊕(Bool×Int×Int×Bool×Int×Int)⊕(Bool×Int×Int)):=.bf (decide ((bR p1 z0).getD 0>0)) (.ok (.inr (.inl (decide ((bR p1 z0).getD 0>0),(bR p1 z0).getD 0,z0,decide (p3<(↑b.length:Int)),a,p3))))<|.ok (.inl ((bR p1 z0).getD 0))
def y9 (U:Sh) (b:Γa) (p1:Γc) (p3 a:Int):T ((Bool×Int×Int×Bool×Int×Int)⊕(Bool×Int×Int)):=.ok (.inr (decide (p3<(↑b.length:Int)),a,p3))
def CE (a:Γa) (p1:Γc) (p2:Int):=bC U (oX U a p1) (y9 U a p1) a p2
def Zz {R} (k:KX SS R) (a:Γa) (p1:Γc) (x:(Bool×Int×Int×Bool×Int×Int)⊕(Bool×Int×Int)):Option R:=x.elim (λv=>k (.exit 0) {qB a p1 v.2.1 v.2.1 with env:=[(38,vb v.1),(37,vu v.2.1),(11,vu v.2.1),(36,vu v.2.1),(35,vu v.2.2.1),(34,vc 0),(13,vu v.2.2.1),(33,vu v.2.2.1),(32,vs (.ptr 28 v.2.2.1 0)),(31,vb v.2.2.2.1),(10,vc 0),(11,vu v.2.2.2.2.1),(28,vd 76 a),(29,vl a),(30,vi v.2.2.2.2.2)]}) (λv=>k (.exit 0) {qB a p1 v.2.1 v.2.1 with env:=[(31,vb v.1),(10,vc 0),(11,vu v.2.1),(28,vd 76 a),(29,vl a),(30,vi v.2.2)]})
def P8:a7 SS:=bc 10 (gq (λst=>dd st 0 227) (sq (sD 76 28) (sq (λst=>hq st 2) (sI 11)))) (λp=>u3 qB p 0) (u3 (CE shut)) (λk p=>Zz k p.1 p.2.1)
def KE:=bo (AF shut) ay ξh 97 [QU]
theorem KG:aX KE γ:=bw (aj.all AG rfl) ξl rfl aU (by kernel_rfl) agR
theorem af2:LS KK γ ay Tryz.f183 183 10 P8:=
 aW.bH (π:=Γa×(Γc)×Int) (σ:=Int) KG (aO.nil) rfl 60 (λp i a=>qB p.1 p.2.1 a i) (λp=>p.1) (λp=>p.2.2) (St:=λp=>oX shut p.1 p.2.1) (F:=λp=>y9 shut p.1 p.2.1) (λp=>rfl)
  (λm p i a k=>by kernel_rfl) (by rintro p (x|x)<;>exact⟨_,_,λ_=>rfl⟩) (λp N C A O w a b=>bQ b (t:=76) (sl:=28) rfl λv h=>bO h)
def Wu:=bo KE ay Tryz.f183 183 [P8]
theorem Wv:aX Wu γ:=bw KG Tryz.func183 rfl aU (by kernel_rfl) af2
def Ep (m:a1) (w:Int):T (Int×Int):=.bd (nE U m w) λb=>.bf (b !=0) (.ok (0,b))<|.bd (GP U w) λc=>.gd (TJ m.ab [])<|.bd (Dm U m.ab []) λd=>.gd (qB c.1 d.2.2 0 0)<|.bd (CE U c.1 d.2.2 0) λe=>.cs e (λa=>.bf (a.2.1==0) (.ok (0,4))<|.ok (a.2.1,0)) λa=>.bf (a.2.1==0) (.ok (0,4))<|.ok (a.2.1,0)
def nC (m:a1) (w:Int):=U.s _ (Ep U m w).val
def Au:=a_ (bY KK 183 30 28 (nC U) (ea KK 28 40)) (AF U)
theorem Av:aj (Au shut) γ:=bZ (rs:=[28,40]) AG Wv rfl rfl λm w k=>by kernel_rfl
end Go.Proofs.YtdhaaaeffhaadaaGreatDoor
end
