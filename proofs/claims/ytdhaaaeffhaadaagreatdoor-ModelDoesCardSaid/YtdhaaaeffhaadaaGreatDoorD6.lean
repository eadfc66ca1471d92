/- A part of the proof that ModelDoes returns true for every input: the machine of values, its soundness, the program as plain functions, the law. Conditions: those of the given rows. -/
import Derived.Test.YtdhaaaeffhaadaaGreatDoorD5
import Derived.ProofKit
import Derived.OpenShut
import Derived.Lib.LaidTab
import Derived.Test.YtdhaaaeffhaadaaGreatDoorCards
import Derived.Test.YtdhaaaeffhaadaaGreatDoorTie
set_option linter.unusedVariables false
set_option linter.unusedSimpArgs false
noncomputable section
set_option maxRecDepth 1000000
set_option maxHeartbeats 12000000
open Bool renaming and_eq_true→ψ,not_true→ξ6
open Classical renaming byContradiction→ξ4
open Go.Addr renaming add_zero'→ξm
open Go.Cell renaming okWide→ξw
open Go.DataW renaming trod→ξo,TrodAll→ξq
open Go.IntKind renaming i64→ο
open Go.MemPlace renaming row→ξt
open Go.Proofs.Tryz renaming prog→γ,func24→ξi
open Go.Proofs.YtdhaaaeffhaadaaGreatDoor.Rows renaming laid_afterglow_proc_first→χ
open Go.Value renaming okWide→φ,int→ω,cells→ξc,slice→ξv
open Go.World renaming frozen?→ξp,cell?→ξu
open Int renaming toNat_natCast→ν
open List renaming take_of_length_le→ε,getElem?_eq_getElem→ζ,mem_append_right→η,mem_append_left→θ,getElem?_eq_some_iff→ι,mem_cons_self→μ,mem_cons_of_mem→ξ,mem_append→ξ0,getElem?_append_right→ξ1,drop_eq_getElem_cons→ξ3,getElem?_map→ξ5,singleton_append→ξ7,mem_of_mem_take→ξ9,map_congr_left→ξb,mem_cons→ξd,range→ξe,append_assoc→ξf,mem_flatMap→ξg,getElem_mem→ξh,range'→ξj,length_map→ξk,nil_append→ξl,take_take→ξn
open Nat renaming zero_le→κ,le_trans→ρ,not_lt_zero→τ,eq_of_beq_eq_true→υ,lt_of_lt_of_le→ξ2,zero_add→ξ8,le_refl→ξa,lt_or_ge→ξr,min_self→ξs
open Option renaming bind_some→δ,map→ξx
section
namespace Go.Dc
open Go.RowKit
structure cA (bs:Γ) (w w':World):Prop where
 os:w'.os=w.os
 tape:w'.tape=w.tape
 output:w'.output=w.output
 size:w.heap.size<=w'.heap.size
 block: ∀k,k<w.heap.size->k∉bs->w'.heap[k]? =w.heap[k]?
 cell: ∀p v,w.cell? p=some v-> ∃a,w'.cell? p=some a/\(a=v\/ ∃k n b,v= .int k n/\a= .int k b)
 wj: ∀p,p.block<w.heap.size->w'.frozen? p=w.frozen? p
theorem Nq {w:World} {p:Addr} {v:Value} (hp:w.cell? p=some v):p.block<w.heap.size:=by
 rcases ξr p.block w.heap.size with b|a
 .exact b
 .unfold ξu at hp;rw[Array.getElem?_eq_none a] at hp;cases hp
theorem cA.refl (bs:Γ) (w:World):cA bs w w:=⟨rfl,rfl,rfl,ξa _,λ_ _ _=>rfl,λ_ v h=>⟨v,h,.inl rfl⟩,λ_ _=>rfl⟩
theorem cA.trans {bs:Γ} {w w' b8:World} (h:cA bs w w') (k:cA bs w' b8):cA bs w b8:=
 ⟨k.os.trans h.os,k.tape.trans h.tape,k.output.trans h.output,ρ h.size k.size,λi d e=>(k.block i (ξ2 d h.size) e).trans (h.block i d e),λp v o=>by
  obtain⟨v1,j,b⟩:=h.cell p v o;obtain⟨v2,l,a⟩:=k.cell p v1 j;refine⟨v2,l,?_⟩;rcases b with b|⟨f,n,q,b,c⟩
  .subst b;exact a
  .rcases a with a|⟨r,m,m',a,g⟩
   .exact .inr ⟨f,n,q,b,a.trans c⟩
   .rw[c] at a;cases a;exact .inr ⟨f,n,m',b,g⟩,λp hp=>(k.wj p (ξ2 hp h.size)).trans (h.wj p hp)⟩
theorem cA.set {bs:Γ} {w:World} {p:Addr} {k:IntKind} {n b:Int} (hp:w.cell? p=some (.int k n)) (c:p.block∈bs):cA bs w (w.setCell p (.int k b)):=by
 refine⟨rfl,rfl,rfl,?_,λi _ d=>Below.heap_setCell w p _ i (λe=>d (by rw[e];exact c)),λq v a=>?_,λq _=>World.frozen?_setCell w p q _⟩
 .show w.heap.size<=(Array.modify w.heap _ _).size;simp
 .by_cases e:p=q
  .subst e;rw[hp] at a;cases a;exact⟨_,World.cell?_setCell_same w p _ hp,.inr ⟨k,n,b,rfl,rfl⟩⟩
  .exact⟨v,(World.cell?_setCell_other w p q _ e).trans a,.inl rfl⟩
theorem cA.keep {bs:Γ} {w w':World} (h:cA bs w w') {p:Addr} {v:Value} (hp:w.cell? p=some v) (b: ∀k n,v≠ .int k n):w'.cell? p=some v:=by
 obtain⟨c,a,e|⟨k,n,_,e,_⟩⟩:=h.cell p v hp
 .rw[a,e]
 .exact absurd e (b k n)
theorem cA.int {bs:Γ} {w w':World} (h:cA bs w w') {p:Addr} {k:IntKind} {n:Int} (hp:w.cell? p=some (.int k n)): ∃c,w'.cell? p=some (.int k c):=by
 obtain⟨f,a,e|⟨d,n1,n2,e,b⟩⟩:=h.cell p _ hp
 .exact⟨n,by rw[a,e]⟩
 .cases e;exact⟨n2,by rw[a,b]⟩
theorem cA.dA {bs:Γ} {b:Nat} {w W c:World} (h:cA bs w W) (f:Fr [b] W c) (l:w.heap.size<=b):cA bs w c:=by
 have a: ∀k,k<w.heap.size->c.heap[k]? =W.heap[k]? :=λk a=>f.block k (ξ2 a h.size) (by simp;omega);refine⟨f.os.trans h.os,f.tape.trans h.tape,f.output.trans h.output,ρ h.size f.size,λk d i=>(a k d).trans (h.block k d i),λp v hp=>?_,λp hp=>(World.frozen?_of_block (w:=W) (a _ hp)).trans (h.wj p hp)⟩;obtain⟨j,e,g⟩:=h.cell p v hp;exact⟨j,(Np (a _ (Nq hp))).trans e,g⟩
theorem cA.Hj {bs:Γ} {w W a:World} (h:cA bs w W) (f:Fr [] W a):cA bs w a:=h.dA (b:=w.heap.size) (f.more (by simp)) (ξa _)
theorem py {bs:Γ} {b t:Nat} {cs:Γb} {W a:World} (h:bK W b t cs) (d:cA bs W a) (c:b∉bs):bK a b t cs:=(d.block b h.lt c).trans h
def fU (n q:Nat) (bs:Γ) (w:World) (A:Option Addr) (len:Nat):Prop:= ∀j,j<len-> ∃ad,A=some ad/\ad.block∈bs/\(∃i,w.cell? (ad.add (j*n+q))=some (.int .u64 i))/\w.frozen? (ad.add (j*n+q))=false
theorem fU.jG {n q len:Nat} {bs:Γ} {w w':World} {A:Option Addr} (h:fU n q bs w A len) (b:cA bs w w'):fU n q bs w' A len:=λj f=>by
 obtain⟨ad,e,c,⟨i,a⟩,d⟩:=h j f;exact⟨ad,e,c,b.int a,(b.wj _ (Nq a)).trans d⟩
theorem fU.of {α:Type} {T:Ty α} {n q len c:Nat} {bs O:Γ} {w:World} {A:Option Addr} {xs:List α} (h:(Ty.slice T).is O w (.slice A len c) xs) (o: ∀k,k<w.heap.size->k∉O->k∈bs) (hn:T.n=n) (p: ∀(O:Γ) (cs:Γb) (x:α),T.rep O w cs x-> ∃i,cs[q]? =some (.int .u64 i)):fU n q bs w A len:=λj t=>by
 obtain⟨cs,⟨A',e,s,hl,y⟩,d⟩:=h;subst s;have d:ξv A len c= .slice A' xs.length e:=d;injection d with f g l;subst f;subst g;subst l;obtain⟨ad,es,m,r,u,v,he⟩:=y j xs[j] (ζ t);obtain⟨i,hi⟩:=p _ es _ v;have a:=he.1 q _ hi;have b:=he.2 q (ι.1 hi).1;rw[hn] at a b;rw[add_add] at a b;exact⟨ad,m,o _ r u,⟨i,a⟩,b⟩
def lB (bs:Γ) (w:World) (A:Option Addr) (n:Nat):Prop:= ∀j,j<n-> ∃ad A' a b,A=some ad/\(∃p,w.cell? (ad.add (j*2))=some (.int .u64 p))/\w.cell? (ad.add (j*2+1))=some (.slice A' a b)/\fU 1 0 bs w A' a/\a<=maxLen
theorem lB.jG {n:Nat} {bs:Γ} {w w':World} {A:Option Addr} (h:lB bs w A n) (a:cA bs w w'):lB bs w' A n:=λj i=>by
 obtain⟨ad,A',k,b,g,⟨p,c⟩,d,e,f⟩:=h j i;exact⟨ad,A',k,b,g,a.int c,a.keep d (by simp),e.jG a,f⟩
theorem lB.of {α:Type} {T:Ty α} {len c:Nat} {bs O:Γ} {w:World} {A:Option Addr} {xs:List α} (h:(Ty.slice T).is O w (.slice A len c) xs) (p: ∀k,k<w.heap.size->k∉O->k∈bs) (hn:T.n=2) (q: ∀(cs:Γb) (x:α),T.rep O w cs x-> ∃i s ys,cs=[.int .u64 i,s]/\(Ty.slice (Ty.int .u64)).is O w s ys):lB bs w A len:=λj t=>by
 obtain⟨cs,⟨A',f,r,hl,v⟩,a⟩:=h;subst r;have a:ξv A len c= .slice A' xs.length f:=a;injection a with g l m;subst g;subst l;subst m;obtain⟨ad,es,o,y,C,u,he⟩:=v j xs[j] (ζ t);obtain⟨i,s,ys,rfl,e⟩:=q es _ u;obtain⟨A2,c2,rfl,B,z⟩:=dr e;rw[hn] at he;have b:=he.1 0 _ rfl;have d:=he.1 1 _ rfl;rw[ξm] at b;rw[add_add] at d;exact⟨ad,A2,_,c2,o,⟨_,b⟩,d,fU.of e p rfl λ_ cs x h=>⟨x,by rw[show cs=[.int .u64 x] from h];rfl⟩,by omega⟩
section
variable {P:Program} {r:Option Nat} {N:Nat} {Θ:cE} {ops:Array Oper} {Q:Exit->Act->World->Prop} {l:Γ} {E:Env} {ds:List Deferred} {w:World} {i d:Nat} {o:Oper}
theorem aji (B:Θ.ok P) (y:ops[i]? =some o) (hw:want N ops E o.guard=some true) (p:o.dst=some d) (hN:Nat.blt d N=true) {t:Nat} {x:Operand} {b:TI} (f:o.op= .load t x) (z:Θ.get t=some b) (g:b.size=2) (c:b.isAgg=true)
  {ad:Addr} (A:ev E x=some (.pointer (some ad))) {u v:Value} (k:w.cell? ad=some u) (m:w.cell? (ad.add 1)=some v) (h:WO P r N ops Q l ((d,.agg #[u,v])::E) ds w):WO P r N ops Q (i::l) E ds w:=by
 refine dZ y hw p hN (by rw[f];simp) (λa s=>?_) h;have n:dJ w ad [u,v]:=λj q hu=>by
  match j with
  |0=>simp at hu;subst hu;rw[ξm];exact k
  |1=>simp at hu;subst hu;exact m
  |j+2=>simp at hu
 have:=j' (P:=P) (B.fits z) (cs:=[u,v]) (by rw[g];rfl) n (λe=>by rw[c] at e;cases e);simp only[execOp,f,Sem.run_bind,s.eval A,this,c];rfl
theorem iG (B:Θ.ok P) (q:ops[i]? =some o) (hw:want N ops E o.guard=some true) (g:o.dst=some d) (hN:Nat.blt d N=true) {t:Nat} {x y:Operand} {a b:TI} (s:o.op= .indexAddr t x y) (u:Θ.get t=some a) (f:a.tag=5) (v:Θ.get a.e=some b)
  {k:IntKind} {j m n c:Nat} {ad:Addr} (z:ev E x=some (.slice (some ad) n c)) (A:ev E y=some (.int k (j:Int))) (p:j<n) (hm:b.size=m) (h:WO P r N ops Q l ((d,.pointer (some (ad.add (j*m))))::E) ds w):WO P r N ops Q (i::l) E ds w:=
 mM B q hw g hN s u f v z A (Int.natCast_nonneg _) (by rw[ν];exact p) (by rw[ν,hm];exact h)
theorem ke {α:Type} {cs:List α} {k:Nat} {u:α} (h:cs[k]? =some u):(cs.drop k).take 1=[u]:=by
 obtain⟨a,b⟩:=ι.1 h;rw[ξ3 a,b];rfl
end
end Go.Dc
namespace Go.Proofs.YtdhaaaeffhaadaaGreatDoor
open Go.RowKit Go.Dc Go.Vx
abbrev pA (b o:Nat):Value:=.pointer (some ⟨b,o,none⟩)
abbrev iA (x:Int):Value:=.int .i64 x
abbrev uA (y:Int):Value:=.int .u64 (IntKind.u64.wrap (y+1))
abbrev lA (j n:Nat):Bool:=decide ((j:Int)<(n:Int))
set_option maxRecDepth 100000 in
set_option maxHeartbeats 8000000 in
theorem T0 {w:World} {cs:Γb} {bs:Γ} {A1 A2 I J D:Option Addr} {n1 n2 g k c c1 c2 c3 c4 c5:Nat} (S:cs[16]? =some (.slice A1 n1 c1)) (T:cs[17]? =some (.slice A2 n2 c2)) (U:cs[18]? =some (.slice I g c3)) (V:cs[20]? =some (.slice J k c4)) (Z:cs[21]? =some (.slice D c c5))
  (ak:n1<=maxLen) (Y:n2<=maxLen) (al:g<=maxLen) (an:k<=maxLen) (ao:c<=maxLen) (s1:fU 4 3 bs w A1 n1) (s2:fU 3 2 bs w A2 n2) (aq:fU 2 1 bs w I g) (ar:fU 2 1 bs w J k) (au:lB bs w D c) (X: ∀b∈bs,b<w.heap.size):
  Calls γ 24 #[.agg cs.toArray] w (λe w'=>e= .returned (.tuple #[])/\cA bs w w'):=by
 refine e8 (args:=[.agg cs.toArray]) (N:=102) ξi rfl rfl rfl (aJ (aR (l:=[0]) rfl (ld rfl rfl rfl rfl rfl rfl cs rfl (l7 _) (λa w1 R=>?_))));have n:=R.bI;have av:=R.ge;have P:a∉bs:=λh=>by have:=X _ h;omega
 have d:cA bs w w1:=(cA.refl _ _).Hj R.fr;refine aA ah [] [(1,pA a 0)] rfl ⟨rfl,trivial⟩ (aQ (aK (aJ (aJ (aR (l:=[0,1,2,3,4]) rfl (aA ah [0,1] [(1,pA a 0),(10,pA a 16)] rfl ⟨rfl,rfl,trivial⟩ (cS ah rfl rfl rfl rfl rfl rfl rfl n [.slice A1 n1 c1] (ke S) rfl (.inr rfl) (.slice A1 n1 c1) rfl (aA ah [3,4] [(1,pA a 0),(12,iA n1),(13,iA (0:Nat))] rfl ⟨rfl,rfl,rfl,trivial⟩ (aQ (aK (fx ?_)))))))))));refine kj (λm E W=> ∃j:Nat,n1-j=m/\j<=n1/\E=[(1,pA a 0),(12,iA n1),(13,iA j)]/\cA bs w W/\bK W a 36 cs) _
  [(1,pA a 0),(12,iA n1),(13,iA (0:Nat))] ⟨rfl,rfl,rfl,trivial⟩ ⟨0,rfl,κ _,rfl,d,n⟩ ?_
 clear d n;rintro m E W ⟨j,hm,F,rfl,d,n⟩;refine aJ (aR (l:=[0]) rfl (aA ah [0] [(1,pA a 0),(12,iA n1),(13,iA j),(14,.bool (lA j n1))] rfl ⟨rfl,rfl,rfl,rfl,trivial⟩ (aQ (aK (aJ ?_)))))
 by_cases f:j<n1
 case pos=>
  refine eJ rfl (decide_eq_true (by omega)) ?_;refine dh (aK ?_);obtain⟨ad,G,B,⟨y,r⟩,C⟩:=(s1.jG d) j f;refine aJ (fx (aJ (aR (l:=[0,1]) rfl (aA ah [0,1] [(1,pA a 0),(2,iA j),(12,iA n1),(13,iA j)] rfl ⟨rfl,rfl,rfl,rfl,trivial⟩ (aQ (aK (aR (l:=[0,1,2,3,4,5,6,7,8,9,10]) rfl (aA ah [0,1] [(1,pA a 0),(2,iA j),(12,iA n1),(13,iA j),(17,pA a 16)] rfl ⟨rfl,rfl,rfl,rfl,rfl,trivial⟩ (cS ah rfl rfl rfl rfl rfl rfl rfl n [.slice A1 n1 c1] (ke S) rfl (.inr rfl) (.slice A1 n1 c1) rfl ?_)))))))));rw[G];refine aA ah [3] [(1,pA a 0),(12,iA n1),(13,iA j),(18,.slice (some ad) n1 c1),(19,iA j)] rfl ⟨rfl,rfl,rfl,rfl,rfl,trivial⟩ (iG (m:=4) ah rfl rfl rfl rfl rfl rfl rfl rfl rfl rfl f rfl ?_);obtain⟨p1,x⟩: ∃p,p=ad.add (j*4):=⟨_,rfl⟩;rw[<-x];have q:p1.add 3=ad.add (j*4+3):=by rw[x];exact add_add _ _ _
  refine aA ah [5] [(1,pA a 0),(12,iA n1),(13,iA j),(18,.slice (some ad) n1 c1),(19,iA j),(21,.pointer (some (p1.add 3)))] rfl ⟨rfl,rfl,rfl,rfl,rfl,rfl,trivial⟩ (rW (v:=.int .u64 y) ah rfl rfl rfl rfl rfl rfl rfl rfl rfl (by rw[q];exact r) ?_);refine aA ah [7] [(1,pA a 0),(12,iA n1),(13,iA j),(18,.slice (some ad) n1 c1),(19,iA j),(23,uA y)] rfl ⟨rfl,rfl,rfl,rfl,rfl,rfl,trivial⟩ (iG (m:=4) ah rfl rfl rfl rfl rfl rfl rfl rfl rfl rfl f rfl ?_);rw[<-x];refine aA ah [9] [(1,pA a 0),(12,iA n1),(13,iA j),(23,uA y),(25,.pointer (some (p1.add 3)))] rfl ⟨rfl,rfl,rfl,rfl,rfl,trivial⟩ (rY (u:=.int .u64 y) ah rfl rfl rfl rfl rfl rfl rfl rfl (by rw[q];exact r) (by rw[q];exact C) ?_);have t:cA bs W (W.setCell (p1.add 3) (uA y)):=cA.set (by rw[q];exact r) (by rw[q,fA];exact B);have H:=py n t P;refine aQ (iH (aK ?_));refine aR (l:=[0,1]) rfl (aA ah [0,1] [(1,pA a 0),(12,iA n1),(13,iA (ο.wrap (j+1)))] rfl ⟨rfl,rfl,rfl,trivial⟩ (aQ ?_));exact jy (n1-(j+1)) [(1,pA a 0),(12,iA n1),(13,iA (j+1:Nat))] (by omega) ⟨rfl,rfl,congrArg (λz=>some (ω .i64 z)) (hG f ak),trivial⟩ ⟨j+1,rfl,by omega,rfl,d.trans t,H⟩
 refine eP rfl (decide_eq_false (by omega)) ?_;refine ki (fI (fI (kk ?_)));clear f F hm;refine aK (aJ (aJ (aR (l:=[0,1,2,3]) rfl (aA ah [0] [(1,pA a 0),(27,pA a 17)] rfl ⟨rfl,rfl,trivial⟩ (cS ah rfl rfl rfl rfl rfl rfl rfl n [.slice A2 n2 c2] (ke T) rfl (.inr rfl) (.slice A2 n2 c2) rfl (aA ah [2,3] [(1,pA a 0),(29,iA n2),(30,iA (0:Nat))] rfl ⟨rfl,rfl,rfl,trivial⟩ (aQ (aK (fx ?_)))))))));refine kj (λm E W=> ∃j:Nat,n2-j=m/\j<=n2/\E=[(1,pA a 0),(29,iA n2),(30,iA j)]/\cA bs w W/\bK W a 36 cs) _
  [(1,pA a 0),(29,iA n2),(30,iA (0:Nat))] ⟨rfl,rfl,rfl,trivial⟩ ⟨0,rfl,κ _,rfl,d,n⟩ ?_
 clear d n;rintro m E W ⟨j,hm,F,rfl,d,n⟩;refine aJ (aR (l:=[0]) rfl (aA ah [0] [(1,pA a 0),(29,iA n2),(30,iA j),(31,.bool (lA j n2))] rfl ⟨rfl,rfl,rfl,rfl,trivial⟩ (aQ (aK (aJ ?_)))))
 by_cases f:j<n2
 case pos=>
  refine eJ rfl (decide_eq_true (by omega)) ?_;refine dh (aK ?_);obtain⟨ad,G,B,⟨y,r⟩,C⟩:=(s2.jG d) j f;refine aJ (fx (aJ (aR (l:=[0,1]) rfl (aA ah [0,1] [(1,pA a 0),(3,iA j),(29,iA n2),(30,iA j)] rfl ⟨rfl,rfl,rfl,rfl,trivial⟩ (aQ (aK (aR (l:=[0,1,2,3,4,5,6,7,8,9]) rfl (aA ah [0] [(1,pA a 0),(3,iA j),(29,iA n2),(30,iA j),(33,pA a 17)] rfl ⟨rfl,rfl,rfl,rfl,rfl,trivial⟩ (cS ah rfl rfl rfl rfl rfl rfl rfl n [.slice A2 n2 c2] (ke T) rfl (.inr rfl) (.slice A2 n2 c2) rfl ?_)))))))));rw[G];refine aA ah [2] [(1,pA a 0),(29,iA n2),(30,iA j),(34,.slice (some ad) n2 c2),(35,iA j)] rfl ⟨rfl,rfl,rfl,rfl,rfl,trivial⟩ (iG (m:=3) ah rfl rfl rfl rfl rfl rfl rfl rfl rfl rfl f rfl ?_);obtain⟨p1,x⟩: ∃p,p=ad.add (j*3):=⟨_,rfl⟩;rw[<-x];have q:p1.add 2=ad.add (j*3+2):=by rw[x];exact add_add _ _ _
  refine aA ah [4] [(1,pA a 0),(29,iA n2),(30,iA j),(34,.slice (some ad) n2 c2),(35,iA j),(37,.pointer (some (p1.add 2)))] rfl ⟨rfl,rfl,rfl,rfl,rfl,rfl,trivial⟩ (rW (v:=.int .u64 y) ah rfl rfl rfl rfl rfl rfl rfl rfl rfl (by rw[q];exact r) ?_);refine aA ah [6] [(1,pA a 0),(29,iA n2),(30,iA j),(34,.slice (some ad) n2 c2),(35,iA j),(39,uA y)] rfl ⟨rfl,rfl,rfl,rfl,rfl,rfl,trivial⟩ (iG (m:=3) ah rfl rfl rfl rfl rfl rfl rfl rfl rfl rfl f rfl ?_);rw[<-x];refine aA ah [8] [(1,pA a 0),(29,iA n2),(30,iA j),(39,uA y),(41,.pointer (some (p1.add 2)))] rfl ⟨rfl,rfl,rfl,rfl,rfl,trivial⟩ (rY (u:=.int .u64 y) ah rfl rfl rfl rfl rfl rfl rfl rfl (by rw[q];exact r) (by rw[q];exact C) ?_);have t:cA bs W (W.setCell (p1.add 2) (uA y)):=cA.set (by rw[q];exact r) (by rw[q,fA];exact B);have H:=py n t P;refine aQ (iH (aK ?_));refine aR (l:=[0,1]) rfl (aA ah [0,1] [(1,pA a 0),(29,iA n2),(30,iA (ο.wrap (j+1)))] rfl ⟨rfl,rfl,rfl,trivial⟩ (aQ ?_));exact jy (n2-(j+1)) [(1,pA a 0),(29,iA n2),(30,iA (j+1:Nat))] (by omega) ⟨rfl,rfl,congrArg (λz=>some (ω .i64 z)) (hG f Y),trivial⟩ ⟨j+1,rfl,by omega,rfl,d.trans t,H⟩
 refine eP rfl (decide_eq_false (by omega)) ?_;refine ki (fI (fI (kk ?_)));clear f F hm;refine aK (aJ (aJ (aR (l:=[0,1,2,3,4]) rfl (aA ah [0,1] [(1,pA a 0),(44,pA a 18)] rfl ⟨rfl,rfl,trivial⟩ (cS ah rfl rfl rfl rfl rfl rfl rfl n [.slice I g c3] (ke U) rfl (.inr rfl) (.slice I g c3) rfl (aA ah [3,4] [(1,pA a 0),(46,iA g),(47,iA (0:Nat))] rfl ⟨rfl,rfl,rfl,trivial⟩ (aQ (aK (fx ?_)))))))));refine kj (λm E W=> ∃j:Nat,g-j=m/\j<=g/\E=[(1,pA a 0),(46,iA g),(47,iA j)]/\cA bs w W/\bK W a 36 cs) _
  [(1,pA a 0),(46,iA g),(47,iA (0:Nat))] ⟨rfl,rfl,rfl,trivial⟩ ⟨0,rfl,κ _,rfl,d,n⟩ ?_
 clear d n;rintro m E W ⟨j,hm,F,rfl,d,n⟩;refine aJ (aR (l:=[0]) rfl (aA ah [0] [(1,pA a 0),(46,iA g),(47,iA j),(48,.bool (lA j g))] rfl ⟨rfl,rfl,rfl,rfl,trivial⟩ (aQ (aK (aJ ?_)))))
 by_cases f:j<g
 case pos=>
  refine eJ rfl (decide_eq_true (by omega)) ?_;refine dh (aK ?_);obtain⟨ad,G,B,⟨y,r⟩,C⟩:=(aq.jG d) j f;refine aJ (fx (aJ (aR (l:=[0,1]) rfl (aA ah [0,1] [(1,pA a 0),(4,iA j),(46,iA g),(47,iA j)] rfl ⟨rfl,rfl,rfl,rfl,trivial⟩ (aQ (aK (aR (l:=[0,1,2,3,4,5,6,7,8,9,10]) rfl (aA ah [0,1] [(1,pA a 0),(4,iA j),(46,iA g),(47,iA j),(51,pA a 18)] rfl ⟨rfl,rfl,rfl,rfl,rfl,trivial⟩ (cS ah rfl rfl rfl rfl rfl rfl rfl n [.slice I g c3] (ke U) rfl (.inr rfl) (.slice I g c3) rfl ?_)))))))));rw[G];refine aA ah [3] [(1,pA a 0),(46,iA g),(47,iA j),(52,.slice (some ad) g c3),(53,iA j)] rfl ⟨rfl,rfl,rfl,rfl,rfl,trivial⟩ (iG (m:=2) ah rfl rfl rfl rfl rfl rfl rfl rfl rfl rfl f rfl ?_);obtain⟨p1,x⟩: ∃p,p=ad.add (j*2):=⟨_,rfl⟩;rw[<-x];have q:p1.add 1=ad.add (j*2+1):=by rw[x];exact add_add _ _ _
  refine aA ah [5] [(1,pA a 0),(46,iA g),(47,iA j),(52,.slice (some ad) g c3),(53,iA j),(55,.pointer (some (p1.add 1)))] rfl ⟨rfl,rfl,rfl,rfl,rfl,rfl,trivial⟩ (rW (v:=.int .u64 y) ah rfl rfl rfl rfl rfl rfl rfl rfl rfl (by rw[q];exact r) ?_);refine aA ah [7] [(1,pA a 0),(46,iA g),(47,iA j),(52,.slice (some ad) g c3),(53,iA j),(57,uA y)] rfl ⟨rfl,rfl,rfl,rfl,rfl,rfl,trivial⟩ (iG (m:=2) ah rfl rfl rfl rfl rfl rfl rfl rfl rfl rfl f rfl ?_);rw[<-x];refine aA ah [9] [(1,pA a 0),(46,iA g),(47,iA j),(57,uA y),(59,.pointer (some (p1.add 1)))] rfl ⟨rfl,rfl,rfl,rfl,rfl,trivial⟩ (rY (u:=.int .u64 y) ah rfl rfl rfl rfl rfl rfl rfl rfl (by rw[q];exact r) (by rw[q];exact C) ?_);have t:cA bs W (W.setCell (p1.add 1) (uA y)):=cA.set (by rw[q];exact r) (by rw[q,fA];exact B);have H:=py n t P;refine aQ (iH (aK ?_));refine aR (l:=[0,1]) rfl (aA ah [0,1] [(1,pA a 0),(46,iA g),(47,iA (ο.wrap (j+1)))] rfl ⟨rfl,rfl,rfl,trivial⟩ (aQ ?_));exact jy (g-(j+1)) [(1,pA a 0),(46,iA g),(47,iA (j+1:Nat))] (by omega) ⟨rfl,rfl,congrArg (λz=>some (ω .i64 z)) (hG f al),trivial⟩ ⟨j+1,rfl,by omega,rfl,d.trans t,H⟩
 refine eP rfl (decide_eq_false (by omega)) ?_;refine ki (fI (fI (kk ?_)));clear f F hm;refine aK (aJ (aJ (aR (l:=[0,1,2,3,4]) rfl (aA ah [0,1] [(1,pA a 0),(62,pA a 20)] rfl ⟨rfl,rfl,trivial⟩ (cS ah rfl rfl rfl rfl rfl rfl rfl n [.slice J k c4] (ke V) rfl (.inr rfl) (.slice J k c4) rfl (aA ah [3,4] [(1,pA a 0),(64,iA k),(65,iA (0:Nat))] rfl ⟨rfl,rfl,rfl,trivial⟩ (aQ (aK (fx ?_)))))))));refine kj (λm E W=> ∃j:Nat,k-j=m/\j<=k/\E=[(1,pA a 0),(64,iA k),(65,iA j)]/\cA bs w W/\bK W a 36 cs) _
  [(1,pA a 0),(64,iA k),(65,iA (0:Nat))] ⟨rfl,rfl,rfl,trivial⟩ ⟨0,rfl,κ _,rfl,d,n⟩ ?_
 clear d n;rintro m E W ⟨j,hm,F,rfl,d,n⟩;refine aJ (aR (l:=[0]) rfl (aA ah [0] [(1,pA a 0),(64,iA k),(65,iA j),(66,.bool (lA j k))] rfl ⟨rfl,rfl,rfl,rfl,trivial⟩ (aQ (aK (aJ ?_)))))
 by_cases f:j<k
 case pos=>
  refine eJ rfl (decide_eq_true (by omega)) ?_;refine dh (aK ?_);obtain⟨ad,G,B,⟨y,r⟩,C⟩:=(ar.jG d) j f;refine aJ (fx (aJ (aR (l:=[0,1]) rfl (aA ah [0,1] [(1,pA a 0),(5,iA j),(64,iA k),(65,iA j)] rfl ⟨rfl,rfl,rfl,rfl,trivial⟩ (aQ (aK (aR (l:=[0,1,2,3,4,5,6,7,8,9,10]) rfl (aA ah [0,1] [(1,pA a 0),(5,iA j),(64,iA k),(65,iA j),(69,pA a 20)] rfl ⟨rfl,rfl,rfl,rfl,rfl,trivial⟩ (cS ah rfl rfl rfl rfl rfl rfl rfl n [.slice J k c4] (ke V) rfl (.inr rfl) (.slice J k c4) rfl ?_)))))))));rw[G];refine aA ah [3] [(1,pA a 0),(64,iA k),(65,iA j),(70,.slice (some ad) k c4),(71,iA j)] rfl ⟨rfl,rfl,rfl,rfl,rfl,trivial⟩ (iG (m:=2) ah rfl rfl rfl rfl rfl rfl rfl rfl rfl rfl f rfl ?_);obtain⟨p1,x⟩: ∃p,p=ad.add (j*2):=⟨_,rfl⟩;rw[<-x];have q:p1.add 1=ad.add (j*2+1):=by rw[x];exact add_add _ _ _
  refine aA ah [5] [(1,pA a 0),(64,iA k),(65,iA j),(70,.slice (some ad) k c4),(71,iA j),(73,.pointer (some (p1.add 1)))] rfl ⟨rfl,rfl,rfl,rfl,rfl,rfl,trivial⟩ (rW (v:=.int .u64 y) ah rfl rfl rfl rfl rfl rfl rfl rfl rfl (by rw[q];exact r) ?_);refine aA ah [7] [(1,pA a 0),(64,iA k),(65,iA j),(70,.slice (some ad) k c4),(71,iA j),(75,uA y)] rfl ⟨rfl,rfl,rfl,rfl,rfl,rfl,trivial⟩ (iG (m:=2) ah rfl rfl rfl rfl rfl rfl rfl rfl rfl rfl f rfl ?_);rw[<-x];refine aA ah [9] [(1,pA a 0),(64,iA k),(65,iA j),(75,uA y),(77,.pointer (some (p1.add 1)))] rfl ⟨rfl,rfl,rfl,rfl,rfl,trivial⟩ (rY (u:=.int .u64 y) ah rfl rfl rfl rfl rfl rfl rfl rfl (by rw[q];exact r) (by rw[q];exact C) ?_);have t:cA bs W (W.setCell (p1.add 1) (uA y)):=cA.set (by rw[q];exact r) (by rw[q,fA];exact B);have H:=py n t P;refine aQ (iH (aK ?_));refine aR (l:=[0,1]) rfl (aA ah [0,1] [(1,pA a 0),(64,iA k),(65,iA (ο.wrap (j+1)))] rfl ⟨rfl,rfl,rfl,trivial⟩ (aQ ?_));exact jy (k-(j+1)) [(1,pA a 0),(64,iA k),(65,iA (j+1:Nat))] (by omega) ⟨rfl,rfl,congrArg (λz=>some (ω .i64 z)) (hG f an),trivial⟩ ⟨j+1,rfl,by omega,rfl,d.trans t,H⟩
 refine eP rfl (decide_eq_false (by omega)) ?_;refine ki (fI (fI (kk ?_)));clear f F hm;refine aK (aJ (aR (l:=[0,1,2,3,4]) rfl (aA ah [0,1] [(80,pA a 21)] rfl ⟨rfl,trivial⟩ (cS ah rfl rfl rfl rfl rfl rfl rfl n [.slice D c c5] (ke Z) rfl (.inr rfl) (.slice D c c5) rfl (aA ah [3,4] [(81,.slice D c c5),(82,iA c),(83,iA (0:Nat))] rfl ⟨rfl,rfl,rfl,trivial⟩ (aQ (aK (fx ?_))))))));refine kj (λm E W=> ∃j:Nat,c-j=m/\j<=c/\E=[(81,.slice D c c5),(82,iA c),(83,iA j)]/\cA bs w W) _
  [(81,.slice D c c5),(82,iA c),(83,iA (0:Nat))] ⟨rfl,rfl,rfl,trivial⟩ ⟨0,rfl,κ _,rfl,d⟩ ?_
 clear d n;rintro m E W ⟨j,hm,F,rfl,d⟩;refine aJ (aR (l:=[0]) rfl (aA ah [0] [(81,.slice D c c5),(82,iA c),(83,iA j),(84,.bool (lA j c))] rfl ⟨rfl,rfl,rfl,rfl,trivial⟩ (aQ (aK (aJ ?_)))))
 by_cases f:j<c
 case neg=>
  refine eP rfl (decide_eq_false (by omega)) ?_;refine ki ?_;exact fI (fI (kk (U7 rfl ⟨rfl,d⟩)))
 refine eJ rfl (decide_eq_true (by omega)) ?_;refine dh (aK ?_);obtain⟨ad,A',o,A,rfl,⟨p,ag⟩,af,hI,ai⟩:=(au.jG d) j f;refine aJ (fx (aJ (aR (l:=[0,1,2,3]) rfl (iG (m:=2) ah rfl rfl rfl rfl rfl rfl rfl rfl rfl rfl f rfl (aji ah rfl rfl rfl rfl rfl rfl rfl rfl rfl ag (by rw[add_add];exact af) ?_)))));refine oA ah rfl rfl rfl rfl rfl rfl [.int .u64 0,.slice none 0 0] rfl (l7 _) (λs w4 Q=>?_);have aw:=Q.ge;have ay:=d.size;refine eZ ah rfl rfl rfl rfl rfl rfl rfl Q.bI [.int .u64 p,.slice A' o A] rfl rfl (by simp[Value.oneCell']) rfl [.int .u64 p,.slice A' o A] rfl (λw5 M f5=>?_);have aa:cA bs w w5:=(d.Hj Q.fr).dA f5 (by omega);have ab:cA bs W w5:=((cA.refl bs W).Hj Q.fr).dA f5 (by omega);have aj:s∉bs:=λh=>by have:=X _ h;omega
 refine aQ (aK (aJ (aR (l:=[0,1,2,3]) rfl (aA ah [0] [(7,pA s 0),(81,.slice (some ad) c c5),(82,iA c),(83,iA j),(87,pA s 1)] rfl ⟨rfl,rfl,rfl,rfl,rfl,trivial⟩ (cS ah rfl rfl rfl rfl rfl rfl rfl M [.slice A' o A] rfl rfl (.inr rfl) (.slice A' o A) rfl (aA ah [2,3] [(7,pA s 0),(81,.slice (some ad) c c5),(82,iA c),(83,iA j),(89,iA o),(90,iA (0:Nat))] rfl ⟨rfl,rfl,rfl,rfl,rfl,rfl,trivial⟩ (aQ (aK (fx ?_)))))))));refine kj (λm E K=> ∃i:Nat,o-i=m/\i<=o/\E=[(7,pA s 0),(81,.slice (some ad) c c5),(82,iA c),(83,iA j),(89,iA o),(90,iA i)]/\cA bs w K/\fU 1 0 bs K A' o/\bK K s 82 [.int .u64 p,.slice A' o A]) _
  [(7,pA s 0),(81,.slice (some ad) c c5),(82,iA c),(83,iA j),(89,iA o),(90,iA (0:Nat))] ⟨rfl,rfl,rfl,rfl,rfl,rfl,trivial⟩ ⟨0,rfl,κ _,rfl,aa,hI.jG ab,M⟩ ?_
 rintro Y E K ⟨i,ax,hi,rfl,d,hI,M⟩;refine aJ (aR (l:=[0]) rfl (aA ah [0] [(7,pA s 0),(81,.slice (some ad) c c5),(82,iA c),(83,iA j),(89,iA o),(90,iA i),(91,.bool (lA i o))] rfl ⟨rfl,rfl,rfl,rfl,rfl,rfl,rfl,trivial⟩ (aQ (aK (aJ ?_)))))
 by_cases O:i<o
 case neg=>
  refine eP rfl (decide_eq_false (by omega)) ?_;refine ki (fI (fI (kk (iH (aK ?_)))));refine aR (l:=[0,1]) rfl (aA ah [0,1] [(81,.slice (some ad) c c5),(82,iA c),(83,iA (ο.wrap (j+1)))] rfl ⟨rfl,rfl,rfl,trivial⟩ (aQ ?_));exact jy (c-(j+1)) [(81,.slice (some ad) c c5),(82,iA c),(83,iA (j+1:Nat))] (by omega) ⟨rfl,rfl,congrArg (λz=>some (ω .i64 z)) (hG f ao),trivial⟩ ⟨j+1,rfl,by omega,rfl,d⟩
 refine eJ rfl (decide_eq_true (by omega)) ?_;refine dh (aK ?_);obtain⟨L,rfl,B,⟨y,r⟩,C⟩:=hI i O;refine aJ (fx (aJ (aR (l:=[0,1]) rfl (aA ah [0,1] [(7,pA s 0),(8,iA i),(81,.slice (some ad) c c5),(82,iA c),(83,iA j),(89,iA o),(90,iA i)] rfl ⟨rfl,rfl,rfl,rfl,rfl,rfl,rfl,trivial⟩ (aQ (aK (aR (l:=[0,1,2,3,4,5,6,7]) rfl (aA ah [0] [(7,pA s 0),(8,iA i),(81,.slice (some ad) c c5),(82,iA c),(83,iA j),(89,iA o),(90,iA i),(93,pA s 1)] rfl ⟨rfl,rfl,rfl,rfl,rfl,rfl,rfl,rfl,trivial⟩ (cS ah rfl rfl rfl rfl rfl rfl rfl M [.slice (some L) o A] rfl rfl (.inr rfl) (.slice (some L) o A) rfl (aA ah [2] [(7,pA s 0),(81,.slice (some ad) c c5),(82,iA c),(83,iA j),(89,iA o),(90,iA i),(94,.slice (some L) o A),(95,iA i)] rfl ⟨rfl,rfl,rfl,rfl,rfl,rfl,rfl,rfl,trivial⟩ (iG (m:=1) ah rfl rfl rfl rfl rfl rfl rfl rfl rfl rfl O rfl (rW (v:=.int .u64 y) ah rfl rfl rfl rfl rfl rfl rfl rfl rfl r (aA ah [5] [(7,pA s 0),(81,.slice (some ad) c c5),(82,iA c),(83,iA j),(89,iA o),(90,iA i),(94,.slice (some L) o A),(95,iA i),(98,uA y)] rfl ⟨rfl,rfl,rfl,rfl,rfl,rfl,rfl,rfl,rfl,trivial⟩ (iG (m:=1) ah rfl rfl rfl rfl rfl rfl rfl rfl rfl rfl O rfl (rY (u:=.int .u64 y) ah rfl rfl rfl rfl rfl rfl rfl rfl r C ?_)))))))))))))));have t:cA bs K (K.setCell (L.add (i*1)) (uA y)):=cA.set r (by rw[fA];exact B);have ae:=py M t aj;refine aQ (iH (aK ?_));refine aR (l:=[0,1]) rfl (aA ah [0,1] [(7,pA s 0),(81,.slice (some ad) c c5),(82,iA c),(83,iA j),(89,iA o),(90,iA (ο.wrap (i+1)))] rfl ⟨rfl,rfl,rfl,rfl,rfl,rfl,trivial⟩ (aQ ?_));exact jy (o-(i+1)) [(7,pA s 0),(81,.slice (some ad) c c5),(82,iA c),(83,iA j),(89,iA o),(90,iA (i+1:Nat))] (by omega) ⟨rfl,rfl,rfl,rfl,rfl,congrArg (λz=>some (ω .i64 z)) (hG O ai),trivial⟩ ⟨i+1,rfl,by omega,rfl,d.trans t,hI.jG t,ae⟩
end Go.Proofs.YtdhaaaeffhaadaaGreatDoor
end
section
namespace Go.Proofs.YtdhaaaeffhaadaaGreatDoor
open Go.RowKit Go.Dc Go.Vx
theorem Io {k:IntKind}:NB (Ty.int k):=λ_ h=>h
theorem adR:NB eO:=λ_ h=>h
theorem adM:NB eY:=λ_ h=>h
theorem adO:NB fH:=λ_ h=>h
theorem adQ:NB cY:=λ_ h=>h
theorem adL:NB eI:=λh a=>l5 Io (nW Io (by decide)) h a
theorem adS:NB mE:=λh a=>l5 (X:=hb .i64 16) (λ_ h=>h) (nW adR (by decide)) h a
theorem adP:NB mD:=λh a=>l5 (nW adO (by decide)) Io h a
theorem adN:NB dY:=λh a=>l5 (nW adQ (by decide)) (nW adL (by decide)) h a
theorem Rj:NB en:=λh a=>l5 adS (l5 (nW adM (by decide)) (l5 adP adN)) h a
def H2 (w:World) (b:Nat):Bool:=match w.heap[b]? with|some (.cells ..)=>true|_=>false
theorem adj {w:World} {b:Nat}:H2 w b=true↔ ∃(cur:Array Value) (t:Nat) (z:Nat×Nat),w.heap[b]? =some (.cells cur t z):=by
 unfold H2;constructor
 .intro h;split at h
  .rename_i cur t z e;exact⟨cur,t,z,e⟩
  .cases h
 .rintro ⟨cur,t,z,e⟩;rw[e]
def j0 (w w':World):Γ:=(ξe w'.heap.size).filter λb=>Nat.ble w.heap.size b&&H2 w' b
theorem kS {w w':World} {b:Nat}:b∈j0 w w'↔b<w'.heap.size/\w.heap.size<=b/\ ∃(cur:Array Value) (t:Nat) (z:Nat×Nat),w'.heap[b]? =some (.cells cur t z):=by
 unfold j0;rw[List.mem_filter,List.mem_range,ψ,Nat.ble_eq,adj]
def pB (i:Nat):Nat->List (LV SS)->Bool
 |j,[]=>Nat.beq j 22
 |j,.sc a b::r=>Nat.beq i a&&(Nat.beq j b&&pB i (j+1) r)
 |_,_=>false
def iB (ls:List (LV SS)):Option Nat:=match ls with
 | .sc i j::r=>bif pB i 0 (.sc i j::r) then some i else none
 |_=>none
def mz (g:Nat->Option (Ob SS)) (i:Nat):Option aF:=match g i with
 |some (.st t s)=>(match Nat.decEq t 36 with| .isTrue p=>some (cast (congrArg (λt=>SS.El t) p) s)| .isFalse _=>none)
 |_=>none
theorem Nt {i:Nat}: ∀ {j:Nat} {ls:List (LV SS)},pB i j ls=true->ls=(ξj j (22-j)).map (λj=>.sc i j)/\j<=22
 |j,[],h=>by
  have:=υ h;subst this;exact⟨rfl,ξa _⟩
 |j,.sc f g::r,h=>by
  simp only[pB,ψ] at h;obtain⟨a,b,c⟩:=h;have a:=υ a;have b:=υ b;subst a;subst b;obtain⟨e,d⟩:=Nt c;refine⟨?_,by omega⟩;rw[show 22-j=(22-(j+1))+1 by omega];show _=(LV.sc i j:LV SS)::(ξj (j+1) (22-(j+1))).map (λj=>.sc i j);rw[<-e]
theorem ahS {ls:List (LV SS)} {i:Nat} (h:iB ls=some i):ls=yx i 22:=by
 unfold iB at h;split at h
 .rename_i b j r;cases a:pB b 0 (.sc b j::r)<;>rw[a] at h<;>cases h;exact(Nt a).1
 .cases h
theorem T2 {g:Nat->Option (Ob SS)} {i:Nat} {s:aF} (h:mz g i=some s):g i=some (.st 36 s):=by
 unfold mz at h;split at h
 .rename_i t x a;split at h
  .rename_i p _;subst p;cases h;exact a
  .cases h
 .cases h
theorem SH {A:Pl} {O:Γ} {w:World} {i:Nat} {cs:Γb} {bs:Γ} (hp:A.pl i=some (gg cs bs)): ∀(m s:Nat) {xs:Γb},s+m=cs.length->bz A O w ((ξj s m).map λj=>(.sc i j:LV SS)) xs->xs=cs.drop s
 |0,s,xs,h,a=>by rw[List.drop_of_length_le (by omega)];exact a
 |m+1,s,xs,h,a=>by
  obtain⟨ys,zs,rfl,⟨k,g,b,u,c,e,_⟩,f⟩:=a;rw[hp] at b;cases rL (Option.some.inj b);have d:s<cs.length:=by omega
  rw[ξ3 d,SH hp m (s+1) (by omega) f,e];rw[ζ d] at c;cases c;rfl
theorem yB {A:Pl} {O:Γ} {w:World} {g:Nat->Option (Ob SS)} {ls:List (LV SS)} {i:Nat} {s:aF} {v:Value} (l:iB ls=some i) (d:mz g i=some s) (k:bS A O w g) (m:(aE.agg ls).rel A O w v):
  ∃cs bs,v= .agg cs.toArray/\g i=some (.st 36 s)/\A.pl i=some (gg cs bs)/\(∀b∈bs,b∈O/\ ∃(cur:Array Value) (t':Nat) (z:Nat×Nat),w.heap[b]? =some (.cells cur t' z))/\ ∀O',(∀b∈bs,b∉O')->OB O' w->gA.rep O' w cs s:=by
 obtain⟨p,hp,⟨cs,bs,rfl,f,_,a⟩,_⟩:=k.al i _ (T2 d);obtain⟨xs,rfl,c⟩:=m;have hlen:cs.length=22:=gA.len (a [] (λ_ _ h=>by cases h) (λb j=>by cases j));rw[ahS l] at c;have e:xs=cs:=SH hp 22 0 (by omega) c;exact⟨cs,bs,by rw[e],T2 d,hp,f,a⟩
theorem SX {A:Pl} {O b:Γ} {w:World} {nx:Nat} {cs:Γb} {bs:Γ} {s:aF} (a:en.rep b w cs s):(aE.agg (yx nx 22):aE SS).rel (A.put nx (gg cs bs)) O w (.agg cs.toArray):=
 ⟨cs,rfl,SM (Pl.gz A nx _) (λu hu=>en.one a u hu) 22 0 (by rw[en.len a];rfl)⟩
theorem acv {O O':Γ} {w:World} (b:cB KK O w) (f:0∉O'):cB KK O' w:=by
 refine⟨b.1,λg t x a=>?_⟩;have h:=b.2 g t x a;have a:qg g=some ⟨t,x⟩:=a;unfold qg at a;split at a
 .cases a;obtain⟨cs,⟨ad,es,c,i,k,j,he⟩,d⟩:=h;have e:Value.pointer (some ⟨0,0,none⟩)= .pointer (some ad):=by rw[d,c];rfl
  cases e;exact⟨cs,⟨_,es,c,i,f,j,he⟩,d⟩
 .cases a
noncomputable def Kp:gD SS:=⟨68,λys=>match ys with|[.agg ls]=>(iS 36 ls).isSome|_=>false,λys _ nx k=>match ys with
 |[.agg ls]=>(match iS 36 ls with|some s=>(lP shut s).bind λy=>k (.ret (.s (.agg (yx nx 22)))) [] [some (.st 36 y)]|none=>none)
 |_=>none⟩
theorem ajv:jC KK γ Kp:=by
 intro R ys g nx k z h;simp only[Kp] at h;split at h
 rotate_left
 .cases h
 rename_i ls;split at h
 rotate_left
 .cases h
 rename_i s x;obtain⟨y,C,c⟩:=bind_some h;refine⟨_,_,_,c,cp aU Tryz.func68 rfl,λA O w xs B u o f t=>?_⟩;obtain⟨v,_,rfl,⟨cs,rfl,hl⟩,m⟩:=B;rw[show _=[] from m];have j:gA.is O w (.agg cs.toArray) s:=⟨cs,nh A O w 36 ls s cs x hl,rfl⟩;have q:A.pl nx=none:=t 0 (by simp);refine(RV (R0:=ξe w.heap.size) (λb a=>by simpa using a) f.1 C (JQ j)).mono ?_;rintro e w' ⟨D,rfl,⟨i,d,rfl⟩,n⟩;refine⟨_,_,⟨_,rfl,SX d⟩,NS (ks:=[]) (new:=j0 w w') (bs:=j0 w w') u o q n (λb a=>⟨(kS.1 a).2.1,(kS.1 a).1⟩) (λr d=>by cases d) (λb a=>.inl a) ⟨i,_,rfl,λb a=>⟨η _ a,(kS.1 a).2.2⟩,rfl,λO' l _=>yC (Rj (λk c hn p hm=>?_) d)⟩⟩;have c:w.heap.size<=k:=by simpa using hn
 rcases ξ0.1 hm with hm|hm
 .exact l k (kS.2 ⟨‹k<w'.heap.size›,c,p⟩) hm
 .simp at hm;have:=f.1;omega
theorem abu (s:aF) (c:bq) {r:aF×bP} (h:lO shut s c=some r):d_ KK γ 67 [KK.bg 36 s,KK.bg 50 c] (.ret (.bG [KK.bg 36 r.1,KK.bg 53 r.2])):=
 om (G:=(tj shut)) (aj.all AK rfl) (kf:=λ{R} (k:Rs SS->Option R)=>(λr=>k (.ret (.bG [KK.bg 36 r.1,KK.bg 53 r.2])))) (λk=>Ud s c k) rfl (lU h) λk=>rfl
noncomputable def Ko:gD SS:=⟨67,λys=>match ys with|[.agg ls,.agg _]=>(iB ls).isSome|_=>false,λys g nx k=>match ys with
 |[.agg ls,.agg ms]=>(match iB ls with
  |some i=>(match mz g i,iS 50 ms with
   |some s,some c=>(lO shut s c).bind λr=>k (.ret (.bG [.agg (yx nx 22),KK.bg 53 r.2])) [(i,none)] [some (.st 36 r.1)]
   |_,_=>none)
  |none=>none)
 |_=>none⟩
theorem aju:jC KK γ Ko:=by
 intro R ys g nx k z h;simp only[Ko] at h;split at h
 rotate_left
 .cases h
 rename_i ls ms;split at h
 rotate_left
 .cases h
 rename_i i hi;split at h
 rotate_left
 .cases h
 rename_i s c Y p;obtain⟨y,ad,j⟩:=bind_some h;refine⟨_,_,_,j,cp aU Tryz.func67 rfl,λA O w xs ab C u K Q=>?_⟩;obtain⟨v,_,rfl,aa,v2,_,rfl,⟨l,rfl,hl⟩,I⟩:=ab;rw[show _=[] from I];obtain⟨cs,bs,rfl,D,V,M,X⟩:=yB hi Y C aa;have N:h6.is O w (.agg l.toArray) c:=⟨l,nh A O w 50 ms c l p hl,rfl⟩;have P:A.pl nx=none:=Q 0 (by simp);obtain⟨f,L⟩: ∃f,f=(ξe w.heap.size).filter λk=>!bs.contains k&&k !=0:=⟨_,rfl⟩;have m: ∀k,k∈f↔k<w.heap.size/\k∉bs/\k≠0:=λk=>by rw[L];simp
 have B:OB f w:=λk j=>((m k).1 j).1;have Z:gA.is f w (.agg cs.toArray) s:=⟨cs,X f (λb d hm=>((m b).1 hm).2.1 d) B,rfl⟩;refine((abu s c ad).2 kV f w [.agg cs.toArray,.agg l.toArray] ⟨_,_,rfl,e3 cH (t:=36) rfl rfl Z,_,_,rfl,e3 cH (t:=50) rfl rfl N,rfl⟩ B (acv K λhm=>((m 0).1 hm).2.2 rfl)).mono ?_;rintro e w' ⟨⟨af,rfl,us,rfl,a,_,rfl,o,b,_,rfl,d,J⟩,q⟩;rw[show _=[] from J];have o:gA.is f w' a y.1:=qY (A:=kV) cH (t:=36) rfl rfl o;have d:ov.is f w' b y.2:=qY (A:=kV) cH (t:=53) rfl rfl d;have d:ov.is (O++j0 w w') w' b y.2:=d;obtain⟨n,W,rfl⟩:=o;have F:=T3 W;refine⟨A.put nx (gg n (bs++j0 w w')),O++j0 w w',⟨_,rfl,[.agg n.toArray,b],rfl,_,_,rfl,SX F,b,[],rfl,e3 cH (t:=53) rfl rfl d,rfl⟩,NS (S:=SS) (t:=36) (x:=y.1) (ks:=[i]) (new:=j0 w w') (bs:=bs++j0 w w') C u P q (λb d=>⟨(kS.1 d).2.1,(kS.1 d).1⟩)
  (λr E=>by simp at E;subst E;exact⟨_,D⟩) (λb d=>?_) ⟨n,_,rfl,λb d=>?_,rfl,λO' H _=>yC (Rj (λk j hn p hm=>?_) F)⟩⟩
 .rcases ξ0.1 d with d|d
  .exact .inr ⟨i,by simp,_,_,D,V,.inr ⟨cs,bs,rfl,d⟩⟩
  .exact .inl d
 .rcases ξ0.1 d with d|d
  .obtain⟨G,ae⟩:=M b d;exact⟨θ _ G,by rw[q.block b (u b G) (by simp)];exact ae⟩
  .exact⟨η _ d,(kS.1 d).2.2⟩
 .have hn:k∉f/\k≠0:=by simpa using hn
  rcases ξ0.1 hm with hm|hm
  .refine H k ?_ hm;rcases ξr k w.heap.size with U|T
   .exact θ _ (ξ4 λd=>hn.1 ((m k).2 ⟨U,d,hn.2⟩))
   .exact η _ (kS.2 ⟨j,T,p⟩)
  .simp at hm;exact hn.2 hm
theorem RW {A:Pl} {O:Γ} {w:World} {g:Nat->Option (Ob SS)} {nx:Nat} {s y:aF} (b:OB O w) (a:cB KK O w) {v:Value} (h:en.is [] w v s) (i:eA shut s=some y):
  Calls γ 9 #[v] w (λe w'=> ∃A' O',ic A' O' w' (.ret (.s (KK.bg 36 y)):Rs SS) e/\b_ A O w g ([]++news nx []) A' O' w'):=by
 refine(RX (R0:=O++[0]) (q_ b a) a.1 i h).mono ?_;rintro e w' ⟨j,rfl,⟨c,f,rfl⟩,d⟩;exact⟨A,O,⟨_,rfl,e3 cH (t:=36) rfl rfl ⟨c,yC f,rfl⟩⟩,nn b d⟩
noncomputable def x9:gD SS:=⟨9,λys=>match ys with|[.agg ls]=>(iB ls).isSome|_=>false,λys g _ k=>match ys with
 |[.agg ls]=>(match iB ls with
  |some i=>(match mz g i with|some s=>(eA shut s).bind λy=>k (.ret (.s (KK.bg 36 y))) [] []|none=>none)
  |none=>none)
 |_=>none⟩
theorem ajw:jC KK γ x9:=by
 intro R ys g nx k z h;simp only[x9] at h;split at h
 rotate_left
 .cases h
 rename_i ls;split at h
 rotate_left
 .cases h
 rename_i i hi;split at h
 rotate_left
 .cases h
 rename_i s m;obtain⟨y,p,j⟩:=bind_some h;refine⟨_,_,_,j,cp aU Tryz.func9 rfl,λA O w xs o f d c r=>?_⟩;obtain⟨v,_,rfl,n,a⟩:=o;rw[show _=[] from a];obtain⟨cs,bs,rfl,t,u,q,l⟩:=yB hi m f n;exact RW d c (JQ ⟨cs,l [] (λ_ _ h=>by cases h) (λb e=>by cases e),rfl⟩) p
noncomputable def Kq:gD SS:=⟨9,λys=>match ys with|[.agg ls]=>(iS 1036 ls).isSome|_=>false,λys _ _ k=>match ys with
 |[.agg ls]=>(match iS 1036 ls with|some s=>(eA shut s).bind λy=>k (.ret (.s (KK.bg 36 y))) [] []|none=>none)
 |_=>none⟩
theorem ajx:jC KK γ Kq:=by
 intro R ys g nx k z h;simp only[Kq] at h;split at h
 rotate_left
 .cases h
 rename_i ls;split at h
 rotate_left
 .cases h
 rename_i s f;obtain⟨y,j,e⟩:=bind_some h;refine⟨_,_,_,e,cp aU Tryz.func9 rfl,λA O w xs i m d c l=>?_⟩;obtain⟨v,_,rfl,⟨cs,rfl,hl⟩,b⟩:=i;rw[show _=[] from b];have a:en.is O w (.agg cs.toArray) s:=⟨cs,nh A O w 1036 ls s cs f hl,rfl⟩;exact RW d c (a.tr (Tr.less (mA _))) j
noncomputable def Km:gD SS:=⟨24,λys=>match ys with|[.agg ls]=>(iB ls).isSome|_=>false,λys g _ k=>match ys with
 |[.agg ls]=>(match iB ls with
  |some i=>(match mz g i with|some _=>k (.ret (.bG [])) [(i,none)] []|none=>none)
  |none=>none)
 |_=>none⟩
theorem ah6 {w:World} {cs:Γb} {bs:Γ} {s:aF} (c: ∀b∈bs,b<w.heap.size) (h: ∀O',(∀b∈bs,b∉O')->OB O' w->gA.rep O' w cs s):Calls γ 24 #[.agg cs.toArray] w (λe w'=>e= .returned (.tuple #[])/\cA bs w w'):=by
 obtain⟨a,n⟩: ∃a,a=(ξe w.heap.size).filter λk=>!bs.contains k:=⟨_,rfl⟩;have f: ∀k,k∈a↔k<w.heap.size/\k∉bs:=λk=>by rw[n];simp
 have q:=h a (λb c hm=>((f b).1 hm).2 c) λk g=>((f k).1 g).1;have d: ∀k,k<w.heap.size->k∉a++[0]->k∈bs:=λk g hn=>ξ4 λc=>hn (θ _ ((f k).2 ⟨g,c⟩));obtain⟨_,_,rfl,⟨_,_,rfl,⟨p,rfl⟩,o⟩,_,_,rfl,hD,_,_,rfl,⟨_,_,rfl,m,rfl⟩,_,_,rfl,hN,j⟩:=q;obtain⟨v1,rfl,i1⟩:=hA rfl o;obtain⟨v2,rfl,i2⟩:=hA rfl hD;obtain⟨v3,rfl,i3⟩:=hA rfl m;obtain⟨v4,rfl,i4⟩:=hA rfl hN;obtain⟨v5,rfl,i5⟩:=hA rfl j;have i1:(Ty.slice eO).is (a++[0]) w v1 s.ar.ab:=i1;have i2:(Ty.slice eY).is (a++[0]) w v2 s.aB:=i2;have i3:(Ty.slice fH).is (a++[0]) w v3 s.au.ab:=i3;have i4:(Ty.slice cY).is (a++[0]) w v4 s.ao.an:=i4;have i5:(Ty.slice eI).is (a++[0]) w v5 s.ao.ak:=FF i5;obtain⟨A1,c1,rfl,r,A⟩:=dr i1;obtain⟨A2,c2,rfl,t,B⟩:=dr i2;obtain⟨F,c3,rfl,v,C⟩:=dr i3;obtain⟨G,c4,rfl,y,D⟩:=dr i4;obtain⟨H,c5,rfl,z,E⟩:=dr i5;have hl:(s.ar.az.map (ω .i64)).length=16:=by rw[ξk];exact p
 generalize s.ar.az.map (ω .i64)=gs at*
 have at_: ∀(k:Nat) (l:Γb),((gs++[.slice A1 s.ar.ab.length c1])++l)[17+k]? =l[k]? :=λk l=>by
  rw[ξ1 (by simp;omega)]
  congr 1
  simp;omega
 refine T0 (c1:=c1) (c2:=c2) (c3:=c3) (c4:=c4) (c5:=c5) ?_ (at_ 0 _) (at_ 1 _) (at_ 3 _) (at_ 4 _) (ρ r A) (ρ t B) (ρ v C) (ρ y D) (ρ z E)
  (fU.of i1 d rfl λO cs x h=>?_) (fU.of i2 d rfl λO cs x h=>?_) (fU.of i3 d rfl λO cs x h=>?_) (fU.of i4 d rfl λO cs x h=>?_) (lB.of i5 d rfl λcs x h=>?_) c
 .rw[List.getElem?_append_left (by simp;omega),ξ1 (by omega),hl];rfl
 .obtain⟨_,_,rfl,rfl,_,_,rfl,rfl,_,_,rfl,rfl,rfl⟩:=h;exact⟨_,rfl⟩
 .obtain⟨_,_,rfl,rfl,_,_,rfl,rfl,rfl⟩:=h;exact⟨_,rfl⟩
 .obtain⟨_,_,rfl,rfl,rfl⟩:=h;exact⟨_,rfl⟩
 .obtain⟨_,_,rfl,rfl,rfl⟩:=h;exact⟨_,rfl⟩
 .obtain⟨_,_,rfl,rfl,i⟩:=h;obtain⟨u,rfl,hu⟩:=hA rfl i;exact⟨_,u,_,rfl,hu⟩
def lj (ls:List (LV SS)) (k:Nat):Bool:=match ls[k]? with|some (.v (.slice none 0 0))=>true|_=>false
def yY (ls:List (LV SS)):Bool:=ls.all (λl=>match l with| .v _=>true|_=>false)&&(lj ls 16&&(lj ls 17&&(lj ls 18&&(lj ls 20&&lj ls 21))))
theorem oB {A:Pl} {O:Γ} {w:World}: ∀ {ls:List (LV SS)} {xs:Γb} {k:Nat},ls.all (λl=>match l with| .v _=>true|_=>false)=true->lj ls k=true->bz A O w ls xs->xs[k]? =some (.slice none 0 0)
 |[],_,k,_,h,_=>by simp[lj] at h
 |l::r,xs,k,a,h,⟨ys,zs,e,b,c⟩=>by
  simp only[List.all_cons,ψ] at a;cases l with
  |v u=>
   obtain⟨rfl,_⟩:=b;subst e;cases k with
   |zero=>
    unfold lj at h;simp only[List.getElem?_cons_zero] at h;split at h
    .rename_i e;cases e;rfl
    .cases h
   |succ k=>exact oB (k:=k) a.2 h c
  |_=>cases a.1
noncomputable def Kn:gD SS:=⟨24,λys=>match ys with|[.agg ls]=>yY ls|_=>false,λys _ _ k=>match ys with
 |[.agg ls]=>bif yY ls then k (.ret (.bG [])) [] [] else none
 |_=>none⟩
theorem ajt:jC KK γ Kn:=by
 intro R ys g nx k z h;simp only[Kn] at h;split at h
 rotate_left
 .cases h
 rename_i ls;cases f:yY ls<;>rw[f] at h
 .cases h
 refine⟨_,_,_,h,cp aU ξi rfl,λA O w xs n r l p q=>?_⟩;obtain⟨v,_,rfl,⟨cs,rfl,hl⟩,i⟩:=n;rw[show _=[] from i];unfold yY at f;simp only[ψ] at f;obtain⟨c,o,z2,z3,z4,z5⟩:=f;refine(T0 (bs:=[]) (oB c o hl) (oB c z2 hl) (oB c z3 hl) (oB c z4 hl) (oB c z5 hl) (κ _) (κ _) (κ _) (κ _) (κ _)
  (λj a=>absurd a (τ j)) (λj a=>absurd a (τ j)) (λj a=>absurd a (τ j)) (λj a=>absurd a (τ j)) (λj a=>absurd a (τ j)) (λb m=>by cases m)).mono ?_
 rintro e w' ⟨rfl,d⟩;exact⟨A,O,⟨_,rfl,[],rfl,rfl⟩,nn l ⟨d.os,d.tape,d.output,d.size,d.block⟩⟩
theorem ajs:jC KK γ Km:=by
 intro R ys g nx k z h;simp only[Km] at h;split at h
 rotate_left
 .cases h
 rename_i ls;split at h
 rotate_left
 .cases h
 rename_i i hi;split at h
 rotate_left
 .cases h
 rename_i s r;refine⟨_,_,_,h,cp aU ξi rfl,λA O w xs u n d B C=>?_⟩;obtain⟨v,_,rfl,t,m⟩:=u;rw[show _=[] from m];obtain⟨cs,bs,rfl,o,p,f,q⟩:=yB hi r n t;refine(ah6 (λb a=>d b (f b a).1) q).mono ?_;rintro e w' ⟨rfl,c⟩;refine⟨A,_,⟨_,rfl,[],rfl,rfl⟩,abI d o p (λb=>⟨?_,λa=>.inr ⟨cs,bs,rfl,a⟩⟩) (λb a=>(f b a).1) ⟨c.os,c.tape,c.output,c.size,c.block⟩⟩;rintro (a|⟨y,x,j,l⟩)
 .cases a
 .cases rL j;exact l
theorem abr (s y:aF) {r:Bool} (h:eV shut s y=some r):d_ KK γ 13 [KK.bg 36 s,KK.bg 36 y] (.ret (.s (KK.bg 4 r))):=
 om (G:=(tq shut)) (aj.all BD rfl) (kf:=λ{R} (k:Rs SS->Option R)=>(λr=>k (.ret (.s (KK.bg 4 r))))) (λk=>Ub s y k) rfl (lU h) λk=>rfl
noncomputable def mO:gD SS:=⟨13,λys=>match ys with|[.agg ls,.agg _]=>(iB ls).isSome|_=>false,λys g _ k=>match ys with
 |[.agg ls,.agg ms]=>(match iB ls with
  |some i=>(match mz g i,iS 36 ms with
   |some s,some y=>(eV shut s y).bind λr=>k (.ret (.s (KK.bg 4 r))) [] []
   |_,_=>none)
  |none=>none)
 |_=>none⟩
theorem ajr:jC KK γ mO:=by
 intro R ys g nx k z h;simp only[mO] at h;split at h
 rotate_left
 .cases h
 rename_i ls ms;split at h
 rotate_left
 .cases h
 rename_i i hi;split at h
 rotate_left
 .cases h
 rename_i s c F B;obtain⟨r,J,d⟩:=bind_some h;refine⟨_,_,_,d,cp aU Tryz.func13 rfl,λA O w xs I D l u M=>?_⟩;obtain⟨v,_,rfl,H,v2,_,rfl,⟨f,rfl,hl⟩,p⟩:=I;rw[show _=[] from p];obtain⟨cs,bs,rfl,N,P,L,E⟩:=yB hi F D H;have C:gA.is O w (.agg f.toArray) c:=⟨f,nh A O w 36 ms c f B hl,rfl⟩;obtain⟨a,x⟩: ∃a,a=O.filter λk=>!bs.contains k:=⟨_,rfl⟩;have n: ∀k,k∈a↔k∈O/\k∉bs:=λk=>by rw[x];simp
 have j:Dc.Sub a O:=λk d=>((n k).1 d).1;have m:OB a w:=λk d=>l k (j k d);have G:gA.is a w (.agg cs.toArray) s:=⟨cs,E a (λb y hm=>((n b).1 hm).2 y) m,rfl⟩;refine((abr s c J).2 kV a w [.agg cs.toArray,.agg f.toArray] ⟨_,_,rfl,e3 cH (t:=36) rfl rfl G,_,_,rfl,e3 cH (t:=36) rfl rfl (C.tr (Tr.less j)),rfl⟩ m (u.tr (Tr.less j))).mono ?_;rintro e w' ⟨⟨K,rfl,o⟩,q⟩;exact⟨A,O,⟨K,rfl,o⟩,nn l q⟩
noncomputable def Mv (U:Sh):bW SS:= {(K7 U) with X:=[x9,Kq,Kp,Ko,mO,Km,Kn]}
theorem Mw:aj (Mv shut) γ:=aj.ajy X7 λc a=>by
 simp only[ξd,List.not_mem_nil,or_false] at a;rcases a with rfl|rfl|rfl|rfl|rfl|rfl|rfl
 .exact ajw
 .exact ajx
 .exact ajv
 .exact aju
 .exact ajr
 .exact ajs
 .exact ajt
end Go.Proofs.YtdhaaaeffhaadaaGreatDoor
end
section
namespace Go.Proofs.YtdhaaaeffhaadaaGreatDoor
open Go.RowKit Go.Dc Go.Vx
variable (U:Sh)
def HA (a:Bool) (p1:List bq) (p2:Γa) (p3:List ag) (p4:List ai) (p5:List ax) (p6:Int) (p7:List av) (p8:List aq) (q:Γa) (b:List ag) (c:List ai) (d:List ax) (e:Int) (f:List av) (g:List aq) (h:Γa) (i:List ag) (j:List ai) (k:List ax) (l:Int) (m:List av) (n:List aq) (o:Int) (p:List bP):AS SS:=⟨[(1,vo 0),(2,va 1 0),(5,va 2 0),(6,vb a),(7,va 3 0),(8,vo 4),(37,vo 0),(38,vl p1),(39,vi o)],[rX 50 p1,bX 36 [.br .i64 16 p2,.aG 1023 p3,.aG 1026 p4,.aG 1027 p5,lu p6,.aG 1031 p7,.aG 1032 p8],bX 36 [.br .i64 16 q,.aG 23 b,.aG 26 c,.aG 27 d,lu e,.aG 31 f,.aG 32 g],bX 36 [.br .i64 16 h,.aG 23 i,.aG 26 j,.aG 27 k,lu l,.aG 31 m,.aG 32 n],rX 53 p],0,none,false,[],[]⟩
def TE (a:Bool) (p1:List bq) (p2:Γa) (p3:List ag) (p4:List ai) (p5:List ax) (p6:Int) (p7:List av) (p8:List aq) (p:Γa) (b:List ag) (c:List ai) (d:List ax) (e:Int) (f:List av) (g:List aq) (h:Γa) (i:List ag) (j:List ai) (k:List ax) (l:Int) (m:List av) (n:List aq) (o:List bP):AS SS:=HA a p1 p2 p3 p4 p5 p6 p7 p8 p b c d e f g h i j k l m n 0 o
def kv (k:Bool) (p1:List bq) (p2:Γa) (p3:List ag) (p4:List ai) (p5:List ax) (p6:Int) (p7:List av) (p8:List aq) (l:Int) (z0:bq) (a:tS (tS (List bP))):T ((tS (tS (List bP)))⊕Unit⊕(Bool×Int×tS (tS (List bP)))):=.bd (p1[l.toNat]?) λd=>.bd (eA U (aF.mk (aV.mk a.1 a.2.1) a.2.2.1 (a1.mk a.2.2.2.1 a.2.2.2.2.1) (aC.mk a.2.2.2.2.2.1 a.2.2.2.2.2.2.1))) λz2=>.bd (hT U (aF.mk (aV.mk a.1 a.2.1) a.2.2.1 (a1.mk a.2.2.2.1 a.2.2.2.2.1) (aC.mk a.2.2.2.2.2.1 a.2.2.2.2.2.2.1))) λz3=>.bf (z3 !=0) (.bf (k) (.bd (eA U (aF.mk (aV.mk a.1 a.2.1) a.2.2.1 (a1.mk a.2.2.2.1 a.2.2.2.2.1) (aC.mk a.2.2.2.2.2.1 a.2.2.2.2.2.2.1))) λz4=>.bd (vT U z4 d) λz5=>.bf (k) (.bd (eV U z5.fst (aF.mk (aV.mk a.1 a.2.1) a.2.2.1 (a1.mk a.2.2.2.1 a.2.2.2.2.1) (aC.mk a.2.2.2.2.2.1 a.2.2.2.2.2.2.1))) λi=>.bf (z3 !=0) (.ok (.inr (.inl ())))<|.bf (!iU (bP.mk 0 0) z5.snd) (.ok (.inr (.inl ())))<|.bd (eV U (aF.mk (aV.mk [0,0,0,0,0,0,0,0,0,0,0,0,0,0,0,0] []) [] (a1.mk [] 0) (aC.mk [] [])) z5.fst) λg=>.bf (!g) (.ok (.inr (.inl ())))<|.bd (il U (aF.mk (aV.mk a.1 a.2.1) a.2.2.1 (a1.mk a.2.2.2.1 a.2.2.2.2.1) (aC.mk a.2.2.2.2.2.1 a.2.2.2.2.2.2.1)) d) λf=>.bf (!f==!i) (.ok (.inr (.inl ())))<|.bd (jS U d) λz9=>.bd (jT U d) λb=>.bf (!z9==b) (.ok (.inr (.inl ())))<|.bd (eA U (aF.mk (aV.mk [0,0,0,0,0,0,0,0,0,0,0,0,0,0,0,0] []) [] (a1.mk [] 0) (aC.mk [] []))) λc=>.bd (eV U (aF.mk (aV.mk a.1 a.2.1) a.2.2.1 (a1.mk a.2.2.2.1 a.2.2.2.2.1) (aC.mk a.2.2.2.2.2.1 a.2.2.2.2.2.2.1)) z2) λz12=>.bf (!z12) (.ok (.inr (.inl ())))<|.bf (z3==0) (.bd (eA U c) λe=>.bd (app 16 a.2.2.2.2.2.2.2.2.2.2.2.2.2.2 [bP.mk 0 0]) λh=>.ok (.inl (c.ar.az,c.ar.ab,c.aB,c.au.ab,c.au.aL,c.ao.an,c.ao.ak,e.ar.az,e.ar.ab,e.aB,e.au.ab,e.au.aL,e.ao.an,e.ao.ak,h)))<|.ok (.inl (a.1,a.2.1,a.2.2.1,a.2.2.2.1,a.2.2.2.2.1,a.2.2.2.2.2.1,a.2.2.2.2.2.2.1,a.2.2.2.2.2.2.2.1,a.2.2.2.2.2.2.2.2.1,a.2.2.2.2.2.2.2.2.2.1,a.2.2.2.2.2.2.2.2.2.2.1,a.2.2.2.2.2.2.2.2.2.2.2.1,a.2.2.2.2.2.2.2.2.2.2.2.2.1,a.2.2.2.2.2.2.2.2.2.2.2.2.2.1,a.2.2.2.2.2.2.2.2.2.2.2.2.2.2)))<|.bf (z3 !=0) (.ok (.inr (.inl ())))<|.bf (!iU (bP.mk 0 0) z5.snd) (.ok (.inr (.inl ())))<|.bd (eV U (aF.mk (aV.mk [0,0,0,0,0,0,0,0,0,0,0,0,0,0,0,0] []) [] (a1.mk [] 0) (aC.mk [] [])) z5.fst) λi=>.bf (!i) (.ok (.inr (.inl ())))<|.bd (il U (aF.mk (aV.mk a.1 a.2.1) a.2.2.1 (a1.mk a.2.2.2.1 a.2.2.2.2.1) (aC.mk a.2.2.2.2.2.1 a.2.2.2.2.2.2.1)) d) λg=>.bf (!g==false) (.ok (.inr (.inl ())))<|.bd (jS U d) λf=>.bd (jT U d) λz9=>.bf (!f==z9) (.ok (.inr (.inl ())))<|.bd (eA U (aF.mk (aV.mk [0,0,0,0,0,0,0,0,0,0,0,0,0,0,0,0] []) [] (a1.mk [] 0) (aC.mk [] []))) λb=>.bd (eV U (aF.mk (aV.mk a.1 a.2.1) a.2.2.1 (a1.mk a.2.2.2.1 a.2.2.2.2.1) (aC.mk a.2.2.2.2.2.1 a.2.2.2.2.2.2.1)) z2) λc=>.bf (!c) (.ok (.inr (.inl ())))<|.bf (z3==0) (.bd (eA U b) λz12=>.bd (app 16 a.2.2.2.2.2.2.2.2.2.2.2.2.2.2 [bP.mk 0 0]) λe=>.ok (.inl (b.ar.az,b.ar.ab,b.aB,b.au.ab,b.au.aL,b.ao.an,b.ao.ak,z12.ar.az,z12.ar.ab,z12.aB,z12.au.ab,z12.au.aL,z12.ao.an,z12.ao.ak,e)))<|.ok (.inl (a.1,a.2.1,a.2.2.1,a.2.2.2.1,a.2.2.2.2.1,a.2.2.2.2.2.1,a.2.2.2.2.2.2.1,a.2.2.2.2.2.2.2.1,a.2.2.2.2.2.2.2.2.1,a.2.2.2.2.2.2.2.2.2.1,a.2.2.2.2.2.2.2.2.2.2.1,a.2.2.2.2.2.2.2.2.2.2.2.1,a.2.2.2.2.2.2.2.2.2.2.2.2.1,a.2.2.2.2.2.2.2.2.2.2.2.2.2.1,a.2.2.2.2.2.2.2.2.2.2.2.2.2.2)))<|.bf (k) (.bd (eV U (aF.mk (aV.mk [0,0,0,0,0,0,0,0,0,0,0,0,0,0,0,0] []) [] (a1.mk [] 0) (aC.mk [] [])) (aF.mk (aV.mk a.1 a.2.1) a.2.2.1 (a1.mk a.2.2.2.1 a.2.2.2.2.1) (aC.mk a.2.2.2.2.2.1 a.2.2.2.2.2.2.1))) λz4=>.bf (z3 !=360) (.ok (.inr (.inl ())))<|.bd (eV U (aF.mk (aV.mk [0,0,0,0,0,0,0,0,0,0,0,0,0,0,0,0] []) [] (a1.mk [] 0) (aC.mk [] [])) (aF.mk (aV.mk [0,0,0,0,0,0,0,0,0,0,0,0,0,0,0,0] []) [] (a1.mk [] 0) (aC.mk [] []))) λz5=>.bf (!z5) (.ok (.inr (.inl ())))<|.bd (il U (aF.mk (aV.mk a.1 a.2.1) a.2.2.1 (a1.mk a.2.2.2.1 a.2.2.2.2.1) (aC.mk a.2.2.2.2.2.1 a.2.2.2.2.2.2.1)) d) λi=>.bf (!i==!z4) (.ok (.inr (.inl ())))<|.bd (jS U d) λg=>.bd (jT U d) λf=>.bf (!g==f) (.ok (.inr (.inl ())))<|.bd (eA U (aF.mk (aV.mk [0,0,0,0,0,0,0,0,0,0,0,0,0,0,0,0] []) [] (a1.mk [] 0) (aC.mk [] []))) λz9=>.bd (eV U (aF.mk (aV.mk a.1 a.2.1) a.2.2.1 (a1.mk a.2.2.2.1 a.2.2.2.2.1) (aC.mk a.2.2.2.2.2.1 a.2.2.2.2.2.2.1)) z2) λb=>.bf (!b) (.ok (.inr (.inl ())))<|.bf (z3==0) (.bd (eA U z9) λc=>.bd (app 16 a.2.2.2.2.2.2.2.2.2.2.2.2.2.2 [bP.mk 0 0]) λz12=>.ok (.inl (z9.ar.az,z9.ar.ab,z9.aB,z9.au.ab,z9.au.aL,z9.ao.an,z9.ao.ak,c.ar.az,c.ar.ab,c.aB,c.au.ab,c.au.aL,c.ao.an,c.ao.ak,z12)))<|.ok (.inl (a.1,a.2.1,a.2.2.1,a.2.2.2.1,a.2.2.2.2.1,a.2.2.2.2.2.1,a.2.2.2.2.2.2.1,a.2.2.2.2.2.2.2.1,a.2.2.2.2.2.2.2.2.1,a.2.2.2.2.2.2.2.2.2.1,a.2.2.2.2.2.2.2.2.2.2.1,a.2.2.2.2.2.2.2.2.2.2.2.1,a.2.2.2.2.2.2.2.2.2.2.2.2.1,a.2.2.2.2.2.2.2.2.2.2.2.2.2.1,a.2.2.2.2.2.2.2.2.2.2.2.2.2.2)))<|.bf (z3 !=360) (.ok (.inr (.inl ())))<|.bd (eV U (aF.mk (aV.mk [0,0,0,0,0,0,0,0,0,0,0,0,0,0,0,0] []) [] (a1.mk [] 0) (aC.mk [] [])) (aF.mk (aV.mk [0,0,0,0,0,0,0,0,0,0,0,0,0,0,0,0] []) [] (a1.mk [] 0) (aC.mk [] []))) λz4=>.bf (!z4) (.ok (.inr (.inl ())))<|.bd (il U (aF.mk (aV.mk a.1 a.2.1) a.2.2.1 (a1.mk a.2.2.2.1 a.2.2.2.2.1) (aC.mk a.2.2.2.2.2.1 a.2.2.2.2.2.2.1)) d) λz5=>.bf (!z5==false) (.ok (.inr (.inl ())))<|.bd (jS U d) λi=>.bd (jT U d) λg=>.bf (!i==g) (.ok (.inr (.inl ())))<|.bd (eA U (aF.mk (aV.mk [0,0,0,0,0,0,0,0,0,0,0,0,0,0,0,0] []) [] (a1.mk [] 0) (aC.mk [] []))) λf=>.bd (eV U (aF.mk (aV.mk a.1 a.2.1) a.2.2.1 (a1.mk a.2.2.2.1 a.2.2.2.2.1) (aC.mk a.2.2.2.2.2.1 a.2.2.2.2.2.2.1)) z2) λz9=>.bf (!z9) (.ok (.inr (.inl ())))<|.bf (z3==0) (.bd (eA U f) λb=>.bd (app 16 a.2.2.2.2.2.2.2.2.2.2.2.2.2.2 [bP.mk 0 0]) λc=>.ok (.inl (f.ar.az,f.ar.ab,f.aB,f.au.ab,f.au.aL,f.ao.an,f.ao.ak,b.ar.az,b.ar.ab,b.aB,b.au.ab,b.au.aL,b.ao.an,b.ao.ak,c)))<|.ok (.inl (a.1,a.2.1,a.2.2.1,a.2.2.2.1,a.2.2.2.2.1,a.2.2.2.2.2.1,a.2.2.2.2.2.2.1,a.2.2.2.2.2.2.2.1,a.2.2.2.2.2.2.2.2.1,a.2.2.2.2.2.2.2.2.2.1,a.2.2.2.2.2.2.2.2.2.2.1,a.2.2.2.2.2.2.2.2.2.2.2.1,a.2.2.2.2.2.2.2.2.2.2.2.2.1,a.2.2.2.2.2.2.2.2.2.2.2.2.2.1,a.2.2.2.2.2.2.2.2.2.2.2.2.2.2)))<|.bd (lP U (aF.mk (aV.mk a.1 a.2.1) a.2.2.1 (a1.mk a.2.2.2.1 a.2.2.2.2.1) (aC.mk a.2.2.2.2.2.1 a.2.2.2.2.2.2.1))) λz4=>.bd (lO U z4 d) λz5=>.bf (k) (.bd (eA U (aF.mk (aV.mk a.1 a.2.1) a.2.2.1 (a1.mk a.2.2.2.1 a.2.2.2.2.1) (aC.mk a.2.2.2.2.2.1 a.2.2.2.2.2.2.1))) λi=>.bd (vT U i d) λg=>.bf (k) (.bd (eV U g.fst (aF.mk (aV.mk a.1 a.2.1) a.2.2.1 (a1.mk a.2.2.2.1 a.2.2.2.2.1) (aC.mk a.2.2.2.2.2.1 a.2.2.2.2.2.2.1))) λf=>.bf (!iU z5.snd g.snd) (.ok (.inr (.inl ())))<|.bd (eV U z5.fst g.fst) λz9=>.bf (!z9) (.ok (.inr (.inl ())))<|.bd (il U (aF.mk (aV.mk a.1 a.2.1) a.2.2.1 (a1.mk a.2.2.2.1 a.2.2.2.2.1) (aC.mk a.2.2.2.2.2.1 a.2.2.2.2.2.2.1)) d) λb=>.bf (!b==!f) (.ok (.inr (.inl ())))<|.bd (jS U d) λc=>.bd (jT U d) λz12=>.bf (!c==z12) (.ok (.inr (.inl ())))<|.bd (eA U z5.fst) λe=>.bd (eV U (aF.mk (aV.mk a.1 a.2.1) a.2.2.1 (a1.mk a.2.2.2.1 a.2.2.2.2.1) (aC.mk a.2.2.2.2.2.1 a.2.2.2.2.2.2.1)) z2) λh=>.bf (!h) (.ok (.inr (.inl ())))<|.bd (eA U e) λj=>.bd (app 16 a.2.2.2.2.2.2.2.2.2.2.2.2.2.2 [z5.snd]) λm=>.ok (.inl (e.ar.az,e.ar.ab,e.aB,e.au.ab,e.au.aL,e.ao.an,e.ao.ak,j.ar.az,j.ar.ab,j.aB,j.au.ab,j.au.aL,j.ao.an,j.ao.ak,m)))<|.bf (!iU z5.snd g.snd) (.ok (.inr (.inl ())))<|.bd (eV U z5.fst g.fst) λf=>.bf (!f) (.ok (.inr (.inl ())))<|.bd (il U (aF.mk (aV.mk a.1 a.2.1) a.2.2.1 (a1.mk a.2.2.2.1 a.2.2.2.2.1) (aC.mk a.2.2.2.2.2.1 a.2.2.2.2.2.2.1)) d) λz9=>.bf (!z9==false) (.ok (.inr (.inl ())))<|.bd (jS U d) λb=>.bd (jT U d) λc=>.bf (!b==c) (.ok (.inr (.inl ())))<|.bd (eA U z5.fst) λz12=>.bd (eV U (aF.mk (aV.mk a.1 a.2.1) a.2.2.1 (a1.mk a.2.2.2.1 a.2.2.2.2.1) (aC.mk a.2.2.2.2.2.1 a.2.2.2.2.2.2.1)) z2) λe=>.bf (!e) (.ok (.inr (.inl ())))<|.bd (eA U z12) λh=>.bd (app 16 a.2.2.2.2.2.2.2.2.2.2.2.2.2.2 [z5.snd]) λj=>.ok (.inl (z12.ar.az,z12.ar.ab,z12.aB,z12.au.ab,z12.au.aL,z12.ao.an,z12.ao.ak,h.ar.az,h.ar.ab,h.aB,h.au.ab,h.au.aL,h.ao.an,h.ao.ak,j)))<|.bf (k) (.bd (eV U (aF.mk (aV.mk [0,0,0,0,0,0,0,0,0,0,0,0,0,0,0,0] []) [] (a1.mk [] 0) (aC.mk [] [])) (aF.mk (aV.mk a.1 a.2.1) a.2.2.1 (a1.mk a.2.2.2.1 a.2.2.2.2.1) (aC.mk a.2.2.2.2.2.1 a.2.2.2.2.2.2.1))) λi=>.ok (.inr (.inl ())))<|.ok (.inr (.inl ()))
def sY (U:Sh) (c:Bool) (p1:List bq) (p2:Γa) (p3:List ag) (p4:List ai) (p5:List ax) (p6:Int) (p7:List av) (p8:List aq) (b:Int) (a:tS (tS (List bP))):T (Unit⊕(Bool×Int×tS (tS (List bP)))):=.ok (.inr (decide (b<(↑p1.length:Int)),b,a.1,a.2.1,a.2.2.1,a.2.2.2.1,a.2.2.2.2.1,a.2.2.2.2.2.1,a.2.2.2.2.2.2.1,a.2.2.2.2.2.2.2.1,a.2.2.2.2.2.2.2.2.1,a.2.2.2.2.2.2.2.2.2.1,a.2.2.2.2.2.2.2.2.2.2.1,a.2.2.2.2.2.2.2.2.2.2.2.1,a.2.2.2.2.2.2.2.2.2.2.2.2.1,a.2.2.2.2.2.2.2.2.2.2.2.2.2.1,a.2.2.2.2.2.2.2.2.2.2.2.2.2.2))
def tF (a:Bool) (p1:List bq) (p2:Γa) (p3:List ag) (p4:List ai) (p5:List ax) (p6:Int) (p7:List av) (p8:List aq) (p:Γa) (b:List ag) (c:List ai) (d:List ax) (e:Int) (f:List av) (g:List aq) (h:Γa) (i:List ag) (j:List ai) (k:List ax) (l:Int) (m:List av) (n:List aq) (o:List bP):=bC U (kv U a p1 p2 p3 p4 p5 p6 p7 p8) (sY U a p1 p2 p3 p4 p5 p6 p7 p8) p1 (p,b,c,d,e,f,g,h,i,j,k,l,m,n,o)
def aaa {R} (k:KX SS R) (a:Bool) (p1:List bq) (p2:Γa) (p3:List ag) (p4:List ai) (p5:List ax) (p6:Int) (p7:List av) (p8:List aq) (x:Unit⊕(Bool×Int×tS (tS (List bP)))):Option R:=x.elim (λv=>k .ret ⟨[(4,vb false)],[],0,none,false,[],[]⟩) (λv=>k (.exit 0) {HA a p1 p2 p3 p4 p5 p6 p7 p8 v.2.2.1 v.2.2.2.1 v.2.2.2.2.1 v.2.2.2.2.2.1 v.2.2.2.2.2.2.1 v.2.2.2.2.2.2.2.1 v.2.2.2.2.2.2.2.2.1 v.2.2.2.2.2.2.2.2.2.1 v.2.2.2.2.2.2.2.2.2.2.1 v.2.2.2.2.2.2.2.2.2.2.2.1 v.2.2.2.2.2.2.2.2.2.2.2.2.1 v.2.2.2.2.2.2.2.2.2.2.2.2.2.1 v.2.2.2.2.2.2.2.2.2.2.2.2.2.2.1 v.2.2.2.2.2.2.2.2.2.2.2.2.2.2.2.1 p6 v.2.2.2.2.2.2.2.2.2.2.2.2.2.2.2.2 with env:=[(40,vb v.1),(1,vo 0),(2,va 1 0),(5,va 2 0),(6,vb a),(7,va 3 0),(8,vo 4),(37,vo 0),(38,vl p1),(39,vi v.2.1)]})
def QF:a7 SS:=bc 10 (sq (sX hS 6) (sq (hR 0 50) (sq (hX dO 1 0) (sq (hD 1023 1 1) (sq (hD 1026 1 2) (sq (hD 1027 1 3) (sq (hI 1 4) (sq (hD 1031 1 5) (sq (hD 1032 1 6) (sq (hX dO 2 0) (sq (hD 23 2 1) (sq (hD 26 2 2) (sq (hD 27 2 3) (sq (hI 2 4) (sq (hD 31 2 5) (sq (hD 32 2 6) (sq (hX dO 3 0) (sq (hD 23 3 1) (sq (hD 26 3 2) (sq (hD 27 3 3) (sq (hI 3 4) (sq (hD 31 3 5) (sq (hD 32 3 6) (hR 4 53)))))))))))))))))))))))) (Uq TE) (Uq (tF shut)) (λk=>w9 (aaa k))
theorem agC:LS KK γ ay Tryz.f4 4 10 QF:=
 aW.bH (π:=Bool×List bq×tS (tS (tS (List bP)))) (σ:=tS (tS (List bP))) (aj.all Mw rfl) (aO.nil) rfl 60 (λp i a=>w9 HA p a.1 a.2.1 a.2.2.1 a.2.2.2.1 a.2.2.2.2.1 a.2.2.2.2.2.1 a.2.2.2.2.2.2.1 a.2.2.2.2.2.2.2.1 a.2.2.2.2.2.2.2.2.1 a.2.2.2.2.2.2.2.2.2.1 a.2.2.2.2.2.2.2.2.2.2.1 a.2.2.2.2.2.2.2.2.2.2.2.1 a.2.2.2.2.2.2.2.2.2.2.2.2.1 a.2.2.2.2.2.2.2.2.2.2.2.2.2.1 i a.2.2.2.2.2.2.2.2.2.2.2.2.2.2) (λp=>p.2.1) (λp=>(p.2.2.2.2.2.2.2.2.2.1,p.2.2.2.2.2.2.2.2.2.2.1,p.2.2.2.2.2.2.2.2.2.2.2.1,p.2.2.2.2.2.2.2.2.2.2.2.2.1,p.2.2.2.2.2.2.2.2.2.2.2.2.2.1,p.2.2.2.2.2.2.2.2.2.2.2.2.2.2.1,p.2.2.2.2.2.2.2.2.2.2.2.2.2.2.2.1,p.2.2.2.2.2.2.2.2.2.2.2.2.2.2.2.2.1,p.2.2.2.2.2.2.2.2.2.2.2.2.2.2.2.2.2.1,p.2.2.2.2.2.2.2.2.2.2.2.2.2.2.2.2.2.2.1,p.2.2.2.2.2.2.2.2.2.2.2.2.2.2.2.2.2.2.2.1,p.2.2.2.2.2.2.2.2.2.2.2.2.2.2.2.2.2.2.2.2.1,p.2.2.2.2.2.2.2.2.2.2.2.2.2.2.2.2.2.2.2.2.2.1,p.2.2.2.2.2.2.2.2.2.2.2.2.2.2.2.2.2.2.2.2.2.2.1,p.2.2.2.2.2.2.2.2.2.2.2.2.2.2.2.2.2.2.2.2.2.2.2)) (St:=w9 (kv shut)) (F:=w9 (sY shut)) (λp=>rfl)
  (λm p i a k=>by kernel_rfl) (by rintro p (x|x)<;>exact⟨_,_,λ_=>rfl⟩) (λp N C A O w a b=>kP (j:=0) b rfl)
def y4:=bo (Mv shut) ay Tryz.f4 4 [QF]
theorem Xv:aX y4 γ:=bw (aj.all Mw rfl) Tryz.func4 rfl aU (by kernel_rfl) agC
def uU (x:aF) (l:List bq):T Bool:=
 .bd (G' U) λz0=>
  .bf (!z0) (
   .ok false)<|
  .bd (eA U x) λa=>
   .bd (pJ U a) λz2=>
    .bd (dn l none (ξx (λx=>x.snd) (some (ο,if 24<(↑l.length:Int) then 24 else(↑l.length:Int)))) none) λz3=>
     .bd (app 40 [] z3) λz4=>
      .bd (eA U x) λz5=>
       .gd (TE z2 z4 x.ar.az x.ar.ab x.aB x.au.ab x.au.aL x.ao.an x.ao.ak a.ar.az a.ar.ab a.aB a.au.ab a.au.aL a.ao.an a.ao.ak z5.ar.az z5.ar.ab z5.aB z5.au.ab z5.au.aL z5.ao.an z5.ao.ak [])<|
        .bd (tF U z2 z4 x.ar.az x.ar.ab x.aB x.au.ab x.au.aL x.ao.an x.ao.ak a.ar.az a.ar.ab a.aB a.au.ab a.au.aL a.ao.an a.ao.ak z5.ar.az z5.ar.ab z5.aB z5.au.ab z5.au.aL z5.ao.an z5.ao.ak []) λx9=>.cs x9 (λ_=>
         .ok false) λb=>
         .bd (eA U x) λe=>
          .bd (pT U e z4) λc=>
           .bf (!z2) (
            .bf (c.snd.snd==360) (
             .bf ((↑c.snd.fst.length:Int)==0) (
              .bd (eV U c.fst (aF.mk (aV.mk [0,0,0,0,0,0,0,0,0,0,0,0,0,0,0,0] []) [] (a1.mk [] 0) (aC.mk [] []))) λz9=>
               .ok z9)<|
             .ok false)<|
            .ok false)<|
           .bf (c.snd.snd==0) (
            .bd (vW U c.snd.fst b.2.2.2.2.2.2.2.2.2.2.2.2.2.2.2.2) λz9=>
             .bf (z9) (
              .bd (eV U c.fst (aF.mk (aV.mk b.2.2.2.2.2.2.2.2.2.1 b.2.2.2.2.2.2.2.2.2.2.1) b.2.2.2.2.2.2.2.2.2.2.2.1 (a1.mk b.2.2.2.2.2.2.2.2.2.2.2.2.1 b.2.2.2.2.2.2.2.2.2.2.2.2.2.1) (aC.mk b.2.2.2.2.2.2.2.2.2.2.2.2.2.2.1 b.2.2.2.2.2.2.2.2.2.2.2.2.2.2.2.1))) λd=>
               .ok d)<|
             .ok false)<|
           .ok false
def N8 (x:aF) (l:List bq):=U.s _ (uU U x l).val
theorem t_4:R2 KK y4 4 1036 1046 [4] (uU shut) (bD KK 4):=by intro R x l k;kernel_rfl
end Go.Proofs.YtdhaaaeffhaadaaGreatDoor
end
section
namespace Go.Proofs.YtdhaaaeffhaadaaGreatDoor
open Go.RowKit Go.Dc Go.Vx
theorem N0 (a b:bP):iU a b=decide (a=b):=by
 cases a;cases b;unfold iU;rw[Bool.eq_iff_iff];simp
theorem RZ {s:aF} (h:dC s):ck s=s:=by
 have a:(s.ao.ak.take 18).map hy=s.ao.ak:=by
  rw[ε (by have:=h.lb;omega)];refine(ξb (g:=id) λz b=>?_).trans (List.map_id _);unfold hy;rw[ε (by have:=(h.i.box z b).2.2;omega)];rfl
 unfold ck;rw[a,ε (show s.ar.ab.length<=18 by have:=h.p.len;omega),ε (show s.aB.length<=66 by have:=h.d.len;omega),ε (show s.au.ab.length<=18 by have:=h.m.len;omega),ε (show s.ao.an.length<=18 by have:=h.i.len;omega)]
theorem aeX (s:aF):ck (ck s)=ck s:=by
 unfold ck;have a:((((s.ao.ak.take 18).map hy).take 18).map hy)=(s.ao.ak.take 18).map hy:=by
  rw[ε (by rw[ξk];exact kg _ 18),List.map_map];refine ξb λz _=>?_;show hy (hy z)=hy z;unfold hy;simp only[ξn,ξs]
 simp only[a,ξn,ξs]
theorem aeW {x:aF} (h:ky x):(dC (ck x)/\pJ ae (ck x)=some true)\/(hT ae (ck x)=some 360/\pJ ae (ck x)=some false):=by
 have a:=v10 (OJ (yT h)) (v42 (OH (yT h)) λz d=>rl (h.path z (ξ9 d)));have c:=v11 (OJ (yT h)) (J8 (OH (yT h)));cases e:ng (ck x) with
 |true=>
  have b:=e;unfold ng at b;rw[b] at a;exact .inl ⟨(Ns (ajn h)).1 e,a⟩
 |false=>
  unfold ng at e;rw[e] at a c;exact .inr ⟨c,a⟩
theorem v21 {s:aF} (h:dC s) {c:bq} (a:gZ c):il ae s c=some (!decide ((dM s c).1=s)):=by
 show(pb ae s c).val=_;unfold pb;simp only[T.aN,T.aH,T.aD,f11 h,J_ h,J9 h a,v12,δ];rfl
theorem ai1 {s:aF} (h:hT ae s=some 360) (c:bq):il ae s c=some false:=by
 show(pb ae s c).val=_;unfold pb;simp only[T.aN,T.aH,T.aD,h,δ];rfl
def fb:aF->List bq->aF×List bP
 |s,[]=>(s,[])
 |s,c::r=>((fb (dM s c).1 r).1,(dM s c).2::(fb (dM s c).1 r).2)
theorem My (l:List bq): ∀(r:List bq) (i:Nat) (s:aF) (acc:List bP),(∀c∈r,gZ c)->dC s->acc.length+r.length<=24->
  bF (λi z a=>(oM ae l i z a).val) (λi a=>(oC ae l i a).val) i r (s.ar.az,s.ar.ab,s.aB,s.au.ab,s.au.aL,s.ao.an,s.ao.ak,acc)=
   some (decide (((i+r.length:Nat):Int)<(l.length:Int)),((i+r.length:Nat):Int),(fb s r).1.ar.az,(fb s r).1.ar.ab,(fb s r).1.aB,(fb s r).1.au.ab,(fb s r).1.au.aL,(fb s r).1.ao.an,(fb s r).1.ao.ak,acc++(fb s r).2)
 |[],i,s,acc,_,_,_=>by
  show(oC ae l i _).val=_;unfold oC;simp[fb]
 |c::r,i,s,acc,d,h,hl=>by
  have b:=d c μ;have f:aF.mk (aV.mk s.ar.az s.ar.ab) s.aB (a1.mk s.au.ab s.au.aL) (aC.mk s.ao.an s.ao.ak)=s:=rfl;have e:(oM ae l i c (s.ar.az,s.ar.ab,s.aB,s.au.ab,s.au.aL,s.ao.an,s.ao.ak,acc)).val=some (.inl ((dM s c).1.ar.az,(dM s c).1.ar.ab,(dM s c).1.aB,(dM s c).1.au.ab,(dM s c).1.au.aL,(dM s c).1.ao.an,(dM s c).1.ao.ak,acc++[(dM s c).2])):=by
   unfold oM;simp only[T.aN,T.aD,f,J9 h b,δ];rw[eK (n:=24) (by simp at hl ⊢;omega) (by omega),δ]
  rw[gW,e,δ];show bF _ _ (i+1) r _=_;rw[My l r (i+1) (dM s c).1 (acc++[(dM s c).2]) (λc b=>d c (ξ _ b)) (F8 h b.a) (by simp at hl ⊢;omega)];simp only[fb,List.length_cons,ξf,ξ7];rw[show i+1+r.length=i+(r.length+1) by omega]
theorem v25 {s:aF} (h:dC s) {l:List bq} (hl: ∀c∈l,gZ c) (a:l.length<=24):pT ae s l=some ((fb s l).1,(fb s l).2,0):=by
 show(pd ae s l).val=_;have b:B6 ae l s.ar.az s.ar.ab s.aB s.au.ab s.au.aL s.ao.an s.ao.ak []=_:=My l l 0 s [] hl h (by simpa using a);unfold pd;simp only[T.aN,T.aH,T.bt,T.aD,f11 h,J_ h,b,δ,show((0:Int) !=0)=false from rfl,cond_false,ξl]
theorem ai2 {s:aF} (h:hT ae s=some 360) (l:List bq):pT ae s l=some (ajA,[],360):=by
 show(pd ae s l).val=_;unfold pd;simp only[T.aN,T.aH,h,δ];rfl
theorem v26 (a:List bP):vW ae a a=some true:=by
 show(EN ae a a).val=_;have f: ∀(r pre:List bP),a=pre++r->bF (λi z b=>(o6 ae a a i z b).val) (λi b=>(y' ae a a i b).val) pre.length r ()=some (.inr (decide ((a.length:Int)<(a.length:Int)),(a.length:Int))):=by
  intro r
  induction r with
  |nil=>
   intro pre e;rw[List.append_nil] at e;subst e;rfl
  |cons z r g=>
   intro pre e;have c:(o6 ae a a pre.length z ()).val=some (.inl ()):=by
    unfold o6;have:idx a (pre.length:Int)=some z:=by
     unfold idx;rw[if_pos (by omega),ν,e];simp
    simp only[T.aN,T.aH,T.aD,this,δ,N0];simp
   rw[gW,c,δ];have:=g (pre++[z]) (by rw[e];simp);rw[show(pre++[z]).length=pre.length+1 by simp] at this;exact this
 have d:C1 ae a a=_:=f a [] rfl;unfold EN;simp only[T.aN,T.aH,T.bt,T.cx,T.aD,d,δ,bne_self_eq_false,cond_false]
def iE (s e:aF) (l:List bP):Γa×List ag×List ai×List ax×Int×List av×List aq×Γa×List ag×List ai×List ax×Int×List av×List aq×List bP:=(s.ar.az,s.ar.ab,s.aB,s.au.ab,s.au.aL,s.ao.an,s.ao.ak,e.ar.az,e.ar.ab,e.aB,e.au.ab,e.au.aL,e.ao.an,e.ao.ak,l)
section
variable (p1:List bq) (p2:Γa) (p3:List ag) (p4:List ai) (p5:List ax) (p6:Int) (p7:List av) (p8:List aq)
theorem S4 {s:aF} (h:dC s) (e:aF) {acc:List bP} (g:acc.length<=24) {c:bq} (b:gZ c) (i:Nat) (hi:p1[i]? =some c):(kv ae true p1 p2 p3 p4 p5 p6 p7 p8 (i:Int) c (iE s e acc)).val=some (.inl (iE (dM s c).1 (dM s c).1 (acc++[(dM s c).2]))):=by
 have f:aF.mk (aV.mk s.ar.az s.ar.ab) s.aB (a1.mk s.au.ab s.au.aL) (aC.mk s.ao.an s.ao.ak)=s:=rfl;have hn:=F8 h b.a;have d:app 16 acc [(dM s c).2]=some (acc++[(dM s c).2]):=eK (n:=25) (by simp;omega) (by omega);unfold kv iE;simp only[T.aN,T.aH,T.aD,ν,hi,f,v9,RZ h,f11 h,J_ h,J9 h b,u90 h b,yN,v21 h b,J7,JW,N0,RZ hn,d,δ,show((0:Int) !=0)=false from rfl,show((0:Int)==0)=true from rfl,cond_false,cond_true,decide_true,ξ6,beq_self_eq_true]
theorem Yr {s:aF} (h:hT ae s=some 360) (b:ck s=s) (e:aF) (acc:List bP) {c:bq} (i:Nat) (hi:p1[i]? =some c):(kv ae false p1 p2 p3 p4 p5 p6 p7 p8 (i:Int) c (iE s e acc)).val=some (.inl (iE s e acc)):=by
 have a:aF.mk (aV.mk s.ar.az s.ar.ab) s.aB (a1.mk s.au.ab s.au.aL) (aC.mk s.ao.an s.ao.ak)=s:=rfl;unfold kv iE;simp only[T.aN,T.aH,T.aD,ν,hi,a,v9,b,h,yN,ai1 h,J7,JW,δ,show((360:Int) !=0)=true from rfl,show((360:Int)==0)=false from rfl,show((360:Int) !=360)=false from rfl,cond_false,cond_true,decide_true,ξ6,beq_self_eq_true]
theorem L4: ∀(r pre:List bq) (s e:aF) (acc:List bP),p1=pre++r->(∀c∈r,gZ c)->dC s->s=e->acc.length=pre.length->p1.length<=24-> ∃b j,
  bF (λi z a=>(kv ae true p1 p2 p3 p4 p5 p6 p7 p8 i z a).val) (λi a=>(sY ae true p1 p2 p3 p4 p5 p6 p7 p8 i a).val) pre.length r (iE s e acc)=some (.inr (b,j,iE (fb s r).1 (fb s r).1 (acc++(fb s r).2)))
 |[],pre,s,e,acc,_,_,_,he,_,_=>by
  subst he;exact⟨_,_,by rw[show acc++(fb s []).2=acc by simp[fb]];rfl⟩
 |c::r,pre,s,e,acc,hp,f,h,_,g,hl=>by
  have d:=f c μ;have hi:p1[pre.length]? =some c:=by rw[hp];simp
  have hlen:acc.length<=24:=by rw[hp] at hl;simp at hl;omega
  obtain⟨b,j,k⟩:=L4 r (pre++[c]) (dM s c).1 (dM s c).1 (acc++[(dM s c).2]) (by rw[hp];simp) (λc d=>f c (ξ _ d)) (F8 h d.a) rfl (by simp[g]) hl;refine⟨b,j,?_⟩;rw[gW,S4 p1 p2 p3 p4 p5 p6 p7 p8 h e hlen d pre.length hi,δ];rw[show(pre++[c]).length=pre.length+1 by simp] at k;show bF _ _ (pre.length+1) r _=_;rw[k];simp only[fb,ξf,ξ7]
theorem Mz {s:aF} (h:hT ae s=some 360) (d:ck s=s) (e:aF) (acc:List bP): ∀(r pre:List bq),p1=pre++r-> ∃b j,
  bF (λi z a=>(kv ae false p1 p2 p3 p4 p5 p6 p7 p8 i z a).val) (λi a=>(sY ae false p1 p2 p3 p4 p5 p6 p7 p8 i a).val) pre.length r (iE s e acc)=some (.inr (b,j,iE s e acc))
 |[],pre,_=>⟨_,_,rfl⟩
 |c::r,pre,hp=>by
  have hi:p1[pre.length]? =some c:=by rw[hp];simp
  obtain⟨b,j,k⟩:=Mz h d e acc r (pre++[c]) (by rw[hp];simp);refine⟨b,j,?_⟩;rw[gW,Yr p1 p2 p3 p4 p5 p6 p7 p8 h d e acc pre.length hi,δ];rw[show(pre++[c]).length=pre.length+1 by simp] at k;exact k
end
theorem Vb {x:aF} (m:ky x) {l:List bq} (hl: ∀c∈l,gZ c):N8 ae x l=some true:=by
 show(uU ae x l).val=_;have g:dn l none (ξx (λx=>x.snd) (some (ο,if 24<(l.length:Int) then 24 else(l.length:Int)))) none=some (l.take 24):=lJ l 24 24 rfl;have e:=kg l 24;have f:app 40 [] (l.take 24)=some (l.take 24):=eK (n:=24) (by simpa using e) (by omega);have i: ∀c∈l.take 24,gZ c:=λc k=>hl c (ξ9 k);generalize l.take 24=q at*
 unfold uU;rcases aeW m with⟨h,d⟩|⟨h,d⟩
 .obtain⟨b,j,a⟩:=L4 q x.ar.az x.ar.ab x.aB x.au.ab x.au.aL x.ao.an x.ao.ak q [] (ck x) (ck x) [] rfl i h rfl rfl e;have a:tF ae true q x.ar.az x.ar.ab x.aB x.au.ab x.au.aL x.ao.an x.ao.ak (ck x).ar.az (ck x).ar.ab (ck x).aB (ck x).au.ab (ck x).au.aL (ck x).ao.an (ck x).ao.ak (ck x).ar.az (ck x).ar.ab (ck x).aB (ck x).au.ab (ck x).au.aL (ck x).ao.an (ck x).ao.ak []=_:=a;simp only[T.aN,T.aH,T.bt,T.cx,T.aD,v8,v9,d,g,f,a,v25 h i e,δ,ξ6,cond_false,ξl,iE,v26,yN,show((0:Int)==0)=true from rfl,cond_true,decide_true]
 .obtain⟨b,j,a⟩:=Mz q x.ar.az x.ar.ab x.aB x.au.ab x.au.aL x.ao.an x.ao.ak h (aeX x) (ck x) [] q [] rfl;have a:tF ae false q x.ar.az x.ar.ab x.aB x.au.ab x.au.aL x.ao.an x.ao.ak (ck x).ar.az (ck x).ar.ab (ck x).aB (ck x).au.ab (ck x).au.aL (ck x).ao.an (ck x).ao.ak (ck x).ar.az (ck x).ar.ab (ck x).aB (ck x).au.ab (ck x).au.aL (ck x).ao.an (ck x).ao.ak []=_:=a;simp only[T.aN,T.aH,T.bt,T.cx,T.aD,v8,v9,d,g,f,a,ai2 h,δ,ξ6,Bool.not_false,cond_false,cond_true,yN,show((360:Int)==360)=true from rfl];rfl
end Go.Proofs.YtdhaaaeffhaadaaGreatDoor
end
section
namespace Go.Dc
open Go.RowKit
structure da {α:Type} (P:Program) (t:TypeId) (T:Ty α) (D: {H:Type}->DataW H->α->Prop):Prop where
 cells:P.cellsOf t=T.n
 shape: ∀ {w:World} {b:Nat} {v:Value},φ P w .any b t v->v=T.mk' v.cells.toList
 bg: ∀ {H:Type} {enc:TypeId×Value->H} {w:World} {held:Bool} {fuel:Nat} {cs:Γb} {d:DataW H} {p:List MemPlace},ξo enc P w 0 (λ_=>true) held fuel t cs=some (d,p)->w.noneFrozen p-> ∃x,T.rep [] w cs x/\D d x
section
variable {P:Program} {t:TypeId}
def bu (k:IntKind) {H:Type} (d:DataW H) (x:Int):Prop:=d= .lit (.int k x)/\(Lit.int k x).wf=true
def iJ {H:Type} (d:DataW H) (x:Bool):Prop:=d= .lit (.bool x)
theorem RR {k:IntKind} (hu:P.underlying t=some (.int k)) (a:P.cellsOf t=1):da P t (Ty.int k) (bu k) where
 cells:=a
 shape {w b v} h:=by
  simp only[φ,hu,ξw] at h;unfold Cell.ok at h;rw[hu] at h;cases v<;>simp_all [Ty.mk',Ty.int,ξc]
 bg {H enc w held fuel cs d p} h _:=by
  obtain⟨n,rfl,c,hw⟩:=DataW.trod_int hu h;cases c;exact⟨n,rfl,rfl,hw⟩
theorem aeO (hu:P.underlying t=some .bool) (a:P.cellsOf t=1):da P t Ty.bool iJ where
 cells:=a
 shape {w b v} h:=by
  simp only[φ,hu,ξw] at h;unfold Cell.ok at h;rw[hu] at h;cases v<;>simp_all [Ty.mk',Ty.bool,ξc]
 bg {H enc w held fuel cs d p} h _:=by
  obtain⟨b,rfl,c⟩:=DataW.trod_bool hu h;cases c;exact⟨b,rfl,rfl⟩
def ia {α:Type} (D: {H:Type}->DataW H->α->Prop) {H:Type}:List (DataW H)->List α->Prop
 |[],xs=>xs=[]
 |d::ds,xs=> ∃y ys,xs=y::ys/\D d y/\ia D ds ys
def cT {α:Type} (D: {H:Type}->DataW H->α->Prop) {H:Type} (d:DataW H) (xs:List α):Prop:=
 match d with
 | .nil=>xs=[]
 | .slice es _=>ia D es xs
 |_=>False
theorem ia.len {α:Type} {D: {H:Type}->DataW H->α->Prop} {H:Type}: ∀ {ds:List (DataW H)} {xs:List α},ia D ds xs->ds.length=xs.length
 |[],_,h=>by rw[show _=[] from h];rfl
 |_::_,_,⟨y,ys,h,_,a⟩=>by subst h;simp[ia.len a]
theorem ia.mem {α:Type} {D: {H:Type}->DataW H->α->Prop} {H:Type}: ∀ {ds:List (DataW H)} {xs:List α},ia D ds xs-> ∀x∈xs,∃d∈ds,D d x
 |[],_,h,x,a=>by rw[show _=[] from h] at a;cases a
 |d::_,_,⟨y,ys,h,b,c⟩,x,a=>by
  subst h;rcases ξd.1 a with rfl|a
  .exact⟨d,μ,b⟩
  .obtain⟨e,he,h⟩:=ia.mem c x a;exact⟨e,ξ _ he,h⟩
theorem cT.mem {α:Type} {D: {H:Type}->DataW H->α->Prop} {H:Type} {d:DataW H} {xs:List α} (h:cT D d xs): ∀x∈xs,∃e:DataW H,D e x:=by
 intro x a;unfold cT at h;split at h
 .subst h;cases a
 .obtain⟨e,_,he⟩:=ia.mem h x a;exact⟨e,he⟩
 .exact h.elim
theorem F5 {α:Type} {D: {H:Type}->DataW H->α->Prop} {H:Type} {R:Nat->α->Prop}: ∀(ds:List (DataW H)) (o:Nat),(∀k d,ds[k]? =some d-> ∃x,R (o+k) x/\D d x)-> ∃xs,ia D ds xs/\ ∀(k:Nat) x,xs[k]? =some x->R (o+k) x
 |[],_,_=>⟨[],rfl,λk x h=>by simp at h⟩
 |d::ds,o,h=>by
  obtain⟨x,g,f⟩:=h 0 d rfl;obtain⟨xs,b,c⟩:=F5 (R:=R) ds (o+1) (λk e he=>by
   have:=h (k+1) e (by simpa using he)
   rwa [show o+(k+1)=o+1+k by omega] at this)
  refine⟨x::xs,⟨x,xs,rfl,f,b⟩,λk y a=>?_⟩;cases k with
  |zero=>simp at a;subst a;simpa using g
  |succ k=>
   have:=c k y (by simpa using a)
   rwa [show o+(k+1)=o+1+k by omega]
theorem Nh {w:World} {a:Addr} {u:Value} (h:w.cell? a=some u):a.block<w.heap.size:=by
 unfold ξu at h;split at h
 .rename_i b;exact(Array.getElem?_eq_some_iff.1 b).1
 .cases h
theorem aaC (a:Addr) (n:Nat):(a.add n).off=a.off+n:=by unfold Addr.add;split<;>simp_all
theorem ma {α:Type} {e:TypeId} {T:Ty α} {D: {H:Type}->DataW H->α->Prop} (hu:P.underlying t=some (.slice e)) (A:P.cellsOf t=1) (he:da P e T D) (hn:0<T.n):da P t T.slice (cT D) where
 cells:=A
 shape {w b v} h:=by
  obtain⟨a,len,cap,rfl⟩:=WideShapes.okWide_slice hu h;rfl
 bg {H enc w held fuel cs d p} h r:=by
  rcases DataW.trod_slice hu h with⟨rfl,f⟩|⟨a,len,cap,elems,rest,n,rfl,rfl,f,_,S,C,hlen,F,_,_⟩
  .cases f;exact⟨[],⟨none,0,rfl,⟨ξa _,by unfold maxLen;omega⟩,λk x h=>by simp at h⟩,rfl⟩
  .cases f;have key: ∀(k:Nat) (x:DataW H),(elems.map (·.1))[k]? =some x-> ∃y,(a.block<w.heap.size/\ ∃es,T.rep [] w es y/\lk w (a.add ((0+k)*T.n)) es)/\D x y:=by
    intro k x c;have I:k<len:=by
     have:=(ι.1 c).1;simpa[hlen] using this
    have q:elems[k]? =some elems[k]:=ζ (by omega);have g:=F k I;rw[q] at g;simp only[Option.bind_eq_some_iff] at g;obtain⟨cs,E,M⟩:=g;have f:x=elems[k].1:=by
     rw[ξ5,q] at c;simpa using c.symm
    obtain⟨y,O,Q⟩:=he.bg (d:=elems[k].1) (p:=elems[k].2) M (λb off hm=>r b off (η _ (ξg.2 ⟨elems[k],θ _ (ξh _),hm⟩)));obtain⟨_,hl,i⟩:=World.cells?_some E;rw[he.cells] at hl i;have K:0<cs.length:=by omega
    refine⟨y,⟨?_,cs,O,λj u l=>?_,λj l=>?_⟩,by rw[f];exact Q⟩
    .have m:=i 0 (by omega);rw[ζ K] at m;have:=Nh m;simpa[fA] using this
    .have G:j<T.n:=by have:=(ι.1 l).1;omega
     rw[ξ8,i j G];exact l
    .have J:(0+k)*T.n+j<(elems.length+rest.length)*P.cellsOf e:=by
      rw[he.cells,ξ8];have:(k+1)*T.n<=(elems.length+rest.length)*T.n:=Nat.mul_le_mul_right _ (by omega);rw[Nat.succ_mul] at this;omega
     have:=r a.block (a.off+((0+k)*T.n+j)) (θ _ (MemPlace.mem_row.2 ⟨_,J,rfl⟩));rw[add_add];simp only[ξp,fA,aaC] at this ⊢;exact this
   obtain⟨xs,o,s⟩:=F5 (R:=λk y=>a.block<w.heap.size/\ ∃es,T.rep [] w es y/\lk w (a.add (k*T.n)) es) (elems.map (·.1)) 0 (λk x c=>key k x c);have N:xs.length=len:=by rw[<-o.len];simpa using hlen
   refine⟨xs,⟨some a,cap,by rw[N],⟨by omega,C⟩,λk x c=>?_⟩,o⟩;obtain⟨z,es,L,B⟩:=s k x c;exact⟨a,es,rfl,z,by simp,L,by simpa using B⟩
structure tK {α:Type} (P:Program) (o:Nat) (fs:List Field) (T:Ty α) (D: {H:Type}->List (DataW H)->α->Prop):Prop where
 bg: ∀ {H:Type} {enc:TypeId×Value->H} {w:World} {held:Bool} {fuel:Nat} {cs:Γb} {xs:List (DataW H×List MemPlace)},xs.length=fs.length->
  (∀(i:Nat) (f:Field),fs[i]? =some f->ξo enc P w 0 (λ_=>true) held fuel f.type ((cs.drop f.offset).take (P.cellsOf f.type))=xs[i]?)->w.noneFrozen (xs.flatMap (·.2))->
  ∃x,T.rep [] w ((cs.drop o).take T.n) x/\D (xs.map (·.1)) x
def cb {α:Type} (D: {H:Type}->DataW H->α->Prop) {H:Type} (ds:List (DataW H)) (x:α):Prop:= ∃d,ds=[d]/\D d x
def bM {α β:Type} (D: {H:Type}->DataW H->α->Prop) (E: {H:Type}->List (DataW H)->β->Prop) {H:Type} (ds:List (DataW H)) (x:α×β):Prop:= ∃d r,ds=d::r/\D d x.1/\E r x.2
theorem jl {α:Type} {o:Nat} {f:Field} {T:Ty α} {D: {H:Type}->DataW H->α->Prop} (g:f.offset=o) (h:da P f.type T D):tK P o [f] T (cb D) where
 bg {H enc w held fuel cs xs} hl hm e:=by
  obtain⟨y,rfl⟩: ∃y,xs=[y]:=List.length_eq_one_iff.1 hl;have i:=hm 0 f rfl;obtain⟨x,a,c⟩:=h.bg (d:=y.1) (p:=y.2) i (λb off hm=>e b off (by simpa using hm));rw[g,h.cells] at a;exact⟨x,a,y.1,rfl,c⟩
theorem gy {α β:Type} {o o':Nat} {f:Field} {fs:List Field} {T:Ty α} {S:Ty β} {D: {H:Type}->DataW H->α->Prop} {E: {H:Type}->List (DataW H)->β->Prop} (m:f.offset=o) (h:da P f.type T D) (q:o'=o+T.n) (s:tK P o' fs S E):
  tK P o (f::fs) (Ty.pair T S) (bM D E) where
 bg {H enc w held fuel cs xs} hl hm c:=by
  cases xs with
  |nil=>simp at hl
  |cons y r=>
   have t:=hm 0 f rfl;obtain⟨x,a,e⟩:=h.bg (d:=y.1) (p:=y.2) t (λb off hm=>c b off (by simp[hm]));obtain⟨z,j,k⟩:=s.bg (xs:=r) (by simpa using hl) (λi g l=>by simpa using hm (i+1) g (by simpa using l)) (λb off hm=>c b off (by rw[List.flatMap_cons];exact η _ hm));rw[m,h.cells] at a;refine⟨(x,z),⟨_,_,?_,a,j⟩,y.1,r.map (·.1),rfl,e,k⟩;show(cs.drop o).take (T.n+S.n)=_;rw[List.take_add,List.drop_drop,q]
def cc {α β:Type} (E: {H:Type}->List (DataW H)->α->Prop) (f:β->α) {H:Type} (d:DataW H) (x:β):Prop:= ∃ds,d= .agg ds/\E ds (f x)
theorem jm {α β:Type} {fs:Array Field} {T:Ty α} {E: {H:Type}->List (DataW H)->α->Prop} (f:β->α) (g:α->β) (c: ∀x,f (g x)=x) (hu:P.underlying t=some (.struct fs)) (k:P.cellsOf t=T.n) (j:T.agg=true) (h:tK P 0 fs.toList T E):da P t (T.ei f) (cc E f) where
 cells:=k
 shape {w b v} h:=by
  simp only[φ,hu] at h;obtain⟨cs,rfl,_⟩:=h;simp[Ty.mk',Ty.ei,j,ξc]
 bg {H enc w held fuel cs d p} l m:=by
  obtain⟨xs,n,rfl,q,hl,r,hi⟩:=DataW.trod_struct hu l;cases q;obtain⟨x,a,e⟩:=h.bg (xs:=xs) (cs:=cs) (by simpa using r) (λi g o=>hi i g (by simpa using o)) m;rw[List.drop_zero,ε (by omega)] at a;exact⟨g x,by show T.rep [] w cs (f (g x));rw[c];exact a,_,rfl,by rw[c];exact e⟩
theorem da.arg {α:Type} {T:Ty α} {D: {H:Type}->DataW H->α->Prop} (h:da P t T D) {H:Type} {enc:TypeId×Value->H} {w:World} {held:Bool} {v:Value} {d:DataW H} {p:List MemPlace} {b:Nat} (i:φ P w .any b t v)
  (e:DataW.Trod enc P w 0 (λ_=>true) held t v d p) (g:w.noneFrozen p): ∃x,T.is [] w v x/\D d x:=by
 obtain⟨fuel,f⟩:=e;obtain⟨x,a,c⟩:=h.bg f g;exact⟨x,⟨_,a,h.shape i⟩,c⟩
end
theorem M' {H:Type} {enc:TypeId×Value->H} {P:Program} {W d:World} (hl:laidOutB P=true): ∀ {c:List TypeId} {vs:Γb} {ds:List (DataW H)} {ps:List MemPlace},(∀t∈c,P.readableRec t=true/\t<P.types.size)->ξq enc P W 0 (λ_=>true) true c vs ds ps->Below W.heap.size W d->(∀x∈ps,x.block<W.heap.size)->
  ∀sp:Nat->Bool,(∀p∈ps,sp p.block=true)->ξq enc P d 0 sp true c vs ds ps
 |[],[],[],_,_,h,_,_,_,_=>h
 |_::_,_::_,_::_,_,b,⟨p,q,j,k,e⟩,f,g,sp,i=>by
  subst e;refine⟨p,q,?_,M' hl (λt h=>b t (ξ _ h)) k f (λx a=>g x (η _ a)) sp (λx a=>i x (η _ a)),rfl⟩;exact WideElems.Trod_stays hl (b _ μ).1 (b _ μ).2 j (λx a=>f.same (g x (θ _ a))) (λx a=>i x (θ _ a))
end Go.Dc
end
section
namespace Go.Vx
open Go.RowKit Go.Dc
variable {P:Program} {t:TypeId}
def ib (k:IntKind) (n:Nat) {H:Type} (d:DataW H) (x:Γa):Prop:= ∃ds,d= .agg ds/\ia (bu k) ds x/\x.length=n
theorem RQ {k:IntKind} {n:Nat} {e:TypeId} (hu:P.underlying t=some (.array n e)) (o:P.cellsOf t=n) (he:da P e (Ty.int k) (bu k)):da P t (hb k n) (ib k n) where
 cells:=o
 shape {w b v} s:=by
  simp only[φ,hu] at s;obtain⟨cs,rfl,_⟩:=s;simp[Ty.mk',hb,ξc]
 bg {H enc w held fuel cs d p} f C:=by
  obtain⟨xs,m,rfl,g,hl,E,hi⟩:=DataW.trod_array hu f;cases g;have A:P.cellsOf e=1:=he.cells;have key: ∀(j:Nat) (x:DataW H),(xs.map (·.1))[j]? =some x-> ∃y,(cs[0+j]? =some (.int k y))/\bu k x y:=by
   intro j x a;have D:j<xs.length:=by
    have:=(ι.1 a).1;simpa using this
   have l:xs[j]? =some xs[j]:=ζ D;have g:x=xs[j].1:=by
    rw[ξ5,l] at a;simpa using a.symm
   have q:=hi j (by omega);rw[l] at q;obtain⟨y,c,F⟩:=he.bg (d:=xs[j].1) (p:=xs[j].2) q (λb off hm=>C b off (ξg.2 ⟨xs[j],ξh _,hm⟩));refine⟨y,?_,by rw[g];exact F⟩;rw[A,Nat.mul_one] at c;have c:(cs.drop j).take 1=[.int k y]:=c;rw[ξ8];cases f:cs.drop j with
   |nil=>rw[f] at c;simp at c
   |cons u r=>
    rw[f] at c;have:u= .int k y:=by simpa using c
    subst this;have:=List.getElem?_drop (xs:=cs) (i:=j) (j:=0);rw[f] at this;simpa using this.symm
  obtain⟨ys,h,B⟩:=F5 (R:=λj y=>cs[j]? =some (.int k y)) (xs.map (·.1)) 0 (λj x a=>key j x a);have z:ys.length=n:=by rw[<-h.len];simpa using E
  refine⟨ys,⟨z,?_⟩,_,rfl,h,z⟩;refine List.ext_getElem? λj=>?_;rw[ξ5];cases a:ys[j]? with
  |none=>
   rw[List.getElem?_eq_none_iff] at a;rw[List.getElem?_eq_none (by rw[hl,o];omega)];rfl
  |some y=>
   have:=B j y a;rw[ξ8] at this;exact this
end Go.Vx
end
section
namespace Go.Proofs.YtdhaaaeffhaadaaGreatDoor
open Go.RowKit Go.Dc Go.Vx
theorem RN:da γ 3 (Ty.int .i64) (bu .i64):=RR Tryz.underlying3 (by kernel_rfl)
theorem aet:da γ 22 (hb .i64 16) (ib .i64 16):=RQ Tryz.underlying22 (by kernel_rfl) RN
theorem gR:da γ 28 (Ty.int .u64) (bu .u64):=RR Tryz.underlying28 (by kernel_rfl)
theorem aeE:da γ 4 Ty.bool iJ:=aeO Tryz.underlying4 (by kernel_rfl)
theorem RO:da γ 69 eO (cc (bM (bu .u64) (bM (bu .u64) (bM iJ (cb (bu .u64))))) (λd:ag=>(d.aa,d.aT,d.ba,d.bT))):=jm (λd:ag=>(d.aa,d.aT,d.ba,d.bT)) (λp=>⟨p.1,p.2.1,p.2.2.1,p.2.2.2⟩) (λ_=>rfl) Tryz.underlying69 (by kernel_rfl) rfl (gy rfl gR rfl (gy rfl gR rfl (gy rfl aeE rfl (jl rfl gR))))
theorem aeu:da γ 23 (Ty.slice eO) (cT (cc (bM (bu .u64) (bM (bu .u64) (bM iJ (cb (bu .u64))))) (λd:ag=>(d.aa,d.aT,d.ba,d.bT)))):=ma Tryz.underlying23 (by kernel_rfl) RO (by decide)
theorem aew:da γ 25 mE (cc (bM (ib .i64 16) (cb (cT (cc (bM (bu .u64) (bM (bu .u64) (bM iJ (cb (bu .u64))))) (λd:ag=>(d.aa,d.aT,d.ba,d.bT)))))) (λd:aV=>(d.az,d.ab))):=jm (λd:aV=>(d.az,d.ab)) (λp=>⟨p.1,p.2⟩) (λ_=>rfl) Tryz.underlying25 (by kernel_rfl) rfl (gy rfl aet rfl (jl rfl aeu))
theorem aeL:da γ 89 eY (cc (bM (bu .u64) (bM (bu .i64) (cb (bu .u64)))) (λd:ai=>(d.aa,d.bm,d.b3))):=jm (λd:ai=>(d.aa,d.bm,d.b3)) (λp=>⟨p.1,p.2.1,p.2.2⟩) (λ_=>rfl) Tryz.underlying89 (by kernel_rfl) rfl (gy rfl gR rfl (gy rfl RN rfl (jl rfl gR)))
theorem aex:da γ 26 (Ty.slice eY) (cT (cc (bM (bu .u64) (bM (bu .i64) (cb (bu .u64)))) (λd:ai=>(d.aa,d.bm,d.b3)))):=ma Tryz.underlying26 (by kernel_rfl) aeL (by decide)
theorem aeI:da γ 71 fH (cc (bM (bu .u64) (cb (bu .u64))) (λd:ax=>(d.aP,d.aS))):=jm (λd:ax=>(d.aP,d.aS)) (λp=>⟨p.1,p.2⟩) (λ_=>rfl) Tryz.underlying71 (by kernel_rfl) rfl (gy rfl gR rfl (jl rfl gR))
theorem aey:da γ 27 (Ty.slice fH) (cT (cc (bM (bu .u64) (cb (bu .u64))) (λd:ax=>(d.aP,d.aS)))):=ma Tryz.underlying27 (by kernel_rfl) aeI (by decide)
theorem aez:da γ 30 mD (cc (bM (cT (cc (bM (bu .u64) (cb (bu .u64))) (λd:ax=>(d.aP,d.aS)))) (cb (bu .u64))) (λd:a1=>(d.ab,d.aL))):=jm (λd:a1=>(d.ab,d.aL)) (λp=>⟨p.1,p.2⟩) (λ_=>rfl) Tryz.underlying30 (by kernel_rfl) rfl (gy rfl aey rfl (jl rfl gR))
theorem aeM:da γ 93 cY (cc (bM (bu .u64) (cb (bu .u64))) (λd:av=>(d.aY,d.aa))):=jm (λd:av=>(d.aY,d.aa)) (λp=>⟨p.1,p.2⟩) (λ_=>rfl) Tryz.underlying93 (by kernel_rfl) rfl (gy rfl gR rfl (jl rfl gR))
theorem aeA:da γ 31 (Ty.slice cY) (cT (cc (bM (bu .u64) (cb (bu .u64))) (λd:av=>(d.aY,d.aa)))):=ma Tryz.underlying31 (by kernel_rfl) aeM (by decide)
theorem aeJ:da γ 76 (Ty.slice (Ty.int .u64)) (cT (bu .u64)):=ma Tryz.underlying76 (by kernel_rfl) gR (by decide)
theorem aeK:da γ 82 eI (cc (bM (bu .u64) (cb (cT (bu .u64)))) (λd:aq=>(d.aa,d.a6))):=jm (λd:aq=>(d.aa,d.a6)) (λp=>⟨p.1,p.2⟩) (λ_=>rfl) Tryz.underlying82 (by kernel_rfl) rfl (gy rfl gR rfl (jl rfl aeJ))
theorem aeB:da γ 32 (Ty.slice eI) (cT (cc (bM (bu .u64) (cb (cT (bu .u64)))) (λd:aq=>(d.aa,d.a6)))):=ma Tryz.underlying32 (by kernel_rfl) aeK (by decide)
theorem aeC:da γ 34 dY (cc (bM (cT (cc (bM (bu .u64) (cb (bu .u64))) (λd:av=>(d.aY,d.aa)))) (cb (cT (cc (bM (bu .u64) (cb (cT (bu .u64)))) (λd:aq=>(d.aa,d.a6)))))) (λd:aC=>(d.an,d.ak))):=jm (λd:aC=>(d.an,d.ak)) (λp=>⟨p.1,p.2⟩) (λ_=>rfl) Tryz.underlying34 (by kernel_rfl) rfl (gy rfl aeA rfl (jl rfl aeB))
theorem aeD:da γ 36 en (cc (bM (cc (bM (ib .i64 16) (cb (cT (cc (bM (bu .u64) (bM (bu .u64) (bM iJ (cb (bu .u64))))) (λd:ag=>(d.aa,d.aT,d.ba,d.bT)))))) (λd:aV=>(d.az,d.ab))) (bM (cT (cc (bM (bu .u64) (bM (bu .i64) (cb (bu .u64)))) (λd:ai=>(d.aa,d.bm,d.b3)))) (bM (cc (bM (cT (cc (bM (bu .u64) (cb (bu .u64))) (λd:ax=>(d.aP,d.aS)))) (cb (bu .u64))) (λd:a1=>(d.ab,d.aL))) (cb (cc (bM (cT (cc (bM (bu .u64) (cb (bu .u64))) (λd:av=>(d.aY,d.aa)))) (cb (cT (cc (bM (bu .u64) (cb (cT (bu .u64)))) (λd:aq=>(d.aa,d.a6)))))) (λd:aC=>(d.an,d.ak))))))) (λd:aF=>(d.ar,d.aB,d.au,d.ao))):=jm (λd:aF=>(d.ar,d.aB,d.au,d.ao)) (λp=>⟨p.1,p.2.1,p.2.2.1,p.2.2.2⟩) (λ_=>rfl) Tryz.underlying36 (by kernel_rfl) rfl (gy rfl aew rfl (gy rfl aex rfl (gy rfl aez rfl (jl rfl aeC))))
theorem aeG:da γ 48 (hb .u64 4) (ib .u64 4):=RQ Tryz.underlying48 (by kernel_rfl) gR
theorem aeH:da γ 50 h6 (cc (bM (bu .u64) (cb (ib .u64 4))) (λd:bq=>(d.bb,d.fArgs))):=jm (λd:bq=>(d.bb,d.fArgs)) (λp=>⟨p.1,p.2⟩) (λ_=>rfl) Tryz.underlying50 (by kernel_rfl) rfl (gy rfl gR rfl (jl rfl aeG))
theorem aeF:da γ 46 (Ty.slice h6) (cT (cc (bM (bu .u64) (cb (ib .u64 4))) (λd:bq=>(d.bb,d.fArgs)))):=ma Tryz.underlying46 (by kernel_rfl) aeH (by decide)
def Dr (P:Program) (w:World) (n:String) (d:DataW Unit):Prop:= ∃g t cs fuel p,P.globalNamed n=some g/\(P.globals[g]?).map (·.type)=some t/\w.var? P n=some cs/\ξo (λ_=>()) P w 0 (λ_=>true) false fuel t cs.toList=some (d,p)/\w.noneFrozen p/\w.noneFrozen (ξt ⟨g,0,none⟩ cs.size)
theorem Pf {P:Program} {w:World}: ∀ {l:List (String×DataW Unit)} {ps:List MemPlace},DataW.LaidVars P w l ps->w.noneFrozen ps-> ∀n d,(n,d)∈l->Dr P w n d
 |[],_,_,_,_,_,hm=>by cases hm
 |(s,o)::r,ps,h,c,n,d,hm=>by
  obtain⟨g,t,cs,fuel,p,q,f,i,j,k,m,rfl⟩:=h;rcases ξd.1 hm with e|e
  .cases e;exact⟨g,t,cs,fuel,p,f,i,j,k,λb off a=>c b off (by simp[a]),λb off a=>c b off (by simp[a])⟩
  .exact Pf m (λb off a=>c b off (by simp[a])) n d e
theorem ady {P:Program} {w:World} {l:List (String×DataW Unit)} (h:laidMet P l w) {n:String} {d:DataW Unit} (hm:(n,d)∈l):Dr P w n d:=by
 obtain⟨ps,g,_,f⟩:=h;refine Pf g (λb off a=>?_) n d hm;obtain⟨⟨c,t,e⟩,_⟩:=f b off a;unfold ξp;simp[e]
theorem adz {α:Type} {P:Program} {w:World} {n:String} {d:DataW Unit} {g t:Nat} {T:Ty α} {D: {H:Type}->DataW H->α->Prop} (c:P.globalNamed n=some g) (q:(P.globals[g]?).map (·.type)=some t) (h:da P t T D) (v:0<T.n) (hl:Dr P w n d):
  ∃x,T.ptr.is [] w (.pointer (some ⟨g,0,none⟩)) x/\D d x:=by
 obtain⟨r,t',cs,fuel,p,f,i,k,l,hp,o⟩:=hl;cases c.symm.trans f;cases q.symm.trans i;obtain⟨x,a,m⟩:=h.bg l hp;have b: ∀j,w.cell? ⟨g,j,none⟩=cs.toList[j]? :=λj=>by
  have:=World.var?_cell c k j;simpa using this
 have hl:=T.len a;have e: ∀j,(⟨g,0,none⟩:Addr).add j=⟨g,j,none⟩:=λj=>by unfold Addr.add;split<;>simp_all
 refine⟨x,⟨_,⟨⟨g,0,none⟩,_,rfl,?_,by simp,a,λj u hu=>?_,λj s=>?_⟩,rfl⟩,m⟩
 .obtain⟨u,hu⟩: ∃u,cs.toList[0]? =some u:=⟨_,ζ (by omega)⟩;rw[<-b] at hu;exact Nh hu
 .rw[e,b];exact hu
 .rw[e];refine o g j ?_;unfold ξt
  simp_all
theorem wo {H:Type} {d:DataW H} {x:Int} (h:bu .u64 d x):0<=x/\x<18446744073709551616:=by
 have:=h.2;simp[Lit.wf,IntKind.min,IntKind.max,IntKind.signed,IntKind.bits] at this;omega
theorem acp {x:ag} (h:cc (bM (bu .u64) (bM (bu .u64) (bM iJ (cb (bu .u64))))) (λd:ag=>(d.aa,d.aT,d.ba,d.bT)) (χ (H:=Unit)) x):x=wk:=by
 obtain⟨a,b,c,d⟩:=x;simp[χ,cc,bM,cb,bu,iJ] at h;obtain⟨d1,m,⟨rfl,rfl⟩,⟨i,_⟩,d2,n,e,⟨j,_⟩,d3,o,f,k,d4,g,l,_⟩:=h;simp at e;obtain⟨rfl,rfl⟩:=e;simp at f;obtain⟨rfl,rfl⟩:=f;simp at g;subst g;simp at i j k l;subst i;subst j;subst k;subst l;rfl
theorem acw {O:Γ} {w:World} (h:eO.ptr.is O w (.pointer (some ⟨0,0,none⟩)) wk):cB KK O w:=by
 refine⟨?_,λg t x a=>?_⟩
 .obtain⟨cs,⟨ad,es,rfl,b,_⟩,c⟩:=h;exact Nat.lt_of_le_of_lt (κ _) b
 .show(SS.ty t).ptr.is O w (.pointer (some ⟨g,0,none⟩)) x;have a:qg g=some ⟨t,x⟩:=a;unfold qg at a;split at a
  .cases a;exact h
  .cases a
theorem aaO {f:Nat} {args:List (aE SS)} {r:Bool} (g:d_ KK γ f args (.ret (.s (KK.bg 4 r)))) {A:Pl} {O:Γ} {w:World} {vs:Γb} (h:cG A O w args vs) (d:OB O w) (c:cB KK O w):Calls γ f vs.toArray w (gi (mv Ty.bool) O w r):=by
 refine(g.2 A O w vs h d c).mono ?_;rintro e w' ⟨⟨v,rfl,a,_⟩,b⟩;cases a;exact⟨_,rfl,jE.2 rfl,b⟩
theorem ai9 {H:Type} {d:DataW H} {x:aF} (h:(cc (bM (cc (bM (ib .i64 16) (cb (cT (cc (bM (bu .u64) (bM (bu .u64) (bM iJ (cb (bu .u64))))) (λd:ag=>(d.aa,d.aT,d.ba,d.bT)))))) (λd:aV=>(d.az,d.ab))) (bM (cT (cc (bM (bu .u64) (bM (bu .i64) (cb (bu .u64)))) (λd:ai=>(d.aa,d.bm,d.b3)))) (bM (cc (bM (cT (cc (bM (bu .u64) (cb (bu .u64))) (λd:ax=>(d.aP,d.aS)))) (cb (bu .u64))) (λd:a1=>(d.ab,d.aL))) (cb (cc (bM (cT (cc (bM (bu .u64) (cb (bu .u64))) (λd:av=>(d.aY,d.aa)))) (cb (cT (cc (bM (bu .u64) (cb (cT (bu .u64)))) (λd:aq=>(d.aa,d.a6)))))) (λd:aC=>(d.an,d.ak))))))) (λd:aF=>(d.ar,d.aB,d.au,d.ao))) d x):uX x:=by
 obtain⟨_,_,_,_,_,c,_,_,_,_,_,_,_,b,_,_,hI⟩:=h;obtain⟨_,_,_,_,_,_,_,_,c⟩:=c;obtain⟨_,_,_,_,_,b,_⟩:=b;obtain⟨_,_,_,_,_,hI,_⟩:=hI;refine⟨λz a=>?_,λz a=>?_,λz a=>?_⟩
 .obtain⟨e,_,_,_,_,_,h,_⟩:=c.mem z a;exact wo h
 .obtain⟨e,_,_,_,_,_,h,_⟩:=b.mem z a;exact wo h
 .obtain⟨e,_,_,_,_,_,h,_⟩:=hI.mem z a;exact wo h
theorem ajp {H:Type} {d:DataW H} {x:aF} (h:(cc (bM (cc (bM (ib .i64 16) (cb (cT (cc (bM (bu .u64) (bM (bu .u64) (bM iJ (cb (bu .u64))))) (λd:ag=>(d.aa,d.aT,d.ba,d.bT)))))) (λd:aV=>(d.az,d.ab))) (bM (cT (cc (bM (bu .u64) (bM (bu .i64) (cb (bu .u64)))) (λd:ai=>(d.aa,d.bm,d.b3)))) (bM (cc (bM (cT (cc (bM (bu .u64) (cb (bu .u64))) (λd:ax=>(d.aP,d.aS)))) (cb (bu .u64))) (λd:a1=>(d.ab,d.aL))) (cb (cc (bM (cT (cc (bM (bu .u64) (cb (bu .u64))) (λd:av=>(d.aY,d.aa)))) (cb (cT (cc (bM (bu .u64) (cb (cT (bu .u64)))) (λd:aq=>(d.aa,d.a6)))))) (λd:aC=>(d.an,d.ak))))))) (λd:aF=>(d.ar,d.aB,d.au,d.ao))) d x):ky x:=by
 have hw:=ai9 h;obtain⟨_,_,_,_,_,a,_⟩:=h;obtain⟨_,_,_,_,_,⟨_,_,_,hl⟩,_⟩:=a;exact⟨hl,hw.pid,hw.path,hw.name⟩
theorem Uv {l:Γa} (h: ∀x∈l,cd x) (i:Nat):cd (aw l i):=by
 unfold aw;cases e:l[i]? with
 |none=>exact⟨by simp,by simp⟩
 |some x=>exact h x (List.mem_of_getElem? e)
theorem ajl {H:Type} {d:DataW H} {l:Γa} (h:ib .u64 4 d l):(∀x∈l,cd x)/\l.length=4:=by
 obtain⟨ds,_,a,hl⟩:=h;refine⟨λx b=>?_,hl⟩;obtain⟨e,_,he⟩:=a.mem x b;exact wo he
theorem ajm {H:Type} {d:DataW H} {l:List bq} (h:(cT (cc (bM (bu .u64) (cb (ib .u64 4))) (λd:bq=>(d.bb,d.fArgs)))) d l): ∀c∈l,gZ c:=by
 intro c b;obtain⟨e,_,_,_,_,_,_,_,_,a⟩:=h.mem c b;have:=(ajl a).1;exact⟨Uv this 0,Uv this 1⟩
theorem adv {O:Γ} {w:World} (e:OB O w) (g:eO.ptr.is O w (.pointer (some ⟨0,0,none⟩)) wk) {v0 v1:Value} {a:aF} {b:List bq} (c:en.is O w v0 a) (d:(Ty.slice h6).is O w v1 b) {r:Bool} (h:N8 ae a b=some r):Calls γ 4 #[v0,v1] w (gi (mv Ty.bool) O w r):=by
 rw[<-ot] at h;have f:d_ KK γ 4 [KK.bg 1036 a,KK.bg 1046 b] (.ret (.s (KK.bg 4 r))):=om (G:=y4) Xv (kf:=λ{R} (k:Rs SS->Option R)=>(λr=>k (.ret (.s (KK.bg 4 r))))) (λk=>t_4 a b k) rfl (lU h) λk=>rfl;exact aaO f (A:=kV) (vs:=[v0,v1]) ⟨v0,_,rfl,e3 cH (t:=1036) rfl rfl c,v1,_,rfl,e3 cH (t:=1046) rfl rfl d,rfl⟩ e (acw g)
end Go.Proofs.YtdhaaaeffhaadaaGreatDoor
end
