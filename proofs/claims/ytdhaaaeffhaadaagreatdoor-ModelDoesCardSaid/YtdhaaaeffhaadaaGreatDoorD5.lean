/- A part of the proof that ModelDoes returns true for every input: the machine of values, its soundness, the program as plain functions, the law. Conditions: those of the given rows. -/
import Derived.Test.YtdhaaaeffhaadaaGreatDoorD4
import Derived.Laws.Bits64b
import Derived.Laws.Strings
set_option linter.unusedVariables false
set_option linter.unusedSimpArgs false
noncomputable section
set_option maxRecDepth 1000000
set_option maxHeartbeats 12000000
open Array renaming toList_extract→ζF,ext'→ζU
open Bool renaming eq_iff_iff→η,and_eq_true→θ,not_true→ι,true_and→ξ,not_false→π,false_or→ξd,false_eq_true→ξm,not_eq_true'→ξJ,false_ne_true→ζb,not_not→ζd,false_and→ζg,and_assoc→ζG,or_eq_true→η1,and_false→η4,or_false→ηb,and_self→ηd,or_self→ηi,true_or→ηj
open ByteArray renaming mk→ξ1,ext→ζ5,data_extract→ζu
open Decidable renaming em→ηk
open Go.ByteArray renaming toList_eq→ξP
open Go.IntKind renaming i64→μ,u64→ξe,wrap_u64→ζt,wrap_u8→ζZ,u8→ηm
open Go.Lib renaming indexByte→ηc
open Go.Utf8 renaming decode→ξg,decode→ζf
open Int renaming toNat_natCast→ζ,lt_irrefl→φ,eq_ofNat_of_zero_le→ξh,reduceBEq→ξT,reduceEq→ζ2,fdiv_eq_ediv_of_nonneg→ζ9
open List renaming getElem?_eq_some_iff→δ,getElem?_eq_getElem→ε,mem_of_getElem?→κ,mem_filter→ν,mem_cons_of_mem→ο,drop_eq_getElem_cons→ρ,mem_cons_self→τ,length_append→υ,mem_append→χ,mem_of_find?_eq_some→ψ,length_cons→ω,takeWhile_cons→ξ0,mem_of_mem_take→ξ2,length_filter_le→ξ5,length_singleton→ξ6,all_eq_true→ξ7,getElem?_map→ξ8,pairwise_iff_getElem→ξ9,dropWhile_cons→ξb,nil_append→ξc,foldl_cons→ξf,pairwise_cons→ξi,filter_cons→ξj,isPrefixOf_iff_prefix→ξk,length_map→ξl,any_eq_true→ξp,mem_append_left→ξq,pairwise_append→ξr,append_nil→ξs,find?_some→ξt,filterMap_cons→ξu,dropWhile_sublist→ξv,range→ξw,findIdx?_eq_some_iff_getElem→ξx,exists_of_findSome?_eq_some→ξy,any_eq_false→ξz,takeWhile_append_dropWhile→ξA,mem_cons→ξB,eq_nil_of_length_eq_zero→ξC,mem_singleton→ξE,singleton_append→ξF,map_append→ξG,append_assoc→ξH,all_cons→ξI,getElem?_append_right→ξK,getElem?_of_mem→ξL,range_eq_range'→ξM,drop_zero→ξN,getElem_mem→ξO,find?_cons→ξQ,findIdx?_cons→ξR,pairwise_singleton→ξS,takeWhile_sublist→ξU,getElem?_set→ξW,range'→ξX,getElem?_eq_none→ξY,mem_map→ξZ,take_append_drop→ζ1,length_take→ζ3,map_cons→ζ6,length_pos_iff→ζ7,mem_filterMap→ζc,filter_append→ζe,mem_take_iff_getElem→ζh,mem_or_eq_of_mem_set→ζi,ext_getElem?→ζk,head?_dropWhile_not→ζm,filter_congr→ζn,getElem?_cons_succ→ζp,getElem?_cons_zero→ζq,map→ζr,prefix_iff_eq_take→ζs,reverse_singleton→ζv,length_pos_of_mem→ζw,length_nil→ζy,eq_nil_or_concat→ζz,set_append_right→ζA,mem_iff_getElem?→ζC,mem_append_right→ζD,mem_range→ζH,length→ζI,getElem_of_mem→ζJ,reverse_append→ζL,findSome?_cons→ζM,getElem?_take→ζN,find?_eq_none→ζO,map_take→ζP,set_cons_zero→ζQ,map_map→ζW,take_length→ζX,mem_flatten→ζY,all_append→η0,map_id→η2,range_succ→η3,take_left→η5,drop_left→η6,replicate→η7,foldl→η8,any_cons→ηa,extract→ηg,map_nil→ηh
open Nat renaming zero_add→ξ4,le_refl→ξa,add_sub_cancel→ξD,le_trans→ζ0,mul_le_mul_right→ζ4,pow_succ→ζa,lt_succ_iff_lt_or_eq→ζj,lt_trichotomy→ζl,add_zero→ζx,sub_self→ζB,pow_le_pow_right→ζE,zero_le→ζK,lt_of_lt_of_le→ζS,mul_comm→ζV,mul_assoc→η9,mul_zero→ηe,le_of_lt→ηf,lt_or_ge→ηl
open Option renaming bind_some→γ,getD_some→ξ3,getD_none→ξo,map_eq_none_iff→ξV,map_some→ζ8,isSome_none→ζR
open Option.some renaming injEq→ζT
open UInt8 renaming ofNat→ξn,toNat→ζo
section
namespace Go.Proofs.YtdhaaaeffhaadaaGreatDoor
open Go.RowKit Go.Dc Go.Vx
def fi (d:ai):Bool:=decide (d.aa<4294967296)&&(decide (d.bm>=0)&&decide (d.bm<=7))
def cC (a b:ai):Bool:=decide (a.aa<b.aa)||(a.aa==b.aa&&decide (a.bm<b.bm))
def fp {α:Type} (q:α->α->Bool) (l:List α) (i:Nat) (z:α):Bool:=i==0||(match l[i-1]? with|some y=>q y z|none=>false)
def mc (l:List ai) (i:Nat) (x:ai):Bool:=fp cC l i x
theorem dB {σ X:Type} {step:σ->Option (σ⊕X)} {n:Nat} {a:σ}:cm step (n+1) a=(step a).bind λy=>match y with| .inl a'=>cm step n a'| .inr x=>some x:=rfl
def iy (l:List ai):Bool:=allI (λi x=>fi x&&mc l i x) 0 l&&decide (l.length<=64)
@[simp] theorem v82 (d:ai):Ha ae d=some (fi d):=by
 show(Fe ae d).val=_;unfold Fe fi;simp only[T.aH,T.aD];cases decide (d.aa<4294967296)<;>cases decide (d.bm>=0)<;>rfl
@[simp] theorem v94 (d:ai):Hb ae d=some (fi d):=by
 show(Fk ae d).val=_;unfold Fk fi;have:decide (d.bm<8)=decide (d.bm<=7):=by rw[η];simp;omega
 simp only[T.aH,T.aD,this];cases decide (d.aa<4294967296)<;>cases decide (d.bm>=0)<;>rfl
@[simp] theorem J' (a b:ai):pY ae a b=some (cC a b):=by
 show(Ff ae a b).val=_;unfold Ff cC;simp only[T.aH,T.aD];cases decide (a.aa<b.aa)<;>cases a.aa==b.aa<;>rfl
def hc (x y:Int):Int:=if x<y then -1 else if x>y then 1 else 0
@[simp] theorem h9 (x y:Int):ik ae x y=some (hc x y):=by
 show(DX ae x y).val=_;unfold DX hc;simp only[T.aH,T.aD]
 by_cases a:x<y
 .simp[a]
 .by_cases b:x>y
  .simp[a,b]
  .simp[a,b]
@[simp] theorem v130 (x y:Int):Gx ae x y=some (hc x y):=h9 x y
def pC (a b:ai):Int:=if hc a.aa b.aa=0 then hc a.bm b.bm else hc a.aa b.aa
@[simp] theorem Kc (a b:ai):p0 ae a b=some (pC a b):=by
 show(Fl ae a b).val=_;unfold Fl pC;simp only[T.aN,h9,v130,γ,T.bt,T.cx,T.aD];generalize hc a.aa b.aa=c1;generalize hc a.bm b.bm=c2;have h:Cg ae [c1,c2] 0=some (if c1=0 then(if c2=0 then .inr (false,2) else .inl c2) else .inl c1):=by
  show cm (λa=>(kt ae [c1,c2] a).val) 1000000 0=_;have e:(kt ae [c1,c2] 0).val=if c1=0 then some (.inl 1) else some (.inr (.inl c1)):=by
   unfold kt;simp only[T.aH,T.aN,T.aD]
   by_cases h:c1=0
   .simp[idx,h];rfl
   .have:(c1 !=0)=true:=by simp[h]
    simp[idx,h,this]
  have f:(kt ae [c1,c2] 1).val=if c2=0 then some (.inl 2) else some (.inr (.inl c2)):=by
   unfold kt;simp only[T.aH,T.aN,T.aD]
   by_cases h:c2=0
   .simp[idx,h];rfl
   .have:(c2 !=0)=true:=by simp[h]
    simp[idx,h,this]
  have g:(kt ae [c1,c2] 2).val=some (.inr (.inr (false,2))):=rfl;rw[show(1000000:Nat)=999997+1+1+1 from rfl,dB,e]
  by_cases h:c1=0
  .rw[if_pos h,if_pos h,γ];simp only;rw[dB,f]
   by_cases c:c2=0
   .rw[if_pos c,if_pos c,γ];simp only;rw[dB,g,γ]
   .rw[if_neg c,if_neg c,γ]
  .rw[if_neg h,if_neg h,γ]
 rw[h]
 by_cases d:c1=0
 .by_cases c:c2=0<;>simp[d,c]
 .simp[d]
theorem NA (a b:ai):decide (pC a b>=0)=!cC a b:=by
 unfold pC cC hc;rw[η]
 by_cases c:a.aa<b.aa
 .simp[c]
 .by_cases f:a.aa>b.aa
  .have: ¬a.aa=b.aa:=by omega
   simp[c,f,this]
  .have d:a.aa=b.aa:=by omega
   by_cases e:a.bm<b.bm
   .simp[d,e]
   .by_cases g:b.bm<a.bm<;>simp[d,e,g]<;>omega
theorem x1 {α X:Type} {S:T (Unit⊕Unit⊕X)} {l:List α} {i:Nat} {z:α} {g:α->Bool} {q:α->α->Bool} (hm:l.length<=maxLen) (d:l[i]? =some z)
  (b:S.val=bif !g z then some (.inr (.inl ())) else bif decide ((i:Int)>0) then(idx l (μ.wrap ((i:Int)-1))).bind λy=>bif !q y z then some (.inr (.inl ())) else some (.inl ()) else some (.inl ())):
  S.val=bif g z&&fp q l i z then some (.inl ()) else some (.inr (.inl ())):=by
 have c:=(δ.1 d).1;rw[b];unfold fp;cases g z with
 |false=>rfl
 |true=>
  cases i with
  |zero=>rfl
  |succ i=>
   have a:decide (((i+1:Nat):Int)>0)=true:=decide_eq_true (by omega);have hi:i<l.length:=by omega
   rw[a,xz c hm (by omega)];simp only[ι,cond_false,cond_true,ξ,show(i+1==0)=false from rfl,ξd,ξD,ε hi,γ];cases q l[i] z<;>rfl
theorem v41 {l:List ai} (hm:l.length<=maxLen):GS ae l=some (iy l):=by
 show(EU ae l).val=_;unfold EU iy;simp only[T.bt,T.aN,T.cx,T.aD];have hl:C6 ae l=bif allI (λi x=>fi x&&mc l i x) 0 l then some (.inr (false,(l.length:Int))) else some (.inl ()):=by
  show bF (λi z a=>(o7 ae l i z a).val) (λi a=>(sO ae l i a).val) 0 l ()=_;rw[gV (q:=λi x=>fi x&&mc l i x) (x:=.inl ())]
  .congr 1
   unfold sO;simp
  .intro i z b;exact x1 (S:=o7 ae l i z ()) (g:=fi) (q:=cC) hm b (by unfold o7;simp only[T.aN,T.aH,T.aD,v82,J',γ])
 rw[hl];cases allI (λi x=>fi x&&mc l i x) 0 l with
 |false=>rfl
 |true=>
  simp only[cond_true,γ,ξ]
  congr 1
  rw[η];simp;omega
theorem UL {l:List ai} (hm:l.length<=maxLen):iW ae l=some (bif iy l then 0 else 330):=by
 show(E0 ae l).val=_;unfold E0 iy;simp only[T.bt,T.aN,T.cx,T.aD,T.aH];have hl:C' ae l=bif allI (λi x=>fi x&&mc l i x) 0 l then some (.inr (false,(l.length:Int))) else some (.inl ()):=by
  show bF (λi z a=>(o8 ae l i z a).val) (λi a=>(sT ae l i a).val) 0 l ()=_;rw[gV (q:=λi x=>fi x&&mc l i x) (x:=.inl ())]
  .congr 1
   unfold sT;simp
  .intro i z c;exact x1 (S:=o8 ae l i z ()) (g:=fi) (q:=cC) hm c (by unfold o8;simp only[T.aN,T.aH,T.aD,v94,Kc,NA,γ])
 rw[hl]
 by_cases h:l.length<=64
 .have b:decide ((l.length:Int)>64)=false:=decide_eq_false (by omega);rw[b,decide_eq_true h];cases allI (λi x=>fi x&&mc l i x) 0 l<;>rfl
 .have b:decide ((l.length:Int)>64)=true:=decide_eq_true (by omega);rw[b,decide_eq_false h];simp
def ee (s:ByteArray) (j:Nat):Nat:=((s.data.toList[j]?).map ζo).getD 0
def e' (c:Nat->Nat):Nat->Nat
 |0=>0
 |i+1=>e' c i+256^i*c i
def iQ (s:ByteArray):Int×Int:=if 8<s.size then(0,111) else if(ξw s.size).any (λj=>ee s j==0) then(0,2) else((e' (ee s) 8:Nat),0)
theorem aaT (s:ByteArray) (j:Nat):ee s j<256:=by
 unfold ee;cases s.data.toList[j]? with
 |none=>simp
 |some b=>simpa using b.toNat_lt
theorem IX {c:Nat->Nat} (a: ∀j,c j<256): ∀i,e' c i<256^i
 |0=>by simp[e']
 |i+1=>by
  have b:=IX a i;have d:256^i*c i<=256^i*255:=Nat.mul_le_mul_left _ (by have:=a i;omega);simp only[e',ζa];generalize (256:Nat)^i=q at*
  generalize q*c i=r at*
  omega
theorem ahY (c i:Nat) (f:c<256) (hi:i<8):my .u64 (c:Int) ((8*i:Nat):Int)=some ((256^i*c:Nat):Int):=by
 unfold my;rw[if_neg (by omega)];have d:ξe.bits=64:=rfl;have hm:min ((8*i:Nat):Int).toNat ξe.bits=8*i:=by rw[d,ζ];omega
 have hp:(2:Nat)^(8*i)=256^i:=by rw[Nat.pow_mul]
 have hle:256^i<=256^7:=ζE (by omega) (by omega);have a:(256:Nat)^7=72057594037927936:=by decide
 have e:(c:Int)*2^(8*i)=((256^i*c:Nat):Int):=by rw[<-hp,Int.natCast_mul,Int.natCast_pow,Int.mul_comm];rfl
 rw[hm,ζt,e];have g:256^i*c<18446744073709551616:=by
  have b:256^i*c<=256^7*c:=ζ4 _ hle;rw[a] at b;omega
 generalize 256^i*c=q at*
 rw[ζT];omega
theorem aeS {c:Nat->Nat} (a: ∀j,c j<256) (i:Nat) (hi:i<8):bits .or .u64 (e' c i:Int) ((256^i*c i:Nat):Int)=(e' c (i+1):Int):=by
 have e:=IX a i;have g:=IX a (i+1);have hle:256^(i+1)<=256^8:=ζE (by omega) (by omega);have d:(256:Nat)^8=18446744073709551616:=by decide
 rw[d] at hle;have f:e' c (i+1)=e' c i+256^i*c i:=rfl;rw[bits_or_u64_nat _ _ (by omega) (by omega),Nat.or_comm,f];have hp:(2:Nat)^(8*i)=256^i:=by rw[Nat.pow_mul]
 have:=Nat.two_pow_add_eq_or_of_lt (i:=8*i) (b:=e' c i) (by rw[hp];exact e) (c i);rw[hp] at this;rw[<-this,Nat.add_comm]
theorem u0 {α:Type} {b:Nat} {xs ys:List α} (h:(xs.length+ys.length)*b<=140737488355328):app b xs ys=some (xs++ys):=by
 unfold app;rw[if_pos h]
def dg:Nat->Nat->Γ
 |0,_=>[]
 |k+1,n=>if n%256=0 then[] else n%256::dg k (n/256)
def dH:Nat->Nat->Nat
 |0,n=>n
 |k+1,n=>if n%256=0 then n else dH k (n/256)
def bs (l:Γ):ByteArray:=⟨(l.map ξn).toArray⟩
theorem kE: ∀(k n:Nat),(dg k n).length<=k
 |0,_=>by simp[dg]
 |k+1,n=>by
  simp only[dg];split
  .simp
  .have:=kE k (n/256);simp;omega
theorem vr: ∀(k n:Nat),∀x∈dg k n,0<x/\x<256
 |0,_,x,h=>by simp[dg] at h
 |k+1,n,x,h=>by
  simp only[dg] at h;split at h
  .cases h
  .rcases ξB.1 h with e|h
   .omega
   .exact vr k _ x h
theorem dT (l:Γ):(bs l).size=l.length:=by simp[bs,ByteArray.size]
theorem aaS (l m:Γ):bs l++bs m=bs (l++m):=by
 apply ζ5;simp[bs,ByteArray.data_append]
theorem foldl_push: ∀(xs:Γa) (r:ByteArray),(xs.foldl (λr n=>r.push (ξn n.toNat)) r).data.toList=r.data.toList++xs.map (λn=>ξn n.toNat)
 |[],r=>by simp
 |x::xs,r=>by
  rw[ξf,foldl_push xs];simp[ByteArray.data_push]
theorem T9 (l:Γ):strOf (l.map λ(n:Nat)=>(n:Int))=bs l:=by
 apply ζ5;apply ζU;unfold strOf;rw[foldl_push];show[]++_=_;simp[bs]
theorem yw {l m:Γ} (h:l.length+m.length<=1000):ka (bs l) (bs m)=some (bs (l++m)):=by
 unfold ka;rw[dT,dT,if_pos (by omega),aaS]
theorem aij (n:Nat):((n:Int).tmod 256)=((n%256:Nat):Int):=by
 rw[Int.tmod_eq_emod_of_nonneg (by omega)];omega
theorem aih (n:Nat):((n:Int).tdiv 256)=((n/256:Nat):Int):=by
 rw[Int.tdiv_eq_ediv_of_nonneg (by omega)];omega
theorem aaH {n:Nat} (h:n<18446744073709551616):bits .and .u64 (n:Int) 255=((n%256:Nat):Int):=by
 have e:bits .and .u64 (n:Int) ((255:Nat):Int)=((n&&&255:Nat):Int):=bits_and_u64_nat n 255 h (by omega);have a:n&&&255=n%256:=by
  have:=Nat.and_two_pow_sub_one_eq_mod n 8;simpa using this
 rw[a] at e;exact e
def pk:Γ->Nat
 |[]=>0
 |x::r=>x+256*pk r
theorem IY (c:Nat->Nat): ∀k,e' c (k+1)=c 0+256*e' (λi=>c (i+1)) k
 |0=>by simp[e']
 |k+1=>by
  rw[e',IY c k];simp only[e',ζa,Nat.mul_add];rw[ζV (256^k) 256];simp only[η9,Nat.add_assoc]
theorem IW: ∀(k:Nat) (l:Γ),l.length<=k->e' (λi=>(l[i]?).getD 0) k=pk l
 |0,l,h=>by
  have:l=[]:=ξC (by omega);subst this;rfl
 |k+1,[],h=>by
  rw[IY];have:=IW k [] (by simp);simp only[List.getElem?_nil,ξo] at this ⊢;rw[this];rfl
 |k+1,x::r,h=>by
  rw[IY];have:=IW k r (by simpa using h);simp only[ζp,ζq,ξ3] at this ⊢;rw[this];rfl
theorem x6: ∀(k n:Nat),pk (dg k n)+256^(dg k n).length*dH k n=n
 |0,n=>by simp[dg,dH,pk]
 |k+1,n=>by
  simp only[dg,dH];split
  .simp[pk]
  .have:=x6 k (n/256);simp only[pk,ω,ζa];rw[ζV (256^_) 256,η9];omega
theorem Nl {l:Γ} (h: ∀x∈l,x<256) (j:Nat):ee (bs l) j=(l[j]?).getD 0:=by
 unfold ee bs;simp only[ξ8];cases a:l[j]? with
 |none=>simp
 |some x=>
  have:=h x (κ a);simp;omega
theorem u_ {l:Γ} (h: ∀x∈l,0<x/\x<256) (hl:l.length<=8):iQ (bs l)=(((pk l:Nat):Int),0):=by
 unfold iQ;rw[dT,if_neg (by omega)];have e:(ξw l.length).any (λj=>ee (bs l) j==0)=false:=by
  rw[ξz];intro j a;have a:j<l.length:=by simpa using a
  rw[Nl (λx b=>(h x b).2),ε a];have:=(h _ (ξO a)).1;simp;omega
 rw[e,if_neg (by simp)];rw[show ee (bs l)=λi=>(l[i]?).getD 0 from funext λj=>Nl (λx b=>(h x b).2) j,IW 8 l hl]
theorem Ov {l:Γ} (h: ∀x∈l,x<256) {i x:Nat} (a:l[i]? =some x):((bs l).get! i).toNat=x:=by
 have hl:=(δ.1 a).1;have b:=h x (κ a);have e:(bs l).get! i=ξn x:=by
  unfold ByteArray.get! bs;have:((l.map ξn).toArray)[i]? =some (ξn x):=by simp[a]
  simp[getElem!_def,this]
 rw[e];simp;omega
theorem F6 {s:ByteArray} {i:Nat} (h:(s.get! i).toNat<128):ζf s i=((s.get! i).toNat,1):=by
 unfold ζf;simp only[ζx];rw[if_pos h]
theorem decode_high {s:ByteArray} {i:Nat} (h: ¬(s.get! i).toNat<128):128<=(ζf s i).1:=by
 unfold ζf;simp only[ζx];rw[if_neg h];have b:128<=Go.Utf8.runeError:=by decide
 repeat' split
 all_goals first|exact b|skip
 .assumption
 .rename_i a;simp only[θ,decide_eq_true_eq] at a;have:=a.1;show 128<=_;omega
 .rename_i a;simp only[θ,decide_eq_true_eq] at a;have:=a.1;show 128<=_;omega
def ey (c:Nat):Bool:=decide (97<=c/\c<=122\/48<=c/\c<=57)
theorem vf {c:Nat} (h:128<=c):ey c=false:=by
 unfold ey;simp;omega
theorem yy {l:Γ} (h: ∀x∈l,x<256) {i x:Nat} (a:l[i]? =some x):fq (bs l) (i:Int)=some (x:Int):=by
 have hl:=(δ.1 a).1;have e:=h x (κ a);have c:i<(bs l).size:=by rw[dT];exact hl
 unfold fq;rw[if_pos (by omega),ζ,getElem?_pos (bs l) i c];have b:(bs l)[i]=ξn x:=by
  show(bs l).data[i]=_;have d:=(δ.1 a).2;simp[bs,d]
 rw[b];simp;omega
theorem nj (n:Nat): ∀x∈dg 8 n,x<256:=λx a=>(vr 8 n x a).2
theorem F_ (l:Γ):((bs l).toList==(⟨#[]⟩:ByteArray).toList)=l.isEmpty:=by
 have a: ∀x:ByteArray,x.toList=x.data.toList:=λx=>ξP x;rw[a,a];cases l<;>simp[bs]
def dy (n:Int):Bool:=(dH 8 n.toNat==0)&&!(dg 8 n.toNat).isEmpty&&(dg 8 n.toNat).all ey
theorem ML {n:Nat} {l:Γ} (hn:n<18446744073709551616) (hl:l.length<=100):(oP ae ((n:Int),bs l)).val=if n=0 then some (.inr (.inr (false,0,bs l))) else if n%256=0 then some (.inr (.inl ())) else some (.inl (((n/256:Nat):Int),bs (l++[n%256]))):=by
 unfold oP;simp only[T.aH,T.aN,T.aD];rw[aij,aih]
 by_cases a:n=0
 .subst a;rfl
 .have hp:decide ((n:Int)>0)=true:=by simp;omega
  rw[hp,if_neg a];simp only[cond_true]
  by_cases hm:n%256=0
  .have e:(((n%256:Nat):Int)==0)=true:=by rw[hm];rfl
   rw[e,if_pos hm];rfl
  .have e:(((n%256:Nat):Int)==0)=false:=by simp;omega
   rw[e,if_neg hm];have hw:ηm.wrap ((n%256:Nat):Int)=((n%256:Nat):Int):=by rw[ζZ];omega
   have c:ξe.wrap ((n/256:Nat):Int)=((n/256:Nat):Int):=by rw[ζt];omega
   have b:strOf [((n%256:Nat):Int)]=bs [n%256]:=T9 [n%256];simp only[cond_false];rw[hw,c,b,yw (by simp;omega)];rfl
theorem UD: ∀(k f n:Nat) (l:Γ),n<256^k->n<18446744073709551616->l.length+k<=100->
  cm (λa=>(oP ae a).val) (k+1+f) ((n:Int),bs l)=some (if dH k n=0 then .inr (false,0,bs (l++dg k n)) else .inl ())
 |0,f,n,l,h,_,_=>by
  have:n=0:=by simpa using h
  subst this;rw[show 0+1+f=f+1 by omega,dB,ML (by omega) (by omega)];simp[dH,dg]
 |k+1,f,n,l,h,hn,hl=>by
  rw[show k+1+1+f=(k+1+f)+1 by omega,dB,ML hn (by omega)]
  by_cases b:n=0
  .subst b;simp[dH,dg]
  .rw[if_neg b]
   by_cases hm:n%256=0
   .rw[if_pos hm];simp[dH,hm,b]
   .rw[if_neg hm,γ];simp only;rw[UD k f (n/256) (l++[n%256]) (by rw[ζa] at h;omega) (by omega) (by simp;omega)];simp only[dH,dg,if_neg hm,ξH,ξF]
theorem J5 {n:Nat} (h:n<18446744073709551616):pK ae (n:Int)=some (if dH 8 n=0 then(bs (dg 8 n),true) else(⟨#[]⟩,false)):=by
 show(DU ae (n:Int)).val=_;unfold DU;simp only[T.bt,T.aN,T.cx,T.aD];have:=UD 8 999991 n [] (by omega) h (by simp);rw[ξc] at this;have b:B_ ae (n:Int) (ξ1 #[])=_:=this;rw[b]
 by_cases a:dH 8 n=0
 .rw[if_pos a,if_pos a];rfl
 .rw[if_neg a,if_neg a];rfl
theorem ad6 {s:ByteArray} (d:s.size<=8) {i:Nat} (hi:i<8):aw (cg [0,0,0,0,0,0,0,0] (s.data.toList.map λb=>(b.toNat:Int))) i=(ee s i:Int):=by
 have hl:s.data.toList.length=s.size:=by rw[Array.length_toList];rfl
 unfold aw cg ee;simp only[ξl,ω,ζy,hl]
 by_cases h:i<s.size
 .rw[List.getElem?_append_left (by rw[ζ3,ξl];omega),ζN,if_pos (by omega),ξ8,ε (by omega)];rfl
 .have hn:s.data.toList[i]? =none:=ξY (by omega);rw[hn,ξK (by rw[ζ3,ξl];omega)];have: ∀(k:Nat) (l:Γa),(∀x∈l,x=0)->(l[k]?).getD 0=0:=λk l hl=>by
   cases a:l[k]? with
   |none=>rfl
   |some x=>exact hl x (κ a)
  exact this _ _ λx c=>by
   have:=List.mem_of_mem_drop c;simp only[ξB,List.not_mem_nil,or_false] at this;omega
theorem O3: ∀l:Γa,jb KK 5 .u8 l=some l
 |[]=>rfl
 |x::l=>by
  have a:=O3 l;show(match jb KK 5 .u8 l with|some zs=>some (x::zs)|none=>none)=_;rw[a]
theorem Yv {s:ByteArray} (g:s.size<=8) {i:Nat} (hi:i<8):(o9 ae s (cg [0,0,0,0,0,0,0,0] (s.data.toList.map λb=>(b.toNat:Int))) (((e' (ee s) i:Nat):Int),(i:Int))).val=if ee s i=0/\i<s.size then some (.inr (.inl ())) else some (.inl (((e' (ee s) (i+1):Nat):Int),((i+1:Nat):Int))):=by
 have c:=aaT s;unfold o9;simp only[T.aH,T.aN,T.aD];have f:decide ((i:Int)<8)=true:=decide_eq_true (by omega);have j:ξe.wrap (ee s i:Int)=(ee s i:Int):=by have:=c i;rw[ζt];omega
 have k:μ.wrap (8*(i:Int))=((8*i:Nat):Int):=by rw[cr (by omega) (by omega)];omega
 have l:μ.wrap ((i:Int)+1)=((i+1:Nat):Int):=by rw[cr (by omega) (by omega)];omega
 rw[f,ja (by omega) (by omega)];simp only[cond_true,γ,ζ];rw[ad6 g hi,j,k,l,ahY _ i (c i) hi];simp only[γ];rw[aeS c i hi]
 by_cases a:ee s i=0
 .by_cases d:i<s.size
  .have e:decide ((i:Int)<(s.size:Int))=true:=decide_eq_true (by omega);rw[a,e,if_pos ⟨rfl,d⟩];rfl
  .have e:decide ((i:Int)<(s.size:Int))=false:=decide_eq_false (by omega);rw[a,e,if_neg (λh=>d h.2)];rfl
 .have e:((ee s i:Int)==0)=false:=by simp;omega
  rw[e,if_neg (λh=>a h.1)];rfl
theorem UN {s:ByteArray} (m:s.size<=8): ∀(k f i:Nat),i+k=8->(∀j,j<i->j<s.size->ee s j≠0)->
  cm (λa=>(o9 ae s (cg [0,0,0,0,0,0,0,0] (s.data.toList.map λb=>(b.toNat:Int))) a).val) (k+1+f) (((e' (ee s) i:Nat):Int),(i:Int))=some (if(ξw s.size).any (λj=>ee s j==0) then .inl () else .inr (false,((e' (ee s) 8:Nat):Int),8))
 |0,f,i,e,h=>by
  obtain rfl:i=8:=by omega
  have n:(ξw s.size).any (λj=>ee s j==0)=false:=by
   rw[ξz];intro j d;have d:j<s.size:=by simpa using d
   have:=h j (by omega) d;simpa using this
  rw[n,show 0+1+f=f+1 by omega,dB];rfl
 |k+1,f,i,e,h=>by
  rw[show k+1+1+f=(k+1+f)+1 by omega,dB,Yv m (by omega)]
  by_cases c:ee s i=0/\i<s.size
  .have o:(ξw s.size).any (λj=>ee s j==0)=true:=by
    rw[ξp];exact⟨i,by simpa using c.2,by simpa using c.1⟩
   rw[if_pos c,o];rfl
  .rw[if_neg c,γ];simp only;exact UN m k f (i+1) (by omega) λj d l=>by
    rcases ζj.1 d with g|g
    .exact h j g l
    .subst g;exact λp=>c ⟨p,l⟩
theorem UM (s:ByteArray):pX ae s=some (iQ s):=by
 show(Fb ae s).val=_;unfold Fb iQ;simp only[T.bt,T.aN,T.cx,T.aD,T.aH]
 by_cases h:8<s.size
 .have e:decide ((s.size:Int)>8)=true:=decide_eq_true (by omega);rw[e,if_pos h];rfl
 .have e:decide ((s.size:Int)>8)=false:=decide_eq_false (by omega);have c:Nat.ble s.size 8=true:=Nat.ble_eq_true_of_le (by omega);rw[e,if_neg h];simp only[cond_false,yA,sameKind,c,ξ,cond_true,γ];have a:Dl ae s (cg [0,0,0,0,0,0,0,0] (s.data.toList.map λb=>(b.toNat:Int))) 0 0=_:=UN (by omega) 8 999991 0 rfl λj d=>by omega
  rw[a];cases (ξw s.size).any (λj=>ee s j==0)<;>rfl
def ints (l:Γ):Γa:=l.map λ(n:Nat)=>(n:Int)
theorem MM (b:Int) {n:Nat} {l:Γ} (hn:n<18446744073709551616) (hl:l.length<=100):(oR ae b ((n:Int),ints l)).val=if n%256=0 then some (.inr (false,0,(n:Int),ints l)) else some (.inl (((n/256:Nat):Int),ints (l++[n%256]))):=by
 unfold oR;simp only[T.aH,T.aN,T.aD];rw[aaH hn]
 by_cases hm:n%256=0
 .have e:(((n%256:Nat):Int) !=0)=false:=by rw[hm];rfl
  rw[e,if_pos hm,hm];rfl
 .have e:(((n%256:Nat):Int) !=0)=true:=by simp;omega
  rw[e,if_neg hm];simp only[cond_true];have hw:ηm.wrap (n:Int)=((n%256:Nat):Int):=by rw[ζZ];omega
  have a:(n:Int).fdiv 256=((n/256:Nat):Int):=by
   rw[ζ9 _ (by omega)];omega
  rw[hw,a,u0 (by simp[ints];omega)];simp only[γ];rw[ints,ints,ξG];rfl
theorem UG (b:Int): ∀(k f n:Nat) (l:Γ),n<256^k->n<18446744073709551616->l.length+k<=100->
  ∃m,cm (λa=>(oR ae b a).val) (k+1+f) ((n:Int),ints l)=some (false,0,m,ints (l++dg k n))
 |0,f,n,l,h,_,_=>by
  have:n=0:=by simpa using h
  subst this;rw[show 0+1+f=f+1 by omega,dB,MM b (by omega) (by omega)];exact⟨0,by simp[dg]⟩
 |k+1,f,n,l,h,hn,hl=>by
  rw[show k+1+1+f=(k+1+f)+1 by omega,dB,MM b hn (by omega)]
  by_cases hm:n%256=0
  .rw[if_pos hm];exact⟨(n:Int),by simp[dg,hm]⟩
  .rw[if_neg hm,γ];simp only;obtain⟨m,c⟩:=UG b k f (n/256) (l++[n%256]) (by rw[ζa] at h;omega) (by omega) (by simp;omega);rw[c];exact⟨m,by simp only[dg,if_neg hm,ξH,ξF]⟩
theorem UF {n:Nat} (h:n<18446744073709551616):vA ae (n:Int)=some (if dH 8 n=0 then(bs (dg 8 n),0) else(⟨#[]⟩,2)):=by
 show(DZ ae (n:Int)).val=_;unfold DZ;simp only[T.bt,T.aN,T.aH,T.aD];obtain⟨m,hm⟩:=UG (n:Int) 8 999991 n [] (by omega) h (by simp);rw[ξc] at hm;have b:Ch ae (n:Int) (n:Int) []=_:=hm;rw[b];simp only[γ,O3,UM];rw[show strOf (ints (dg 8 n))=bs (dg 8 n) from T9 _,u_ (vr 8 n) (kE 8 n)];have:=x6 8 n;simp only[bne_self_eq_false,cond_false]
 by_cases a:dH 8 n=0
 .rw[a,ηe,ζx] at this;rw[this,if_pos a];simp
 .have c:0<256^(dg 8 n).length*dH 8 n:=Nat.mul_pos (Nat.pow_pos (by omega)) (by omega);have e:(((pk (dg 8 n):Nat):Int) !=(n:Int))=true:=by simp;omega
  rw[e,if_neg a];rfl
theorem vg (c:Nat):ey c=(bif decide ((c:Int)>=97) then(bif decide ((c:Int)<=122) then true else(bif decide ((c:Int)>=48) then decide ((c:Int)<=57) else false)) else(bif decide ((c:Int)>=48) then decide ((c:Int)<=57) else false)):=by
 unfold ey
 by_cases a:(c:Int)>=97<;>by_cases b:(c:Int)<=122<;>by_cases d:(c:Int)>=48<;>by_cases e:(c:Int)<=57<;>simp[a,b,d,e]<;>omega
theorem Yw {l:Γ} (h: ∀x∈l,x<256) (hl:l.length<=100) {pos:Nat} (ok:Bool) (hp:pos<l.length):(m7 ae (bs l) (l.length:Int) (ok,(pos:Int))).val=some (.inl (ok&&ey l[pos],((pos+1:Nat):Int))):=by
 have b:=ε hp;have a:=yy h b;have hw:μ.wrap ((pos:Int)+1)=((pos+1:Nat):Int):=by rw[cr (by omega) (by omega)];omega
 unfold m7;simp only[T.aH,T.aN,T.aD];rw[decide_eq_true (by omega:(pos:Int)<(l.length:Int)),a,hw,vg];cases ok with
 |false=>rfl
 |true=>
  simp only[cond_true,γ,ξ];cases decide ((l[pos]:Int)>=97)<;>cases decide ((l[pos]:Int)<=122)<;>cases decide ((l[pos]:Int)>=48)<;>rfl
theorem Ka {l:Γ} (h: ∀x∈l,x<256) (hl:l.length<=100): ∀(k f pos:Nat) (ok:Bool),pos+k=l.length->cm (λa=>(m7 ae (bs l) (l.length:Int) a).val) (k+1+f) (ok,(pos:Int))=some (false,ok&&(l.drop pos).all ey,(l.length:Int))
 |0,f,pos,ok,e=>by
  obtain rfl:pos=l.length:=by omega
  rw[show 0+1+f=f+1 by omega,dB];unfold m7;simp
 |k+1,f,pos,ok,e=>by
  have hp:pos<l.length:=by omega
  rw[show k+1+1+f=(k+1+f)+1 by omega,dB,Yw h hl ok hp,γ];simp only;rw[Ka h hl k f (pos+1) _ (by omega),ρ hp,ξI,ζG]
theorem v85 {n:Nat} (h:n<18446744073709551616):lQ ae (n:Int)=some (dy (n:Int)):=by
 show(Fh ae (n:Int)).val=_;unfold Fh dy;simp only[T.bt,T.aN,T.aH,T.aD,J5 h,γ,ζ];have hl:=kE 8 n
 by_cases b:dH 8 n=0
 .rw[if_pos b,b];have:=Ka (nj n) (by omega) (dg 8 n).length (999999-(dg 8 n).length) 0 true (by omega);rw[show(dg 8 n).length+1+(999999-(dg 8 n).length)=1000000 by omega,ξN] at this;have a:oJ ae (bs (dg 8 n)) true ((dg 8 n).length:Int) 0=some (false,true&&(dg 8 n).all ey,((dg 8 n).length:Int)):=this;simp only;rw[dT,a];simp only[γ,ξ,beq_self_eq_true];cases c:dg 8 n with
  |nil=>rfl
  |cons x r=>
   have:decide (((x::r).length:Int)>0)=true:=decide_eq_true (by simp);rw[this];cases (x::r).all ey<;>rfl
 .rw[if_neg b];have e:(dH 8 n==0)=false:=by simp[b]
  have a:oJ ae (bs []) false ((0:Nat):Int) 0=_:=Ka (l:=[]) (by simp) (by simp) 0 999999 0 false rfl;have a:oJ ae (ξ1 #[]) false (((ξ1 #[]).size:Nat):Int) 0=_:=a;rw[e];simp only;rw[a];rfl
def xY:((Bool×Bool×Int×Bool×Bool×Bool×Bool×Int×Nat)⊕(Bool×Int×Bool×Bool×Bool×Int×Nat)⊕(Bool×Bool×Int×Bool×Bool×Bool×Int×Nat)⊕(Bool×Int×Bool×Bool×Int×Nat)⊕(Bool×Int×Int×Nat)⊕(Bool×Nat))->Bool
 | .inl y=>y.2.1
 | .inr (.inl _)=>false
 | .inr (.inr (.inl y))=>y.2.1
 | .inr (.inr (.inr (.inl _)))=>false
 | .inr (.inr (.inr (.inr (.inl _))))=>false
 | .inr (.inr (.inr (.inr (.inr y))))=>y.1
theorem Yx {s:ByteArray} {pos:Nat} (ok:Bool) (hp:pos<s.size):(ok&&ey (ξg s pos).1)=true/\(kx ae s (ok,pos)).val=some (.inl (true,pos+(ξg s pos).2))\/(ok&&ey (ξg s pos).1)=false/\ ∃x,(kx ae s (ok,pos)).val=some (.inr x)/\xY x=false:=by
 unfold kx;simp only[T.aH,T.aD];rw[decide_eq_true hp,vg];cases ok with
 |false=>exact .inr ⟨rfl,_,rfl,rfl⟩
 |true=>
  simp only[cond_true,ξ];cases decide (((ξg s pos).1:Int)>=97) with
  |true=>
   cases decide (((ξg s pos).1:Int)<=122) with
   |true=>exact .inl ⟨rfl,rfl⟩
   |false=>
    cases decide (((ξg s pos).1:Int)>=48) with
    |false=>exact .inr ⟨rfl,_,rfl,rfl⟩
    |true=>
     cases decide (((ξg s pos).1:Int)<=57) with
     |true=>exact .inl ⟨rfl,rfl⟩
     |false=>exact .inr ⟨rfl,_,rfl,rfl⟩
  |false=>
   cases decide (((ξg s pos).1:Int)>=48) with
   |false=>exact .inr ⟨rfl,_,rfl,rfl⟩
   |true=>
    cases decide (((ξg s pos).1:Int)<=57) with
    |true=>exact .inl ⟨rfl,rfl⟩
    |false=>exact .inr ⟨rfl,_,rfl,rfl⟩
theorem Kd {l:Γ} (h: ∀x∈l,x<256): ∀(k f pos:Nat) (ok:Bool),pos+k=l.length-> ∃x,cm (λa=>(kx ae (bs l) a).val) (k+1+f) (ok,pos)=some x/\xY x=(ok&&(l.drop pos).all ey)
 |0,f,pos,ok,e=>by
  obtain rfl:pos=l.length:=by omega
  rw[show 0+1+f=f+1 by omega,dB];have:(kx ae (bs l) (ok,l.length)).val=some (.inr (.inr (.inr (.inr (.inr (.inr (ok,l.length))))))):=by
   unfold kx;simp[dT]
  rw[this];exact⟨_,rfl,by simp[xY]⟩
 |k+1,f,pos,ok,e=>by
  have hp:pos<l.length:=by omega
  have n:=ε hp;have i:=Ov h n;rw[show k+1+1+f=(k+1+f)+1 by omega,dB,ρ hp,ξI];rcases Yx (s:=bs l) ok (pos:=pos) (by rw[dT];exact hp) with⟨b,g⟩|⟨b,x,g,j⟩
  .have d:((bs l).get! pos).toNat<128:=by
    apply Classical.byContradiction;intro d;rw[vf (decode_high d)] at b;simp at b
   rw[F6 d,i] at b g;rw[g,γ];simp only;obtain⟨x,o,p⟩:=Kd h k f (pos+1) true (by omega);refine⟨x,o,?_⟩;rw[p,<-ζG,b]
  .rw[g,γ];refine⟨x,rfl,?_⟩;rw[j,<-ζG]
   by_cases d:((bs l).get! pos).toNat<128
   .rw[F6 d,i] at b;rw[b];rfl
   .have m:=vf (c:=l[pos]) (by rw[<-i];omega);rw[m];simp
theorem UO (x:(Bool×Bool×Int×Bool×Bool×Bool×Bool×Int×Nat)⊕(Bool×Int×Bool×Bool×Bool×Int×Nat)⊕(Bool×Bool×Int×Bool×Bool×Bool×Int×Nat)⊕(Bool×Int×Bool×Bool×Int×Nat)⊕(Bool×Int×Int×Nat)⊕(Bool×Nat)):
  (T.cs x (λa=>.ok a.2.1) λb=>.cs b (λ_=>.ok false) λc=>.cs c (λa=>.ok a.2.1) λd=>.cs d (λ_=>.ok false) λe=>.cs e (λ_=>.ok false) λa=>.ok a.1:T Bool).val=some (xY x):=by
 rcases x with x|x|x|x|x|x<;>rfl
theorem v98 {n:Nat} (h:n<18446744073709551616):jW ae (n:Int)=some (dy (n:Int)):=by
 show(Fo ae (n:Int)).val=_;unfold Fo dy;simp only[T.bt,T.aN,T.aH,UF h,γ,ζ];have hl:=kE 8 n
 by_cases a:dH 8 n=0
 .rw[if_pos a,a];obtain⟨x,b,c⟩:=Kd (nj n) (dg 8 n).length (999999-(dg 8 n).length) 0 (!(dg 8 n).isEmpty) (by omega);rw[show(dg 8 n).length+1+(999999-(dg 8 n).length)=1000000 by omega] at b;rw[ξN] at c;simp only[F_];have d:oK ae (!(dg 8 n).isEmpty) (bs (dg 8 n)) 0=some x:=b;rw[d];simp only[γ,beq_self_eq_true,cond_true,ξ];exact(UO x).trans (by rw[c])
 .rw[if_neg a];have e:(dH 8 n==0)=false:=by simp[a]
  obtain⟨x,b,c⟩:=Kd (l:=[]) (by simp) 0 999999 0 false rfl;have d:oK ae false (ξ1 #[]) 0=some x:=b;rw[e];simp only[show((2:Int)==0)=false from rfl,cond_false];rw[d];simp only[γ,ζg];exact(UO x).trans (by rw[c];rfl)
abbrev cd (x:Int):Prop:=0<=x/\x<18446744073709551616
def dR (p:Int):Bool:=decide (p>=1)&&decide (p<4294967296)
@[simp] theorem Ke (p:Int):nF ae p=some (dR p):=by
 show(m8 ae p).val=_;unfold m8 dR;simp only[T.aH,T.aD];cases decide (p>=1)<;>rfl
@[simp] theorem Kb (p:Int):pZ ae p=some (dR p):=by
 show(Fi ae p).val=_;unfold Fi dR;have:decide (p>0)=decide (p>=1):=by rw[η];simp;omega
 simp only[T.aH,T.aD,this];cases decide (p>=1)<;>rfl
theorem yQ {w:Int} (h:cd w):lQ ae w=some (dy w):=by
 obtain⟨n,rfl⟩:=ξh h.1;exact v85 (by have:=h.2;omega)
theorem yR {w:Int} (h:cd w):jW ae w=some (dy w):=by
 obtain⟨n,rfl⟩:=ξh h.1;exact v98 (by have:=h.2;omega)
def n5 (z:av):Bool:=dy z.aY&&dR z.aa
def okB (z:aq):Bool:=dR z.aa&&(decide (1<=z.a6.length)&&decide (z.a6.length<=4))
def l4 (l:List av):Bool:=allI (λi z=>n5 z&&fp (λy z=>decide (y.aY<z.aY)) l i z) 0 l
def lF (l:List aq):Bool:=allI (λi z=>okB z&&fp (λy z=>decide (y.aa<z.aa)) l i z) 0 l
def iz (s:aC):Bool:=l4 s.an&&(lF s.ak&&decide (s.an.length<=16))
structure zr (s:aC):Prop where
 names: ∀z∈s.an,cd z.aY
 ln:s.an.length<=maxLen
 lb:s.ak.length<=maxLen
theorem Oq (a b:Int):decide (a>=b)=!decide (a<b):=by rw[η];simp
theorem Ri {S:Int->av->Unit->T (Unit⊕Unit⊕(Bool×Int))} {F:Int->Unit->T (Unit⊕(Bool×Int))} {l:List av} (hm:l.length<=maxLen)
  (c:(F (l.length:Int) ()).val=some (.inr (false,(l.length:Int))))
  (d: ∀(i:Int) z,z∈l->(S i z ()).val=bif !dy z.aY then some (.inr (.inl ())) else bif !dR z.aa then some (.inr (.inl ())) else bif decide (i>0) then(idx l (μ.wrap (i-1))).bind λy=>bif decide (y.aY>=z.aY) then some (.inr (.inl ())) else some (.inl ()) else some (.inl ())):
  bF (λi z a=>(S i z a).val) (λi a=>(F i a).val) 0 l ()=bif l4 l then some (.inr (false,(l.length:Int))) else some (.inl ()):=by
 unfold l4;rw[gV (q:=λi z=>n5 z&&fp (λy z=>decide (y.aY<z.aY)) l i z) (x:=.inl ()),c];intro i z b;refine x1 (S:=S i z ()) (g:=n5) (q:=λy z=>decide (y.aY<z.aY)) hm b ?_;rw[d _ z (κ b)];unfold n5;simp only[Oq];cases dy z.aY<;>cases dR z.aa<;>rfl
theorem Nj {S:Int->aq->Unit->T (Unit⊕Unit⊕(Bool×Int))} {F:Int->Unit->T (Unit⊕(Bool×Int))} {l:List aq} (hm:l.length<=maxLen)
  (d:(F (l.length:Int) ()).val=some (.inr (false,(l.length:Int))))
  (e: ∀(i:Int) z,(S i z ()).val=bif !dR z.aa then some (.inr (.inl ())) else bif decide ((z.a6.length:Int)<1) then some (.inr (.inl ())) else bif decide ((z.a6.length:Int)>4) then some (.inr (.inl ())) else bif decide (i>0) then(idx l (μ.wrap (i-1))).bind λy=>bif decide (y.aa>=z.aa) then some (.inr (.inl ())) else some (.inl ()) else some (.inl ())):
  bF (λi z a=>(S i z a).val) (λi a=>(F i a).val) 0 l ()=bif lF l then some (.inr (false,(l.length:Int))) else some (.inl ()):=by
 unfold lF;rw[gV (q:=λi z=>okB z&&fp (λy z=>decide (y.aa<z.aa)) l i z) (x:=.inl ()),d];intro i z f;refine x1 (S:=S i z ()) (g:=okB) (q:=λy z=>decide (y.aa<z.aa)) hm f ?_;rw[e];unfold okB;have b:decide ((z.a6.length:Int)<1)=!decide (1<=z.a6.length):=by
  by_cases h:1<=z.a6.length
  .rw[decide_eq_true h,decide_eq_false (by omega)];rfl
  .rw[decide_eq_false h,decide_eq_true (by omega)];rfl
 have c:decide ((z.a6.length:Int)>4)=!decide (z.a6.length<=4):=by
  by_cases h:z.a6.length<=4
  .rw[decide_eq_true h,decide_eq_false (by omega)];rfl
  .rw[decide_eq_false h,decide_eq_true (by omega)];rfl
 simp only[Oq,b,c];cases dR z.aa<;>cases decide (1<=z.a6.length)<;>cases decide (z.a6.length<=4)<;>rfl
theorem v43 {s:aC} (h:zr s):GU ae s=some (iz s):=by
 show(EW ae s).val=_;unfold EW iz;simp only[T.bt,T.aN,T.cx,T.aD];have a:C8 ae s.an s.ak=_:=Ri (S:=uI ae s.an s.ak) (F:=sR ae s.an s.ak) h.ln (by unfold sR;simp) (λi z c=>by
  unfold uI;simp only[T.aN,T.aH,T.aD,yQ (h.names z c),Kb,γ])
 have b:C9 ae s.ak s.an=_:=Nj (S:=uJ ae s.ak s.an) (F:=sS ae s.ak s.an) h.lb (by unfold sS;simp) (λi z=>by
  unfold uJ;have e:((z.a6.length:Int)==0)=decide ((z.a6.length:Int)<1):=by
   by_cases h:(z.a6.length:Int)=0
   .rw[h];rfl
   .rw[beq_eq_false_iff_ne.2 h,decide_eq_false (by omega)]
  simp only[T.aN,T.aH,T.aD,Kb,γ,e])
 rw[a];cases l4 s.an with
 |false=>rfl
 |true=>
  simp only[cond_true,γ,ξ];rw[b];cases lF s.ak with
  |false=>rfl
  |true=>
   simp only[cond_true,γ,ξ]
   congr 1
   rw[η];simp;omega
theorem v49 {s:aC} (h:zr s):jU ae s=some (bif iz s then 0 else 350):=by
 show(uV ae s).val=_;unfold uV iz;simp only[T.bt,T.aN,T.cx,T.aD,T.aH];have a:Db ae s.an s.ak=_:=Ri (S:=uM ae s.an s.ak) (F:=sW ae s.an s.ak) h.ln (by unfold sW;simp) (λi z c=>by
  unfold uM;simp only[T.aN,T.aH,T.aD,yR (h.names z c),Ke,γ])
 have b:Da ae s.ak s.an=_:=Nj (S:=uL ae s.ak s.an) (F:=sV ae s.ak s.an) h.lb (by unfold sV;simp) (λi z=>by
  unfold uL;simp only[T.aN,T.aH,T.aD,Ke,γ])
 rw[a,b]
 by_cases hl:s.an.length<=16
 .rw[decide_eq_false (by omega: ¬(s.an.length:Int)>16),decide_eq_true hl];cases l4 s.an<;>cases lF s.ak<;>rfl
 .rw[decide_eq_true (by omega:(s.an.length:Int)>16),decide_eq_false hl];cases l4 s.an<;>cases lF s.ak<;>rfl
theorem hQ {α:Type} [DecidableEq α] {S:Int->α->Unit->T (Unit⊕Unit⊕(Bool×Int))} {F:Int->Unit->T (Unit⊕(Bool×Int))} {l m:List α} {e:α->α->Bool} (he: ∀x y,e x y=decide (x=y)) (hl:l.length=m.length)
  (c:(F (l.length:Int) ()).val=some (.inr (false,(l.length:Int))))
  (d: ∀(i:Int) z,(S i z ()).val=(idx m i).bind λy=>bif !e z y then some (.inr (.inl ())) else some (.inl ())):
  bF (λi z a=>(S i z a).val) (λi a=>(F i a).val) 0 l ()=bif decide (l=m) then some (.inr (false,(l.length:Int))) else some (.inl ()):=by
 rw[gV (q:=λi z=>decide (m[i]? =some z)) (x:=.inl ()),c]
 .congr 1
  rw[η,jD];constructor
  .intro h;refine decide_eq_true (ζk λi=>?_);cases b:l[i]? with
   |none=>rw[List.getElem?_eq_none_iff] at b;rw[ξY (by omega)]
   |some z=>
    have:=h i z b;rw[ξ4] at this;exact(of_decide_eq_true this).symm
  .intro h k z f;have h:=of_decide_eq_true h;rw[ξ4,<-h];exact decide_eq_true f
 .intro i z b;have g:=(δ.1 b).1;have hm:m[i]? =some m[i]:=ε (by omega);have hi:idx m (i:Int)=some m[i]:=HP hm;rw[d,hi,hm];simp only[γ,he,ζT]
  by_cases h:z=m[i]
  .rw[decide_eq_true h,decide_eq_true h.symm];rfl
  .rw[decide_eq_false h,decide_eq_false (λx=>h x.symm)];rfl
theorem ih {L:Option (Unit⊕(Bool×Int))} {p:Bool} {n:Int} (h:L=bif p then some (.inr (false,n)) else some (.inl ())):(T.bd L λx=>.cs x (λ_=>.ok false) λ_=>.ok true:T Bool).val=some p:=by
 rw[h];cases p<;>rfl
theorem ir {α:Type} {l m:List α}:((l.length:Int) !=(m.length:Int))=!decide (l.length=m.length):=by
 by_cases h:l.length=m.length
 .rw[decide_eq_true h,h];simp
 .rw[decide_eq_false h];simp;omega
theorem hY {α:Type} [DecidableEq α] {l m:List α} (h:l.length≠m.length):decide (l=m)=false:=decide_eq_false λe=>h (by rw[e])
theorem NZ (x y:ag):fL x y=decide (x=y):=by
 rw[η];cases x;cases y;simp[fL,and_assoc]
theorem NV (x y:ai):hP x y=decide (x=y):=by
 rw[η];cases x;cases y;simp[hP,and_assoc]
theorem NX (x y:ax):jL x y=decide (x=y):=by
 rw[η];cases x;cases y;simp[jL]
theorem NY (x y:av):jM x y=decide (x=y):=by
 rw[η];cases x;cases y;simp[jM]
theorem NW (x y:Int):(x==y)=decide (x=y):=by rw[η];simp
@[simp] theorem v57 (a b:List ai):GX ae a b=some (decide (a=b)):=by
 show(E3 ae a b).val=_;unfold E3;simp only[T.aH,T.aD,T.bt,ir]
 by_cases h:a.length=b.length
 .rw[decide_eq_true h];exact ih (hQ (S:=DB ae a b) (F:=sZ ae a b) (e:=hP) NV h (by unfold sZ;simp) (λi z=>rfl))
 .rw[decide_eq_false h,hY h];rfl
@[simp] theorem aiN (a b:List ag):Gl ae a b=some (decide (a=b)):=by
 show(DI ae a b).val=_;unfold DI;simp only[T.aH,T.aD,T.bt,ir]
 by_cases h:a.length=b.length
 .rw[decide_eq_true h];exact ih (hQ (S:=Du ae a b) (F:=r0 ae a b) (e:=fL) NZ h (by unfold r0;simp) (λi z=>rfl))
 .rw[decide_eq_false h,hY h];rfl
@[simp] theorem aiO (a b:List ax):Gm ae a b=some (decide (a=b)):=by
 show(DJ ae a b).val=_;unfold DJ;simp only[T.aH,T.aD,T.bt,ir]
 by_cases h:a.length=b.length
 .rw[decide_eq_true h];exact ih (hQ (S:=Dv ae a b) (F:=r1 ae a b) (e:=jL) NX h (by unfold r1;simp) (λi z=>rfl))
 .rw[decide_eq_false h,hY h];rfl
@[simp] theorem aiP (a b:List av):Gn ae a b=some (decide (a=b)):=by
 show(DK ae a b).val=_;unfold DK;simp only[T.aH,T.aD,T.bt,ir]
 by_cases h:a.length=b.length
 .rw[decide_eq_true h];exact ih (hQ (S:=Dw ae a b) (F:=r2 ae a b) (e:=jM) NY h (by unfold r2;simp) (λi z=>rfl))
 .rw[decide_eq_false h,hY h];rfl
@[simp] theorem v105 (a b:Γa):Gp ae a b=some (decide (a=b)):=by
 show(DL ae a b).val=_;unfold DL;simp only[T.aH,T.aD,T.bt,ir]
 by_cases h:a.length=b.length
 .rw[decide_eq_true h];exact ih (hQ (S:=Dx ae a b) (F:=r4 ae a b) (e:=(λx y=>x==y)) NW h (by unfold r4;simp) (λi z=>rfl))
 .rw[decide_eq_false h,hY h];rfl
@[simp] theorem v61 (a b:List ai):G7 ae a b=some (decide (a=b)):=by
 show(E7 ae a b).val=_;unfold E7;simp only[T.aH,T.aD,T.bt,ir]
 by_cases h:a.length=b.length
 .rw[decide_eq_true h];exact ih (hQ (S:=DD ae b a) (F:=s4 ae b a) (e:=hP) NV h (by unfold s4;simp) (λi z=>rfl))
 .rw[decide_eq_false h,hY h];rfl
@[simp] theorem aiQ (a b:Γa):Gq ae a b=some (decide (a=b)):=by
 show(DM ae a b).val=_;unfold DM;simp only[T.aH,T.aD,T.bt,ir]
 by_cases h:a.length=b.length
 .rw[decide_eq_true h];exact ih (hQ (S:=Dy ae b a) (F:=r5 ae b a) (e:=(λx y=>x==y)) NW h (by unfold r5;simp) (λi z=>rfl))
 .rw[decide_eq_false h,hY h];rfl
theorem v60 (a b:aV):G6 ae a b=some (decide (a=b)):=by
 show(E6 ae a b).val=_;unfold E6;simp only[T.aH,T.aD,T.bt,ir];obtain⟨g,l⟩:=a;obtain⟨c,l'⟩:=b
 by_cases d:g=c
 .subst d;have e:decide (aV.mk g l=aV.mk g l')=decide (l=l'):=by rw[η];simp
  rw[e];simp only[beq_self_eq_true,ι,cond_false]
  by_cases h:l.length=l'.length
  .rw[decide_eq_true h];exact ih (hQ (S:=DC ae l g l') (F:=s3 ae l g l') (e:=fL) NZ h (by unfold s3;simp) (λi z=>rfl))
  .rw[decide_eq_false h,hY h];rfl
 .have e:decide (aV.mk g l=aV.mk c l')=false:=decide_eq_false (by simp[d]);have f:(g==c)=false:=by simp[d]
  rw[e,f];rfl
theorem v62 (a b:a1):G8 ae a b=some (decide (a=b)):=by
 show(E8 ae a b).val=_;unfold E8;simp only[T.aH,T.aD,T.bt,ir];obtain⟨l,g⟩:=a;obtain⟨l',c⟩:=b
 by_cases d:g=c
 .subst d;have e:decide (a1.mk l g=a1.mk l' g)=decide (l=l'):=by rw[η];simp
  rw[e];simp only[bne_self_eq_false,cond_false]
  by_cases h:l.length=l'.length
  .rw[decide_eq_true h];exact ih (hQ (S:=DE ae l l' g) (F:=s5 ae l l' g) (e:=jL) NX h (by unfold s5;simp) (λi z=>rfl))
  .rw[decide_eq_false h,hY h];rfl
 .have e:decide (a1.mk l g=a1.mk l' c)=false:=decide_eq_false (by simp[d]);have f:(g !=c)=true:=by simp[d]
  rw[e,f];rfl
theorem v56 (a b:aV):GW ae a b=some (decide (a=b)):=by
 show(E2 ae a b).val=_;unfold E2;simp only[T.aH,T.aN,T.aD,aiN,γ];obtain⟨g,l⟩:=a;obtain⟨d,l'⟩:=b
 by_cases c:g=d
 .subst c;simp
 .have e:(g==d)=false:=by simp[c]
  simp[c,e]
theorem v58 (a b:a1):GY ae a b=some (decide (a=b)):=by
 show(E4 ae a b).val=_;unfold E4;simp only[T.aH,T.aN,T.aD,aiO,γ];obtain⟨l,g⟩:=a;obtain⟨l',d⟩:=b
 by_cases c:g=d
 .subst c;simp
 .have e:(g==d)=false:=by simp[c]
  simp[c,e]
def nu (x y:aq):Bool:=(x.aa==y.aa)&&decide (x.a6=y.a6)
theorem NU (x y:aq):nu x y=decide (x=y):=by
 rw[η];cases x;cases y;simp[nu]
theorem O5 (a b:aC):decide (a=b)=(decide (a.an=b.an)&&decide (a.ak=b.ak)):=by
 rw[η];cases a;cases b;simp
theorem v63 (a b:aC):G9 ae a b=some (decide (a=b)):=by
 show(E9 ae a b).val=_;unfold E9;rw[O5];simp only[T.aH,T.aD,T.bt,ir]
 by_cases h:a.an.length=b.an.length
 rotate_left
 .rw[decide_eq_false h,hY h];rfl
 by_cases c:a.ak.length=b.ak.length
 rotate_left
 .rw[decide_eq_true h,decide_eq_false c,hY c,η4];rfl
 rw[decide_eq_true h,decide_eq_true c];simp only[ι,cond_false,T.aN];have d:Df ae a.an a.ak b.an b.ak=_:=hQ (S:=DF ae a.an a.ak b.an b.ak) (F:=s7 ae a.an a.ak b.an b.ak) (m:=b.an) (e:=jM) NY h (by unfold s7;simp) (λi z=>rfl);have f:De ae a.ak b.an b.ak=_:=hQ (S:=uN ae a.ak b.an b.ak) (F:=s6 ae a.ak b.an b.ak) (m:=b.ak) (e:=nu) NU c (by unfold s6;simp) (λi z=>by
  unfold uN nu;simp only[T.aN,T.aH,T.aD,aiQ,γ];cases idx b.ak i with
  |none=>rfl
  |some y=>
   simp only[γ];cases h:z.aa==y.aa<;>simp[bne,h])
 rw[d];cases decide (a.an=b.an) with
 |false=>rfl
 |true=>
  simp only[cond_true,γ,T.cx,T.bt,ξ];exact ih f
theorem v59 (a b:aC):GZ ae a b=some (decide (a=b)):=by
 show(E5 ae a b).val=_;unfold E5;rw[O5];simp only[T.aH,T.aD,T.bt,T.aN,aiP,γ,ir];cases decide (a.an=b.an) with
 |false=>rfl
 |true=>
  simp only[cond_true,ξ]
  by_cases c:a.ak.length=b.ak.length
  rotate_left
  .rw[decide_eq_false c,hY c];rfl
  rw[decide_eq_true c];have d:B2 ae b.ak a.ak=_:=hQ (S:=tN ae b.ak a.ak) (F:=r3 ae b.ak a.ak) (l:=a.ak) (m:=b.ak) (e:=nu) NU c (by unfold r3;simp) (λi z=>by
   unfold tN nu;simp only[T.aN,T.aH,T.aD,v105,γ];cases idx b.ak i with
   |none=>rfl
   |some y=>
    simp only[γ];cases h:z.aa==y.aa<;>simp)
  exact ih d
theorem T4 (a b:aF):decide (a=b)=(decide (a.ar=b.ar)&&(decide (a.aB=b.aB)&&(decide (a.au=b.au)&&decide (a.ao=b.ao)))):=by
 rw[η];cases a;cases b;simp
theorem yN (a b:aF):eV ae a b=some (decide (a=b)):=by
 show(uS ae a b).val=_;unfold uS;rw[T4];simp only[T.aH,T.aD,T.aN,v60,v61,v62,v63,γ];cases decide (a.ar=b.ar)<;>cases decide (a.aB=b.aB)<;>cases decide (a.au=b.au)<;>rfl
theorem v12 (a b:aF):vz ae a b=some (decide (a=b)):=by
 show(DT ae a b).val=_;unfold DT;rw[T4];simp only[T.aH,T.aD,T.aN,v56,v57,v58,v59,γ];cases decide (a.ar=b.ar)<;>cases decide (a.aB=b.aB)<;>cases decide (a.au=b.au)<;>rfl
theorem lJ {α:Type} (l:List α) (n:Nat) (k:Int) (a:k=n):dn l none (some (if k<(l.length:Int) then k else(l.length:Int))) none=some (l.take n):=by
 subst a;unfold dn
 by_cases h:(n:Int)<(l.length:Int)
 .rw[if_pos h];simp only[ξo,ξ3];rw[if_pos ⟨by omega,by omega,by omega,by omega,by omega,by simp⟩];simp
 .rw[if_neg h];simp only[ξo,ξ3];rw[if_pos ⟨by omega,by omega,by omega,by omega,by omega,by simp⟩,ζ];show some ((l.take l.length).drop 0)=_;rw[ξN,ζX,List.take_of_length_le (by omega)]
theorem eK {α:Type} {b n:Nat} {xs ys:List α} (h:xs.length+ys.length<=n) (a:b*n<=140737488355328):app b xs ys=some (xs++ys):=by
 refine u0 ?_;have:(xs.length+ys.length)*b<=n*b:=ζ4 _ h;rw[ζV n b] at this;omega
theorem S6 {α β X:Type} {step:Int->α->List β->Option (List β⊕X)} {fin:Int->List β->Option X} {g:α->β} {l:List α} (h: ∀(i:Nat) z (a:List β),a.length=i->l[i]? =some z->step i z a=some (.inl (a++[g z]))):
  ∀(r pre:List α),l=pre++r->bF step fin pre.length r (pre.map g)=fin (l.length:Int) (l.map g)
 |[],pre,e=>by
  rw[ξs] at e;subst e;rfl
 |z::r,pre,e=>by
  rw[gW,h pre.length z (pre.map g) (by simp) (by rw[e];simp),γ];have:=S6 (fin:=fin) h r (pre++[z]) (by rw[e];simp);rw[show(pre++[z]).length=pre.length+1 by simp,ξG] at this;exact this
def hy (b:aq):aq:=⟨b.aa,b.a6.take 6⟩
def ck (s:aF):aF:=⟨⟨s.ar.az,s.ar.ab.take 18⟩,s.aB.take 66,⟨s.au.ab.take 18,s.au.aL⟩,⟨s.ao.an.take 18,(s.ao.ak.take 18).map hy⟩⟩
theorem kg {α:Type} (l:List α) (n:Nat):(l.take n).length<=n:=by rw[ζ3];omega
theorem v9 (s:aF):eA ae s=some (ck s):=by
 show(pf 0 [] ae s).val=_;unfold pf ck;simp only[T.aN,T.bt,T.aD];rw[lJ s.ar.ab 18 18 rfl,γ,eK (n:=18) (by simpa using kg _ 18) (by omega),γ];rw[lJ s.aB 66 66 rfl,γ,eK (n:=66) (by simpa using kg _ 66) (by omega),γ];rw[lJ s.au.ab 18 18 rfl,γ,eK (n:=18) (by simpa using kg _ 18) (by omega),γ];rw[lJ s.ao.an 18 18 rfl,γ,eK (n:=18) (by simpa using kg _ 18) (by omega),γ];rw[lJ s.ao.ak 18 18 rfl,γ];simp only[ξc];have hl: ∀(p1:Γa) (p2:Int) (p4:List ag) (p5:List ai) (p6:List ax) (p7:List av),tI ae (s.ao.ak.take 18) p1 p2 s.ao.ak p4 p5 p6 p7 []=some (false,((s.ao.ak.take 18).length:Int),(s.ao.ak.take 18).map hy):=by
  intro p1 p2 p4 p5 p6 p7;have:=S6 (step:=λi z a=>(o_ ae (s.ao.ak.take 18) p1 p2 s.ao.ak p4 p5 p6 p7 i z a).val) (fin:=λi a=>(ta ae (s.ao.ak.take 18) p1 p2 s.ao.ak p4 p5 p6 p7 i a).val) (g:=hy) (l:=s.ao.ak.take 18) (λi z a e c=>by
   have f:=(δ.1 c).1;have d:=kg s.ao.ak 18;show(o_ ae (s.ao.ak.take 18) p1 p2 s.ao.ak p4 p5 p6 p7 i z a).val=_;unfold o_;simp only[T.aN,T.aD];rw[lJ z.a6 6 6 rfl,γ,eK (n:=6) (by simpa using kg _ 6) (by omega),γ,eK (n:=18) (by simp;omega) (by omega),γ];rfl) (s.ao.ak.take 18) [] rfl
  have b:tI ae (s.ao.ak.take 18) p1 p2 s.ao.ak p4 p5 p6 p7 []=_:=this;rw[b];unfold ta;simp
 rw[hl];rfl
theorem nU (p:Int×Int) (r:Γc) (j:Int):bR (p::r) j=bif j==p.1 then some p.2 else bR r j:=by
 unfold bR;rw[ξQ];cases j==p.1<;>rfl
theorem TS (p:Int×Int) (r:Γc) (k v:Int):cL (p::r) k v=bif k==p.1 then(k,v)::r else p::cL r k v:=by
 unfold cL;rw[ξR];cases k==p.1 with
 |true=>rfl
 |false=>
  simp only[cond_false,ξm,if_false];cases List.findIdx? (λp=>k==p.1) r<;>rfl
theorem xK (k v j:Int): ∀m:Γc,bR (cL m k v) j=if j=k then some v else bR m j
 |[]=>by
  show bR [(k,v)] j=_;rw[nU]
  by_cases h:j=k
  .simp[h]
  .have e:(j==k)=false:=by simp[h]
   simp[h,e]
 |p::r=>by
  rw[TS];cases a:k==p.1 with
  |true=>
   have a:=eq_of_beq a;simp only[cond_true];rw[nU,nU]
   by_cases h:j=k
   .simp[h]
   .have b:(j==p.1)=false:=by rw[<-a];simp[h]
    have e:(j==k)=false:=by simp[h]
    simp[h,b,e]
  |false=>
   simp only[cond_false];rw[nU,nU,xK k v j r]
   by_cases h:j=k
   .subst h;rw[a];simp
   .simp[h]
theorem Q3 {α:Type} (c:α->Bool) (key:α->Int) (j:Int): ∀(l:List α) (m:Γc),bR (l.foldl (λa z=>bif c z then cL a (key z) 1 else a) m) j=if l.any (λz=>c z&&(key z==j)) then some 1 else bR m j
 |[],m=>by simp
 |z::l,m=>by
  rw[ξf,Q3 c key j l,ηa];cases c z with
  |false=>simp
  |true=>
   simp only[cond_true,ξ,xK]
   by_cases h:j=key z
   .subst h;simp
   .have:(key z==j)=false:=by simp;exact λe=>h e.symm
    simp[h,this]
theorem Q4 {α:Type} (c:α->Bool) (key:α->Int) (j:Int) (l:List α):((bR (l.foldl (λa z=>bif c z then cL a (key z) 1 else a) []) j).getD 0==1)=l.any (λz=>c z&&(key z==j)):=by
 rw[Q3];cases l.any (λz=>c z&&(key z==j))<;>rfl
theorem IU {l:List ag} (h: ∀i x,l[i]? =some x->fP l i x=true): ∀(j i:Nat) (x y:ag),i<j->l[i]? =some x->l[j]? =some y->ix x.aa<ix y.aa
 |0,i,x,y,e,_,_=>by omega
 |j+1,i,x,y,e,d,f=>by
  have a:=h (j+1) y f;have g:=(δ.1 f).1;have c:l[j]? =some l[j]:=ε (by omega);unfold fP at a;rw[show(j+1==0)=false from rfl,ξd,ξD,c] at a;have a:ix l[j].aa<ix y.aa:=of_decide_eq_true a;rcases ζj.1 e with b|b
  .have:=IU h j i x l[j] b d c;omega
  .subst b;rw[c] at d;cases d;exact a
theorem ahG {p:aV} (h:allI (λi x=>fl p x&&fP p.ab i x) 0 p.ab=true) (pid:Int):bJ p.ab pid=p.ab.any (λz=>!z.ba&&(z.aa==pid)):=by
 have k: ∀i x,p.ab[i]? =some x->fP p.ab i x=true:=λi x n=>by
  have:=jD.1 h i x n;rw[ξ4,θ] at this;exact this.2
 unfold bJ eN;cases f:p.ab.find? (λz=>z.aa==pid) with
 |none=>
  symm
  rw[ξz];intro z g;have:=ζO.1 f z g;simp only[θ,not_and];exact λ_=>this
 |some z0=>
  have m:=ψ f;have l:(z0.aa==pid)=true:=ξt (p:=λz:ag=>z.aa==pid) f;rw[η,ξp];constructor
  .intro d;have d:(!z0.ba)=true:=d;exact⟨z0,m,by rw[d,l];rfl⟩
  .rintro ⟨z,g,c⟩;rw[θ] at c;obtain⟨i,hi⟩:=ξL g;obtain⟨j,b⟩:=ξL m;have e:z.aa=z0.aa:=(eq_of_beq c.2).trans (eq_of_beq l).symm;rcases ζl i j with a|a|a
   .have:=IU k j i z z0 a hi b;rw[e] at this;omega
   .subst a;rw[hi] at b;cases b;exact c.1
   .have:=IU k i j z0 z a b hi;rw[e] at this;omega
@[simp] theorem v45 (s:aF) (id:Int):GV ae s id=some (s.au.ab.any λm=>m.aS==id):=by
 show(EY ae s id).val=_;unfold EY C_;simp only[T.bt,T.aN];show((bF (λi z a=>(uK ae id s.au.ab i z a).val) (λi a=>(za ae id s.au.ab i a).val) 0 s.au.ab ()).bind _)=_;rw[h5 (p:=λz=>z.aS==id) (e:=λz=>.inl ()),<-He]
 .cases List.find? (λz=>z.aS==id) s.au.ab<;>rfl
 .intro i z _;unfold uK;cases h:z.aS==id<;>simp
def xX {A B C D:Type}:(A×Bool×B)⊕(C×Bool×D)->Bool
 | .inl y=>y.2.1
 | .inr y=>y.2.1
theorem yn {α X:Type} {step:Int->α->Bool->Option (Bool⊕X)} {fin:Int->Bool->Option X} {out:X->Bool} {q:α->Bool} (d: ∀i a,∃x,fin i a=some x/\out x=a):
  ∀ {l:List α} {i:Nat},(∀i z a,z∈l->(q z=true/\step i z a=some (.inl true))\/(q z=false/\ ∃x,step i z a=some (.inr x)/\out x=false))-> ∃x,bF step fin i l true=some x/\out x=l.all q
 |[],i,_=>by
  obtain⟨x,b,c⟩:=d i true;exact⟨x,b,c⟩
 |z::l,i,h=>by
  rw[gW,ξI];rcases h i z true τ with⟨b,c⟩|⟨b,x,c,e⟩
  .rw[b,c,γ];obtain⟨x,f,g⟩:=yn d (l:=l) (i:=i+1) λi z a j=>h i z a (ο _ j);exact⟨x,f,by simpa using g⟩
  .rw[b,c,γ];exact⟨x,rfl,by simpa using e⟩
theorem uZ {α:Type} {q:α->Bool}: ∀ {l:List α} {i:Nat},allI (λ_ z=>q z) i l=l.all q
 |[],_=>rfl
 |z::l,i=>by simp only[allI,ξI];rw[uZ]
def mo (s:aF):Bool:=(s.aB.all λd=>bJ s.ar.ab d.aa&&s.au.ab.any λm=>m.aS==d.b3)&&((s.ao.an.all λn=>bJ s.ar.ab n.aa)&&s.ao.ak.all λb=>bJ s.ar.ab b.aa)
structure te (s:aF):Prop where
 p:td s.ar
 d:s.aB.length<=maxLen
 i:zr s.ao
theorem v10 {s:aF} (h:te s) {m:Bool} (hm:v_ ae s.au=some m):pJ ae s=some (gU s.ar&&(iy s.aB&&(m&&(iz s.ao&&mo s)))):=by
 show(DH ae s).val=_;unfold DH;simp only[T.aN,T.aH,T.aD,T.bt,T.cx,v40 h.p,v41 h.d,hm,v43 h.i,γ];cases gU s.ar<;>cases iy s.aB<;>cases m<;>cases iz s.ao<;>simp only[ι,π,cond_true,cond_false,ξ,ζg];unfold mo;have b:B5 ae s.aB s.ar.az s.ar.ab s.au.ab s.au.aL s.ao.an s.ao.ak=bif (s.aB.all λd=>bJ s.ar.ab d.aa&&s.au.ab.any λm=>m.aS==d.b3) then some (.inr (false,(s.aB.length:Int))) else some (.inl ()):=by
  rw[<-uZ (i:=0)];show bF (λi z a=>(tQ ae s.aB s.ar.az s.ar.ab s.au.ab s.au.aL s.ao.an s.ao.ak i z a).val) (λi a=>(r8 ae s.aB s.ar.az s.ar.ab s.au.ab s.au.aL s.ao.an s.ao.ak i a).val) 0 s.aB ()=_;rw[gV (q:=λ_ d=>bJ s.ar.ab d.aa&&s.au.ab.any λm=>m.aS==d.b3) (x:=.inl ())]
  .congr 1
   unfold r8;simp
  .intro i z _;unfold tQ;simp only[T.aN,T.aH,T.aD,rR,v45,γ];cases bJ s.ar.ab z.aa<;>cases (s.au.ab.any λm=>m.aS==z.b3)<;>rfl
 have c:B3 ae s.ao.an s.ar.az s.ar.ab s.aB s.au.ab s.au.aL s.ao.ak=bif (s.ao.an.all λn=>bJ s.ar.ab n.aa) then some (.inr (false,(s.ao.an.length:Int))) else some (.inl ()):=by
  rw[<-uZ (i:=0)];show bF (λi z a=>(tO ae s.ao.an s.ar.az s.ar.ab s.aB s.au.ab s.au.aL s.ao.ak i z a).val) (λi a=>(r6 ae s.ao.an s.ar.az s.ar.ab s.aB s.au.ab s.au.aL s.ao.ak i a).val) 0 s.ao.an ()=_;rw[gV (q:=λ_ d=>bJ s.ar.ab d.aa) (x:=.inl ())]
  .congr 1
   unfold r6;simp
  .intro i z _;unfold tO;simp only[T.aN,T.aH,T.aD,rR,γ];cases bJ s.ar.ab z.aa<;>rfl
 have e:B4 ae s.ao.ak s.ar.az s.ar.ab s.aB s.au.ab s.au.aL s.ao.an=bif (s.ao.ak.all λn=>bJ s.ar.ab n.aa) then some (.inr (false,(s.ao.ak.length:Int))) else some (.inl ()):=by
  rw[<-uZ (i:=0)];show bF (λi z a=>(tP ae s.ao.ak s.ar.az s.ar.ab s.aB s.au.ab s.au.aL s.ao.an i z a).val) (λi a=>(r7 ae s.ao.ak s.ar.az s.ar.ab s.aB s.au.ab s.au.aL s.ao.an i a).val) 0 s.ao.ak ()=_;rw[gV (q:=λ_ d=>bJ s.ar.ab d.aa) (x:=.inl ())]
  .congr 1
   unfold r7;simp
  .intro i z _;unfold tP;simp only[T.aN,T.aH,T.aD,rR,γ];cases bJ s.ar.ab z.aa<;>rfl
 rw[b,c,e];cases (s.aB.all λd=>bJ s.ar.ab d.aa&&s.au.ab.any λm=>m.aS==d.b3)<;>cases (s.ao.an.all λn=>bJ s.ar.ab n.aa)<;>cases (s.ao.ak.all λn=>bJ s.ar.ab n.aa)<;>rfl
theorem Ys (l:List ai) (b M2:Γc) (i:Int) (z:ai) (a:Bool):(m4 ae l b M2 i z a).val=bif ((bR b z.aa).getD 0==1) then(bif !((bR M2 z.b3).getD 0==1) then some (.inr (.inl (!((bR M2 z.b3).getD 0==1),(bR M2 z.b3).getD 0==1,z.aa,z.bm,z.b3,z,decide (i<l.length),a,i))) else some (.inl ((bR M2 z.b3).getD 0==1))) else some (.inr (.inl (true,false,z.aa,z.bm,z.b3,z,decide (i<l.length),a,i))):=by
 unfold m4;cases bR b z.aa<;>cases bR M2 z.b3<;>rfl
theorem Yt (l:List av) (b:Γc) (i:Int) (z:av) (a:Bool):(m5 ae l b i z a).val=bif !((bR b z.aa).getD 0==1) then some (.inr (.inl (!((bR b z.aa).getD 0==1),(bR b z.aa).getD 0==1,z.aY,z.aa,z,decide (i<l.length),a,i))) else some (.inl ((bR b z.aa).getD 0==1)):=by
 unfold m5;cases bR b z.aa<;>rfl
theorem Yu (l:List aq) (b:Γc) (i:Int) (z:aq) (a:Bool):(m6 ae l b i z a).val=bif !((bR b z.aa).getD 0==1) then some (.inr (.inl (!((bR b z.aa).getD 0==1),(bR b z.aa).getD 0==1,z.aa,z.a6,z,decide (i<l.length),a,i))) else some (.inl ((bR b z.aa).getD 0==1)):=by
 unfold m6;cases bR b z.aa<;>rfl
theorem v11 {s:aF} (h:te s) {m:Bool} (hm:pV ae s.au=some (bif m then 0 else 340)):hT ae s=some (bif gU s.ar&&(iy s.aB&&(m&&(iz s.ao&&mo s))) then 0 else 360):=by
 show(DN ae s).val=_;unfold DN;simp only[T.aN,T.aH,T.aD,T.bt,v46 h.p,UL h.d,hm,v49 h.i,γ];cases hp:gU s.ar
 .rfl
 cases iy s.aB
 .rfl
 cases m
 .rfl
 cases iz s.ao
 .rfl
 have B:allI (λi x=>fl s.ar x&&fP s.ar.ab i x) 0 s.ar.ab=true:=by
  unfold gU at hp;rw[θ,θ] at hp;exact hp.2.1
 have D:=ahG B;simp only[cond_true,cond_false,ξ,show((0:Int) !=0)=false from rfl];obtain⟨b,n⟩: ∃M,M=s.ar.ab.foldl (λa z=>bif !z.ba then cL a z.aa 1 else a) []:=⟨_,rfl⟩;obtain⟨M2,o⟩: ∃M,M=s.au.ab.foldl (λa z=>bif (λ_:ax=>true) z then cL a z.aS 1 else a) []:=⟨_,rfl⟩;have A:tz ae s.ar.ab s.ar.az s.aB s.au.ab s.au.aL s.ao.an s.ao.ak []=some (false,(s.ar.ab.length:Int),b):=by
  have:=mr (g:=λa (z:ag)=>bif !z.ba then cL a z.aa 1 else a) (l:=s.ar.ab) (i:=0) (a:=[]) (step:=λi z a=>(oN ae s.ar.ab s.ar.az s.aB s.au.ab s.au.aL s.ao.an s.ao.ak i z a).val) (fin:=λi a=>(r_ ae s.ar.ab s.ar.az s.aB s.au.ab s.au.aL s.ao.an s.ao.ak i a).val) (λi z a _=>by
   show(oN ae s.ar.ab s.ar.az s.aB s.au.ab s.au.aL s.ao.an s.ao.ak i z a).val=_;unfold oN;cases z.ba<;>rfl)
  have c:tz ae s.ar.ab s.ar.az s.aB s.au.ab s.au.aL s.ao.an s.ao.ak []=_:=this;rw[c,n];unfold r_;simp
 have c:tw ae s.au.ab s.ar.az s.ar.ab s.aB s.au.aL s.ao.an s.ao.ak b []=some (false,(s.au.ab.length:Int),M2):=by
  have:=mr (g:=λa (z:ax)=>bif (λ_:ax=>true) z then cL a z.aS 1 else a) (l:=s.au.ab) (i:=0) (a:=[]) (step:=λi z a=>(Dz ae s.au.ab s.ar.az s.ar.ab s.aB s.au.aL s.ao.an s.ao.ak b i z a).val) (fin:=λi a=>(r9 ae s.au.ab s.ar.az s.ar.ab s.aB s.au.aL s.ao.an s.ao.ak b i a).val) (λi z a _=>rfl);have c:tw ae s.au.ab s.ar.az s.ar.ab s.aB s.au.aL s.ao.an s.ao.ak b []=_:=this;rw[c,o];unfold r9;simp
 have k: ∀pid,((bR b pid).getD 0==1)=bJ s.ar.ab pid:=λpid=>by rw[n,Q4 (λz:ag=>!z.ba) (λz=>z.aa),D pid]
 have C: ∀id,((bR M2 id).getD 0==1)=s.au.ab.any λm=>m.aS==id:=λid=>by rw[o,Q4 (λ_:ax=>true) (λz=>z.aS)];simp
 obtain⟨r,e,E⟩:=yn (out:=xX) (q:=λd:ai=>bJ s.ar.ab d.aa&&s.au.ab.any λm=>m.aS==d.b3) (step:=λi z a=>(m4 ae s.aB b M2 i z a).val) (fin:=λi a=>(zb ae s.aB b M2 i a).val) (λi a=>⟨_,rfl,rfl⟩) (l:=s.aB) (i:=0) (λi z a _=>by
  show _/\(m4 ae s.aB b M2 i z a).val=_\/_;rw[Ys,k,C];cases bJ s.ar.ab z.aa with
  |false=>exact .inr ⟨rfl,_,rfl,rfl⟩
  |true=>
   cases (s.au.ab.any λm=>m.aS==z.b3) with
   |false=>exact .inr ⟨rfl,_,rfl,rfl⟩
   |true=>exact .inl ⟨rfl,rfl⟩)
 obtain⟨t,f,F⟩:=yn (out:=xX) (q:=λd:av=>bJ s.ar.ab d.aa) (step:=λi z a=>(m5 ae s.ao.an b i z a).val) (fin:=λi a=>(zc ae s.ao.an b i a).val) (λi a=>⟨_,rfl,rfl⟩) (l:=s.ao.an) (i:=0) (λi z a _=>by
  show _/\(m5 ae s.ao.an b i z a).val=_\/_;rw[Yt,k];cases bJ s.ar.ab z.aa with
  |false=>exact .inr ⟨rfl,_,rfl,rfl⟩
  |true=>exact .inl ⟨rfl,rfl⟩)
 obtain⟨u,j,G⟩:=yn (out:=xX) (q:=λd:aq=>bJ s.ar.ab d.aa) (step:=λi z a=>(m6 ae s.ao.ak b i z a).val) (fin:=λi a=>(zd ae s.ao.ak b i a).val) (λi a=>⟨_,rfl,rfl⟩) (l:=s.ao.ak) (i:=0) (λi z a _=>by
  show _/\(m6 ae s.ao.ak b i z a).val=_\/_;rw[Yu,k];cases bJ s.ar.ab z.aa with
  |false=>exact .inr ⟨rfl,_,rfl,rfl⟩
  |true=>exact .inl ⟨rfl,rfl⟩)
 have e:Dd ae s.aB b M2 true=some r:=e;have f:tG ae s.ao.an b true=some t:=f;have j:mW ae s.ao.ak b true=some u:=j;unfold mo;rw[A];simp only[γ];rw[c];simp only[γ];rw[e,f,j,<-E,<-F,<-G];simp only[γ];rcases r with v|v<;>rcases t with w|w<;>rcases u with y|y<;>simp only[T.cx,T.aN,T.bt,T.aH,T.aD,xX,γ]<;>cases v.2.1<;>cases w.2.1<;>cases y.2.1<;>rfl
abbrev Dt (w:Int) (b:Bool):Prop:=p9 ae w=some (bif b then 0 else 310)
structure tc (P:Int->Bool) (m:a1):Prop where
 path: ∀z∈m.ab,Dt z.aP (P z.aP)
 len:m.ab.length<=maxLen
def l8 (P:Int->Bool) (next:Int) (z:ax):Bool:=P z.aP&&(decide (1<=z.aS)&&decide (z.aS<next))
def kT (l:List ax) (i:Nat) (z:ax):Bool:=!(l.take i).any λy=>y.aP==z.aP
def l2 (P:Int->Bool) (next:Int) (l:List ax):Bool:=allI (λi z=>(l8 P next z&&fp (λy z=>decide (y.aS<z.aS)) l i z)&&kT l i z) 0 l
def mq (P:Int->Bool) (m:a1):Bool:=l2 P m.aL m.ab&&(decide (m.ab.length<=16)&&(decide (m.aL>=1)&&decide (m.aL<=1073741825)))
theorem F4 {α:Type} {l:List α} {i:Nat} (h:i<=l.length):dn l none (some (i:Int)) none=some (l.take i):=by
 unfold dn;simp only[ξo,ξ3];rw[if_pos ⟨by omega,by omega,by omega,by omega,by omega,by simp⟩,ζ];rfl
theorem Yi (b:List ax) (p1:Int) (l:List ax) (p3 w p5:Int):tD ae b p1 l p3 w p5=bif l.any (λy=>y.aP==w) then some (.inl ()) else some (.inr (false,(l.length:Int))):=by
 show bF (λi z a=>(uH ae b p1 l p3 w p5 i z a).val) (λi a=>(sQ ae b p1 l p3 w p5 i a).val) 0 l ()=_;rw[h5 (p:=λz=>z.aP==w) (e:=λz=>.inl ()),<-He]
 .cases List.find? (λz=>z.aP==w) l with
  |none=>unfold sQ;simp
  |some z=>rfl
 .intro i z _;unfold uH;cases h:z.aP==w<;>simp
theorem v42 {P:Int->Bool} {m:a1} (h:tc P m) (hR: ∀z∈m.ab,jV ae z.aP=some (P z.aP)):v_ ae m=some (mq P m):=by
 show(EV ae m).val=_;unfold EV mq;simp only[T.bt,T.aN,T.cx,T.aH,T.aD];have hl:C7 ae m.ab m.aL=bif l2 P m.aL m.ab then some (.inr (false,(m.ab.length:Int))) else some (.inl ()):=by
  unfold l2;show bF (λi z a=>(uG ae m.ab m.aL i z a).val) (λi a=>(sP ae m.ab m.aL i a).val) 0 m.ab ()=_;rw[gV (q:=λi z=>(l8 P m.aL z&&fp (λy z=>decide (y.aS<z.aS)) m.ab i z)&&kT m.ab i z) (x:=.inl ())]
  .congr 1
   unfold sP;simp
  .intro i z c;have b:=(δ.1 c).1;unfold uG l8 fp kT;simp only[T.aN,T.aH,T.aD,T.bt,T.cx,hR z (κ c),γ,F4 (ηf b),Yi];have d:decide (z.aS<1)=!decide (1<=z.aS):=by rw[η];simp
   have f:decide (z.aS>=m.aL)=!decide (z.aS<m.aL):=by rw[η];simp
   rw[d,f];cases P z.aP with
   |false=>rfl
   |true=>
    cases decide (1<=z.aS) with
    |false=>rfl
    |true=>
     cases decide (z.aS<m.aL) with
     |false=>rfl
     |true=>
      cases i with
      |zero=>
       rfl
      |succ i=>
       have j:decide (((i+1:Nat):Int)>0)=true:=decide_eq_true (by omega);have hi:i<m.ab.length:=by omega
       rw[j,xz b h.len (by omega)];simp only[ι,π,cond_false,cond_true,ξ,show(i+1==0)=false from rfl,ξd,ξD,ε hi,γ];have g:decide (m.ab[i].aS>=z.aS)=!decide (m.ab[i].aS<z.aS):=by rw[η];simp
       rw[g];cases decide (m.ab[i].aS<z.aS)<;>cases (m.ab.take (i+1)).any (λy=>y.aP==z.aP)<;>rfl
 rw[hl];have e:decide ((m.ab.length:Int)<=16)=decide (m.ab.length<=16):=by rw[η];simp;omega
 rw[e];cases l2 P m.aL m.ab<;>cases decide (m.ab.length<=16)<;>cases decide (m.aL>=1)<;>rfl
def mw (P:Int->Bool) (next:Int):Int->List ax->Bool
 |_,[]=>true
 |a,z::r=>(P z.aP&&(decide (a<z.aS)&&decide (z.aS<next)))&&mw P next z.aS r
theorem TQ {P:Int->Bool} {l0:List ax} {next:Int}: ∀(l:List ax) (i:Nat) (a:Int),(∀z∈l,Dt z.aP (P z.aP))->(mw P next a l=true/\ ∃b,bF (λi z a=>(ku ae l0 next i z a).val) (λi a=>(sU ae l0 next i a).val) i l a=some (.inr b))\/(mw P next a l=false/\bF (λi z a=>(ku ae l0 next i z a).val) (λi a=>(sU ae l0 next i a).val) i l a=some (.inl ()))
 |[],i,a,_=>.inl ⟨rfl,_,rfl⟩
 |z::l,i,a,h=>by
  have e:(ku ae l0 next i z a).val=bif P z.aP&&(decide (a<z.aS)&&decide (z.aS<next)) then some (.inl z.aS) else some (.inr (.inl ())):=by
   unfold ku;simp only[T.aN,T.aH,T.aD,h z τ,γ];have c:decide (z.aS<=a)=!decide (a<z.aS):=by rw[η];simp
   have d:decide (z.aS>=next)=!decide (z.aS<next):=by rw[η];simp
   rw[c,d];cases P z.aP<;>cases decide (a<z.aS)<;>cases decide (z.aS<next)<;>rfl
  rw[gW];show _/\(∃b,((ku ae l0 next i z a).val.bind _)=_)\/_/\((ku ae l0 next i z a).val.bind _)=_;rw[e];unfold mw;cases P z.aP&&(decide (a<z.aS)&&decide (z.aS<next)) with
  |false=>exact .inr ⟨rfl,rfl⟩
  |true=>
   simp only[cond_true,γ,ξ];exact TQ l (i+1) z.aS λy f=>h y (ο _ f)
theorem TP {P:Int->Bool} {next:Int} {l0:List ax}: ∀(r pre:List ax) (a:Int),l0=pre++r->(pre=[]->a=0)->(∀y,pre.getLast? =some y->a=y.aS/\1<=y.aS)->mw P next a r=allI (λi z=>l8 P next z&&fp (λy z=>decide (y.aS<z.aS)) l0 i z) pre.length r
 |[],_,_,_,_,_=>rfl
 |z::r,pre,a,e,d,f=>by
  unfold mw allI l8;have l:(P z.aP&&(decide (a<z.aS)&&decide (z.aS<next)))=((P z.aP&&(decide (1<=z.aS)&&decide (z.aS<next)))&&fp (λy z=>decide (y.aS<z.aS)) l0 pre.length z):=by
   unfold fp;rcases ζz pre with hp|⟨p,y,hp⟩
   .subst hp;rw[d rfl];have:decide ((0:Int)<z.aS)=decide (1<=z.aS):=by rw[η];simp;omega
    rw[this];simp
   .subst hp;obtain⟨m,n⟩:=f y (by simp);have g:l0[(p++[y]).length-1]? =some y:=by rw[e];simp
    have k:((p++[y]).length==0)=false:=by simp
    have:decide (a<z.aS)=(decide (1<=z.aS)&&decide (y.aS<z.aS)):=by rw[η];simp;omega
    simp only[List.concat_eq_append] at*
    rw[g,k,this];simp only[ξd];cases P z.aP<;>cases decide (1<=z.aS)<;>cases decide (y.aS<z.aS)<;>cases decide (z.aS<next)<;>rfl
  rw[l];cases b:(P z.aP&&(decide (1<=z.aS)&&decide (z.aS<next)))&&fp (λy z=>decide (y.aS<z.aS)) l0 pre.length z with
  |false=>rfl
  |true=>
   have j:1<=z.aS:=by
    simp only[θ,decide_eq_true_eq] at b;exact b.1.2.1
   have:=TP (P:=P) (next:=next) (l0:=l0) r (pre++[z]) z.aS (by rw[e];simp) (λh=>by simp at h) (λy c=>by simp at c;subst c;exact⟨rfl,j⟩);rw[show(pre++[z]).length=pre.length+1 by simp] at this;rw[this];rfl
def mapM:Γc->List ax->Γc
 |m,[]=>m
 |m,z::r=>mapM (cL m z.aP z.aS) r
def hj:Γc->List ax->Bool
 |_,[]=>true
 |m,z::r=>!(bR m z.aP).isSome&&hj (cL m z.aP z.aS) r
theorem Q1 (k v:Int): ∀m:Γc,(cL m k v).length=if(bR m k).isSome then m.length else m.length+1
 |[]=>rfl
 |p::r=>by
  rw[TS,nU];cases k==p.1 with
  |true=>simp
  |false=>
   simp only[cond_false,ω,Q1 k v r];split<;>rfl
theorem Ra: ∀(l:List ax) (m:Γc),(mapM m l).length<=m.length+l.length/\(hj m l=true->(mapM m l).length=m.length+l.length)/\(hj m l=false->(mapM m l).length<m.length+l.length)
 |[],m=>by simp[mapM,hj]
 |z::r,m=>by
  obtain⟨d,b,c⟩:=Ra r (cL m z.aP z.aS);have hl:=Q1 z.aP z.aS m;simp only[mapM,hj,ω];cases a:(bR m z.aP).isSome with
  |true=>
   rw[a,if_pos rfl] at hl;simp only[ι,ζg];refine⟨by omega,λh=>(by cases h),λ_=>by omega⟩
  |false=>
   rw[a,if_neg (by simp)] at hl;simp only[π,ξ];exact⟨by omega,λh=>by have:=b h;omega,λh=>by have:=c h;omega⟩
theorem Rb (j:Int): ∀(l:List ax) (m:Γc),(bR (mapM m l) j).isSome=(l.any (λy=>y.aP==j)||(bR m j).isSome)
 |[],m=>by simp[mapM]
 |z::r,m=>by
  simp only[mapM,ηa];rw[Rb j r,xK]
  by_cases h:j=z.aP
  .subst h;simp
  .have:(z.aP==j)=false:=by simp;exact λe=>h e.symm
   simp[h,this]
theorem Q': ∀(l r:List ax) (m:Γc),mapM m (l++r)=mapM (mapM m l) r
 |[],r,m=>rfl
 |z::l,r,m=>Q' l r _
theorem Oo {l0:List ax}: ∀(r pre:List ax),l0=pre++r->hj (mapM [] pre) r=allI (λi z=>kT l0 i z) pre.length r
 |[],_,_=>rfl
 |z::r,pre,e=>by
  unfold hj allI kT;rw[Rb];have a:l0.take pre.length=pre:=by rw[e];simp
  have hn:(bR ([]:Γc) z.aP).isSome=false:=rfl;rw[a,hn,ηb];have:=Oo (l0:=l0) r (pre++[z]) (by rw[e];simp);rw[show(pre++[z]).length=pre.length+1 by simp,Q'] at this;have this:hj (cL (mapM [] pre) z.aP z.aS) r=_:=this;rw[this];rfl
theorem M4 {α:Type} {p q:Nat->α->Bool}: ∀ {l:List α} {i:Nat},allI (λi z=>p i z&&q i z) i l=(allI p i l&&allI q i l)
 |[],_=>rfl
 |z::l,i=>by
  simp only[allI];rw[M4];cases p i z<;>cases q i z<;>cases allI p (i+1) l<;>simp
theorem adA {P:Int->Bool} {next:Int} {l:List ax}:l2 P next l=(mw P next 0 l&&hj [] l):=by
 unfold l2;rw[M4,TP (l0:=l) l [] 0 rfl (λ_=>rfl) (λy a=>by simp at a)];have:=Oo (l0:=l) l [] rfl;have this:hj [] l=_:=this;rw[this];rfl
theorem fold_map: ∀(l:List ax) (m:Γc),l.foldl (λa z=>cL a z.aP z.aS) m=mapM m l
 |[],_=>rfl
 |z::r,m=>fold_map r _
theorem J8 {P:Int->Bool} {m:a1} (h:tc P m):pV ae m=some (bif mq P m then 0 else 340):=by
 show(E1 ae m).val=_;unfold E1 mq;rw[adA];simp only[T.bt,T.aN,T.cx,T.aH,T.aD];have d:tH ae m.ab []=some (false,(m.ab.length:Int),mapM [] m.ab):=by
  have:=mr (g:=λa (z:ax)=>cL a z.aP z.aS) (l:=m.ab) (i:=0) (a:=[]) (step:=λi z a=>(DG ae m.ab i z a).val) (fin:=λi a=>(s' ae m.ab i a).val) (λi z a _=>rfl);have d:tH ae m.ab []=_:=this;rw[d,fold_map];unfold s';simp
 obtain⟨r,p,q⟩:=Ra m.ab [];have o:decide (((mapM [] m.ab).length:Int)<(m.ab.length:Int))=!hj [] m.ab:=by
  cases f:hj [] m.ab with
  |true=>have:=p f;simp at this;exact decide_eq_false (by omega)
  |false=>have:=q f;simp at this;exact decide_eq_true (by omega)
 have j:decide ((m.ab.length:Int)>16)=!decide (m.ab.length<=16):=by
  by_cases h:m.ab.length<=16
  .rw[decide_eq_true h,decide_eq_false (by omega)];rfl
  .rw[decide_eq_false h,decide_eq_true (by omega)];rfl
 have k:decide (m.aL<1)=!decide (m.aL>=1):=by rw[η];simp
 have n:decide (m.aL>1073741825)=!decide (m.aL<=1073741825):=by rw[η];simp
 rcases TQ (P:=P) (l0:=m.ab) (next:=m.aL) m.ab 0 0 h.path with⟨e,b,c⟩|⟨e,c⟩
 .have c:tE ae m.ab m.aL 0=some (.inr b):=c;rw[c,e,d];simp only[γ,ξ];rw[o,j,k,n];cases hj [] m.ab<;>cases decide (m.ab.length<=16)<;>cases decide (m.aL>=1)<;>cases decide (m.aL<=1073741825)<;>rfl
 .have c:tE ae m.ab m.aL 0=some (.inl ()):=c;rw[c,e];rfl
def cV (l:Γ):Bool:=l.all ey&&!l.isEmpty
theorem Yl {s:ByteArray} {pos:Nat} (hp:pos<s.size):(m1 ae s pos).val=bif ey (ξg s pos).1 then some (.inl (pos+(ξg s pos).2)) else some (.inr (.inl ())):=by
 unfold m1;simp only[T.aH,T.aD];rw[decide_eq_true hp,vg];cases decide (((ξg s pos).1:Int)>=97)<;>cases decide (((ξg s pos).1:Int)<=122)<;>cases decide (((ξg s pos).1:Int)>=48)<;>cases decide (((ξg s pos).1:Int)<=57)<;>rfl
theorem UH {l:Γ} (h: ∀x∈l,x<256): ∀(k f pos:Nat),pos+k=l.length->cm (λa=>(m1 ae (bs l) a).val) (k+1+f) pos=some (bif (l.drop pos).all ey then .inr l.length else .inl ())
 |0,f,pos,e=>by
  obtain rfl:pos=l.length:=by omega
  rw[show 0+1+f=f+1 by omega,dB];unfold m1;simp[dT]
 |k+1,f,pos,e=>by
  have hp:pos<l.length:=by omega
  have d:=Ov h (ε hp);rw[show k+1+1+f=(k+1+f)+1 by omega,dB,Yl (by rw[dT];exact hp),ρ hp,ξI]
  by_cases b:((bs l).get! pos).toNat<128
  .rw[F6 b,d];cases ey l[pos] with
   |false=>rfl
   |true=>
    simp only[cond_true,γ,ξ];exact UH h k f (pos+1) (by omega)
  .have g:=vf (c:=l[pos]) (by rw[<-d];omega);rw[vf (decode_high b),g];rfl
theorem v175 {l:Γ} (h: ∀x∈l,x<256) (hl:l.length<=100):pQ ae (bs l)=some (cV l):=by
 show(Ej ae (bs l)).val=_;unfold Ej cV;simp only[T.bt,T.aN,T.cx,T.aD];have:=UH h l.length (999999-l.length) 0 (by omega);rw[show l.length+1+(999999-l.length)=1000000 by omega,ξN] at this;have a:CD ae (bs l) 0=some (bif l.all ey then .inr l.length else .inl ()):=this;rw[a];cases l.all ey with
 |false=>rfl
 |true=>
  simp only[cond_true,γ,ξ];rw[F_]
def du (acc:List (Γ)) (x:Nat):List (Γ):=if x=47 then acc++[[]] else match acc[acc.length-1]? with|some y=>acc.set (acc.length-1) (y++[x])|none=>acc
theorem Om: ∀(a:Γ) (acc:List (Γ)) (y:Γ),(∀x∈a,x≠47)->a.foldl du (acc++[y])=acc++[y++a]
 |[],acc,y,_=>by simp
 |x::a,acc,y,h=>by
  have b:du (acc++[y]) x=acc++[y++[x]]:=by
   unfold du;rw[if_neg (h x τ)];simp
  rw[ξf,b,Om a acc (y++[x]) λz c=>h z (ο _ c)];simp
def wd (t:Γ):Γ:=t.takeWhile λx=>x !=47
def rs (t:Γ):Γ:=t.dropWhile λx=>x !=47
theorem UT: ∀(t:Γ) (x:Nat),x∈wd t->x≠47
 |[],x,h=>by simp[wd] at h
 |z::t,x,h=>by
  unfold wd at h;rw[ξ0] at h;cases a:z !=47 with
  |true=>
   rw[a] at h;rcases ξB.1 h with rfl|h
   .simpa using a
   .exact UT t x h
  |false=>rw[a] at h;simp at h
theorem wi (t:Γ) (acc:List (Γ)):(47::t).foldl du acc=(rs t).foldl du (acc++[wd t]):=by
 rw[ξf];have a:du acc 47=acc++[[]]:=by unfold du;rw[if_pos rfl]
 rw[a]
 conv=>lhs;rw[<-ξA (p:=λx=>x !=47) (l:=t)]
 rw[List.foldl_append];show η8 du (η8 du (acc++[[]]) (wd t)) (rs t)=_;rw[Om _ acc [] λx b=>UT t x b];rfl
theorem oh (t:Γ):rs t=[]\/ ∃u,rs t=47::u:=by
 unfold rs;cases h:t.dropWhile λx=>x !=47 with
 |nil=>exact .inl rfl
 |cons x u=>
  right;have:=ζm (λx=>x !=47) t;rw[h] at this;simp at this;exact⟨u,by rw[this]⟩
theorem wh: ∀(k:Nat) (r:Γ) (acc:List (Γ)),r.length<=k->(r=[]\/ ∃t,r=47::t)->r.foldl du acc=acc++r.foldl du []
 |0,r,acc,a,_=>by
  have:r=[]:=ξC (by omega);subst this;simp
 |k+1,r,acc,a,b=>by
  rcases b with rfl|⟨t,rfl⟩
  .simp
  .have hl:(rs t).length<=k:=by
    have:(rs t).length<=t.length:=(ξv _).length_le;simp at a;omega
   rw[wi,wi,wh k (rs t) _ hl (oh t),wh k (rs t) ([]++[wd t]) hl (oh t)];simp
theorem HQ: ∀(t:Γ),(∀x∈t,x<256)->ηc (bs t).data.toList (Nat.toUInt8 47)=if rs t=[] then -1 else((wd t).length:Int)
 |[],_=>rfl
 |x::t,h=>by
  have b:=HQ t λz g=>h z (ο _ g);have j:=h x τ;have c:(bs (x::t)).data.toList=ξn x::(bs t).data.toList:=by simp[bs]
  rw[c];unfold ηc rs wd;rw[ξb,ξ0]
  by_cases a:x=47
  .subst a;rfl
  .have d:(ξn x==Nat.toUInt8 47)=false:=by
    rw[beq_eq_false_iff_ne];intro e;have:=congrArg ζo e;simp at this;omega
   have f:(x !=47)=true:=by simp[a]
   rw[d,f];simp only[ξm,if_false,if_true];unfold rs wd at b;rw[b];split
   .rfl
   .rename_i i;rw[if_neg (by simp)];simp
theorem UU (t:Γ):wd t++rs t=t:=ξA
theorem abi {l:Γ} {i j:Nat} (a:i<=j) (b:j<=l.length):(bs l).extract i j=bs ((l.take j).drop i):=by
 apply ζ5;rw[ζu];unfold bs;apply ζU;rw[ζF];simp[ηg,List.map_drop,ζP,List.take_drop,show i+(j-i)=j by omega]
theorem iT {l:Γ} {i j:Nat} (c:i<=j) (d:j<=l.length) {lo hi:Option Int} (a:lo.getD 0=(i:Int)) (b:hi.getD ((bs l).size:Int)=(j:Int)):eM (bs l) lo hi=some (bs ((l.take j).drop i)):=by
 unfold eM;rw[a,b,if_pos ⟨by omega,by omega,by rw[dT];omega⟩,ζ,ζ,abi c d]
theorem Ym {d t:Γ} {w:Int} {acc:List (Γ)} (k:((bs d).toList==(ξ1 #[47]).toList)=false) (h: ∀x∈t,x<256) (hl:t.length<=50) (q:acc.length<=50):
  (gC ae (bs d) w (true,bs (47::t),acc.map bs)).val=bif cV (wd t) then some (.inl (true,bs (rs t),(acc++[wd t]).map bs)) else some (.inr (.inl (false,bs (47::t),acc.map bs))):=by
 have a:=UU t;have hlen:(wd t).length+(rs t).length=t.length:=by rw[<-υ,a]
 have hw: ∀x∈wd t,x<256:=λx p=>h x (by rw[<-a];exact ξq _ p);have f:decide (((bs (47::t)).size:Int)>=1)=true:=decide_eq_true (by rw[dT];simp;omega);have c1:eM (bs (47::t)) none (some 1)=some (bs [47]):=iT (i:=0) (j:=1) (by omega) (by simp) rfl rfl;have c2:eM (bs (47::t)) (some 1) none=some (bs t):=by
  have:=iT (l:=47::t) (i:=1) (j:=t.length+1) (lo:=some 1) (hi:=none) (by omega) (by simp) rfl (by rw[dT];simp);rw[this];simp
 have g:((bs [47]).toList==(ξ1 #[47]).toList)=true:=by
  have:bs [47]=ξ1 #[47]:=rfl;rw[this];exact beq_self_eq_true _
 have e:app 16 (acc.map bs) [bs (wd t)]=some ((acc++[wd t]).map bs):=by
  rw[eK (n:=200) (by simp;omega) (by omega),ξG];rfl
 unfold gC;simp only[T.aH,T.aD,T.aN];rw[f,c1];simp only[cond_true,γ];rw[g,c2];simp only[cond_true,γ];rw[HQ t h,k]
 by_cases b:rs t=[]
 .have o:wd t=t:=by rw[b,ξs] at a;exact a
  rw[if_pos b];have c:(μ.wrap (-1+1)==0)=true:=rfl;have c3:eM (bs (47::t)) (some 1) (some ((bs (47::t)).size:Int))=some (bs (wd t)):=by
   have:=iT (l:=47::t) (i:=1) (j:=t.length+1) (lo:=some 1) (hi:=some ((bs (47::t)).size:Int)) (by omega) (by simp) rfl (by rw[dT];simp);rw[this,o];simp
  have c4:eM (bs (47::t)) (some ((bs (47::t)).size:Int)) none=some (bs (rs t)):=by
   have:=iT (l:=47::t) (i:=t.length+1) (j:=t.length+1) (lo:=some ((bs (47::t)).size:Int)) (hi:=none) (by omega) (by simp) (by rw[dT];simp) (by rw[dT];simp);rw[this,b];simp
  rw[c];simp only[cond_true];rw[c3];simp only[γ,cond_false];rw[v175 hw (by omega),e,c4];cases cV (wd t)<;>rfl
 .rw[if_neg b];have r:0<(rs t).length:=ζ7.2 b;have m:μ.wrap (((wd t).length:Int)+1)=(((wd t).length+1:Nat):Int):=by rw[cr (by omega) (by omega)];omega
  rw[m];have c:((((wd t).length+1:Nat):Int)==0)=false:=by simp;omega
  have c3:eM (bs (47::t)) (some 1) (some (((wd t).length+1:Nat):Int))=some (bs (wd t)):=by
   have:=iT (l:=47::t) (i:=1) (j:=(wd t).length+1) (lo:=some 1) (hi:=some (((wd t).length+1:Nat):Int)) (by omega) (by simp;omega) rfl rfl;rw[this];have:t.take (wd t).length=wd t:=by
    have:=η5 (l₁:=wd t) (l₂:=rs t)
    rwa [a] at this
   simp[this]
  have c4:eM (bs (47::t)) (some (((wd t).length+1:Nat):Int)) none=some (bs (rs t)):=by
   have:=iT (l:=47::t) (i:=(wd t).length+1) (j:=t.length+1) (lo:=some (((wd t).length+1:Nat):Int)) (hi:=none) (by omega) (by simp) rfl (by rw[dT];simp);rw[this];have:t.drop (wd t).length=rs t:=by
    have:=η6 (l₁:=wd t) (l₂:=rs t)
    rwa [a] at this
   simp[this]
  rw[c];simp only[cond_false];rw[c3];simp only[γ,cond_false];rw[v175 hw (by omega),e,c4];cases cV (wd t)<;>rfl
theorem UK {d:Γ} {w:Int} (j:((bs d).toList==(ξ1 #[47]).toList)=false): ∀(k f:Nat) (r:Γ) (acc:List (Γ)),r.length<=k->(∀x∈r,x<256)->r.length+acc.length<=50->acc.all cV=true->(r=[]\/ ∃t,r=47::t)->
  ((r.foldl du []).all cV=true/\ ∃b s0,cm (λa=>(gC ae (bs d) w a).val) (k+1+f) (true,bs r,acc.map bs)=some (.inr (b,s0,true,(acc++r.foldl du []).map bs)))\/
  ((r.foldl du []).all cV=false/\ ∃s0 ps,ps.all cV=true/\(∃q,acc++r.foldl du []=ps++q)/\cm (λa=>(gC ae (bs d) w a).val) (k+1+f) (true,bs r,acc.map bs)=some (.inl (false,s0,ps.map bs)))
 |k,f,[],acc,_,_,_,_,_=>by
  left;refine⟨rfl,false,bs [],?_⟩;rw[show k+1+f=(k+f)+1 by omega,dB];have:(gC ae (bs d) w (true,bs [],acc.map bs)).val=some (.inr (.inr (false,bs [],true,acc.map bs))):=by
   unfold gC;rfl
  rw[this];simp
 |0,f,x::r,acc,c,_,_,_,_=>by simp at c
 |k+1,f,x::t,acc,c,h,hl,i,s=>by
  rcases s with o|⟨t',e⟩
  .cases o
  cases e;have l: ∀x∈t,x<256:=λx g=>h x (ο _ g);simp only[ω] at c hl;have hlen:(rs t).length<=t.length:=(ξv _).length_le;rw[show k+1+1+f=(k+1+f)+1 by omega,dB,Ym j l (by omega) (by omega),wi,ξc,wh (rs t).length (rs t) _ (ξa _) (oh t)];rw[η0];cases hp:cV (wd t) with
  |false=>
   right;refine⟨by simp[hp],bs (47::t),acc,i,⟨_,rfl⟩,rfl⟩
  |true=>
   simp only[cond_true,γ];have p:(acc++[wd t]).all cV=true:=by rw[η0,i];simp[hp]
   have u: ∀x∈rs t,x<256:=λx g=>l x ((ξv (λx=>x !=47)).subset g);have m:acc++([wd t]++(rs t).foldl du [])=(acc++[wd t])++(rs t).foldl du []:=by simp
   have n:[wd t].all cV=true:=by simp[hp]
   rw[m,n,ξ];exact UK j k f (rs t) (acc++[wd t]) (by omega) u (by simp;omega) p (oh t)
def jt (ps:List (Γ)):Γ:=(ps.map λp=>47::p).flatten
def tx (ps:List (Γ)):Γ:=match ps with|[]=>[47]|_=>jt ps
theorem adm (p:Γ) (ps:List (Γ)):hr ((p::ps).map bs) (ξ1 #[47])=bs (p++jt ps):=by
 unfold hr;apply ζ5;apply ζU;show Lib.join (((p::ps).map bs).map (·.data.toList)) [47]=_;rw[ζ6,ζ6,Lib.join_cons];unfold Lib.joinTail jt bs;simp only[ξG,ζW]
 congr 1
 rw[List.map_flatten,ζW]
 congr 1
theorem ah1: ∀(ps:List (Γ)),(tx ps).length<=500->ka (ξ1 #[47]) (hr (ps.map bs) (ξ1 #[47]))=some (bs (tx ps))/\(hr (ps.map bs) (ξ1 #[47])).size<=500
 |[],_=>by
  have e:hr [] (ξ1 #[47])=bs []:=rfl;rw[ηh,e];exact⟨yw (l:=[47]) (m:=[]) (by simp),by rw[dT];simp⟩
 |p::ps,h=>by
  rw[adm];have h:(47::p++jt ps).length<=500:=by simpa[tx,jt] using h
  refine⟨?_,by rw[dT];simp at h ⊢;omega⟩;have:=yw (l:=[47]) (m:=p++jt ps) (by simp at h ⊢;omega);have e:bs [47]=ξ1 #[47]:=rfl;rw[e] at this;rw[this];rfl
theorem yO {ps:List (Γ)} (e:ps.all cV=true) (h: ∀p∈ps,(∀x∈p,x<256)/\p.length<=100) (hl:(tx ps).length<=500) (hn:ps.length<=100):jR ae (ps.map bs)=some ((iQ (bs (tx ps))).1,(iQ (bs (tx ps))).2==0&&decide (ps.length<=4)):=by
 show(Ek ae (ps.map bs)).val=_;unfold Ek;obtain⟨c,j⟩:=ah1 ps hl;simp only[T.aH,T.aN,T.aD,T.bt,T.cx];rw[c,decide_eq_true (by simp;omega:(ps.map bs).length<=140737488355328),decide_eq_true (by omega:(hr (ps.map bs) (ξ1 #[47])).size<=140737488355328)];simp only[ηd,cond_true,γ,UM];have b:decide (((ps.map bs).length:Int)<=4)=decide (ps.length<=4):=by rw[η];simp;omega
 have d:C2 ae (ps.map bs)=some (.inr (false,((ps.map bs).length:Int))):=by
  show bF (λi z a=>(uD ae (ps.map bs) i z a).val) (λi a=>(sL ae (ps.map bs) i a).val) 0 (ps.map bs) ()=_;rw[mr (g:=λa _=>a)]
  .unfold sL;simp
  .intro i z a f;obtain⟨p,hp,rfl⟩:=ξZ.1 f;unfold uD;have:=ξ7.1 e p hp;simp only[T.aH,T.aN,T.aD,v175 (h p hp).1 (h p hp).2,this,γ];rfl
 rw[b,d];cases (iQ (bs (tx ps))).2==0<;>cases decide (ps.length<=4)<;>rfl
def de (d:Γ):List (Γ):=d.foldl du []
theorem rm (t:Γ):de (47::t)=wd t::de (rs t):=by
 unfold de;rw[wi,ξc,wh (rs t).length (rs t) _ (ξa _) (oh t)];rfl
theorem q0: ∀(k:Nat) (r:Γ),r.length<=k->(r=[]\/ ∃t,r=47::t)->jt (de r)=r
 |_,[],_,_=>rfl
 |0,x::r,a,_=>by simp at a
 |k+1,x::t,a,d=>by
  rcases d with c|⟨t',e⟩
  .cases c
  cases e;have hlen:(rs t).length<=t.length:=(ξv _).length_le;simp only[ω] at a;have b:=q0 k (rs t) (by omega) (oh t);rw[rm];unfold jt at b ⊢;rw[ζ6,List.flatten_cons,b];show 47::(wd t++rs t)=_;rw[UU]
theorem yz {d:Γ} (h: ∀x∈d,x<256):((bs d).toList==(ξ1 #[47]).toList)=decide (d=[47]):=by
 have a: ∀x:ByteArray,x.toList=x.data.toList:=λx=>ξP x;rw[a,a,η];simp only[beq_iff_eq,decide_eq_true_eq];constructor
 .intro e;have e:d.map ξn=[47]:=by simpa[bs] using e
  obtain⟨x,rfl⟩:=List.length_eq_one_iff.1 (by simpa using congrArg ζI e);have b:=h x (by simp);simp at e;have:=congrArg ζo e;simp at this;rw[show x=47 by omega]
 .rintro rfl;rfl
def jd (d:Γ):Bool:=decide (d=[47])||(match d with|47::_=>(de d).all cV&&decide ((de d).length<=4)|_=>false)
def bV (w:Int):Bool:=(dH 8 w.toNat==0)&&jd (dg 8 w.toNat)
def mf (d:Γ):List (Γ):=if d=[47] then[] else de d
def bE (w:Int):List (Γ):=mf (dg 8 w.toNat)
theorem adJ {ps:List (Γ)} {p:Γ} {x:Nat} (hp:p∈ps) (a:x∈p):x∈jt ps:=by
 unfold jt;rw[ζY];exact⟨47::p,ξZ.2 ⟨p,hp,rfl⟩,ο _ a⟩
theorem O7: ∀ {ps:List (Γ)} {p:Γ},p∈ps->p.length+1<=(jt ps).length
 |q::ps,p,h=>by
  have e:(jt (q::ps)).length=q.length+1+(jt ps).length:=by simp[jt];omega
  rcases ξB.1 h with rfl|h
  .omega
  .have:=O7 h;omega
theorem H5: ∀(ps:List (Γ)),ps.length<=(jt ps).length
 |[]=>by simp
 |q::ps=>by
  have e:(jt (q::ps)).length=q.length+1+(jt ps).length:=by simp[jt];omega
  have:=H5 ps;simp only[ω];omega
theorem H4 (ps q:List (Γ)):jt (ps++q)=jt ps++jt q:=by simp[jt]
theorem Rd {d:Γ} (b: ∀x∈d,x<256) (hl:d.length<=8) (c: ∃t,d=47::t) {p:Γ} (hp:p∈de d):(∀x∈p,x<256)/\p.length<=100:=by
 have a:=q0 d.length d (ξa _) (.inr c);refine⟨λx e=>b x (by rw[<-a];exact adJ hp e),?_⟩;have:=O7 hp;rw[a] at this;omega
theorem aii:iQ (bs (tx []))=(47,0):=u_ (l:=[47]) (by simp) (by simp)
theorem UI:jR ae []=some (47,true):=by
 have:=yO (ps:=[]) rfl (by simp) (by simp[tx]) (by simp);rw[ηh] at this;rw[this,aii];rfl
theorem yJ {α:Type} {w:Int} {ps:List ByteArray} {b:Bool} {s0:α} {r:Int×Bool} (c:jR ae ps=some r):(T.bd (jR ae ps) λa=>.bf (!b) (.ok (jz.mk [] 0,false))<|.bf (!a.2) (.ok (jz.mk [] 0,false))<|.bf (a.1 !=w) (.ok (jz.mk [] 0,false))<|.ok (jz.mk ps w,true):T (jz×Bool)).val=some (bif b&&(r.2&&r.1==w) then⟨ps,w⟩ else⟨[],0⟩,b&&(r.2&&r.1==w)):=by
 rw[T.aN,c,γ];simp only[T.aH,T.aD];have e:(r.1 !=w)=!(r.1==w):=rfl;rw[e];cases b<;>cases r.2<;>cases r.1==w<;>rfl
theorem v131 {n:Nat} (h:n<18446744073709551616):lL ae (n:Int)=some (bif bV (n:Int) then⟨(bE (n:Int)).map bs,(n:Int)⟩ else⟨[],0⟩,bV (n:Int)):=by
 show(DY ae (n:Int)).val=_;unfold DY bV bE;simp only[T.aN,T.aH,T.aD,T.bt,UF h,γ,ζ]
 by_cases g:dH 8 n=0
 rotate_left
 .rw[if_neg g];have e:(dH 8 n==0)=false:=by simp[g]
  rw[e];rfl
 rw[if_pos g,g];simp only[show((0:Int) !=0)=false from rfl,cond_false,F_,beq_self_eq_true,ξ];have k:=nj n;have hl:=kE 8 n;have s:=x6 8 n;rw[g,ηe,ζx] at s;have K:=vr 8 n;generalize dg 8 n=d at*
 cases d with
 |nil=>rfl
 |cons x t=>
  simp only[List.isEmpty_cons,cond_false]
  by_cases u:x=47
  .subst u;cases t with
   |nil=>
    have hn:(n:Int)=47:=by simp[pk] at s;omega
    have f:mV ae (bs [47]) (n:Int) true (bs [47]) []=some (.inl (true,bs [47],[])):=by
     show cm (λa=>(gC ae (bs [47]) (n:Int) a).val) 1000000 (true,bs [47],[])=_;rw[show(1000000:Nat)=999999+1 from rfl,dB];have:(gC ae (bs [47]) (n:Int) (true,bs [47],[])).val=some (.inr (.inl (true,bs [47],[]))):=by
      have v:decide (((bs [47]).size:Int)>=1)=true:=decide_eq_true (by rw[dT];simp);have c1:eM (bs [47]) none (some 1)=some (bs [47]):=iT (l:=[47]) (i:=0) (j:=1) (by omega) (by simp) rfl rfl;have c2:eM (bs [47]) (some 1) none=some (bs []):=iT (l:=[47]) (i:=1) (j:=1) (by omega) (by simp) rfl (by rw[dT];simp);have c3:eM (bs [47]) (some 1) (some ((bs [47]).size:Int))=some (bs []):=iT (l:=[47]) (i:=1) (j:=1) (by omega) (by simp) rfl (by rw[dT];simp);have A:((bs [47]).toList==(ξ1 #[47]).toList)=true:=by
       have:bs [47]=ξ1 #[47]:=rfl;rw[this];exact beq_self_eq_true _
      unfold gC;simp only[T.aH,T.aN,T.aD];rw[v,c1];simp only[cond_true,γ];rw[A,c2];simp only[cond_true,γ];rw[HQ [] (by simp),if_pos (show rs []=[] from rfl),show(μ.wrap (-1+1)==0)=true from rfl];simp only[cond_true];rw[c3];simp only[γ]
     rw[this];rfl
    rw[f];simp only[γ,T.cx];refine(yJ (s0:=()) (b:=true) (w:=(n:Int)) UI).trans ?_;rw[hn];rfl
   |cons y t=>
    have E:decide (47::y::t=[47])=false:=decide_eq_false (by simp);have G:=yz k;rw[E] at G;have m:=q0 _ (47::y::t) (ξa _) (.inr ⟨_,rfl⟩);have C:jd (47::y::t)=((de (47::y::t)).all cV&&decide ((de (47::y::t)).length<=4)):=by
     unfold jd;rw[E];rfl
    rw[C];have D:=UK (w:=(n:Int)) G (47::y::t).length (999999-(47::y::t).length) (47::y::t) [] (ξa _) k (by simp at hl ⊢;omega) rfl (.inr ⟨_,rfl⟩);rw[show(47::y::t).length+1+(999999-(47::y::t).length)=1000000 by omega] at D;have F: ∀p∈de (47::y::t),(∀x∈p,x<256)/\p.length<=100:=λp hp=>Rd k hl ⟨_,rfl⟩ hp;have J:=H5 (de (47::y::t));rw[m] at J;rcases D with⟨c,b,s0,B⟩|⟨c,s0,ps,I,⟨q,r⟩,B⟩
    .have f:mV ae (bs (47::y::t)) (n:Int) true (bs (47::y::t)) []=some (.inr (b,s0,true,(de (47::y::t)).map bs)):=B;have c:(de (47::y::t)).all cV=true:=c;rw[f,c];simp only[γ,T.cx];have H:tx (de (47::y::t))=47::y::t:=by
      rw[rm] at m ⊢;exact m
     have o:=yO c F (by rw[H];omega) (by omega);rw[H,u_ K hl,s] at o;refine(yJ (s0:=()) (b:=true) (w:=(n:Int)) o).trans ?_;rw[show mf (47::y::t)=de (47::y::t) from if_neg (by simp)];simp
    .have f:mV ae (bs (47::y::t)) (n:Int) true (bs (47::y::t)) []=some (.inl (false,s0,ps.map bs)):=B;have c:(de (47::y::t)).all cV=false:=c;have r:de (47::y::t)=ps++q:=by simpa[de] using r
     rw[f,c];simp only[γ,T.cx];have M:(jt ps).length<=8:=by
      rw[r,H4] at m;have:=congrArg ζI m;rw[υ] at this;omega
     have o:=yO I (λp hp=>F p (by rw[r];exact ξq _ hp)) (by
      cases ps with
      |nil=>simp[tx]
      |cons a b=>show(jt (a::b)).length<=500;omega) (by have:=H5 ps;omega)
     exact yJ (s0:=()) (b:=false) (w:=(n:Int)) o
  .have C:jd (x::t)=false:=by
    unfold jd;rw[decide_eq_false (by simp;intro e;exact absurd e u),ξd];split
    .rename_i h;cases h;exact absurd rfl u
    .rfl
   have f:mV ae (bs (x::t)) (n:Int) true (bs (x::t)) []=some (.inr (false,bs (x::t),true,[])):=by
    show cm (λa=>(gC ae (bs (x::t)) (n:Int) a).val) 1000000 (true,bs (x::t),[])=_;rw[show(1000000:Nat)=999999+1 from rfl,dB];have:(gC ae (bs (x::t)) (n:Int) (true,bs (x::t),[])).val=some (.inr (.inr (false,bs (x::t),true,[]))):=by
     have v:decide (((bs (x::t)).size:Int)>=1)=true:=decide_eq_true (by rw[dT];simp;omega);have c1:eM (bs (x::t)) none (some 1)=some (bs [x]):=iT (i:=0) (j:=1) (by omega) (by simp) rfl rfl;have A:((bs [x]).toList==(ξ1 #[47]).toList)=false:=by
      rw[yz (λz L=>by have:z=x:=by simpa using L
                      subst this;exact k z τ)]
      exact decide_eq_false (by simp;exact u)
     unfold gC;simp only[T.aH,T.aN,T.aD];rw[v,c1];simp only[cond_true,γ];rw[A];rfl
    rw[this];rfl
   rw[f,C];simp only[γ,T.cx];refine(yJ (s0:=()) (b:=true) (w:=(n:Int)) UI).trans ?_;have hn:((47:Int)==(n:Int))=false:=by
    have N:=k x τ;simp[pk] at s;simp;omega
   rw[hn];rfl
theorem v96 {n:Nat} (h:n<18446744073709551616):p9 ae (n:Int)=some (bif bV (n:Int) then 0 else 310):=by
 show(Fm ae (n:Int)).val=_;unfold Fm;simp only[T.aN,T.aH,T.aD,v131 h,γ];cases bV (n:Int)<;>rfl
theorem I3 {w:Int} (h:cd w):Dt w (bV w):=by
 obtain⟨n,rfl⟩:=ξh h.1;have hn:n<18446744073709551616:=by have:=h.2;omega
 exact v96 hn
abbrev fz (α:Type):=Except Int α
def b1 {α:Type} (lt:α->Bool) (x:α) (l:List α):List α:=l.takeWhile lt++x::l.dropWhile lt
def gP (p:aV):Option Nat:=(ξw 16).find? λi=>!(p.ab.any λx=>ix x.aa==(i:Int)+1)&&decide (aw p.az i<=65535)
def cD (p:aV) (i:Nat):Int:=aw p.az i*64+i+1
def hB (p:aV) (parent:Int):fz (aV×Int):=
 bif bJ p.ab parent then match gP p with
  |some i=>.ok (⟨p.az.set i (aw p.az i+1),b1 (λy=>decide (ix y.aa<=i+1)) ⟨cD p i,parent,false,0⟩ p.ab⟩,cD p i)
  |none=>.error 322
 else .error 321
def fB (pid code:Int) (y:ag):Option ag:=bif y.aa==pid then bif y.aT==0 then none else some ⟨y.aa,y.aT,true,code⟩ else bif y.aT==pid then bif y.ba then none else some ⟨y.aa,0,y.ba,y.bT⟩ else some y
def hh (p:aV) (pid code:Int):fz aV:=bif bJ p.ab pid then bif pid==1 then .error 323 else .ok ⟨p.az,p.ab.filterMap (fB pid code)⟩ else .error 321
def hE (p:aV) (pid child:Int):fz (aV×Int):=
 bif bJ p.ab pid then match eN p.ab child with
  |some x=>bif x.aT==pid then bif x.ba then .ok (⟨p.az,p.ab.filter λy=>!(y.aa==child)⟩,x.bT) else .error 322 else .error 324
  |none=>.error 324
 else .error 321
def cy (l:List ai) (pid fd:Int):Option Int:=(l.find? λd=>d.aa==pid&&d.bm==fd).map ai.b3
def gr (l:List ai) (pid:Int):Option Nat:=(ξw 8).find? λ(i:Nat)=>(cy l pid i).isNone
def fO (l:List ai) (pid aZ:Int):fz (List ai×Int):=
 match gr l pid with
 |some i=>bif l.length==64 then .error 6 else .ok (b1 (λy=>cC y ⟨pid,i,aZ⟩) ⟨pid,i,aZ⟩ l,i)
 |none=>.error 6
def fX (l:List ai) (pid fd:Int):fz (List ai×Int):=
 match cy l pid fd with
 |some aZ=>fO l pid aZ
 |none=>.error 4
def gH (l:List ai) (pid fd:Int):fz (List ai):=
 match cy l pid fd with
 |some _=>.ok (l.filter λd=>!(d.aa==pid&&d.bm==fd))
 |none=>.error 4
def kF (l:List ai) (pid:Int):List ai:=l.filter λd=>!(d.aa==pid)
def hf (l:List ai) (aZ:Int):Nat:=(l.filter λd=>d.b3==aZ).length
def cq (m:a1) (w:Int):Option Int:=(m.ab.find? λx=>x.aP==w).map ax.aS
def fc (ps:List (Γ)):Int:=(iQ (bs (tx ps))).1
def dG (a b:Int):Bool:=bV a&&(bV b&&(bE a).isPrefixOf (bE b))
def gF (m:a1) (w:Int):fz (a1×Int):=
 bif bV w then match cq m w with
  |some _=>.error 5
  |none=>bif m.ab.length==16||decide (m.aL>1073741824) then .error 6 else .ok (⟨m.ab++[⟨w,m.aL⟩],m.aL+1⟩,m.aL)
 else .error 310
def iv (m:a1) (w:Int):fz Int:=
 bif bV w then match cq m w with
  |some i=>.ok i
  |none=>.error 4
 else .error 310
def hM (m:a1) (w:Int):Bool:=m.ab.any λx=>!(x.aP==w)&&dG w x.aP
def hC (m:a1) (w:Int):fz a1:=
 bif bV w then match cq m w with
  |some _=>bif hM m w then .error 341 else .ok ⟨m.ab.filter λx=>!(x.aP==w),m.aL⟩
  |none=>.error 4
 else .error 310
def la (w:Int):Γa:=(ξw ((bE w).length+1)).reverse.map λk=>fc ((bE w).take k)
def jv (m:a1) (w:Int):Option Int:=(la w).findSome? (cq m)
def fG (m:a1) (w:Int):fz Int:=
 bif bV w then match jv m w with
  |some i=>.ok i
  |none=>.error 4
 else .error 310
def eC (l:List av) (n:Int):Option Int:=(l.find? λz=>z.aY==n).map av.aa
def gS (s:aC) (n pid:Int):fz aC:=
 bif dy n then bif dR pid then match eC s.an n with
  |some _=>.error 5
  |none=>bif s.an.length==16 then .error 6 else .ok ⟨b1 (λy=>decide (y.aY<n)) ⟨n,pid⟩ s.an,s.ak⟩
 else .error 2 else .error 351
def f_ (s:aC) (n:Int):fz Int:=
 bif dy n then match eC s.an n with
  |some p=>.ok p
  |none=>.error 4
 else .error 351
def mF (s:aC) (n:Int):aC:=⟨s.an.filter λy=>!(y.aY==n),s.ak⟩
def ho (s:aC) (pid:Int):Γa:=(s.an.filter λy=>y.aa==pid).map av.aY
def cJ (s:aC) (pid:Int):Γa:=match s.ak.find? λb=>b.aa==pid with|some b=>b.a6|none=>[]
def fy (s:aC) (pid:Int) (ws:Γa):aC:=
 ⟨s.an,(s.ak.filter λb=>decide (b.aa<pid))++((if ws=[] then[] else[⟨pid,ws⟩])++s.ak.filter λb=>decide (pid<b.aa))⟩
def kb (s:aC) (pid w:Int):fz aC:=bif (cJ s pid).length==4 then .error 322 else .ok (fy s pid (cJ s pid++[w]))
def j5 (s:aC) (pid:Int):fz (aC×Int):=
 match cJ s pid with
 |w::r=>.ok (fy s pid r,w)
 |[]=>.error 322
def h3 (c:bq):Bool:=c.bb==9||c.bb==12
def fj (s:aF) (k p a b:Int):fz (aF×Int):=
 if k=1 then match hB s.ar p with| .ok (q,v)=>.ok (⟨q,s.aB,s.au,s.ao⟩,v)| .error e=>.error e
 else if k=2 then match hh s.ar p a with
  | .ok q=>if ho s.ao p=[] then .ok (⟨q,kF s.aB p,s.au,fy s.ao p []⟩,0) else .error 341
  | .error e=>.error e
 else if k=3 then match hE s.ar p a with| .ok (q,v)=>.ok (⟨q,s.aB,s.au,s.ao⟩,v)| .error e=>.error e
 else if k=4 then match fG s.au a with
  | .ok i=>match fO s.aB p i with| .ok (l,v)=>.ok (⟨s.ar,l,s.au,s.ao⟩,v)| .error e=>.error e
  | .error e=>.error e
 else if k=5 then match gH s.aB p a with| .ok l=>.ok (⟨s.ar,l,s.au,s.ao⟩,0)| .error e=>.error e
 else if k=6 then match fX s.aB p a with| .ok (l,v)=>.ok (⟨s.ar,l,s.au,s.ao⟩,v)| .error e=>.error e
 else if k=7 then match gF s.au a with| .ok (m,v)=>.ok (⟨s.ar,s.aB,m,s.ao⟩,v)| .error e=>.error e
 else if k=8 then match iv s.au a with
  | .ok i=>if hf s.aB i=0 then match hC s.au a with| .ok m=>.ok (⟨s.ar,s.aB,m,s.ao⟩,0)| .error e=>.error e else .error 341
  | .error e=>.error e
 else if k=9 then match fG s.au a with| .ok i=>.ok (s,i)| .error e=>.error e
 else if k=10 then match gS s.ao a p with| .ok i=>.ok (⟨s.ar,s.aB,s.au,i⟩,0)| .error e=>.error e
 else if k=11 then match f_ s.ao a with
  | .ok q=>if q=p then .ok (⟨s.ar,s.aB,s.au,mF s.ao a⟩,0) else .error 362
  | .error e=>.error e
 else if k=12 then match f_ s.ao a with| .ok q=>.ok (s,q)| .error e=>.error e
 else if k=13 then bif bJ s.ar.ab a then match kb s.ao a b with| .ok i=>.ok (⟨s.ar,s.aB,s.au,i⟩,0)| .error e=>.error e else .error 4
 else match j5 s.ao p with| .ok (i,v)=>.ok (⟨s.ar,s.aB,s.au,i⟩,v)| .error e=>.error e
def nf (s:aF) (c:bq):fz (aF×Int):=
 if 1<=c.bb/\c.bb<=14 then bif h3 c||bJ s.ar.ab (aw c.fArgs 0) then fj s c.bb (aw c.fArgs 0) (aw c.fArgs 1) (aw c.fArgs 2) else .error 321
 else .error 361
def dM (s:aF) (c:bq):aF×bP:=
 match nf s c with
 | .ok (n,v)=>(n,⟨0,v⟩)
 | .error e=>(s,⟨e,0⟩)
theorem ab0 {a b:ag} (h:fL a b=true):a=b:=by
 obtain⟨c,a2,a3,a4⟩:=a;obtain⟨d,e,f,g⟩:=b;simp[fL] at h;simp[h]
section
variable {α:Type} {q:α->α->Bool} {A:α->Bool} {l:List α}
theorem rn (o: ∀a b c,q a b=true->q b c=true->q a c=true):
  allI (λi z=>A z&&fp q l i z) 0 l=true↔(∀z∈l,A z=true)/\l.Pairwise λa b=>q a b=true:=by
 rw[jD];constructor
 .intro h;have g: ∀z∈l,A z=true:=λz p=>by
   obtain⟨k,e⟩:=ξL p;have:=h k z e;rw[θ] at this;exact this.1
  have f: ∀k (e:k+1<l.length),q l[k] l[k+1]=true:=λk e=>by
   have:=h (k+1) l[k+1] (ε e);rw[θ] at this;have:=this.2;unfold fp at this;rw[ξ4,show(k+1==0)=false from rfl,ξd,ξD,ε (by omega)] at this;exact this
  refine⟨g,ξ9.2 λi j hi m s=>?_⟩;obtain⟨d,rfl⟩: ∃d,j=i+1+d:=⟨j-(i+1),by omega⟩
  induction d with
  |zero=>exact f i m
  |succ d r=>exact o _ _ _ (r (by omega) (by omega)) (f (i+1+d) m)
 .rintro ⟨g,f⟩ k z e;rw[θ];refine⟨g z (κ e),?_⟩;unfold fp;rw[ξ4];cases k with
  |zero=>rfl
  |succ k=>
   have n:=(δ.1 e).1;rw[show(k+1==0)=false from rfl,ξd,ξD,ε (by omega)];have:=ξ9.1 f k (k+1) (by omega) n (by omega);obtain⟨_,rfl⟩:=δ.1 e;exact this
theorem take_drop (p:α->Bool) (l:List α):l.takeWhile p++l.dropWhile p=l:=ξA
theorem kQ {lt:α->Bool} {x z:α}:z∈b1 lt x l↔z=x\/z∈l:=by
 unfold b1
 conv=>rhs;rw[<-take_drop lt l]
 simp only[χ,ξB];constructor
 .rintro (h|h|h)
  .exact .inr (.inl h)
  .exact .inl h
  .exact .inr (.inr h)
 .rintro (h|h|h)
  .exact .inr (.inl h)
  .exact .inl h
  .exact .inr (.inr h)
theorem Q0 {lt:α->Bool} {x:α}:(b1 lt x l).length=l.length+1:=by
 unfold b1
 conv=>rhs;rw[<-take_drop lt l]
 simp only[υ,ω];omega
theorem Re {p:α->Bool} {z:α} (h:z∈l.takeWhile p):p z=true:=by
 have:=List.all_takeWhile (p:=p) (l:=l);rw[ξ7] at this;exact this z h
theorem abz {p:α->Bool} {z:α} {r:List α} (h:l.dropWhile p=z::r):p z=false:=by
 have:=ζm p l;rw[h] at this;simpa using this
theorem IZ {R:α->α->Prop} {lt:α->Bool} {x:α} (s:l.Pairwise R) (j: ∀a b c,R a b->R b c->R a c) (n: ∀z∈l,lt z=true->R z x) (o: ∀z∈l,lt z=false->R x z):(b1 lt x l).Pairwise R:=by
 unfold b1;have p: ∀z,z∈l.takeWhile lt->z∈l:=λz d=>(ξU lt).mem d;have q: ∀z,z∈l.dropWhile lt->z∈l:=λz d=>(ξv lt).mem d;have f:=s;rw[<-take_drop lt l,ξr] at f;have k: ∀z∈l.dropWhile lt,R x z:=by
  intro z d;cases e:l.dropWhile lt with
  |nil=>rw[e] at d;cases d
  |cons y r=>
   have m:=o y (q y (by rw[e];exact τ)) (abz e);rw[e] at d;rcases ξB.1 d with rfl|d
   .exact m
   .have:=f.2.1;rw[e,ξi] at this;exact j _ _ _ m (this.1 z d)
 rw[ξr,ξi];refine⟨f.1,⟨k,f.2.1⟩,λa h b g=>?_⟩;have i:=n a (p a h) (Re h);rcases ξB.1 g with rfl|g
 .exact i
 .exact j _ _ _ i (k b g)
theorem kK {p:α->Bool}:l.find? p=none↔ ∀z∈l,p z=false:=by
 rw[ζO];constructor
 .intro h z a;have:=h z a;cases e:p z with
  |true=>exact absurd e this
  |false=>rfl
 .intro h z a;rw[h z a];exact ζb
theorem aci {p:α->Bool} {z:α} (hu: ∀a∈l,∀b∈l,p a=true->p b=true->a=b):l.find? p=some z↔z∈l/\p z=true:=by
 constructor
 .intro h;exact⟨ψ h,ξt h⟩
 .rintro ⟨d,c⟩;cases e:l.find? p with
  |none=>rw[kK.1 e z d] at c;cases c
  |some y=>rw[hu y (ψ e) z d (ξt e) c]
theorem I0 {R:α->α->Prop} (d:l.Pairwise R) {a b:α} (e:a∈l) (f:b∈l):a=b\/R a b\/R b a:=by
 obtain⟨i,hi,rfl⟩:=ζJ e;obtain⟨j,c,rfl⟩:=ζJ f;rcases ζl i j with h|h|h
 .exact .inr (.inl (ξ9.1 d i j hi c h))
 .subst h;exact .inl rfl
 .exact .inr (.inr (ξ9.1 d j i c hi h))
theorem TU {key:α->Int} {n:Nat}: ∀ {l:List α} {a:Int},l.Pairwise (λx y=>key x<key y)->(∀z∈l,a<key z/\key z<=a+n)->l.length<=n
 |[],_,_,_=>by simp
 |z::r,a,b,h=>by
  rw[ξi] at b;obtain⟨f,g⟩:=h z τ;have hn:0<n:=by omega
  obtain⟨m,hm⟩: ∃m:Nat,(m:Int)=a+n-key z:=⟨(a+n-key z).toNat,by omega⟩;have:=TU (n:=m) (a:=key z) b.2 λy c=>by
   have d:=b.1 y c;have e:=h y (ο _ c);omega
  simp only[ω];omega
end
def dF (l:List ag) (pid:Int):Prop:= ∃x∈l,x.aa=pid/\x.ba=false
structure MK (p:aV) (x:ag):Prop where
 i1:1<=ix x.aa
 i2:ix x.aa<=16
 gen:x.aa/64+1=aw p.az (ix x.aa-1).toNat
 self:x.aT≠x.aa
 par:x.aT=0\/dF p.ab x.aT
 dead:x.ba=true->x.aT≠0
 live:x.ba=false->x.bT=0
structure dk (p:aV):Prop where
 gl:p.az.length=16
 jY: ∀i,i<16->0<=aw p.az i/\aw p.az i<=65536
 u: ∀x∈p.ab,cd x.aa
 one: ∀x∈p.ab,MK p x
 ord:p.ab.Pairwise λa b=>ix a.aa<ix b.aa
 head:p.ab.head? =some ⟨1,0,false,0⟩
theorem x5 {l:List ag} (f:l.Pairwise λa b=>ix a.aa<ix b.aa) {a b:ag} (d:a∈l) (e:b∈l) (h:a.aa=b.aa):a=b:=by
 rcases I0 f d e with c|c|c
 .exact c
 .rw[h] at c;omega
 .rw[h] at c;omega
theorem IN {l:List ag} (g:l.Pairwise λa b=>ix a.aa<ix b.aa) {pid:Int} {x:ag}:eN l pid=some x↔x∈l/\x.aa=pid:=by
 unfold eN;rw[aci λa e b f c d=>x5 g e f ((eq_of_beq c).trans (eq_of_beq d).symm),beq_iff_eq]
theorem hz {l:List ag} (c:l.Pairwise λa b=>ix a.aa<ix b.aa) {pid:Int}:bJ l pid=true↔dF l pid:=by
 unfold bJ;constructor
 .intro h;cases e:eN l pid with
  |none=>rw[e] at h;cases h
  |some x=>
   rw[e] at h;have:=(IN c).1 e;exact⟨x,this.1,this.2,by simpa using h⟩
 .rintro ⟨x,f,hp,d⟩;rw[(IN c).2 ⟨f,hp⟩];simp[d]
theorem aeT (l:List ag):fP l=fp (λa b=>decide (ix a.aa<ix b.aa)) l:=by funext i x;unfold fP fp;cases l[i-1]? <;>rfl
theorem RT {p:aV}:allI (λi x=>fl p x&&fP p.ab i x) 0 p.ab=true↔(∀x∈p.ab,fl p x=true)/\p.ab.Pairwise λa b=>ix a.aa<ix b.aa:=by
 rw[aeT];have:=rn (q:=λa b:ag=>decide (ix a.aa<ix b.aa)) (A:=fl p) (l:=p.ab) (λa b c d e=>decide_eq_true (by have:=of_decide_eq_true d;have:=of_decide_eq_true e;omega));rw[this];simp only[decide_eq_true_eq]
theorem RC {p:aV} (k:p.ab.Pairwise λa b=>ix a.aa<ix b.aa) {x:ag}:fl p x=true↔MK p x:=by
 unfold fl;simp only[θ,decide_eq_true_eq,beq_iff_eq,ξJ,beq_eq_false_iff_ne,ne_eq,η1,hz k];constructor
 .rintro ⟨e,f,g,h,i,c⟩;refine⟨e,f,g,h,i,λd=>?_,λd=>?_⟩
  .rw[d] at c;simpa using c
  .rw[d] at c;simpa using c
 .rintro ⟨e,f,g,h,i,c,j⟩;refine⟨e,f,g,h,i,?_⟩;cases d:x.ba with
  |true=>simpa using c d
  |false=>simpa using j d
theorem Ot {g:Γa}:gL g=true↔ ∀i,i<16->0<=aw g i/\aw g i<=65536:=by
 unfold gL;simp only[ξ7,ζH,θ,decide_eq_true_eq]
theorem ade {p:aV} (gl:p.az.length=16) (u: ∀x∈p.ab,cd x.aa) (h:gU p=true):dk p:=by
 unfold gU at h;rw[θ,θ,Ot,RT] at h;obtain⟨c,⟨d,b⟩,a⟩:=h;refine⟨gl,c,u,λx f=>(RC b).1 (d x f),b,?_⟩;cases e:p.ab with
 |nil=>rw[e] at a;cases a
 |cons z r=>
  rw[e] at a;have:z=⟨1,0,false,0⟩:=ab0 a;rw[this];rfl
theorem S2 {p:aV} (h:dk p):gU p=true:=by
 unfold gU;rw[θ,θ,Ot,RT];refine⟨h.jY,⟨λx a=>(RC h.ord).2 (h.one x a),h.ord⟩,?_⟩;have:=h.head;cases e:p.ab with
 |nil=>rw[e] at this;cases this
 |cons z r=>
  rw[e] at this;cases this;rfl
theorem dk.len {p:aV} (h:dk p):p.ab.length<=16:=
 TU (a:=0) h.ord λz b=>by have:=h.one z b;have:=this.i1;have:=(h.one z b).i2;omega
theorem dk.pid {p:aV} (h:dk p) {x:ag} (b:x∈p.ab):1<=x.aa/\x.aa<4194304:=by
 have a:=h.one x b;have c:=h.u x b;have e:=qZ c.1;have d:=a.i1;have f:=a.i2;have g:=a.gen;have i:=h.jY (ix x.aa-1).toNat (by omega);omega
theorem ack {p:aV} (h:dk p):⟨1,0,false,0⟩∈p.ab:=List.mem_of_mem_head? h.head
theorem Iw {g:Γa} {i j:Nat} {v:Int} (hi:i<g.length):aw (g.set i v) j=if j=i then v else aw g j:=by
 unfold aw;rw[ξW]
 by_cases h:i=j
 .subst h;simp[hi]
 .rw[if_neg h,if_neg (λe=>h e.symm)]
theorem xI {p:aV} {i:Nat} (h:gP p=some i):i<16/\(∀x∈p.ab,ix x.aa≠(i:Int)+1)/\aw p.az i<=65535:=by
 have b:=ψ h;have a:=ξt h;simp only[θ,ξJ,ξz,decide_eq_true_eq,beq_iff_eq] at a;exact⟨ζH.1 b,a.1,a.2⟩
theorem Iq {p:aV} (hp:dk p) {i:Nat} (h:gP p=some i):0<=cD p i/\cD p i<4194304/\ix (cD p i)=i+1/\cD p i/64=aw p.az i:=by
 obtain⟨b,c,d⟩:=xI h;have e:=hp.jY i b;have a:0<=cD p i:=by unfold cD;omega
 rw[qZ a];unfold cD;omega
theorem Tm {l l':List ag} {q:Int} (h: ∀x∈l,x.aa=q->x.ba=false-> ∃y∈l',y.aa=q/\y.ba=false):dF l q->dF l' q:=λ⟨x,b,hp,a⟩=>h x b hp a
theorem ah5 {p:aV} {parent:Int} {q:aV} {v:Int} (h:hB p parent= .ok (q,v)): ∃i,bJ p.ab parent=true/\gP p=some i/\v=cD p i/\q=⟨p.az.set i (aw p.az i+1),b1 (λy=>decide (ix y.aa<=i+1)) ⟨cD p i,parent,false,0⟩ p.ab⟩:=by
 unfold hB at h;cases a:bJ p.ab parent with
 |false=>rw[a] at h;cases h
 |true=>
  rw[a] at h;cases b:gP p with
  |none=>rw[b] at h;cases h
  |some i=>
   rw[b] at h;cases h;exact⟨i,rfl,rfl,rfl,rfl⟩
theorem ah4 {p:aV} (hp:dk p) {parent:Int} {i:Nat} (v:bJ p.ab parent=true) (h:gP p=some i):dk ⟨p.az.set i (aw p.az i+1),b1 (λy=>decide (ix y.aa<=i+1)) ⟨cD p i,parent,false,0⟩ p.ab⟩:=by
 obtain⟨l,k,A⟩:=xI h;obtain⟨n0,n1,n2,w⟩:=Iq hp h;have n:=(hz hp.ord).1 v;have m:i<p.az.length:=by rw[hp.gl];exact l
 have hm: ∀q,dF p.ab q->dF (b1 (λy=>decide (ix y.aa<=i+1)) ⟨cD p i,parent,false,0⟩ p.ab) q:=λq=>Tm λx f e d=>⟨x,kQ.2 (.inr f),e,d⟩;refine⟨?_,?_,?_,?_,?_,?_⟩
 .simp[hp.gl]
 .intro j s;show 0<=aw (p.az.set i _) j/\aw (p.az.set i _) j<=65536;rw[Iw m];have:=hp.jY j s;have:=hp.jY i l;split<;>omega
 .intro x f;rcases kQ.1 f with rfl|f
  .exact⟨n0,by show cD p i<_;omega⟩
  .exact hp.u x f
 .intro x f;rcases kQ.1 f with rfl|f
  .refine⟨?_,?_,?_,?_,.inr (hm _ n),λe=>(ζb e).elim,λ_=>rfl⟩
   .show 1<=ix (cD p i);omega
   .show ix (cD p i)<=16;omega
   .show cD p i/64+1=aw (p.az.set i _) (ix (cD p i)-1).toNat;rw[n2,w,show((i:Int)+1-1).toNat=i by omega,Iw m,if_pos rfl]
   .show parent≠cD p i;intro e;obtain⟨x,f,t,_⟩:=n;apply k x f;rw[t,e,n2]
  .have g:=hp.one x f;refine⟨g.i1,g.i2,?_,g.self,g.par.imp_right (hm _),g.dead,g.live⟩;show x.aa/64+1=aw (p.az.set i _) (ix x.aa-1).toNat;rw[Iw m,if_neg,g.gen];intro e;apply k x f;have:=g.i1;omega
 .refine IZ hp.ord (λa b c l k=>by omega) (λz o e=>?_) λz o e=>?_
  .have e:=of_decide_eq_true e;have:=k z o;show ix z.aa<ix (cD p i);omega
  .have e:=of_decide_eq_false e;show ix (cD p i)<ix z.aa;omega
 .have:=hp.head;show(b1 _ _ p.ab).head? =_;cases e:p.ab with
  |nil=>rw[e] at this;cases this
  |cons z r=>
   rw[e] at this;cases this;have:ix 1=1:=by rw[qZ (by omega)];rfl
   unfold b1;rw[ξ0];have:decide (ix (ag.mk 1 0 false 0).aa<=(i:Int)+1)=true:=decide_eq_true (by show ix 1<=_;omega);simp only[this,if_true];rfl
theorem aca {p:aV} {pid code:Int} {q:aV} (h:hh p pid code= .ok q):bJ p.ab pid=true/\pid≠1/\q=⟨p.az,p.ab.filterMap (fB pid code)⟩:=by
 unfold hh at h;cases b:bJ p.ab pid with
 |false=>rw[b] at h;cases h
 |true=>
  rw[b] at h;cases a:pid==1 with
  |true=>rw[a] at h;cases h
  |false=>
   rw[a] at h;cases h;exact⟨rfl,by simpa using a,rfl⟩
theorem vx {pid code:Int} {x y:ag} (h:fB pid code x=some y):y.aa=x.aa/\((x.aa=pid/\x.aT≠0/\y=⟨x.aa,x.aT,true,code⟩)\/(x.aa≠pid/\x.aT=pid/\x.ba=false/\y=⟨x.aa,0,x.ba,x.bT⟩)\/(x.aa≠pid/\x.aT≠pid/\y=x)):=by
 unfold fB at h;cases b:x.aa==pid with
 |true=>
  rw[b] at h;cases a:x.aT==0 with
  |true=>rw[a] at h;cases h
  |false=>
   rw[a] at h;cases h;exact⟨rfl,.inl ⟨by simpa using b,by simpa using a,rfl⟩⟩
 |false=>
  rw[b] at h;cases a:x.aT==pid with
  |true=>
   rw[a] at h;cases c:x.ba with
   |true=>rw[c] at h;cases h
   |false=>
    rw[c] at h;cases h;exact⟨rfl,.inr (.inl ⟨by simpa using b,by simpa using a,rfl,rfl⟩)⟩
  |false=>
   rw[a] at h;cases h;exact⟨rfl,.inr (.inr ⟨by simpa using b,by simpa using a,rfl⟩)⟩
theorem ab' {pid code:Int} {x:ag} (b:x.aa≠pid) (a:x.ba=false): ∃y,fB pid code x=some y/\y.aa=x.aa/\y.ba=false:=by
 unfold fB;rw[show(x.aa==pid)=false by simpa using b,a];cases x.aT==pid
 .exact⟨_,rfl,rfl,a⟩
 .exact⟨_,rfl,rfl,rfl⟩
theorem vy {l:List ag} {pid code q:Int} (c:q≠pid) (h:dF l q):dF (l.filterMap (fB pid code)) q:=by
 obtain⟨x,d,rfl,a⟩:=h;obtain⟨y,e,hp,b⟩:=ab' (code:=code) c a;exact⟨y,ζc.2 ⟨x,d,e⟩,hp,b⟩
theorem ab_ {p:aV} (hp:dk p) {pid code:Int} (g:dF p.ab pid) (m:pid≠1):dk ⟨p.az,p.ab.filterMap (fB pid code)⟩:=by
 refine⟨hp.gl,hp.jY,?_,?_,?_,?_⟩
 .intro y i;obtain⟨x,f,h⟩:=ζc.1 i;rw[(vx h).1];exact hp.u x f
 .intro y i;obtain⟨x,f,h⟩:=ζc.1 i;obtain⟨e,h'⟩:=vx h;have c:=hp.one x f;have j:x.aT≠pid->x.aT=0\/dF (p.ab.filterMap (fB pid code)) x.aT:=λhn=>c.par.imp_right λg=>vy hn g;refine⟨by rw[e];exact c.i1,by rw[e];exact c.i2,by rw[e];exact c.gen,?_,?_,?_,?_⟩
  .rcases h' with⟨_,_,rfl⟩|⟨_,_,_,rfl⟩|⟨_,_,rfl⟩
   .exact c.self
   .have:=(hp.pid f).1;show(0:Int)≠x.aa;omega
   .exact c.self
  .rcases h' with⟨k,_,rfl⟩|⟨_,_,_,rfl⟩|⟨_,k,rfl⟩
   .exact j (λe=>c.self (e.trans k.symm))
   .exact .inl rfl
   .exact j k
  .intro d;rcases h' with⟨_,k,rfl⟩|⟨_,_,k,rfl⟩|⟨_,k,rfl⟩
   .exact k
   .rw[show(ag.mk x.aa 0 x.ba x.bT).ba=x.ba from rfl,k] at d;cases d
   .exact c.dead d
  .intro d;rcases h' with⟨_,k,rfl⟩|⟨_,_,k,rfl⟩|⟨_,k,rfl⟩
   .cases d
   .exact c.live k
   .exact c.live d
 .refine hp.ord.filterMap _ λa b o a' n s q=>?_;rw[(vx n).1,(vx q).1];exact o
 .have:=hp.head;show(p.ab.filterMap (fB pid code)).head? =_;cases e:p.ab with
  |nil=>rw[e] at this;cases this
  |cons z r=>
   rw[e] at this;cases this;have l:(0:Int)≠pid:=by
    obtain⟨x,f,rfl,_⟩:=g;have:=(hp.pid f).1;omega
   rw[ξu];have:fB pid code ⟨1,0,false,0⟩=some ⟨1,0,false,0⟩:=by
    unfold fB;rw[show((ag.mk 1 0 false 0).aa==pid)=false by simpa using λe=>m (Eq.symm e),show((ag.mk 1 0 false 0).aT==pid)=false by simpa using l];rfl
   rw[this];rfl
theorem ai5 {p:aV} (hp:dk p) {pid child:Int} {q:aV} {v:Int} (h:hE p pid child= .ok (q,v)): ∃x∈p.ab,x.aa=child/\x.aT=pid/\x.ba=true/\v=x.bT/\dF p.ab pid/\q=⟨p.az,p.ab.filter λy=>!(y.aa==child)⟩:=by
 unfold hE at h;cases b:bJ p.ab pid with
 |false=>rw[b] at h;cases h
 |true=>
  rw[b] at h;cases c:eN p.ab child with
  |none=>rw[c] at h;cases h
  |some x=>
   rw[c] at h;obtain⟨f,e⟩:=(IN hp.ord).1 c;cases a:x.aT==pid with
   |false=>simp only[a,cond_true,cond_false] at h;cases h
   |true=>
    cases d:x.ba with
    |false=>simp only[a,d,cond_true,cond_false] at h;cases h
    |true=>
     simp only[a,d,cond_true] at h;cases h;exact⟨x,f,e,by simpa using a,d,rfl,(hz hp.ord).1 b,rfl⟩
theorem UR {p:aV} (hp:dk p) {x:ag} (c:x∈p.ab) (b:x.ba=true) {q:Int} (h:dF p.ab q):dF (p.ab.filter λy=>!(y.aa==x.aa)) q:=by
 obtain⟨y,a,rfl,hl⟩:=h;refine⟨y,ν.2 ⟨a,?_⟩,rfl,hl⟩;have:y.aa≠x.aa:=λe=>by
  rw[x5 hp.ord a c e,b] at hl;cases hl
 simpa using this
theorem ai4 {p:aV} (hp:dk p) {x:ag} (d:x∈p.ab) (b:x.ba=true):dk ⟨p.az,p.ab.filter λy=>!(y.aa==x.aa)⟩:=by
 refine⟨hp.gl,hp.jY,λy c=>hp.u y (ν.1 c).1,λy c=>?_,hp.ord.filter _,?_⟩
 .have a:=hp.one y (ν.1 c).1;exact⟨a.i1,a.i2,a.gen,a.self,a.par.imp_right λh=>UR hp d b h,a.dead,a.live⟩
 .have:=hp.head;show(p.ab.filter λy=>!(y.aa==x.aa)).head? =_;cases e:p.ab with
  |nil=>rw[e] at this;cases this
  |cons z r=>
   rw[e] at this;cases this;have f:(1:Int)≠x.aa:=λh=>by
    have:=x5 hp.ord (ack hp) d h;rw[<-this] at b;cases b
   rw[ξj,show(!((ag.mk 1 0 false 0).aa==x.aa))=true by simpa using f];rfl
structure eS (l:List ai):Prop where
 is: ∀d∈l,fi d=true
 ord:l.Pairwise λa b=>cC a b=true
 len:l.length<=64
theorem iO {a b:ai}:cC a b=true↔a.aa<b.aa\/a.aa=b.aa/\a.bm<b.bm:=by simp[cC]
theorem Fy (a b c:ai) (d:cC a b=true) (e:cC b c=true):cC a c=true:=by rw[iO] at*;omega
theorem SZ {l:List ai}:iy l=true↔eS l:=by
 unfold iy;rw[θ,decide_eq_true_eq];have:=rn (q:=cC) (A:=fi) (l:=l) Fy;constructor
 .rintro ⟨a,b⟩;have:=this.1 a;exact⟨this.1,this.2,b⟩
 .rintro ⟨a,b,c⟩;exact⟨this.2 ⟨a,b⟩,c⟩
theorem abx {l:List ai} (h:eS l) {a b:ai} (c:a∈l) (d:b∈l) (f:a.aa=b.aa) (g:a.bm=b.bm):a=b:=by
 rcases I0 h.ord c d with e|e|e
 .exact e
 .rw[iO] at e;omega
 .rw[iO] at e;omega
theorem OQ {l:List ai} {pid fd w:Int} (h:cy l pid fd=some w): ∃d∈l,d.aa=pid/\d.bm=fd/\d.b3=w:=by
 unfold cy at h;cases e:l.find? (λd=>d.aa==pid&&d.bm==fd) with
 |none=>rw[e] at h;cases h
 |some d=>
  rw[e] at h;have:=ξt e;simp only[θ,beq_iff_eq] at this;exact⟨d,ψ e,this.1,this.2,by simpa using h⟩
theorem acX {l:List ai} {pid fd:Int} (h:cy l pid fd=none): ∀d∈l,¬(d.aa=pid/\d.bm=fd):=by
 unfold cy at h;rw[ξV] at h;intro d a;have:=kK.1 h d a;simpa using this
theorem rf {l:List ai} {pid aZ:Int} {l':List ai} {v:Int} (h:fO l pid aZ= .ok (l',v)): ∃i:Nat,gr l pid=some i/\l.length≠64/\v=i/\l'=b1 (λy=>cC y ⟨pid,i,aZ⟩) ⟨pid,i,aZ⟩ l:=by
 unfold fO at h;cases b:gr l pid with
 |none=>rw[b] at h;cases h
 |some i=>
  rw[b] at h;cases a:l.length==64 with
  |true=>simp only[a,cond_true] at h;cases h
  |false=>
   simp only[a,cond_false] at h;cases h;exact⟨i,rfl,by simpa using a,rfl,rfl⟩
theorem qd {l:List ai} {pid:Int} {i:Nat} (h:gr l pid=some i):i<8/\ ∀d∈l,¬(d.aa=pid/\d.bm=i):=by
 have a:=ψ h;have b:=ξt h;exact⟨ζH.1 a,acX (Option.isNone_iff_eq_none.1 b)⟩
theorem aes {l:List ai} (h:eS l) {pid aZ:Int} {i:Nat} (hp:pid<4294967296) (c:gr l pid=some i) (hl:l.length≠64):eS (b1 (λy=>cC y ⟨pid,i,aZ⟩) ⟨pid,i,aZ⟩ l):=by
 obtain⟨g,b⟩:=qd c;refine⟨λd a=>?_,IZ h.ord Fy (λ_ _ e=>e) λz f e=>?_,?_⟩
 .rcases kQ.1 a with rfl|a
  .simp only[fi,θ,decide_eq_true_eq];omega
  .exact h.is d a
 .have:=b z f;rw[iO];have e: ¬_:=λk=>ζb (e.symm.trans (iO.2 k));simp only at e ⊢;omega
 .rw[Q0];have:=h.len;omega
theorem eS.filter {l:List ai} (h:eS l) (p:ai->Bool):eS (l.filter p):=
 ⟨λd a=>h.is d (ν.1 a).1,h.ord.filter _,ζ0 (ξ5 _ _) h.len⟩
theorem NN {l:List ai} {pid fd:Int} {r:List ai×Int} (h:fX l pid fd= .ok r): ∃w,cy l pid fd=some w/\fO l pid w= .ok r:=by
 unfold fX at h;cases e:cy l pid fd with
 |none=>rw[e] at h;cases h
 |some w=>rw[e] at h;exact⟨w,rfl,h⟩
theorem Ny {l:List ai} {pid fd:Int} {r:List ai} (h:gH l pid fd= .ok r): ∃w,cy l pid fd=some w/\r=l.filter λd=>!(d.aa==pid&&d.bm==fd):=by
 unfold gH at h;cases e:cy l pid fd with
 |none=>rw[e] at h;cases h
 |some w=>rw[e] at h;cases h;exact⟨w,rfl,rfl⟩
structure eT (m:a1):Prop where
 path: ∀x∈m.ab,cd x.aP/\bV x.aP=true
 id: ∀x∈m.ab,1<=x.aS/\x.aS<m.aL
 ord:m.ab.Pairwise λa b=>a.aS<b.aS
 new:m.ab.Pairwise λa b=>a.aP≠b.aP
 len:m.ab.length<=16
 n1:1<=m.aL
 n2:m.aL<=1073741825
theorem aaG {α:Type} {p q:Nat->α->Bool} {l:List α} {i:Nat}:allI (λi z=>p i z&&q i z) i l=true↔allI p i l=true/\allI q i l=true:=by
 simp only[jD,θ];exact⟨λh=>⟨λk z a=>(h k z a).1,λk z a=>(h k z a).2⟩,λh k z a=>⟨h.1 k z a,h.2 k z a⟩⟩
theorem adX {l:List ax}:allI (λi z=>kT l i z) 0 l=true↔l.Pairwise λa b=>a.aP≠b.aP:=by
 rw[jD,ξ9];constructor
 .intro h i j hi c m e;have:=h j l[j] (ε c);unfold kT at this;rw[ξJ,ξz,ξ4] at this;apply this l[i] (ζh.2 ⟨i,by omega,rfl⟩);simpa using e
 .intro h k z d;obtain⟨f,rfl⟩:=δ.1 d;unfold kT;rw[ξJ,ξz,ξ4];intro y g e;obtain⟨i,hi,rfl⟩:=ζh.1 g;exact h i k (by omega) f (by omega) (by simpa using e)
theorem S1 {m:a1} (hu: ∀x∈m.ab,cd x.aP):mq bV m=true↔eT m:=by
 unfold mq l2;rw[θ,θ,θ,aaG,adX,decide_eq_true_eq,decide_eq_true_eq,decide_eq_true_eq];have:=rn (q:=λy z:ax=>decide (y.aS<z.aS)) (A:=l8 bV m.aL) (l:=m.ab) (λa b c e f=>decide_eq_true (by have:=of_decide_eq_true e;have:=of_decide_eq_true f;omega));simp only[decide_eq_true_eq] at this;rw[this];simp only[l8,θ,decide_eq_true_eq];constructor
 .rintro ⟨⟨⟨e,f⟩,g⟩,h,i,j⟩;exact⟨λx d=>⟨hu x d,(e x d).1⟩,λx d=>(e x d).2,f,g,h,i,j⟩
 .rintro ⟨e,f,g,h,i,j,k⟩;exact⟨⟨⟨λx d=>⟨(e x d).2,f x d⟩,g⟩,h⟩,i,j,k⟩
theorem Rh {m:a1} (h:eT m) {a b:ax} (c:a∈m.ab) (d:b∈m.ab) (e:a.aP=b.aP):a=b:=by
 rcases I0 h.new c d with k|k|k
 .exact k
 .exact(k e).elim
 .exact(k e.symm).elim
theorem nM {m:a1} {w i:Int} (h:cq m w=some i): ∃x∈m.ab,x.aP=w/\x.aS=i:=by
 unfold cq at h;cases e:m.ab.find? (λx=>x.aP==w) with
 |none=>rw[e] at h;cases h
 |some x=>
  rw[e] at h;exact⟨x,ψ e,by simpa using ξt e,by simpa using h⟩
theorem OX {m:a1} {w:Int} (h:cq m w=none): ∀x∈m.ab,x.aP≠w:=by
 unfold cq at h;rw[ξV] at h;intro x a;simpa using kK.1 h x a
theorem aaD {m:a1} {w:Int} {n:a1} {v:Int} (h:gF m w= .ok (n,v)):bV w=true/\cq m w=none/\m.ab.length≠16/\m.aL<=1073741824/\v=m.aL/\n=⟨m.ab++[⟨w,m.aL⟩],m.aL+1⟩:=by
 unfold gF at h;cases b:bV w with
 |false=>rw[b] at h;cases h
 |true=>
  rw[b] at h;cases c:cq m w with
  |some _=>rw[c] at h;cases h
  |none=>
   rw[c] at h;cases a:(m.ab.length==16||decide (m.aL>1073741824)) with
   |true=>simp only[a,cond_true] at h;cases h
   |false=>
    simp only[a,cond_true,cond_false] at h;cases h;simp only[Bool.or_eq_false_iff,beq_eq_false_iff_ne,decide_eq_false_iff_not] at a;exact⟨rfl,rfl,a.1,by omega,rfl,rfl⟩
theorem aaB {m:a1} (h:eT m) {w:Int} (hu:cd w) (hw:bV w=true) (hi:cq m w=none) (hl:m.ab.length≠16) (hn:m.aL<=1073741824):eT ⟨m.ab++[⟨w,m.aL⟩],m.aL+1⟩:=by
 refine⟨λx c=>?_,λx c=>?_,?_,?_,?_,?_,?_⟩
 .rcases χ.1 c with c|c
  .exact h.path x c
  .cases ξE.1 c;exact⟨hu,hw⟩
 .rcases χ.1 c with c|c
  .have:=h.id x c;show 1<=x.aS/\x.aS<m.aL+1;omega
  .cases ξE.1 c;have:=h.n1;show 1<=m.aL/\m.aL<m.aL+1;omega
 .refine ξr.2 ⟨h.ord,ξS _ _,λa d b e=>?_⟩;cases ξE.1 e;exact(h.id a d).2
 .refine ξr.2 ⟨h.new,ξS _ _,λa d b e=>?_⟩;cases ξE.1 e;exact OX hi a d
 .have:=h.len;show(m.ab++_).length<=16;rw[υ,ξ6];omega
 .have:=h.n1;show 1<=m.aL+1;omega
 .show m.aL+1<=_;omega
theorem aiI {m:a1} {w:Int} {n:a1} (h:hC m w= .ok n):bV w=true/\(∃i,cq m w=some i)/\hM m w=false/\n=⟨m.ab.filter λx=>!(x.aP==w),m.aL⟩:=by
 unfold hC at h;cases a:bV w with
 |false=>rw[a] at h;cases h
 |true=>
  rw[a] at h;cases b:cq m w with
  |none=>rw[b] at h;cases h
  |some i=>
   rw[b] at h;cases c:hM m w with
   |true=>simp only[c,cond_true] at h;cases h
   |false=>
    simp only[c,cond_true,cond_false] at h;cases h;exact⟨rfl,⟨i,rfl⟩,rfl,rfl⟩
theorem eT.filter {m:a1} (h:eT m) (p:ax->Bool):eT ⟨m.ab.filter p,m.aL⟩:=
 ⟨λx a=>h.path x (ν.1 a).1,λx a=>h.id x (ν.1 a).1,h.ord.filter _,h.new.filter _,ζ0 (ξ5 _ _) h.len,h.n1,h.n2⟩
theorem ad_ {m:a1} {w i:Int} (h:iv m w= .ok i):bV w=true/\cq m w=some i:=by
 unfold iv at h;cases a:bV w with
 |false=>rw[a] at h;cases h
 |true=>
  rw[a] at h;cases b:cq m w with
  |none=>rw[b] at h;cases h
  |some j=>rw[b] at h;cases h;exact⟨rfl,rfl⟩
theorem ahd {m:a1} {w i:Int} (h:fG m w= .ok i): ∃x∈m.ab,x.aS=i:=by
 unfold fG at h;cases b:bV w with
 |false=>rw[b] at h;cases h
 |true=>
  rw[b] at h;cases a:jv m w with
  |none=>rw[a] at h;cases h
  |some j=>
   rw[a] at h;cases h;obtain⟨u,_,a⟩:=ξy a;obtain⟨x,c,_,e⟩:=nM a;exact⟨x,c,e⟩
structure ew (s:aC):Prop where
 name: ∀z∈s.an,cd z.aY/\dy z.aY=true/\dR z.aa=true
 jn:s.an.Pairwise λa b=>a.aY<b.aY
 len:s.an.length<=16
 box: ∀b∈s.ak,dR b.aa=true/\1<=b.a6.length/\b.a6.length<=4
 kY:s.ak.Pairwise λa b=>a.aa<b.aa
theorem Q8 {α:Type} {f:α->Int} (a b c:α) (d:decide (f a<f b)=true) (e:decide (f b<f c)=true):decide (f a<f c)=true:=decide_eq_true (by have:=of_decide_eq_true d;have:=of_decide_eq_true e;omega)
theorem S0 {s:aC} (hu: ∀z∈s.an,cd z.aY):iz s=true↔ew s:=by
 unfold iz l4 lF;rw[θ,θ,decide_eq_true_eq];have c:=rn (q:=λy z:av=>decide (y.aY<z.aY)) (A:=n5) (l:=s.an) Q8;have d:=rn (q:=λy z:aq=>decide (y.aa<z.aa)) (A:=okB) (l:=s.ak) Q8;simp only[decide_eq_true_eq] at c d;rw[c,d];simp only[n5,okB,θ,decide_eq_true_eq];constructor
 .rintro ⟨⟨b,a2⟩,⟨a3,a4⟩,a5⟩;exact⟨λz a=>⟨hu z a,b z a⟩,a2,a5,a3,a4⟩
 .rintro ⟨b,a2,a3,a4,a5⟩;exact⟨⟨λz a=>(b z a).2,a2⟩,⟨a4,a5⟩,a3⟩
theorem Q6 {l:List av} {n:Int} (h:eC l n=none): ∀z∈l,z.aY≠n:=by
 unfold eC at h;rw[ξV] at h;intro z a;simpa using kK.1 h z a
theorem ag_ {s:aC} {n pid:Int} {r:aC} (h:gS s n pid= .ok r):dy n=true/\dR pid=true/\eC s.an n=none/\s.an.length≠16/\r=⟨b1 (λy=>decide (y.aY<n)) ⟨n,pid⟩ s.an,s.ak⟩:=by
 unfold gS at h;cases a:dy n with
 |false=>rw[a] at h;cases h
 |true=>
  cases c:dR pid with
  |false=>rw[a,c] at h;cases h
  |true=>
   rw[a,c] at h;cases d:eC s.an n with
   |some _=>rw[d] at h;cases h
   |none=>
    rw[d] at h;cases b:s.an.length==16 with
    |true=>simp only[b,cond_true] at h;cases h
    |false=>
     simp only[b,cond_true,cond_false] at h;cases h;exact⟨rfl,rfl,rfl,by simpa using b,rfl⟩
theorem ag9 {s:aC} (h:ew s) {n pid:Int} (hu:cd n) (f:dy n=true) (g:dR pid=true) (i:eC s.an n=none) (j:s.an.length≠16):ew ⟨b1 (λy=>decide (y.aY<n)) ⟨n,pid⟩ s.an,s.ak⟩:=by
 refine⟨λz d=>?_,IZ h.jn (λa b c f g=>by omega) (λz d e=>of_decide_eq_true e) λz d e=>?_,?_,h.box,h.kY⟩
 .rcases kQ.1 d with rfl|d
  .exact⟨hu,f,g⟩
  .exact h.name z d
 .have:=Q6 i z d;have e:=of_decide_eq_false e;show n<z.aY;omega
 .show(b1 _ _ _).length<=16;rw[Q0];have:=h.len;omega
theorem q4 {s:aC} {n p:Int} (h:f_ s n= .ok p):dy n=true/\eC s.an n=some p:=by
 unfold f_ at h;cases a:dy n with
 |false=>rw[a] at h;cases h
 |true=>
  rw[a] at h;cases b:eC s.an n with
  |none=>rw[b] at h;cases h
  |some q=>rw[b] at h;cases h;exact⟨rfl,rfl⟩
theorem aiL {s:aC} (h:ew s) (n:Int):ew (mF s n):=
 ⟨λz a=>h.name z (ν.1 a).1,h.jn.filter _,ζ0 (ξ5 _ _) h.len,h.box,h.kY⟩
theorem yU {s:aC} {pid:Int} {ws:Γa} {b:aq}:b∈(fy s pid ws).ak↔(b∈s.ak/\b.aa≠pid)\/(ws≠[]/\b=⟨pid,ws⟩):=by
 unfold fy;simp only[χ,ν,decide_eq_true_eq];have h:b∈(if ws=[] then[] else[aq.mk pid ws])↔ws≠[]/\b=⟨pid,ws⟩:=by
  split
  .rename_i e;simp[e]
  .rename_i e;simp[e]
 rw[h];constructor
 .rintro (⟨a,c⟩|h|⟨a,c⟩)
  .exact .inl ⟨a,by omega⟩
  .exact .inr h
  .exact .inl ⟨a,by omega⟩
 .rintro (⟨a,c⟩|h)
  .rcases Int.lt_or_gt_of_ne c with k|k
   .exact .inl ⟨a,k⟩
   .exact .inr (.inr ⟨a,k⟩)
  .exact .inr (.inl h)
theorem aja {s:aC} (h:s.ak.Pairwise λa b=>a.aa<b.aa) {pid:Int} {ws:Γa}:(fy s pid ws).ak.Pairwise λa b=>a.aa<b.aa:=by
 have e:(if ws=[] then[] else[aq.mk pid ws]).Pairwise λa b=>a.aa<b.aa:=by
  split
  .exact .nil
  .exact ξS _ _
 have hm: ∀b∈(if ws=[] then[] else[aq.mk pid ws]),b.aa=pid:=by
  intro b c;split at c
  .cases c
  .cases ξE.1 c;rfl
 refine ξr.2 ⟨h.filter _,ξr.2 ⟨e,h.filter _,λa d b c=>?_⟩,λa d b c=>?_⟩
 .have:=of_decide_eq_true (ν.1 c).2;rw[hm a d];exact this
 .have d:=of_decide_eq_true (ν.1 d).2;rcases χ.1 c with c|c
  .rw[hm b c];exact d
  .have:=of_decide_eq_true (ν.1 c).2;omega
theorem Kg {s:aC} (h:ew s) {pid:Int} {ws:Γa} (hp:dR pid=true) (hl:ws.length<=4):ew (fy s pid ws):=by
 refine⟨h.name,h.jn,h.len,λb a=>?_,aja h.kY⟩;rcases yU.1 a with⟨a,_⟩|⟨hn,rfl⟩
 .exact h.box b a
 .refine⟨hp,?_,hl⟩;cases ws with
  |nil=>exact(hn rfl).elim
  |cons _ _=>exact Nat.succ_le_succ (ζK _)
theorem rT {s:aC} (h:ew s) (pid:Int):(cJ s pid).length<=4:=by
 unfold cJ;cases e:s.ak.find? (λb=>b.aa==pid) with
 |none=>exact ζK _
 |some b=>exact(h.box b (ψ e)).2.2
theorem ahW {s:aC} {pid w:Int} {r:aC} (h:kb s pid w= .ok r):(cJ s pid).length≠4/\r=fy s pid (cJ s pid++[w]):=by
 unfold kb at h;cases a:(cJ s pid).length==4 with
 |true=>rw[a] at h;cases h
 |false=>rw[a] at h;cases h;exact⟨by simpa using a,rfl⟩
theorem ag7 {s:aC} {pid v:Int} {r:aC} (h:j5 s pid= .ok (r,v)): ∃ws,cJ s pid=v::ws/\r=fy s pid ws:=by
 unfold j5 at h;cases a:cJ s pid with
 |nil=>rw[a] at h;cases h
 |cons w ws=>rw[a] at h;cases h;exact⟨ws,rfl,rfl⟩
structure dC (s:aF):Prop where
 p:dk s.ar
 d:eS s.aB
 m:eT s.au
 i:ew s.ao
 aZ: ∀d∈s.aB,dF s.ar.ab d.aa/\ ∃x∈s.au.ab,x.aS=d.b3
 names: ∀n∈s.ao.an,dF s.ar.ab n.aa
 boxes: ∀b∈s.ao.ak,dF s.ar.ab b.aa
def ng (s:aF):Bool:=gU s.ar&&(iy s.aB&&(mq bV s.au&&(iz s.ao&&mo s)))
structure ky (s:aF):Prop where
 gl:s.ar.az.length=16
 pid: ∀z∈s.ar.ab,cd z.aa
 path: ∀z∈s.au.ab,cd z.aP
 name: ∀z∈s.ao.an,cd z.aY
theorem adf {s:aF} (h:dC s):ky s:=⟨h.p.gl,h.p.u,λz a=>(h.m.path z a).1,λz a=>(h.i.name z a).1⟩
theorem SW {s:aF} (h:s.ar.ab.Pairwise λa b=>ix a.aa<ix b.aa):mo s=true↔(∀d∈s.aB,dF s.ar.ab d.aa/\ ∃x∈s.au.ab,x.aS=d.b3)/\(∀n∈s.ao.an,dF s.ar.ab n.aa)/\ ∀b∈s.ao.ak,dF s.ar.ab b.aa:=by
 unfold mo;simp only[θ,ξ7,ξp,hz h,beq_iff_eq]
theorem Ns {s:aF} (h:ky s):ng s=true↔dC s:=by
 unfold ng;rw[θ,θ,θ,θ,SZ,S1 h.path,S0 h.name];constructor
 .rintro ⟨a,c,e,f,b⟩;have a:=ade h.gl h.pid a;obtain⟨b,g,j⟩:=(SW a.ord).1 b;exact⟨a,c,e,f,b,g,j⟩
 .intro h;exact⟨S2 h.p,h.d,h.m,h.i,(SW h.p.ord).2 ⟨h.aZ,h.names,h.boxes⟩⟩
theorem jr {p:aV} (h:dk p) {q:Int} (a:dF p.ab q):dR q=true/\q<4294967296/\1<=q:=by
 obtain⟨x,b,rfl,_⟩:=a;have:=h.pid b;unfold dR;simp only[θ,decide_eq_true_eq];omega
inductive Step (s:aF) (p a b:Int):Int->aF->Int->Prop
 |spawn (i:Nat):bJ s.ar.ab p=true->gP s.ar=some i->Step s p a b 1 ⟨⟨s.ar.az.set i (aw s.ar.az i+1),b1 (λy=>decide (ix y.aa<=i+1)) ⟨cD s.ar i,p,false,0⟩ s.ar.ab⟩,s.aB,s.au,s.ao⟩ (cD s.ar i)
 |exit:dF s.ar.ab p->p≠1->(∀n∈s.ao.an,n.aa≠p)->Step s p a b 2 ⟨⟨s.ar.az,s.ar.ab.filterMap (fB p a)⟩,kF s.aB p,s.au,fy s.ao p []⟩ 0
 |wait (x:ag):x∈s.ar.ab->x.aa=a->x.aT=p->x.ba=true->Step s p a b 3 ⟨⟨s.ar.az,s.ar.ab.filter λy=>!(y.aa==x.aa)⟩,s.aB,s.au,s.ao⟩ x.bT
 |bg (x:ax) (i:Nat):fG s.au a= .ok x.aS->x∈s.au.ab->gr s.aB p=some i->s.aB.length≠64->Step s p a b 4 ⟨s.ar,b1 (λy=>cC y ⟨p,i,x.aS⟩) ⟨p,i,x.aS⟩ s.aB,s.au,s.ao⟩ i
 |close (w:Int):cy s.aB p a=some w->Step s p a b 5 ⟨s.ar,s.aB.filter λd=>!(d.aa==p&&d.bm==a),s.au,s.ao⟩ 0
 |dup (w:Int) (i:Nat):cy s.aB p a=some w->gr s.aB p=some i->s.aB.length≠64->Step s p a b 6 ⟨s.ar,b1 (λy=>cC y ⟨p,i,w⟩) ⟨p,i,w⟩ s.aB,s.au,s.ao⟩ i
 |Rg:bV a=true->cq s.au a=none->s.au.ab.length≠16->s.au.aL<=1073741824->Step s p a b 7 ⟨s.ar,s.aB,⟨s.au.ab++[⟨a,s.au.aL⟩],s.au.aL+1⟩,s.ao⟩ s.au.aL
 |Uw (x:ax):x∈s.au.ab->x.aP=a->(∀d∈s.aB,d.b3≠x.aS)->hM s.au a=false->Step s p a b 8 ⟨s.ar,s.aB,⟨s.au.ab.filter λx=>!(x.aP==a),s.au.aL⟩,s.ao⟩ 0
 |resolve (i:Int):fG s.au a= .ok i->Step s p a b 9 s i
 |register:dy a=true->dR p=true->eC s.ao.an a=none->s.ao.an.length≠16->Step s p a b 10 ⟨s.ar,s.aB,s.au,⟨b1 (λy=>decide (y.aY<a)) ⟨a,p⟩ s.ao.an,s.ao.ak⟩⟩ 0
 |unregister:dy a=true->eC s.ao.an a=some p->Step s p a b 11 ⟨s.ar,s.aB,s.au,mF s.ao a⟩ 0
 |lookup (q:Int):dy a=true->eC s.ao.an a=some q->Step s p a b 12 s q
 |send:dF s.ar.ab a->(cJ s.ao a).length≠4->Step s p a b 13 ⟨s.ar,s.aB,s.au,fy s.ao a (cJ s.ao a++[b])⟩ 0
 |SB (v:Int) (ws:Γa):cJ s.ao p=v::ws->Step s p a b 14 ⟨s.ar,s.aB,s.au,fy s.ao p ws⟩ v
theorem adt {s:aF} (h:dC s) {k p a b:Int} (k0:1<=k/\k<=14) {n:aF} {v:Int} (c:fj s k p a b= .ok (n,v)):Step s p a b k n v:=by
 unfold fj at c
 by_cases D:k=1
 .rw[if_pos D] at c;subst D;cases e:hB s.ar p with
  |error _=>rw[e] at c;cases c
  |ok r=>
   obtain⟨q,w⟩:=r;rw[e] at c;cases c;obtain⟨i,f,g,rfl,rfl⟩:=ah5 e;exact .spawn i f g
 rw[if_neg D] at c
 by_cases I:k=2
 .rw[if_pos I] at c;subst I;cases e:hh s.ar p a with
  |error _=>rw[e] at c;cases c
  |ok q=>
   rw[e] at c;obtain⟨f,g,rfl⟩:=aca e
   by_cases A:ho s.ao p=[]
   .simp only[A,if_true] at c;cases c;refine .exit ((hz h.p.ord).1 f) g λn hn e=>?_;have:n.aY∈ho s.ao p:=ξZ.2 ⟨n,ν.2 ⟨hn,by simpa using e⟩,rfl⟩;rw[A] at this;cases this
   .simp only[A,if_false] at c;cases c
 rw[if_neg I] at c
 by_cases J:k=3
 .rw[if_pos J] at c;subst J;cases e:hE s.ar p a with
  |error _=>rw[e] at c;cases c
  |ok r=>
   obtain⟨q,w⟩:=r;rw[e] at c;cases c;obtain⟨x,C,rfl,f,z,rfl,_,rfl⟩:=ai5 h.p e;exact .wait x C rfl f z
 rw[if_neg J] at c
 by_cases K:k=4
 .rw[if_pos K] at c;subst K;cases e:fG s.au a with
  |error _=>rw[e] at c;cases c
  |ok i=>
   rw[e] at c;cases o:fO s.aB p i with
   |error _=>simp only[o] at c;cases c
   |ok r=>
    obtain⟨l,w⟩:=r;simp only[o] at c;cases c;obtain⟨x,C,rfl⟩:=ahd e;obtain⟨j,f,g,rfl,rfl⟩:=rf o;exact .bg x j e C f g
 rw[if_neg K] at c
 by_cases L:k=5
 .rw[if_pos L] at c;subst L;cases e:gH s.aB p a with
  |error _=>rw[e] at c;cases c
  |ok l=>
   rw[e] at c;cases c;obtain⟨w,hw,rfl⟩:=Ny e;exact .close w hw
 rw[if_neg L] at c
 by_cases M:k=6
 .rw[if_pos M] at c;subst M;cases e:fX s.aB p a with
  |error _=>rw[e] at c;cases c
  |ok r=>
   obtain⟨l,w⟩:=r;rw[e] at c;cases c;obtain⟨aZ,f,g⟩:=NN e;obtain⟨j,t,u,rfl,rfl⟩:=rf g;exact .dup aZ j f t u
 rw[if_neg M] at c
 by_cases N:k=7
 .rw[if_pos N] at c;subst N;cases e:gF s.au a with
  |error _=>rw[e] at c;cases c
  |ok r=>
   obtain⟨m,w⟩:=r;rw[e] at c;cases c;obtain⟨f,g,t,u,rfl,rfl⟩:=aaD e;exact .Rg f g t u
 rw[if_neg N] at c
 by_cases O:k=8
 .rw[if_pos O] at c;subst O;cases e:iv s.au a with
  |error _=>rw[e] at c;cases c
  |ok i=>
   rw[e] at c
   by_cases y:hf s.aB i=0
   .simp only[y,if_true] at c;cases o:hC s.au a with
    |error _=>simp only[o] at c;cases c
    |ok m=>
     simp only[o] at c;cases c;obtain⟨f,_,g,rfl⟩:=aiI o;obtain⟨R,T,S,rfl⟩:=nM (ad_ e).2;refine .Uw R T S (λd z hw=>?_) g;have:d∈s.aB.filter λd=>d.b3==R.aS:=ν.2 ⟨z,by simpa using hw⟩;rw[ξC y] at this;cases this
   .simp only[y,if_false] at c;cases c
 rw[if_neg O] at c
 by_cases P:k=9
 .rw[if_pos P] at c;subst P;cases e:fG s.au a with
  |error _=>rw[e] at c;cases c
  |ok i=>rw[e] at c;cases c;exact .resolve _ e
 rw[if_neg P] at c
 by_cases E:k=10
 .rw[if_pos E] at c;subst E;cases e:gS s.ao a p with
  |error _=>rw[e] at c;cases c
  |ok r=>
   rw[e] at c;cases c;obtain⟨f,g,t,u,rfl⟩:=ag_ e;exact .register f g t u
 rw[if_neg E] at c
 by_cases F:k=11
 .rw[if_pos F] at c;subst F;cases e:f_ s.ao a with
  |error _=>rw[e] at c;cases c
  |ok q=>
   rw[e] at c
   by_cases Q:q=p
   .subst Q;simp only[if_true] at c;cases c;exact .unregister (q4 e).1 (q4 e).2
   .simp only[Q,if_false] at c;cases c
 rw[if_neg F] at c
 by_cases G:k=12
 .rw[if_pos G] at c;subst G;cases e:f_ s.ao a with
  |error _=>rw[e] at c;cases c
  |ok i=>rw[e] at c;cases c;exact .lookup _ (q4 e).1 (q4 e).2
 rw[if_neg G] at c
 by_cases H:k=13
 .rw[if_pos H] at c;subst H;cases B:bJ s.ar.ab a with
  |false=>rw[B] at c;cases c
  |true=>
   rw[B] at c;cases e:kb s.ao a b with
   |error _=>rw[e] at c;cases c
   |ok r=>
    rw[e] at c;cases c;obtain⟨f,rfl⟩:=ahW e;exact .send ((hz h.p.ord).1 B) f
 rw[if_neg H] at c;obtain rfl:k=14:=by omega
 cases e:j5 s.ao p with
 |error _=>rw[e] at c;cases c
 |ok r=>
  obtain⟨r,w⟩:=r;rw[e] at c;cases c;obtain⟨ws,f,rfl⟩:=ag7 e;exact .SB _ ws f
theorem RL {s:aF} (h:dC s) {p aZ:Int} {i:Nat} (b:dF s.ar.ab p) (hw: ∃x∈s.au.ab,x.aS=aZ) (c:gr s.aB p=some i) (e:s.aB.length≠64):dC ⟨s.ar,b1 (λy=>cC y ⟨p,i,aZ⟩) ⟨p,i,aZ⟩ s.aB,s.au,s.ao⟩:=by
 refine⟨h.p,aes h.d (jr h.p b).2.1 c e,h.m,h.i,λd a=>?_,h.names,h.boxes⟩;rcases kQ.1 a with rfl|a
 .exact⟨b,hw⟩
 .exact h.aZ d a
theorem ah_ {s:aF} (h:dC s) {k p a b:Int} (hu:cd a) (r:k≠9->k≠12->dF s.ar.ab p) {n:aF} {v:Int} (B:Step s p a b k n v):dC n:=by
 cases B with
 |spawn i g j=>
  have hm: ∀ {y},dF s.ar.ab y->dF (b1 (λy=>decide (ix y.aa<=i+1)) ⟨cD s.ar i,p,false,0⟩ s.ar.ab) y:=λ{y}=>Tm λx l e d=>⟨x,kQ.2 (.inr l),e,d⟩;exact⟨ah4 h.p g j,h.d,h.m,h.i,λd c=>(h.aZ d c).imp_left hm,λn hn=>hm (h.names n hn),λb f=>hm (h.boxes b f)⟩
 |exit o j C=>
  refine⟨ab_ h.p o j,h.d.filter _,h.m,Kg h.i (jr h.p o).1 (ζK _),λd c=>?_,λn hn=>vy (C n hn) (h.names n hn),λb f=>?_⟩
  .obtain⟨c,q⟩:=ν.1 c;have q:d.aa≠p:=by simpa using q
   exact(h.aZ d c).imp_left (vy q)
  .rcases yU.1 f with⟨f,q⟩|⟨hn,_⟩
   .exact vy q (h.boxes b f)
   .exact(hn rfl).elim
 |wait x l _ _ c=>
  have hm: ∀ {y},dF s.ar.ab y->dF (s.ar.ab.filter λy=>!(y.aa==x.aa)) y:=λ{y}=>UR h.p l c;exact⟨ai4 h.p l c,h.d,h.m,h.i,λd c=>(h.aZ d c).imp_left hm,λn hn=>hm (h.names n hn),λb f=>hm (h.boxes b f)⟩
 |bg x i z l g j=>exact RL h (r (by omega) (by omega)) ⟨x,l,rfl⟩ g j
 |close=>exact⟨h.p,h.d.filter _,h.m,h.i,λd c=>h.aZ d (ν.1 c).1,h.names,h.boxes⟩
 |dup w i z g j=>
  obtain⟨d,c,_,_,rfl⟩:=OQ z;exact RL h (r (by omega) (by omega)) (h.aZ d c).2 g j
 |Rg g j t u=>exact⟨h.p,h.d,aaB h.m hu g j t u,h.i,λd c=>⟨(h.aZ d c).1,(h.aZ d c).2.imp λx l=>⟨ξq _ l.1,l.2⟩⟩,h.names,h.boxes⟩
 |Uw F E D A j=>
  refine⟨h.p,h.d,h.m.filter _,h.i,λd c=>⟨(h.aZ d c).1,?_⟩,h.names,h.boxes⟩;obtain⟨x,l,hw⟩:=(h.aZ d c).2;refine⟨x,ν.2 ⟨l,?_⟩,hw⟩;have q:x.aP≠a:=λe=>by
   have:=Rh h.m l E (e.trans D.symm);subst this;exact A d c hw.symm
  simpa using q
 |resolve=>exact h
 |register g j t u=>
  refine⟨h.p,h.d,h.m,ag9 h.i hu g j t u,h.aZ,λn hn=>?_,h.boxes⟩;rcases kQ.1 hn with rfl|hn
  .exact r (by omega) (by omega)
  .exact h.names n hn
 |unregister=>exact⟨h.p,h.d,h.m,aiL h.i a,h.aZ,λn hn=>h.names n (ν.1 hn).1,h.boxes⟩
 |lookup=>exact h
 |send o g=>
  have:=rT h.i a;refine⟨h.p,h.d,h.m,Kg h.i (jr h.p o).1 (by rw[υ,ξ6];omega),h.aZ,h.names,λb f=>?_⟩;rcases yU.1 f with⟨f,_⟩|⟨_,rfl⟩
  .exact h.boxes b f
  .exact o
 |SB v ws g=>
  have o:=r (by omega) (by omega);have:=rT h.i p;rw[g,ω] at this;refine⟨h.p,h.d,h.m,Kg h.i (jr h.p o).1 (by omega),h.aZ,h.names,λb f=>?_⟩;rcases yU.1 f with⟨f,_⟩|⟨_,rfl⟩
  .exact h.boxes b f
  .exact o
theorem aaW {s:aF} (h:dC s) {c:bq} {n:aF} {v:Int} (a:nf s c= .ok (n,v)):Step s (aw c.fArgs 0) (aw c.fArgs 1) (aw c.fArgs 2) c.bb n v/\(c.bb≠9->c.bb≠12->dF s.ar.ab (aw c.fArgs 0)):=by
 unfold nf at a;split at a
 .rename_i k0;cases e:h3 c||bJ s.ar.ab (aw c.fArgs 0) with
  |false=>rw[e] at a;cases a
  |true=>
   rw[e] at a;refine⟨adt h k0 a,λb d=>?_⟩;rw[<-hz h.p.ord];simpa[h3,b,d] using e
 .cases a
theorem F8 {s:aF} (h:dC s) {c:bq} (hu:cd (aw c.fArgs 1)):dC (dM s c).1:=by
 unfold dM;cases e:nf s c with
 |error _=>exact h
 |ok r=>
  obtain⟨a,b⟩:=aaW h e;exact ah_ h hu b a
def fY:Γa:=[2,4,5,6,310,321,322,323,324,341,351,361,362]
theorem N1 {e:Int} (h:e∈fY):e≠0:=by
 intro a;subst a
 revert h
 decide
theorem gJ {e:Int} (h:e∈fY):(e==0)=false:=by simpa using N1 h
theorem TZ {x:aV} {y e:Int} (h:hB x y= .error e):e∈fY:=by
 unfold hB at h;cases a:bJ x.ab y with
 |false=>rw[a] at h;cases h;decide
 |true=>
  rw[a] at h;cases b:gP x<;>(rw[b] at h;cases h);decide
theorem Gk {x:aV} {y z e:Int} (h:hh x y z= .error e):e∈fY:=by
 unfold hh at h;cases a:bJ x.ab y with
 |false=>rw[a] at h;cases h;decide
 |true=>
  rw[a] at h;cases b:y==1<;>(rw[b] at h;cases h);decide
theorem UQ {x:aV} {y z e:Int} (h:hE x y z= .error e):e∈fY:=by
 unfold hE at h;cases a:bJ x.ab y with
 |false=>rw[a] at h;cases h;decide
 |true=>
  rw[a] at h;cases b:eN x.ab z with
  |none=>rw[b] at h;cases h;decide
  |some u=>
   rw[b] at h;cases c:u.aT==y with
   |false=>simp only[c,cond_true,cond_false] at h;cases h;decide
   |true=>cases d:u.ba<;>(simp only[c,d,cond_true,cond_false] at h;cases h);decide
theorem IS {x:List ai} {y z e:Int} (h:fO x y z= .error e):e∈fY:=by
 unfold fO at h;cases a:gr x y with
 |none=>rw[a] at h;cases h;decide
 |some i=>
  rw[a] at h;cases b:x.length==64<;>(simp only[b,cond_true,cond_false] at h;cases h);decide
theorem aa9 {x:List ai} {y z e:Int} (h:gH x y z= .error e):e∈fY:=by
 unfold gH at h;cases e:cy x y z<;>(rw[e] at h;cases h);decide
theorem NM {x:List ai} {y z e:Int} (h:fX x y z= .error e):e∈fY:=by
 unfold fX at h;cases e:cy x y z with
 |none=>rw[e] at h;cases h;decide
 |some w=>rw[e] at h;exact IS h
theorem ym {x:a1} {y e:Int} (h:fG x y= .error e):e∈fY:=by
 unfold fG at h;cases a:bV y with
 |false=>rw[a] at h;cases h;decide
 |true=>
  rw[a] at h;cases b:jv x y<;>(rw[b] at h;cases h);decide
theorem RA {x:a1} {y e:Int} (h:iv x y= .error e):e∈fY:=by
 unfold iv at h;cases a:bV y with
 |false=>rw[a] at h;cases h;decide
 |true=>
  rw[a] at h;cases b:cq x y<;>(rw[b] at h;cases h);decide
theorem M0 {x:a1} {y e:Int} (h:gF x y= .error e):e∈fY:=by
 unfold gF at h;cases a:bV y with
 |false=>rw[a] at h;cases h;decide
 |true=>
  rw[a] at h;cases b:cq x y with
  |some _=>rw[b] at h;cases h;decide
  |none=>
   rw[b] at h;cases c:(x.ab.length==16||decide (x.aL>1073741824))<;>(simp only[c,cond_true,cond_false] at h;cases h);decide
theorem Ux {x:a1} {y e:Int} (h:hC x y= .error e):e∈fY:=by
 unfold hC at h;cases a:bV y with
 |false=>rw[a] at h;cases h;decide
 |true=>
  rw[a] at h;cases b:cq x y with
  |none=>rw[b] at h;cases h;decide
  |some i=>
   rw[b] at h;cases c:hM x y<;>(simp only[c,cond_true,cond_false] at h;cases h);decide
theorem xL {x:aC} {y e:Int} (h:f_ x y= .error e):e∈fY:=by
 unfold f_ at h;cases a:dy y with
 |false=>rw[a] at h;cases h;decide
 |true=>
  rw[a] at h;cases b:eC x.an y<;>(rw[b] at h;cases h);decide
theorem SD {x:aC} {y z e:Int} (h:gS x y z= .error e):e∈fY:=by
 unfold gS at h;cases a:dy y with
 |false=>rw[a] at h;cases h;decide
 |true=>
  cases b:dR z with
  |false=>rw[a,b] at h;cases h;decide
  |true=>
   rw[a,b] at h;cases c:eC x.an y with
   |some _=>rw[c] at h;cases h;decide
   |none=>
    rw[c] at h;cases d:x.an.length==16<;>(simp only[d,cond_true,cond_false] at h;cases h);decide
theorem ahV {x:aC} {y z e:Int} (h:kb x y z= .error e):e∈fY:=by
 unfold kb at h;cases e:(cJ x y).length==4<;>(rw[e] at h;cases h);decide
theorem ag6 {x:aC} {y e:Int} (h:j5 x y= .error e):e∈fY:=by
 unfold j5 at h;cases e:cJ x y<;>(rw[e] at h;cases h);decide
theorem ads {s:aF} {k p a b e:Int} (c:fj s k p a b= .error e):e≠0:=by
 refine N1 ?_;unfold fj at c
 by_cases l:k=1
 .rw[if_pos l] at c;cases e:hB s.ar p with
  |error _=>rw[e] at c;cases c;exact TZ e
  |ok r=>rw[e] at c;cases c
 rw[if_neg l] at c
 by_cases v:k=2
 .rw[if_pos v] at c;cases e:hh s.ar p a with
  |error _=>rw[e] at c;cases c;exact Gk e
  |ok r=>
   rw[e] at c
   by_cases g:ho s.ao p=[]
   .simp only[g,if_true] at c;cases c
   .simp only[g,if_false] at c;cases c;decide
 rw[if_neg v] at c
 by_cases w:k=3
 .rw[if_pos w] at c;cases e:hE s.ar p a with
  |error _=>rw[e] at c;cases c;exact UQ e
  |ok r=>rw[e] at c;cases c
 rw[if_neg w] at c
 by_cases x:k=4
 .rw[if_pos x] at c;cases e:fG s.au a with
  |error _=>rw[e] at c;cases c;exact ym e
  |ok i=>
   rw[e] at c;cases d:fO s.aB p i with
   |error _=>simp only[d] at c;cases c;exact IS d
   |ok r=>simp only[d] at c;cases c
 rw[if_neg x] at c
 by_cases y:k=5
 .rw[if_pos y] at c;cases e:gH s.aB p a with
  |error _=>rw[e] at c;cases c;exact aa9 e
  |ok r=>rw[e] at c;cases c
 rw[if_neg y] at c
 by_cases z:k=6
 .rw[if_pos z] at c;cases e:fX s.aB p a with
  |error _=>rw[e] at c;cases c;exact NM e
  |ok r=>rw[e] at c;cases c
 rw[if_neg z] at c
 by_cases A:k=7
 .rw[if_pos A] at c;cases e:gF s.au a with
  |error _=>rw[e] at c;cases c;exact M0 e
  |ok r=>rw[e] at c;cases c
 rw[if_neg A] at c
 by_cases B:k=8
 .rw[if_pos B] at c;cases e:iv s.au a with
  |error _=>rw[e] at c;cases c;exact RA e
  |ok i=>
   rw[e] at c
   by_cases f:hf s.aB i=0
   .simp only[f,if_true] at c;cases d:hC s.au a with
    |error _=>simp only[d] at c;cases c;exact Ux d
    |ok m=>simp only[d] at c;cases c
   .simp only[f,if_false] at c;cases c;decide
 rw[if_neg B] at c
 by_cases C:k=9
 .rw[if_pos C] at c;cases e:fG s.au a with
  |error _=>rw[e] at c;cases c;exact ym e
  |ok r=>rw[e] at c;cases c
 rw[if_neg C] at c
 by_cases n:k=10
 .rw[if_pos n] at c;cases e:gS s.ao a p with
  |error _=>rw[e] at c;cases c;exact SD e
  |ok r=>rw[e] at c;cases c
 rw[if_neg n] at c
 by_cases o:k=11
 .rw[if_pos o] at c;cases e:f_ s.ao a with
  |error _=>rw[e] at c;cases c;exact xL e
  |ok q=>
   rw[e] at c
   by_cases h:q=p
   .simp only[h,if_true] at c;cases c
   .simp only[h,if_false] at c;cases c;decide
 rw[if_neg o] at c
 by_cases t:k=12
 .rw[if_pos t] at c;cases e:f_ s.ao a with
  |error _=>rw[e] at c;cases c;exact xL e
  |ok r=>rw[e] at c;cases c
 rw[if_neg t] at c
 by_cases u:k=13
 .rw[if_pos u] at c;cases j:bJ s.ar.ab a with
  |false=>rw[j] at c;cases c;decide
  |true=>
   rw[j] at c;cases e:kb s.ao a b with
   |error _=>rw[e] at c;cases c;exact ahV e
   |ok r=>rw[e] at c;cases c
 rw[if_neg u] at c;cases e:j5 s.ao p with
 |error _=>rw[e] at c;cases c;exact ag6 e
 |ok r=>rw[e] at c;cases c
theorem filter_all {α:Type} {l:List α} {p:α->Bool} (h: ∀z∈l,p z=true):l.filter p=l:=List.filter_eq_self.2 h
section
variable {α σ X β:Type}
theorem yp {step:Int->α->Unit->Option (Unit⊕X)} {fin:Int->Unit->Option X} {p:α->Bool} {e:Nat->X} {l:List α} (h: ∀(i:Nat) z,l[i]? =some z->step i z ()=bif p z then some (.inr (e i)) else some (.inl ())):
  bF step fin 0 l ()=match l.findIdx? p with|some i=>some (e i)|none=>fin (l.length:Int) ():=by
 suffices H: ∀(r pre:List α),l=pre++r->bF step fin pre.length r ()=match r.findIdx? p with|some i=>some (e (pre.length+i))|none=>fin (l.length:Int) () by
  have:=H l [] rfl;simpa using this
 intro r
 induction r with
 |nil=>intro pre e;rw[e,ξs];rfl
 |cons z r b=>
  intro pre a;rw[gW,h pre.length z (by rw[a];simp),ξR];cases hp:p z with
  |true=>simp
  |false=>
   simp only[cond_false,γ];have:=b (pre++[z]) (by rw[a];simp);rw[show(pre++[z]).length=pre.length+1 by simp] at this;rw[this];cases c:r.findIdx? p with
   |none=>rfl
   |some i=>simp only[ζ8,ξm,if_false];rw[show pre.length+1+i=pre.length+(i+1) by omega]
theorem yo {step:Int->α->σ->Option (σ⊕X)} {fin:Int->σ->Option X} {g:σ->α->σ} {Q:Nat->σ->Prop} {l:List α} (h: ∀(i:Nat) z a,l[i]? =some z->Q i a->step i z a=some (.inl (g a z))/\Q (i+1) (g a z)):
  ∀(r pre:List α) (a:σ),l=pre++r->Q pre.length a->bF step fin pre.length r a=fin (l.length:Int) (r.foldl g a)
 |[],pre,a,e,_=>by rw[e,ξs];rfl
 |z::r,pre,a,e,d=>by
  obtain⟨b,c⟩:=h pre.length z a (by rw[e];simp) d;rw[gW,b];have:=yo (fin:=fin) h r (pre++[z]) (g a z) (by rw[e];simp) (by rw[υ,ξ6];exact c);rw[υ,ξ6] at this;exact this
theorem Hi {p:α->Bool} {f:α->β}: ∀(l:List α) (a:List β),l.foldl (λa z=>if p z then a++[f z] else a) a=a++(l.filter p).map f
 |[],a=>by simp
 |z::r,a=>by
  rw[ξf,Hi r];cases hp:p z<;>simp[hp]
theorem O8 {p:Bool} {a:List β} {y:β} {i:Nat} (h:a.length<=i):(if p then a++[y] else a).length<=i+1:=by
 split
 .simp;omega
 .omega
theorem mu {step:Int->α->List β->Option (List β⊕X)} {fin:Int->List β->Option X} {p:α->Bool} {f:α->β} {l:List α} (h: ∀(i:Nat) z a,l[i]? =some z->a.length<=i->step i z a=some (.inl (if p z then a++[f z] else a))):
  bF step fin 0 l []=fin (l.length:Int) ((l.filter p).map f):=by
 have:=yo (fin:=fin) (Q:=λi a=>a.length<=i) (g:=λa z=>if p z then a++[f z] else a) (λi z a c b=>⟨h i z a c b,O8 b⟩) l [] [] rfl (ξa 0);rw[Hi] at this;exact this
theorem UX {step:Int×σ->Option ((Int×σ)⊕X)} {g:σ->α->σ} {Q:Nat->σ->Prop} {x:σ->X} {l:List α} (h: ∀(i:Nat) z a,l[i]? =some z->Q i a->step ((i:Int),a)=some (.inl (((i+1:Nat):Int),g a z))/\Q (i+1) (g a z)) (hN: ∀a,Q l.length a->step ((l.length:Int),a)=some (.inr (x a))):
  ∀(r pre:List α) (a:σ) (n:Nat),l=pre++r->Q pre.length a->r.length<n->cm step n ((pre.length:Int),a)=some (x (r.foldl g a))
 |[],pre,a,n+1,e,b,_=>by
  have c:l=pre:=by rw[e,ξs]
  rw[dB,<-c,hN a (c▸b)];rfl
 |z::r,pre,a,n+1,e,b,hn=>by
  obtain⟨d,f⟩:=h pre.length z a (by rw[e];simp) b;rw[dB,d];have:=UX h hN r (pre++[z]) (g a z) n (by rw[e];simp) (by rw[υ,ξ6];exact f) (by simpa using hn);rw[υ,ξ6] at this;exact this
theorem mK {step:Int×List β->Option ((Int×List β)⊕X)} {p:α->Bool} {f:α->β} {x:List β->X} {l:List α} {n:Nat} (h: ∀(i:Nat) z a,l[i]? =some z->a.length<=i->step ((i:Int),a)=some (.inl (((i+1:Nat):Int),if p z then a++[f z] else a))) (hN: ∀a,step ((l.length:Int),a)=some (.inr (x a))) (hn:l.length<n):
  cm step n (0,[])=some (x ((l.filter p).map f)):=by
 have:=UX (Q:=λi a=>a.length<=i) (g:=λa z=>if p z then a++[f z] else a) (λi z a c b=>⟨h i z a c b,O8 b⟩) (λa _=>hN a) l [] [] n rfl (ξa 0) hn;rw[Hi] at this;exact this
theorem oq {g:α->α} {l:List α} {i:Nat} (h:i<l.length):((l.take i).map g++l.drop i).set i (g l[i])=(l.take (i+1)).map g++l.drop (i+1):=by
 have e:((l.take i).map g).length=i:=by simp;omega
 rw[ζA (h:=by omega),e,ζB,ρ h,ζQ,List.take_succ_eq_append_getElem h,ξG,ξH];rfl
theorem get_map {g:α->α} {l:List α} {i:Nat} (h:i<l.length):((l.take i).map g++l.drop i)[i]? =some l[i]:=by
 have e:((l.take i).map g).length=i:=by simp;omega
 rw[ξK (by omega),e,ζB,ρ h];rfl
theorem ai' {step:Int×List α->Option ((Int×List α)⊕X)} {g:α->α} {x:List α->X} {l:List α} {n:Nat} (h: ∀(i:Nat) (hi:i<l.length) (a:List α),a[i]? =some l[i]->a.length=l.length->step ((i:Int),a)=some (.inl (((i+1:Nat):Int),a.set i (g l[i])))) (hN: ∀a,step ((l.length:Int),a)=some (.inr (x a))) (hn:l.length<n):
  cm step n (0,l)=some (x (l.map g)):=by
 suffices H: ∀(k i n:Nat),i+k=l.length->k<n->cm step n ((i:Int),(l.take i).map g++l.drop i)=some (x (l.map g)) by
  have:=H l.length 0 n (by omega) hn;simpa using this
 intro k
 induction k with
 |zero=>
  intro i n e hn;obtain⟨m,rfl⟩: ∃m,n=m+1:=⟨n-1,by omega⟩;obtain rfl:i=l.length:=by omega
  rw[dB,hN];simp
 |succ k b=>
  intro i n e hn;obtain⟨m,rfl⟩: ∃m,n=m+1:=⟨n-1,by omega⟩;have hi:i<l.length:=by omega
  rw[dB,h i hi _ (get_map hi) (by simp;omega),oq hi];exact b (i+1) m (by omega) (by omega)
theorem Hc {p:α->Bool}: ∀ {l:List α},l.find? p=(l.findIdx? p).bind λi=>l[i]?
 |[]=>rfl
 |z::r=>by
  rw[ξQ,ξR];cases hp:p z with
  |true=>rfl
  |false=>
   rw[Hc];cases r.findIdx? p<;>rfl
theorem findIdx_take {p:α->Bool}: ∀ {l:List α},l.take ((l.findIdx? p).getD l.length)=l.takeWhile (λz=>!p z)/\l.drop ((l.findIdx? p).getD l.length)=l.dropWhile (λz=>!p z)
 |[]=>⟨rfl,rfl⟩
 |z::r=>by
  rw[ξR,ξ0,ξb];cases hp:p z with
  |true=>exact⟨rfl,rfl⟩
  |false=>
   have:=findIdx_take (p:=p) (l:=r);cases e:r.findIdx? p with
   |none=>
    rw[e] at this;simpa using this
   |some i=>
    rw[e] at this;simpa using this
end
theorem FC {X:Type} {step:Int×Int->Option ((Int×Int)⊕X)} {q:Nat->Bool} {N c:Nat} {x:X} (g:c<=N) (b: ∀i,i<c->q i=true) (f: ∀i,c<=i->i<N->q i=false)
  (h: ∀lo hi:Nat,lo<hi->hi<=N->step ((lo:Int),(hi:Int))=some (.inl (if q ((lo+hi)/2) then((((lo+hi)/2+1:Nat):Int),(hi:Int)) else((lo:Int),(((lo+hi)/2:Nat):Int)))))
  (hN:step ((c:Int),(c:Int))=some (.inr x)): ∀(d lo hi n:Nat),hi-lo<=d->d<n->lo<=c->c<=hi->hi<=N->cm step n ((lo:Int),(hi:Int))=some x
 |d,lo,hi,0,_,hn,_,_,_=>by omega
 |d,lo,hi,n+1,l,hn,hl,j,hm=>by
  rw[dB]
  by_cases e:lo=hi
  .obtain rfl:lo=c:=by omega
   obtain rfl:lo=hi:=e;rw[hN];rfl
  .rw[h lo hi (by omega) hm,γ];cases a:q ((lo+hi)/2) with
   |true=>
    have:(lo+hi)/2<c:=Nat.lt_of_not_le λhle=>by rw[f _ hle (by omega)] at a;cases a
    exact FC g b f h hN (d-1) _ hi n (by omega) (by omega) (by omega) j hm
   |false=>
    have:c<=(lo+hi)/2:=Nat.le_of_not_lt λk=>by rw[b _ k] at a;cases a
    exact FC g b f h hN (d-1) lo _ n (by omega) (by omega) hl this (by omega)
theorem half {lo hi:Nat} (h:lo+hi<4611686018427387904):μ.wrap ((ξe.wrap (μ.wrap ((lo:Int)+(hi:Int)))).fdiv 2)=(((lo+hi)/2:Nat):Int):=by
 rw[cr (x:=(lo:Int)+hi) (by omega) (by omega),fT (x:=(lo:Int)+hi) (by omega) (by omega),ζ9 _ (by omega),cr (by omega) (by omega)];omega
theorem Fx {α:Type} {lt:α->Bool}: ∀ {l:List α},l.Pairwise (λa b=>lt b=true->lt a=true)-> ∀(i:Nat) z,l[i]? =some z->(lt z=true↔i<(l.takeWhile lt).length)
 |[],_,i,z,h=>by simp at h
 |y::r,c,i,z,h=>by
  rw[ξi] at c;rw[ξ0];cases d:lt y with
  |true=>
   cases i with
   |zero=>simp at h;subst h;simp[d]
   |succ i=>simpa using Fx c.2 i z (by simpa using h)
  |false=>
   simp only[ξm,if_false,ζy,Nat.not_lt_zero,iff_false];intro e;cases i with
   |zero=>simp at h;subst h;rw[d] at e;cases e
   |succ i=>
    have:=c.1 z (κ (by simpa using h:r[i]? =some z)) e;rw[d] at this;cases this
theorem g' {α:Type} {b:Nat} {l:List α} (h:l.length*b<=140737488355328):app b [] l=some l:=by
 rw[u0 (by simpa using h)];rfl
theorem hL {α:Type} {b i n:Nat} {a:List α} {z:α} (d:a.length<=i) (e:i<n) (c:(n+1)*b<=140737488355328):app b a [z]=some (a++[z]):=
 u0 (ζ0 (ζ4 b (by simp;omega)) c)
theorem OK {p:aV} (h:dk p):td p:=⟨h.u,by have:=h.len;unfold maxLen;omega⟩
theorem f46 {p:aV} (h:dk p):kI ae p=some 0:=by rw[v46 (OK h),S2 h];rfl
theorem ad9 (l:List ag) (pid:Int):eN l pid=(l.findIdx? λz=>z.aa==pid).bind λi=>l[i]? :=Hc
theorem I6 {S:Int->ag->Unit->T (Unit⊕Nat⊕(Bool×Int))} {F:Int->Unit->T (Nat⊕(Bool×Int))} {l:List ag} {pid:Int}
  (b:(F (l.length:Int) ()).val=some (.inr (false,(l.length:Int))))
  (c: ∀(i:Int) z,(S i z ()).val=(l[i.toNat]?).bind λf=>bif f.aa==pid then some (.inr (.inl i.toNat)) else some (.inl ())):
  bF (λi z a=>(S i z a).val) (λi a=>(F i a).val) 0 l ()=match l.findIdx? (λz=>z.aa==pid) with|some i=>some (.inl i)|none=>some (.inr (false,(l.length:Int))):=by
 rw[yp (p:=λz=>z.aa==pid) (e:=λi=>.inl i) λi z d=>by rw[c,ζ,d];rfl,b]
 first|done|(cases l.findIdx? (λz=>z.aa==pid)<;>rfl)
theorem Yb (g:Γa) (l:List ag) (pid:Int):Cc ae g l pid=match l.findIdx? (λz=>z.aa==pid) with|some i=>some (.inl i)|none=>some (.inr (false,(l.length:Int))):=
 I6 (by unfold y6;simp) λi z=>rfl
theorem Yc (g:Γa) (l:List ag) (pid:Int):Cd ae g l pid=match l.findIdx? (λz=>z.aa==pid) with|some i=>some (.inl i)|none=>some (.inr (false,(l.length:Int))):=
 I6 (by unfold y7;simp) λi z=>rfl
theorem Yd (g:Γa) (l:List ag) (pid:Int):tA ae g l pid=match l.findIdx? (λz=>z.aa==pid) with|some i=>some (.inl i)|none=>some (.inr (false,(l.length:Int))):=
 I6 (by unfold y8;simp) λi z=>rfl
theorem v72 {p:aV} (h:dk p) (pid:Int):G_ ae p pid=some (match eN p.ab pid with|some z=>(z,true)|none=>(⟨0,0,false,0⟩,false)):=by
 show(Fa ae p pid).val=_;unfold Fa;have b:Cf ae p.az p.ab pid=match p.ab.find? (λz=>z.aa==pid) with|some z=>some (.inl z)|none=>some (.inr (false,(p.ab.length:Int))):=by
  show bF (λi z a=>(tW ae p.az p.ab pid i z a).val) (λi a=>(sd ae p.az p.ab pid i a).val) 0 p.ab ()=_;rw[h5 (p:=λz=>z.aa==pid) (e:=λz=>.inl z)]
  .cases p.ab.find? (λz=>z.aa==pid) with
   |none=>unfold sd;simp
   |some z=>rfl
  .intro i z _;unfold tW;cases h:z.aa==pid<;>simp
 simp only[T.aN,T.aH,T.bt,T.cx,T.aD,f46 h,γ,b,eN];cases p.ab.find? (λz=>z.aa==pid)<;>rfl
theorem v28 {p:aV} (h:dk p) (pid:Int):pU ae p pid=some (bJ p.ab pid):=by
 show(EP ae p pid).val=_;unfold EP bJ;simp only[T.aN,v72 h,γ];cases eN p.ab pid<;>rfl
def mP:aV:=⟨[0,0,0,0,0,0,0,0,0,0,0,0,0,0,0,0],[]⟩
theorem yt (l:List ag) (pid:Int):(l.findIdx? (λz=>z.aa==pid)=none/\bJ l pid=false/\eN l pid=none)\/ ∃i x,l.findIdx? (λz=>z.aa==pid)=some i/\l[i]? =some x/\bJ l pid=(!x.ba)/\eN l pid=some x/\x.aa=pid:=by
 have h:=ad9 l pid;cases e:l.findIdx? (λz=>z.aa==pid) with
 |none=>
  rw[e] at h;exact .inl ⟨rfl,by unfold bJ;rw[h];rfl,h⟩
 |some i=>
  rw[e] at h;obtain⟨hi,hp,_⟩:=ξx.1 e;have a:l[i]? =some l[i]:=ε hi;rw[γ,a] at h;exact .inr ⟨i,l[i],rfl,a,by unfold bJ;rw[h],h,by simpa using hp⟩
theorem Yf (l:List ag) {a:Nat} (d:a<16):CT ae l (a:Int)=match l.findIdx? (λz=>ix z.aa==(a:Int)+1) with|some i=>some (.inl (i:Int))|none=>some (.inr (false,(l.length:Int))):=by
 show bF (λi z b=>(ux ae l a i z b).val) (λi b=>(sG ae l a i b).val) 0 l ()=_;rw[yp (p:=λz=>ix z.aa==(a:Int)+1) (e:=λi=>.inl (i:Int))]
 .unfold sG;cases l.findIdx? (λz=>ix z.aa==(a:Int)+1)<;>simp
 .intro i z c;unfold ux;simp only[T.aN,T.aH,T.aD,ζ,c,v93,γ];rw[cr (by omega) (by omega)]
theorem aaI {α:Type} {p:α->Bool} {l:List α}:l.any p=(l.findIdx? p).isSome:=by rw[η,ξp,List.findIdx?_isSome,ξp]
theorem Yn {p:aV} (h:dk p) {a:Nat} (c:a<16):(m2 ae p.az p.ab (a:Int)).val=bif !(!(p.ab.any λx=>ix x.aa==(a:Int)+1)&&decide (aw p.az a<=65535)) then some (.inl ((a+1:Nat):Int)) else some (.inr (.inr (true,aw p.az a,a,(a:Int),true,false,true))):=by
 unfold m2;have d:decide ((a:Int)<16)=true:=decide_eq_true (by omega);have hw:μ.wrap ((a:Int)+1)=((a+1:Nat):Int):=cr (by omega) (by omega);have hn:dq (a:Int) 16=some a:=by rw[ja (by omega) (by omega),ζ]
 simp only[T.aN,T.aH,T.aD,T.bt,T.cx,d,hw,hn,Yf p.ab c,aaI,ι,cond_false,γ];cases e:p.ab.findIdx? (λz=>ix z.aa==(a:Int)+1) with
 |some i=>
  have:decide ((i:Int)>=0)=true:=decide_eq_true (by omega);simp[this]
 |none=>
  cases b:decide (aw p.az a<=65535)<;>simp[b]
theorem Ye {p:aV} (h:dk p):CM ae p.az p.ab 0=match gP p with|some i=>some (.inr (true,aw p.az i,i,(i:Int),true,false,true))|none=>some (.inl (false,16)):=by
 show cm (λa=>(m2 ae p.az p.ab a).val) 1000000 ((0:Nat):Int)=_;rw[mJ (q:=λa:Nat=>!(!(p.ab.any λx=>ix x.aa==(a:Int)+1)&&decide (aw p.az a<=65535))) (x:=λa=>.inr (true,aw p.az a,a,(a:Int),true,false,true)) (y:=.inl (false,16)) (N:=16) (λa b=>Yn h b) (by unfold m2;rfl) (k:=16) (by omega) (by omega)];unfold gP;rw[ξM];simp only[ζd];cases (ξX 0 16).find? (λi:Nat=>!(p.ab.any λx=>ix x.aa==(i:Int)+1)&&decide (aw p.az i<=65535))<;>rfl
theorem Yg (l:List ag) (a b:Int):CU ae l a b=match l.findIdx? (λz=>decide (ix z.aa>ix a)) with|some i=>some (.inl (i:Int))|none=>some (.inr (false,(l.length:Int))):=by
 show bF (λi z c=>(uy ae l a b i z c).val) (λi c=>(sH ae l a b i c).val) 0 l ()=_;rw[yp (p:=λz=>decide (ix z.aa>ix a)) (e:=λi=>.inl (i:Int))]
 .unfold sH;cases l.findIdx? (λz=>decide (ix z.aa>ix a))<;>simp
 .intro i z d;unfold uy;simp only[T.aN,T.aH,T.aD,ζ,d,v93,γ]
theorem adb {α:Type} {b:Nat} {l:List α} {p lt:α->Bool} {x:α} (hl:(l.length+1)*b<=1099511627776) (hp: ∀z,lt z=!p z):
  Go.Dc.hW b l (((l.findIdx? p).getD l.length:Nat):Int) [x]=some (b1 lt x l):=by
 obtain rfl:lt=λz=>!p z:=funext hp;obtain⟨a,c⟩:=findIdx_take (p:=p) (l:=l);have hlen:(l.findIdx? p).getD l.length<=l.length:=by
  cases e:l.findIdx? p with
  |none=>exact ξa _
  |some i=>exact ηf (ξx.1 e).1
 unfold Go.Dc.hW b1;rw[if_pos ⟨by omega,by omega,by simpa using hl⟩,ζ,a,c];simp
theorem aiR {p:aV} (h:dk p) (parent:Int):vG ae p parent=some (match hB p parent with| .ok (q,v)=>(q,v,0)| .error e=>(mP,0,e)):=by
 show(Em ae p parent).val=_;unfold Em;have hlen:=h.len;simp only[T.aN,T.aH,T.aD,T.bt,T.cx,T.mI,f46 h,g' (b:=32) (l:=p.ab) (by omega),Yb,γ,show(!((0:Int)==0))=false from rfl,cond_false];unfold hB;rcases yt p.ab parent with⟨c,d,_⟩|⟨j,x,c,d,f,_⟩
 .simp only[c,d,γ,cond_false];rfl
 .simp only[c,d,f,γ,ζd];cases s:x.ba with
  |true=>rfl
  |false=>
   simp only[Ye h,cond_false,cond_true,π,T.aN,T.aH,T.aD,T.bt,T.cx,T.mI];cases hl:gP p with
   |none=>rfl
   |some i=>
    obtain⟨g,o,r⟩:=xI hl;obtain⟨n0,n1,n2,u⟩:=Iq h hl;have t:=h.jY i g;have hn:dq (i:Int) 16=some i:=by rw[ja (by omega) (by omega),ζ]
    have hw:ξe.wrap (μ.wrap (μ.wrap (μ.wrap (aw p.az i*64)+i)+1))=cD p i:=by
     unfold cD;rw[cr (x:=aw p.az i*64) (by omega) (by omega),cr (x:=aw p.az i*64+i) (by omega) (by omega),cr (by omega) (by omega),fT (by omega) (by omega)]
    have n:μ.wrap (aw p.az i+1)=aw p.az i+1:=cr (by omega) (by omega);have a:=adb (b:=32) (l:=p.ab) (p:=λz=>decide (ix z.aa>ix (cD p i))) (lt:=λy=>decide (ix y.aa<=i+1)) (x:=ag.mk (cD p i) parent false 0) (by omega) (λz=>by rw[n2,η];simp);simp only[γ,hn,hw,n,Yg,h.gl,ξ,show Nat.beq 16 16=true from rfl,cond_true,lZ];cases e:p.ab.findIdx? (λz=>decide (ix z.aa>ix (cD p i))) with
    |none=>
     rw[e,ξo] at a;simp only[γ,a]
    |some k=>
     rw[e,ξ3] at a;have m:decide ((k:Int)<0)=false:=decide_eq_false (by omega);simp only[γ,a,m,cond_false]
theorem aiT {p:aV} (h:dk p) (pid child:Int):vI ae p pid child=some (match hE p pid child with| .ok (q,v)=>(q,v,0)| .error e=>(mP,0,e)):=by
 show(Eo ae p pid child).val=_;unfold Eo;have hlen:=h.len;have n:CO ae p.ab child []=some (false,(p.ab.length:Int),p.ab.filter λy=>!(y.aa==child)):=by
  show bF (λi z a=>(uv ae p.ab child i z a).val) (λi a=>(sE ae p.ab child i a).val) 0 p.ab []=_;rw[mu (p:=λy=>!(y.aa==child)) (f:=id)]
  .unfold sE;simp
  .intro i z a g o;unfold uv;have hi:=(δ.1 g).1;simp only[T.aN,T.aH,T.aD,ζ,g,γ,hL (b:=32) (z:=z) o hi (by omega)];cases e:z.aa==child<;>simp[bne,e]
 simp only[T.aN,T.aH,T.aD,T.bt,T.cx,T.mI,f46 h,g' (b:=32) (l:=p.ab) (by omega),Yd,γ,show(!((0:Int)==0))=false from rfl,cond_false,n];unfold hE;rcases yt p.ab pid with⟨c,d,_⟩|⟨j,x,c,d,m,_⟩
 .simp only[c,d,γ,cond_false];rfl
 .simp only[c,d,m,γ,ζd];cases r:x.ba with
  |true=>rfl
  |false=>
   simp only[cond_false,cond_true,π];rcases yt p.ab child with⟨c1,_,c2⟩|⟨k,y,c1,c2,_,c3,_⟩
   .simp only[c1,c2,γ];rfl
   .simp only[c1,c2,c3,γ];cases y.aT==pid<;>cases y.ba<;>rfl
def xN (pid code:Int) (z:ag):ag:=bif z.aa==pid then⟨z.aa,z.aT,true,code⟩ else z
def q2 (pid:Int) (o:Bool) (z:ag):Bool:=(!(z.aa==pid)||!o)&&(!(z.aT==pid)||!z.ba)
def qc (pid:Int) (z:ag):ag:=bif z.aT==pid then⟨z.aa,0,z.ba,z.bT⟩ else z
theorem Od {α β:Type} {m:α->β} {k:β->Bool} {g:β->β}: ∀l:List α,((l.map m).filter k).map g=l.filterMap λz=>if k (m z) then some (g (m z)) else none
 |[]=>rfl
 |z::r=>by
  rw[ζ6,ξj,ξu,<-Od r];cases k (m z)<;>rfl
theorem Oj {α β:Type} {f g:α->Option β}: ∀ {l:List α},(∀z∈l,f z=g z)->l.filterMap f=l.filterMap g
 |[],_=>rfl
 |z::r,h=>by rw[ξu,ξu,h z τ,Oj λy a=>h y (ο _ a)]
theorem d' {α:Type} {l:List α} {i:Nat} {z:α} (h:l[i]? =some z):idx l (i:Int)=some z:=by
 unfold idx;rw[if_pos (by omega),ζ,h]
theorem acb {p:aV} (h:dk p) {pid code:Int} {i:Nat} {x:ag} (b:p.ab[i]? =some x) (hp:x.aa=pid):
  ((p.ab.set i ⟨x.aa,x.aT,true,code⟩).filter (q2 pid (x.aT==0))).map (qc pid)=p.ab.filterMap (fB pid code):=by
 have hm:p.ab.set i ⟨x.aa,x.aT,true,code⟩=p.ab.map (xN pid code):=by
  refine ζk λj=>?_;rw[ξW,ξ8]
  by_cases e:i=j
  .subst e;rw[if_pos rfl,if_pos (δ.1 b).1,b];simp[xN,hp]
  .rw[if_neg e];cases q:p.ab[j]? with
   |none=>rfl
   |some z=>
    have:z.aa≠pid:=λa=>by
     obtain⟨d,f⟩:=δ.1 b;obtain⟨g,l⟩:=δ.1 q;have:=ξ9.1 h.ord;rcases Nat.lt_or_gt_of_ne e with k|k
     .have:=this i j d g k;rw[f,l,hp,a] at this;omega
     .have:=this j i g d k;rw[f,l,hp,a] at this;omega
    have n:(z.aa==pid)=false:=by simpa using this
    simp[xN,n]
 rw[hm,Od];refine Oj λz m=>?_;have r:=κ b;unfold xN fB q2 qc;cases c:z.aa==pid with
 |true=>
  have:z=x:=x5 h.ord m r ((eq_of_beq c).trans hp.symm);subst this;have:(z.aT==pid)=false:=by have:=(h.one z m).self;rw[<-hp];simpa using this
  cases a:z.aT==0<;>simp[c,this]
 |false=>
  cases a:z.aT==pid<;>cases o:z.ba<;>simp[c,a,o]
theorem aiS {p:aV} (h:dk p) (pid code:Int):vH ae p pid code=some (match hh p pid code with| .ok q=>(q,0)| .error e=>(mP,e)):=by
 show(En ae p pid code).val=_;unfold En;have hlen:=h.len;have w: ∀(l:List ag) (o:Bool),l.length<=16->CN ae l pid o (l.length:Int) 0 []=some (false,(l.length:Int),l.filter (q2 pid o)):=by
  intro l o hl;show cm (λa=>(oZ ae l pid o (l.length:Int) a).val) 1000000 (0,[])=_;rw[mK (p:=q2 pid o) (f:=id) (x:=λa=>(false,(l.length:Int),a)) (l:=l) (λi z a s B=>?_) (λa=>?_) (by omega),η2]
  .have hi:=(δ.1 s).1;have n:decide ((i:Int)<(l.length:Int))=true:=decide_eq_true (by omega);have hw:μ.wrap ((i:Int)+1)=((i+1:Nat):Int):=cr (by omega) (by omega);unfold oZ q2;simp only[T.aN,T.aH,T.aD,n,cond_true,d' s,ζ,s,γ,hw,bne,hL (b:=32) (z:=z) B hi (by omega)];cases z.aa==pid<;>cases z.aT==pid<;>cases z.ba<;>cases o<;>rfl
  .unfold oZ;simp
 have A: ∀(a:Γa) (b:List ag) (c d:Int) (l:List ag),l.length<=16->Ce ae a b pid d l 0 l=some (false,(l.length:Int),l.map (qc pid)):=by
  intro a b c d l hl;show cm (λx=>(oQ ae a b pid d l x).val) 1000000 (0,l)=_;rw[ai' (g:=qc pid) (x:=λa=>(false,(l.length:Int),a)) (l:=l) (λi hi y r D=>?_) (λa=>?_) (by omega)]
  .have n:decide ((i:Int)<(l.length:Int))=true:=decide_eq_true (by omega);have hw:μ.wrap ((i:Int)+1)=((i+1:Nat):Int):=cr (by omega) (by omega);unfold oQ qc;simp only[T.aN,T.aH,T.aD,n,cond_true,d' r,ζ,r,γ,hw];cases e:l[i].aT==pid with
   |true=>rfl
   |false=>
    have:y.set i l[i]=y:=ζk λj=>by
     rw[ξW]
     by_cases e:i=j
     .subst e;rw[if_pos rfl,if_pos (by omega),r]
     .rw[if_neg e]
    simp[this]
  .unfold oQ;simp
 simp only[T.aN,T.aH,T.aD,T.bt,T.cx,T.mI,f46 h,g' (b:=32) (l:=p.ab) (by omega),Yc,γ,show(!((0:Int)==0))=false from rfl,cond_false];unfold hh;rcases yt p.ab pid with⟨m,k,_⟩|⟨i,x,m,k,u,_,v⟩
 .simp only[m,k,γ,cond_false];rfl
 .simp only[m,k,u,γ,ζd];have hi:=(δ.1 k).1;cases C:x.ba with
  |true=>rfl
  |false=>
   cases t:pid==1 with
   |true=>
    simp only[bne,t,cond_false,cond_true,π,ι];rfl
   |false=>
    simp only[bne,t,cond_false,cond_true,π,ι,List.set_set,List.getElem?_set_self hi,γ];rw[w _ _ (by simpa using hlen)];simp only[γ];rw[A _ _ pid _ _ (ζ0 (ξ5 _ _) (by simpa using hlen))];simp only[γ];rw[acb h k v]
theorem f47 {l:List ai} (h:eS l):iW ae l=some 0:=by
 rw[UL (by have:=h.len;unfold maxLen;omega),SZ.2 h];rfl
theorem v29 {l:List ai} (h:eS l) (pid:Int):vX ae l pid=some (kF l pid,(l.length:Int)-(kF l pid).length):=by
 show(ER ae l pid).val=_;unfold ER kF;have hlen:=h.len;have c:Dk ae l pid []=some (false,(l.length:Int),l.filter λd=>!(d.aa==pid)):=by
  show bF (λi z a=>(uQ ae l pid i z a).val) (λi a=>(s_ ae l pid i a).val) 0 l []=_;rw[mu (p:=λd=>!(d.aa==pid)) (f:=id)]
  .unfold s_;simp
  .intro i z a g e;have hi:=(δ.1 g).1;unfold uQ;simp only[T.aN,T.aH,T.aD,bne,hL (b:=24) (z:=z) e hi (by omega),γ];cases z.aa==pid<;>rfl
 have:=ξ5 (λd:ai=>!(d.aa==pid)) l;simp only[T.aN,T.aH,T.bt,T.aD,f47 h,c,γ,show((0:Int) !=0)=false from rfl,cond_false];rw[cr (by omega) (by omega)]
theorem v232 {l:List ai} (h:eS l) (pid fd:Int):kH ae l pid fd=some (match cy l pid fd with|some w=>(w,true)|none=>(0,false)):=by
 show(EL ae l pid fd).val=_;unfold EL cy;have b:CW ae l fd pid=match l.find? (λd=>d.aa==pid&&d.bm==fd) with|some z=>some (.inl z.b3)|none=>some (.inr (false,(l.length:Int))):=by
  show bF (λi z a=>(uB ae l fd pid i z a).val) (λi a=>(sJ ae l fd pid i a).val) 0 l ()=_;rw[h5 (p:=λd=>d.aa==pid&&d.bm==fd) (e:=λz=>.inl z.b3)]
  .unfold sJ;cases l.find? (λd=>d.aa==pid&&d.bm==fd)<;>simp
  .intro i z _;unfold uB;simp only[T.aH,T.aD];cases z.aa==pid<;>cases z.bm==fd<;>rfl
 simp only[T.aN,T.aH,T.bt,T.cx,T.aD,f47 h,b,γ,show((0:Int) !=0)=false from rfl,cond_false];cases l.find? (λd=>d.aa==pid&&d.bm==fd)<;>rfl
theorem aiY {l:List ai} (h:eS l) (aZ:Int):vN ae l aZ=some (hf l aZ:Int):=by
 show(Ew ae l aZ).val=_;unfold Ew hf;have hlen:=h.len;have c:Di ae l aZ []=some (false,(l.length:Int),l.filter λd=>d.b3==aZ):=by
  show bF (λi z a=>(uP ae l aZ i z a).val) (λi a=>(s9 ae l aZ i a).val) 0 l []=_;rw[mu (p:=λd=>d.b3==aZ) (f:=id)]
  .unfold s9;simp
  .intro i z a g e;have hi:=(δ.1 g).1;unfold uP;simp only[T.aN,T.aH,T.aD,hL (b:=24) (z:=z) e hi (by omega),γ];cases z.b3==aZ<;>rfl
 simp only[T.aN,T.aH,T.bt,T.aD,f47 h,c,γ,show((0:Int) !=0)=false from rfl,cond_false]
theorem Ug {α:Type} (p:α->Bool) (l:List α):l.take (l.takeWhile p).length=l.takeWhile p/\l.drop (l.takeWhile p).length=l.dropWhile p:=by
 have h:=take_drop p l;constructor
 .conv=>lhs;arg 2;rw[<-h]
  exact η5
 .conv=>lhs;arg 2;rw[<-h]
  exact η6
theorem HV {α:Type} {b:Nat} {l:List α} {lt:α->Bool} {x:α} (hl:(l.length+1)*b<=1099511627776):Go.Dc.hW b l ((l.takeWhile lt).length:Int) [x]=some (b1 lt x l):=by
 obtain⟨a,c⟩:=Ug lt l;have:=(ξU (l:=l) lt).length_le;unfold Go.Dc.hW b1;rw[if_pos ⟨by omega,by omega,by simpa using hl⟩,ζ,a,c];simp
theorem Rf {α:Type} {b:Nat} {l:List α} {c:Int} {z:α} (d:(l.length:Int)<=c) (a:(b:Int)*c<=281474976710656) (h:c<=281474976710656):nV b (l.length:Int) c z=some (η7 l.length z)/\cg (η7 l.length z) l=l:=by
 constructor
 .unfold nV;rw[if_pos ⟨by omega,d,a,h⟩,ζ]
 .unfold cg;simp
theorem px {α X:Type} {step:Int×Int->Option ((Int×Int)⊕X)} {l:List α} {lt:α->Bool} {x:Nat->X} (j:l.Pairwise λa b=>lt b=true->lt a=true) (hl:l.length<=100)
  (h: ∀lo hi m:Nat,lo<hi->hi<=l.length->m=(lo+hi)/2-> ∀(hm:m<l.length),μ.wrap ((ξe.wrap (μ.wrap ((lo:Int)+(hi:Int)))).fdiv 2)=(m:Int)->μ.wrap ((m:Int)+1)=((m+1:Nat):Int)->step ((lo:Int),(hi:Int))=bif lt l[m] then some (.inl (((m+1:Nat):Int),(hi:Int))) else some (.inl ((lo:Int),(m:Int))))
  (hN: ∀c:Nat,step ((c:Int),(c:Int))=some (.inr (x c))):cm step 1000000 (0,(l.length:Int))=some (x (l.takeWhile lt).length):=by
 have g:(l.takeWhile lt).length<=l.length:=(ξU (l:=l) lt).length_le;refine FC (q:=λi=>match l[i]? with|some z=>lt z|none=>false) g (λi hi=>?_) (λi hi f=>?_) (λlo hi f hle=>?_) (hN _) l.length 0 l.length 1000000 (by omega) (by omega) (by omega) g (ξa _)
 .have d:l[i]? =some l[i]:=ε (by omega);simp only[d];exact(Fx j i _ d).2 hi
 .have d:l[i]? =some l[i]:=ε f;simp only[d];cases e:lt l[i] with
  |false=>rfl
  |true=>have:=(Fx j i _ d).1 e;omega
 .have hm:(lo+hi)/2<l.length:=by omega
  rw[h lo hi _ f hle rfl hm (half (by omega)) (cr (by omega) (by omega)),ε hm];cases k:lt l[(lo+hi)/2]<;>simp[k]
theorem aaF {l:List ai} (h:l.Pairwise λa b=>cC a b=true) (n:ai):l.Pairwise λa b=>cC b n=true->cC a n=true:=h.imp λ{a b} c d=>Fy a b n c d
theorem aif {l:List ai} (pid:Int): ∀ {a:List Bool} {j:Nat},a.length=8->(∀d∈l,0<=d.bm/\d.bm<=7)->j<8->
  gw (l.foldl (λa z=>bif z.aa==pid then a.set z.bm.toNat true else a) a) j=(gw a j||(cy l pid j).isSome):=by
 unfold cy
 induction l with
 |nil=>intro a j _ _ _;simp
 |cons z r h=>
  intro a j c b g;have m:=b z τ;rw[ξf,h (by cases z.aa==pid<;>simp[c]) (λd f=>b d (ο _ f)) g,ξQ];cases e:z.aa==pid with
  |false=>rfl
  |true=>
   have:gw (a.set z.bm.toNat true) j=(gw a j||(z.bm==(j:Int))):=by
    unfold gw;rw[ξW]
    by_cases k:z.bm.toNat=j
    .rw[if_pos k,if_pos (by omega),show(z.bm==(j:Int))=true by simp;omega];simp
    .rw[if_neg k,show(z.bm==(j:Int))=false by simp;omega];simp
   rw[cond_true,this];cases i:z.bm==(j:Int)<;>simp
theorem UJ {l:List ai} (h:eS l) {pid:Int} (hp:pid<4294967296) (aZ:Int):pR ae l pid aZ=some (match fO l pid aZ with| .ok (q,v)=>(q,v,0)| .error e=>([],0,e)):=by
 show(Er ae l pid aZ).val=_;unfold Er fO;have hlen:=h.len;have t: ∀d∈l,0<=d.bm/\d.bm<=7:=λd f=>by have:=h.is d f;simp[fi] at this;omega
 have A:CV ae l pid aZ [false,false,false,false,false,false,false,false]=some (false,(l.length:Int),l.foldl (λa z=>bif z.aa==pid then a.set z.bm.toNat true else a) [false,false,false,false,false,false,false,false]):=by
  show bF (λi z a=>(uz ae l pid aZ i z a).val) (λi a=>(oD ae l pid aZ i a).val) 0 l _=_;refine(yo (fin:=λi a=>(oD ae l pid aZ i a).val) (Q:=λ_ a=>a.length=8) (g:=λa z=>bif z.aa==pid then a.set z.bm.toNat true else a) (λi z a I u=>?_) l [] _ rfl rfl).trans (by unfold oD;simp);have J:=t z (κ I);refine⟨?_,by cases z.aa==pid<;>simp[u]⟩;unfold uz;simp only[T.aN,T.aH,T.aD,T.mI,ja (n:=8) J.1 (by omega),γ,u,show Nat.beq 8 8=true from rfl,cond_true];cases z.aa==pid<;>rfl
 have B:CQ ae (l.foldl (λa z=>bif z.aa==pid then a.set z.bm.toNat true else a) [false,false,false,false,false,false,false,false]) 0=match gr l pid with|some i=>some (.inl (i:Int))|none=>some (.inr (false,8)):=by
  show cm (λa=>(o1 ae _ a).val) 1000000 ((0:Nat):Int)=_;rw[mJ (q:=λi:Nat=>(cy l pid i).isSome) (x:=λi=>.inl (i:Int)) (y:=.inr (false,8)) (N:=8) (λa s=>?_) (by unfold o1;rfl) (k:=8) (by omega) (by omega)]
  .unfold gr;rw[ξM];simp only[Option.not_isSome];cases (ξX 0 8).find? (λi:Nat=>(cy l pid i).isNone)<;>rfl
  .unfold o1;have f:decide ((a:Int)<8)=true:=decide_eq_true (by omega);have w:gw [false,false,false,false,false,false,false,false] a=false:=by
    have: ∀b:Nat,b<8->gw [false,false,false,false,false,false,false,false] b=false:=by decide
    exact this a s
   simp only[T.aN,T.aH,T.aD,f,cond_true,ja (j:=(a:Int)) (n:=8) (by omega) (by omega),ζ,γ,aif pid (a:=[false,false,false,false,false,false,false,false]) rfl t s,w,ξd,show μ.wrap ((a:Int)+1)=((a+1:Nat):Int) from cr (by omega) (by omega)];cases (cy l pid a).isSome<;>rfl
 have G:decide (pid>=4294967296)=false:=decide_eq_false (by omega);obtain⟨D,E⟩:=Rf (b:=24) (l:=l) (c:=(l.length:Int)) (z:=ai.mk 0 0 0) (by omega) (by omega) (by omega);simp only[T.aN,T.aH,T.bt,T.cx,T.aD,f47 h,A,B,G,γ,show((0:Int) !=0)=false from rfl,cond_false];cases K:gr l pid with
 |none=>rfl
 |some i=>
  have hi:decide ((i:Int)<0)=false:=decide_eq_false (by omega);simp only[γ,hi,cond_false];cases r:l.length==64 with
  |true=>
   have:((l.length:Int)==64)=true:=by simp at r ⊢;omega
   simp only[this,cond_true]
  |false=>
   have:((l.length:Int)==64)=false:=by simp at r ⊢;omega
   simp only[this,cond_false,D,E,γ];have C:CR ae l pid i aZ (l.length:Int) (l.length:Int) 0=some (false,((l.takeWhile λy=>cC y ⟨pid,i,aZ⟩).length:Int),((l.takeWhile λy=>cC y ⟨pid,i,aZ⟩).length:Int)):=by
    show cm (λa=>(o2 ae l pid i aZ (l.length:Int) a).val) 1000000 (0,(l.length:Int))=_;refine px (lt:=λy=>cC y ⟨pid,i,aZ⟩) (x:=λc=>(false,(c:Int),(c:Int))) (aaF h.ord _) (by omega) (λlo hi m L hle hm F hw H=>?_) λc=>?_
    .unfold o2;have f:decide ((lo:Int)<(hi:Int))=true:=decide_eq_true (by omega);have o:l[m]? =some l[m]:=ε F;have p:decide (pC l[m] ⟨pid,i,aZ⟩<0)=cC l[m] ⟨pid,i,aZ⟩:=by
      have:=NA l[m] ⟨pid,i,aZ⟩;rw[η] at this ⊢;simp at this ⊢;rw[<-Bool.not_eq_false,<-this];omega
     simp only[T.aN,T.aH,T.aD,f,cond_true,hw,H,d' o,ζ,o,γ,Kc,p]
    .unfold o2;simp
   rw[C];simp only[γ,nO,HV (b:=24) (l:=l) (lt:=λy=>cC y ⟨pid,i,aZ⟩) (x:=ai.mk pid i aZ) (by omega)]
   by_cases p:(l.takeWhile λy=>cC y ⟨pid,i,aZ⟩).length<l.length
   .have f:decide (((l.takeWhile λy=>cC y ⟨pid,i,aZ⟩).length:Int)<(l.length:Int))=true:=decide_eq_true (by omega);have o:=ε p;simp only[f,cond_true,d' o,ζ,o,γ,Kc]
   .have f:decide (((l.takeWhile λy=>cC y ⟨pid,i,aZ⟩).length:Int)<(l.length:Int))=false:=decide_eq_false (by omega);simp only[f,cond_false]
theorem aiV {l:List ai} (h:eS l) {pid:Int} (hp:pid<4294967296) (fd:Int):vK ae l pid fd=some (match fX l pid fd with| .ok (q,v)=>(q,v,0)| .error e=>([],0,e)):=by
 show(Et ae l pid fd).val=_;unfold Et fX;have a:decide (pid>=4294967296)=false:=decide_eq_false (by omega);simp only[T.aN,T.aH,T.aD,f47 h,v232 h,a,γ,show((0:Int) !=0)=false from rfl,cond_false];cases cy l pid fd with
 |none=>rfl
 |some w=>
  simp only[UJ h hp,γ,ι,cond_false]
theorem aiU {l:List ai} (h:eS l) (pid fd:Int):vJ ae l pid [fd]=some (match gH l pid fd with| .ok q=>(q,0)| .error e=>([],e)):=by
 show(Es ae l pid [fd]).val=_;unfold Es gH;have hlen:=h.len;have n: ∀w,cy l pid fd=some w->Dh ae l pid fd w []=some (false,(l.length:Int),l.filter λd=>!(d.aa==pid&&d.bm==fd)):=by
  intro w hw;show bF (λi z a=>(uO ae l pid fd w i z a).val) (λi a=>(s8 ae l pid fd w i a).val) 0 l []=_;rw[mu (p:=λd=>!(d.aa==pid&&d.bm==fd)) (f:=id)]
  .unfold s8;simp
  .intro i z a g r;have hi:=(δ.1 g).1;have he:hP z ⟨pid,fd,w⟩=(z.aa==pid&&z.bm==fd):=by
    unfold hP;cases e:z.aa==pid&&z.bm==fd with
    |false=>simp[e]
    |true=>
     obtain⟨d,s,j,k,m⟩:=OQ hw;have c:=e;rw[θ] at c;have:=abx h (κ g) s ((eq_of_beq c.1).trans j.symm) ((eq_of_beq c.2).trans k.symm);subst this;simp[m]
   unfold uO;simp only[T.aN,T.aH,T.aD,ζ,g,he,hL (b:=24) (z:=z) r hi (by omega),γ];cases z.aa==pid&&z.bm==fd<;>rfl
 have o:CF ae pid [fd] l true=match cy l pid fd with
   |some w=>some (.inr (false,true,1,l.filter λd=>!(d.aa==pid&&d.bm==fd)))
   |none=>some (.inl (true,false,0,fd,true,true,0,l)):=by
  show bF (λi z a=>(uk ae pid [fd] i z a).val) (λi a=>(y_ ae pid [fd] i a).val) 0 [fd] (true,l)=_;unfold bF uk;simp only[T.aN,T.aH,T.bt,T.aD,v232 h,γ];cases t:cy l pid fd with
  |none=>rfl
  |some w=>
   simp only[n w t,γ,ι,cond_false];rfl
 simp only[T.aN,T.aH,T.bt,T.cx,T.aD,f47 h,o,g' (b:=24) (l:=l) (by omega),γ,show((0:Int) !=0)=false from rfl,cond_false];cases cy l pid fd<;>rfl
theorem OF {m:a1} (h:eT m):tc bV m:=⟨λz a=>I3 (h.path z a).1,by have:=h.len;unfold maxLen;omega⟩
theorem yP {m:a1} (h:eT m) {w:Int} (hw:cd w):nE ae m w=some (bif bV w then 0 else 310):=by
 show(EI ae m w).val=_;unfold EI;simp only[T.aN,T.aH,T.aD,J8 (OF h),(S1 λx a=>(h.path x a).1).2 h,I3 hw,γ];rfl
theorem J6 {w:Int} (hw:cd w):lL ae w=some (bif bV w then⟨(bE w).map bs,w⟩ else⟨[],0⟩,bV w):=by
 obtain⟨n,rfl⟩:=ξh hw.1;exact v131 (by have:=hw.2;omega)
theorem k2 {w:Int} (hw:bV w=true):(bE w).all cV=true/\(∀p∈bE w,(∀x∈p,x<256)/\p.length<=100)/\(bE w).length<=4/\(jt (bE w)).length<=8:=by
 unfold bV at hw;rw[θ] at hw;have c:=nj w.toNat;have hl:=kE 8 w.toNat;unfold bE mf;generalize dg 8 w.toNat=d at*
 have a:=hw.2;unfold jd at a
 by_cases e:d=[47]
 .rw[if_pos e];exact⟨rfl,by simp,by simp,by simp[jt]⟩
 .rw[if_neg e];rw[decide_eq_false e,ξd] at a;cases d with
  |nil=>cases a
  |cons x t=>
   split at a
   .rename_i t' b;rw[θ,decide_eq_true_eq] at a;refine⟨a.1,λp hp=>Rd c hl ⟨_,b⟩ hp,a.2,?_⟩;rw[q0 _ (x::t) (ξa _) (.inr ⟨_,b⟩)];exact hl
   .cases a
theorem aiM {w:Int} (hw:bV w=true) (k:Nat):jR ae (((bE w).map bs).take k)=some (fc ((bE w).take k),(iQ (bs (tx ((bE w).take k)))).2==0&&decide (((bE w).take k).length<=4)):=by
 obtain⟨c,d,e,f⟩:=k2 hw;rw[<-ζP];have g:(jt ((bE w).take k)).length<=8:=by
  have:jt (bE w)=jt ((bE w).take k)++jt ((bE w).drop k):=by rw[<-H4,ζ1]
  have:=congrArg ζI this;rw[υ] at this;omega
 refine yO (ξ7.2 λp hp=>ξ7.1 c p (ξ2 hp)) (λp hp=>d p (ξ2 hp)) ?_ (by simp;omega);generalize (bE w).take k=ps at*
 cases ps with
 |nil=>simp[tx]
 |cons a b=>show(jt (a::b)).length<=500;omega
theorem v226 {w:Int} (hw:cd w) (hp:bV w=true):GP ae w=some (la w,0):=by
 show(EJ ae w).val=_;unfold EJ;obtain⟨l,o,p,q⟩:=k2 hp;have f: ∀(k n:Nat) (acc:Γa),k<n->acc.length+k<=20->k<=(bE w).length+1->cm (λa=>(m3 ae ((bE w).map bs) w a).val) n ((k:Int)-1,acc)=some (false,-1,acc++(ξw k).reverse.map λj=>fc ((bE w).take j)):=by
  intro k
  induction k with
  |zero=>
   intro n acc hn _ _;obtain⟨n,rfl⟩: ∃m,n=m+1:=⟨n-1,by omega⟩;rw[dB];unfold m3;simp
  |succ k h=>
   intro n acc hn r s;obtain⟨n,rfl⟩: ∃m,n=m+1:=⟨n-1,by omega⟩;rw[dB];have e:decide (((k+1:Nat):Int)-1>=0)=true:=decide_eq_true (by omega);have d:dn ((bE w).map bs) none (some (((k+1:Nat):Int)-1)) (some (((k+1:Nat):Int)-1))=some (((bE w).map bs).take k):=by
    rw[show((k+1:Nat):Int)-1=(k:Int) by omega];unfold dn;simp only[ξo,ξ3];rw[if_pos ⟨by omega,by omega,by simp;omega,by omega,by simp;omega,by simp⟩,ζ];rfl
   have g:(m3 ae ((bE w).map bs) w (((k+1:Nat):Int)-1,acc)).val=some (.inl ((k:Int)-1,acc++[fc ((bE w).take k)])):=by
    unfold m3;simp only[T.aN,T.aH,T.aD,e,cond_true,d,aiM hp k,γ,hL (b:=8) (i:=20) (n:=21) (a:=acc) (z:=fc ((bE w).take k)) (by omega) (by omega) (by omega)];rw[show((k+1:Nat):Int)-1-1=(k:Int)-1 by omega,cr (x:=(k:Int)-1) (by omega) (by omega)]
   simp only[g,γ];rw[h n _ (by omega) (by rw[υ,ξ6];omega) (by omega),η3,ζL,ζv,ξF,ζ6,ξH];rfl
 have c:CP ae ((bE w).map bs) w (((bE w).map bs).length:Int) []=some (false,-1,la w):=by
  have:=f ((bE w).length+1) 1000000 [] (by omega) (by simp;omega) (by omega);rw[show(((bE w).length+1:Nat):Int)-1=(((bE w).map bs).length:Int) by simp] at this;exact this
 simp only[T.aN,T.aH,T.bt,T.aD,J6 hw,hp,cond_true,γ,ι,cond_false,c]
theorem Nk {p q:Γ} (hp: ∀x∈p,x<256) (c: ∀x∈q,x<256):((bs p).toList==(bs q).toList)=decide (p=q):=by
 rw[ξP,ξP,η,beq_iff_eq,decide_eq_true_eq];constructor
 .intro e;have e:p.map ξn=q.map ξn:=by simpa[bs] using e
  have a:=congrArg (ζr ζo) e;have b: ∀l:Γ,(∀x∈l,x<256)->(l.map ξn).map ζo=l:=by
   intro l hl;rw[ζW]
   conv=>rhs;rw[<-η2 l]
   refine List.map_congr_left λx d=>?_;have:=hl x d;simp;omega
  rw[b p hp,b q c] at a;exact a
 .rintro rfl;rfl
theorem ai3 {a b:Int} (s:cd a) (t:cd b):GQ ae a b=some (dG a b):=by
 show(EO ae a b).val=_;unfold EO dG;simp only[T.aN,T.aH,T.bt,T.aD,T.cx,J6 s,J6 t,γ];cases n:bV a with
 |false=>rfl
 |true=>
  cases o:bV b with
  |false=>rfl
  |true=>
   simp only[cond_true,ξ,ξl];obtain⟨_,a2,a3,_⟩:=k2 n;obtain⟨_,m,w,_⟩:=k2 o;generalize bE a=p at*
   generalize bE b=q at*
   by_cases hl:p.length<=q.length
   .have d:decide ((p.length:Int)<=(q.length:Int))=true:=decide_eq_true (by omega);have u:dn (q.map bs) none (some (p.length:Int)) none=some ((q.take p.length).map bs):=by rw[F4 (by simpa using hl),ζP]
    have hn:((p.length:Int) !=(((q.take p.length).map bs).length:Int))=false:=by simp;omega
    have r:C3 ae (p.map bs) ((q.take p.length).map bs)=bif decide (q.take p.length=p) then some (.inr (false,(p.length:Int))) else some (.inl ()):=by
     show bF (λi z c=>(uE ae (p.map bs) ((q.take p.length).map bs) i z c).val) (λi c=>(sM ae (p.map bs) ((q.take p.length).map bs) i c).val) 0 (p.map bs) ()=_;rw[gV (q:=λi z=>match((q.take p.length).map bs)[i]? with|some y=>z.toList==y.toList|none=>false) (x:=.inl ()) λi z f=>?_]
     .have:allI (λi z=>match((q.take p.length).map bs)[i]? with|some y=>z.toList==y.toList|none=>false) 0 (p.map bs)=decide (q.take p.length=p):=by
       rw[η,jD,decide_eq_true_eq];constructor
       .intro h;refine List.ext_getElem (by simp;omega) λi g j=>?_;have:=h i (bs p[i]) (by rw[ξ8,ε j];rfl);rw[ξ4,ξ8,ε g,ζ8] at this;have:=(Nk (a2 _ (ξO j)).1 (m _ (ξ2 (ξO g))).1).symm.trans this;exact(of_decide_eq_true this).symm
       .intro h k z f;rw[ξ4,h,f];exact beq_self_eq_true _
      rw[this];unfold sM;simp
     .unfold uE;have hi:=(δ.1 f).1;have v:i<((q.take p.length).map bs).length:=by simp at hi ⊢;omega
      have l:((q.take p.length).map bs)[i]? =some ((q.take p.length).map bs)[i]:=ε v;simp only[T.aN,T.aH,T.aD,d' l,l,γ];cases z.toList==((q.take p.length).map bs)[i].toList<;>rfl
    have e:p.isPrefixOf q=decide (q.take p.length=p):=by
     rw[η,ξk,ζs,decide_eq_true_eq];exact eq_comm
    rw[d,u,e];simp only[cond_true,γ,hn,cond_false,r];cases decide (q.take p.length=p)<;>rfl
   .have d:decide ((p.length:Int)<=(q.length:Int))=false:=decide_eq_false (by omega);have e:p.isPrefixOf q=false:=by
     rw[<-Bool.not_eq_true,ξk];intro h;exact hl h.length_le
    rw[d,e];rfl
theorem Q5 (j:Int): ∀(l:List ax) (m:Γc),l.Pairwise (λa b=>a.aP≠b.aP)->bR (mapM m l) j=match l.find? (λx=>x.aP==j) with|some x=>some x.aS|none=>bR m j
 |[],m,_=>rfl
 |z::r,m,h=>by
  rw[ξi] at h;show bR (mapM (cL m z.aP z.aS) r) j=_;rw[Q5 j r _ h.2,ξQ,xK];cases e:z.aP==j with
  |true=>
   have e:=eq_of_beq e;rw[kK.2 λy c=>by have:=h.1 y c;rw[e] at this;simpa using λk=>this k.symm];simp[e]
  |false=>
   have: ¬j=z.aP:=λk=>by rw[k] at e;simp at e
   simp only[if_neg this]
theorem xw {m:a1} (h:eT m) (w:Int):bR (m.ab.foldl (λa z=>cL a z.aP z.aS) []) w=cq m w:=by
 rw[fold_map,Q5 w _ _ h.new];unfold cq;cases m.ab.find? (λx=>x.aP==w)<;>rfl
theorem xM {X:Type} {S:Int->ax->Γc->T (Γc⊕X)} {F:Int->Γc->T X} {l:List ax} (b: ∀i z a,(S i z a).val=some (.inl (cL a z.aP z.aS))):
  bF (λi z a=>(S i z a).val) (λi a=>(F i a).val) 0 l []=(F (l.length:Int) (l.foldl (λa z=>cL a z.aP z.aS) [])).val:=by
 rw[mr (g:=λa z=>cL a z.aP z.aS) λi z a _=>b i z a];simp
def rZ:a1:=⟨[],0⟩
theorem aiW {m:a1} (h:eT m) {w:Int} (hw:cd w):vL ae m w=some (match gF m w with| .ok (q,v)=>(q,v,0)| .error e=>(rZ,0,e)):=by
 show(Eu ae m w).val=_;unfold Eu gF;have hlen:=h.len;have p:=h.n1;have r:=h.n2;have f:Dn ae m.ab []=some (false,(m.ab.length:Int),m.ab.foldl (λa z=>cL a z.aP z.aS) []):=by
  refine(xM λi z a=>rfl).trans ?_;unfold zf;simp
 obtain⟨g,j⟩:=Rf (b:=16) (l:=m.ab) (c:=μ.wrap ((m.ab.length:Int)+1)) (z:=ax.mk 0 0) (by rw[cr (by omega) (by omega)];omega) (by rw[cr (by omega) (by omega)];omega) (by rw[cr (by omega) (by omega)];omega);simp only[T.aN,T.aH,T.bt,T.aD,yP h hw,γ,f,xw h,g,j];cases hp:bV w with
 |false=>rfl
 |true=>
  simp only[cond_true,cond_false,show((0:Int) !=0)=false from rfl];cases hi:cq m w with
  |some i=>rfl
  |none=>
   have d:((m.ab.length:Int)==16)=(m.ab.length==16):=by rw[η];simp;omega
   simp only[ζR,cond_false,d];cases o:m.ab.length==16 with
   |true=>rfl
   |false=>
    cases hn:decide (m.aL>1073741824) with
    |true=>rfl
    |false=>
     have:app 16 m.ab [ax.mk w m.aL]=some (m.ab++[ax.mk w m.aL]):=hL (i:=16) (n:=17) hlen (by omega) (by omega);have k:ξe.wrap (m.aL+1)=m.aL+1:=fT (by omega) (by omega);simp only[cond_false,this,γ,k,ηi]
theorem aiX {m:a1} (h:eT m) {w:Int} (hw:cd w):vM ae m w=some (match iv m w with| .ok v=>(v,0)| .error e=>(0,e)):=by
 show(Ev ae m w).val=_;unfold Ev iv;have b:Dp ae m.ab []=some (false,(m.ab.length:Int),m.ab.foldl (λa z=>cL a z.aP z.aS) []):=by
  refine(xM λi z a=>rfl).trans ?_;unfold zg;simp
 simp only[T.aN,T.aH,T.bt,T.aD,yP h hw,γ,b,xw h];cases bV w with
 |false=>rfl
 |true=>cases cq m w<;>rfl
theorem v193 {m:a1} (h:eT m) {w:Int} (hw:cd w):vO ae m w=some (match hC m w with| .ok v=>(v,0)| .error e=>(rZ,e)):=by
 show(Ex ae m w).val=_;unfold Ex hC;have hlen:=h.len;have j:Dq ae m.ab []=some (false,(m.ab.length:Int),m.ab.foldl (λa z=>cL a z.aP z.aS) []):=by
  refine(xM λi z a=>rfl).trans ?_;unfold zh;simp
 have d:CX ae m.ab m.aL w=bif hM m w then some (.inl ()) else some (.inr (false,(m.ab.length:Int))):=by
  show bF (λi z a=>(uC ae m.ab m.aL w i z a).val) (λi a=>(sK ae m.ab m.aL w i a).val) 0 m.ab ()=_;unfold hM;rw[h5 (p:=λx=>!(x.aP==w)&&dG w x.aP) (e:=λ_=>.inl ()),<-He]
  .unfold sK;cases m.ab.find? (λx=>!(x.aP==w)&&dG w x.aP)<;>simp
  .intro i z c;unfold uC;simp only[T.aN,T.aH,T.aD,ai3 hw (h.path z c).1,γ,bne];cases z.aP==w<;>cases dG w z.aP<;>rfl
 have g:CS ae m.ab w []=some (false,(m.ab.length:Int),m.ab.filter λx=>!(x.aP==w)):=by
  show bF (λi z a=>(uw ae m.ab w i z a).val) (λi a=>(sF ae m.ab w i a).val) 0 m.ab []=_;rw[mu (p:=λx=>!(x.aP==w)) (f:=id)]
  .unfold sF;simp
  .intro i z a c k;have hi:=(δ.1 c).1;unfold uw;simp only[T.aN,T.aH,T.aD,bne,hL (b:=16) (z:=z) k hi (by omega),γ];cases z.aP==w<;>rfl
 simp only[T.aN,T.aH,T.bt,T.cx,T.aD,yP h hw,γ,j,xw h,d,g];cases bV w with
 |false=>rfl
 |true=>
  cases cq m w with
  |none=>rfl
  |some i=>cases hM m w<;>rfl
def IV:(Bool×Int×Int×Bool×Int×Int)⊕(Bool×Int×Int)->Int
 | .inl y=>y.2.1
 | .inr y=>y.2.1
theorem v183 {m:a1} (h:eT m) {w:Int} (hw:cd w):nC ae m w=some (match fG m w with| .ok v=>(v,0)| .error e=>(0,e)):=by
 show(Ep ae m w).val=_;unfold Ep fG jv;have k:Dm ae m.ab []=some (false,(m.ab.length:Int),m.ab.foldl (λa z=>cL a z.aP z.aS) []):=by
  refine(xM λi z a=>rfl).trans ?_;unfold ze;simp
 have f: ∀ {u i},cq m u=some i->0<i:=λe=>by
  obtain⟨x,q,_,rfl⟩:=nM e;have:=h.id x q;omega
 have n: ∀(l:Γa) (c:Γa) (j:Nat),∃y,bF (λi z a=>(oX ae c (m.ab.foldl (λa z=>cL a z.aP z.aS) []) i z a).val) (λi a=>(y9 ae c (m.ab.foldl (λa z=>cL a z.aP z.aS) []) i a).val) j l 0=some y/\IV y=(l.findSome? (cq m)).getD 0:=by
  intro l c
  induction l with
  |nil=>intro j;exact⟨_,rfl,rfl⟩
  |cons u r t=>
   intro j;have p:(oX ae c (m.ab.foldl (λa z=>cL a z.aP z.aS) []) j u 0).val=bif decide ((cq m u).getD 0>0) then some (.inr (.inl (decide ((cq m u).getD 0>0),(cq m u).getD 0,u,decide ((j:Int)<(c.length:Int)),0,(j:Int)))) else some (.inl ((cq m u).getD 0)):=by
    unfold oX;simp only[T.aH,T.aD,xw h]
   rw[gW,ζM,p];cases e:cq m u with
   |some i=>
    have:decide ((some i).getD 0>0)=true:=decide_eq_true (f e);rw[this];exact⟨_,rfl,rfl⟩
   |none=>
    have:decide ((none:Option Int).getD 0>0)=false:=rfl;rw[this];exact t (j+1)
 simp only[T.aN,T.aH,T.bt,T.cx,T.aD,yP h hw,γ,k];cases hp:bV w with
 |false=>rfl
 |true=>
  obtain⟨y,d,o⟩:=n (la w) (la w) 0;have d:CE ae (la w) (m.ab.foldl (λa z=>cL a z.aP z.aS) []) 0=some y:=d;simp only[cond_true,cond_false,show((0:Int) !=0)=false from rfl,v226 hw hp,γ,d];have s: ∀(x:Int),(bif x==0 then some ((0:Int),(4:Int)) else some (x,0))=some (if x=0 then(0,4) else(x,0)):=λx=>by
   by_cases e:x=0
   .simp[e]
   .rw[show(x==0)=false by simpa using e,if_neg e];rfl
  refine Eq.trans (b:=some (if IV y=0 then((0:Int),(4:Int)) else(IV y,0))) (by cases y<;>exact s _) ?_;rw[o];cases g:(la w).findSome? (cq m) with
  |none=>rfl
  |some i=>
   obtain⟨u,_,hu⟩:=ξy g;have:=f hu;have: ¬i=0:=by omega
   simp[this]
theorem f49 {s:aC} (h:ew s) (b:s.ak.length<=16):jU ae s=some 0:=by
 rw[v49 ⟨λz a=>(h.name z a).1,by have:=h.len;unfold maxLen;omega,by unfold maxLen;omega⟩,(S0 λz a=>(h.name z a).1).2 h];rfl
section
variable {α:Type} {key:α->Int} {l:List α} {n:Int}
theorem JV (c:l.Pairwise λa b=>key a<key b):l.takeWhile (λz=>decide (key z<n))=l.filter (λz=>decide (key z<n))/\l.dropWhile (λz=>decide (key z<n))=l.filter (λz=>!decide (key z<n)):=by
 induction l with
 |nil=>exact⟨rfl,rfl⟩
 |cons z r j=>
  rw[ξi] at c;obtain⟨f,g⟩:=j c.2;rw[ξ0,ξb,ξj,ξj];cases e:decide (key z<n) with
  |true=>simp only[if_true,f,g,ι,ξm,if_false];exact⟨trivial,trivial⟩
  |false=>
   have e:=of_decide_eq_false e;have h:r.filter (λz=>decide (key z<n))=[]:=List.filter_eq_nil_iff.2 λy d=>by have:=c.1 y d;simp;omega
   have i:r.filter (λz=>!decide (key z<n))=r:=filter_all λy d=>by have:=c.1 y d;simp;omega
   simp[h,i]
theorem rF (e:l.Pairwise λa b=>key a<key b):
  (l.find? (λz=>key z==n)=none/\(∀z,l[(l.takeWhile λz=>decide (key z<n)).length]? =some z->key z≠n)/\l.dropWhile (λz=>decide (key z<n))=l.filter λz=>decide (n<key z))\/
  ∃z,l.find? (λz=>key z==n)=some z/\key z=n/\l[(l.takeWhile λz=>decide (key z<n)).length]? =some z/\l.dropWhile (λz=>decide (key z<n))=z::l.filter λz=>decide (n<key z):=by
 induction l with
 |nil=>exact .inl ⟨rfl,by simp,rfl⟩
 |cons z r k=>
  rw[ξi] at e;rw[ξQ,ξ0,ξb,ξj]
  by_cases h:key z<n
  .have f:(key z==n)=false:=by simp;omega
   have g:decide (n<key z)=false:=by simp;omega
   simp only[f,g,decide_eq_true h,if_true,ω,ζp,ξm,if_false];exact k e.2
  .have i:decide (key z<n)=false:=decide_eq_false h;have j:r.filter (λz=>decide (n<key z))=r:=filter_all λy d=>by have:=e.1 y d;simp;omega
   simp only[i,ξm,if_false,ζy,ζq,j]
   by_cases c:key z=n
   .right;exact⟨z,by simp[c],c,rfl,by simp[c]⟩
   .left;have f:(key z==n)=false:=by simpa using c
    have g:decide (n<key z)=true:=by simp;omega
    simp only[f,g,if_true];refine⟨kK.2 λy d=>by have:=e.1 y d;simp;omega,λy d=>?_,trivial⟩;cases d;exact c
end
theorem vk (x y:Int):decide (hc x y<0)=decide (x<y):=by
 unfold hc;rw[η,decide_eq_true_eq,decide_eq_true_eq];split
 .simp[*]
 .split
  .simp;omega
  .simp;omega
theorem cmp_eq (x y:Int):(hc x y==0)=decide (x=y):=by
 unfold hc;rw[η,decide_eq_true_eq,beq_iff_eq];split
 .constructor
  .intro h;omega
  .intro h;omega
 .split
  .constructor
   .intro h;omega
   .intro h;omega
  .constructor
   .intro _;omega
   .intro _;rfl
theorem xH {α:Type} {key:α->Int} {l:List α} {n:Int} (d:l.Pairwise λa b=>key a<key b):l.Pairwise λa b=>decide (key b<n)=true->decide (key a<n)=true:=d.imp λ{a b} e c=>decide_eq_true (by have:=of_decide_eq_true c;omega)
theorem v31 {s:aC} (h:ew s) (g:s.ak.length<=16) (pid:Int):vZ ae s pid=some (ho s pid):=by
 show(ES ae s pid).val=_;unfold ES ho;have hlen:=h.len;have d:B9 ae s.an s.ak pid (s.an.length:Int) 0 []=some (false,(s.an.length:Int),(s.an.filter λy=>y.aa==pid).map av.aY):=by
  show cm (λa=>(oO ae s.an s.ak pid (s.an.length:Int) a).val) 1000000 (0,[])=_;rw[mK (p:=λy=>y.aa==pid) (f:=av.aY) (x:=λa=>(false,(s.an.length:Int),a)) (l:=s.an) (λi z a c e=>?_) (λa=>?_) (by omega)]
  .have hi:=(δ.1 c).1;have j:decide ((i:Int)<(s.an.length:Int))=true:=decide_eq_true (by omega);have hw:μ.wrap ((i:Int)+1)=((i+1:Nat):Int):=cr (by omega) (by omega);unfold oO;simp only[T.aN,T.aH,T.aD,j,cond_true,d' c,γ,hw,hL (b:=8) (z:=z.aY) e hi (by omega)];cases z.aa==pid<;>rfl
  .unfold oO;simp
 simp only[T.aN,T.aH,T.bt,T.aD,f49 h g,γ,d,show((0:Int) !=0)=false from rfl,cond_false]
theorem v196 {s:aC} (h:ew s) (o:s.ak.length<=16) {n:Int} (hn:cd n):nD ae s n=some (match f_ s n with| .ok p=>(p,0)| .error e=>(0,e)):=by
 show(EA ae s n).val=_;unfold EA f_ eC;have hlen:=h.len;have k:C0 ae s.an n 0 (s.an.length:Int)=some (false,((s.an.takeWhile λz=>decide (z.aY<n)).length:Int),((s.an.takeWhile λz=>decide (z.aY<n)).length:Int)):=by
  show cm (λa=>(o5 ae s.an n a).val) 1000000 (0,(s.an.length:Int))=_;refine px (l:=s.an) (lt:=λz=>decide (z.aY<n)) (x:=λc=>(false,(c:Int),(c:Int))) (xH (key:=av.aY) h.jn) (by omega) (λlo hi m u hle hm q hw t=>?_) λc=>?_
  .unfold o5;have b:decide ((lo:Int)<(hi:Int))=true:=decide_eq_true (by omega);have d:s.an[m]? =some s.an[m]:=ε q;simp only[T.aN,T.aH,T.aD,b,cond_true,hw,t,d' d,ζ,d,γ,h9,vk]
  .unfold o5;simp
 simp only[T.aN,T.aH,T.bt,T.aD,f49 h o,yR hn,γ,k,show((0:Int) !=0)=false from rfl,cond_false];cases dy n with
 |false=>rfl
 |true=>
  simp only[ι,cond_true,cond_false];rcases rF (key:=av.aY) (n:=n) h.jn with⟨f,g,_⟩|⟨z,f,g,i,_⟩
  .rw[f]
   by_cases j:(s.an.takeWhile λz=>decide (z.aY<n)).length<s.an.length
   .have d:=ε j;have r:=g _ d;have b:decide (((s.an.takeWhile λz=>decide (z.aY<n)).length:Int)<(s.an.length:Int))=true:=decide_eq_true (by omega);simp only[b,cond_true,d' d,γ,h9,cmp_eq,decide_eq_false r];rfl
   .have b:decide (((s.an.takeWhile λz=>decide (z.aY<n)).length:Int)<(s.an.length:Int))=false:=decide_eq_false (by omega);simp only[b,cond_false];rfl
  .rw[f];have j:=(δ.1 i).1;have b:decide (((s.an.takeWhile λz=>decide (z.aY<n)).length:Int)<(s.an.length:Int))=true:=decide_eq_true (by omega);simp only[b,cond_true,d' i,γ,h9,cmp_eq,decide_eq_true g];rfl
theorem FX {S:Int×List aq->T ((Int×List aq)⊕(Bool×Int×List aq))} {s:aC} (h:ew s) (k:s.ak.length<=16)
  (d: ∀a,(S a).val=bif decide (a.1<(s.ak.length:Int)) then(idx s.ak a.1).bind λz0=>(app 8 [] z0.a6).bind λj=>(app 32 a.2 [aq.mk z0.aa j]).bind λz2=>some (.inl (μ.wrap (a.1+1),z2)) else some (.inr (decide (a.1<(s.ak.length:Int)),a.1,a.2))):
  cm (λa=>(S a).val) 1000000 (0,[])=some (false,(s.ak.length:Int),s.ak):=by
 rw[mK (p:=λ_=>true) (f:=id) (x:=λa=>(false,(s.ak.length:Int),a)) (l:=s.ak) (λi z a c e=>?_) (λa=>?_) (by omega)]
 .rw[filter_all λ_ _=>rfl,η2]
 .have hi:=(δ.1 c).1;have g:decide ((i:Int)<(s.ak.length:Int))=true:=decide_eq_true (by omega);have hw:μ.wrap ((i:Int)+1)=((i+1:Nat):Int):=cr (by omega) (by omega);have m:=(h.box z (κ c)).2.2;rw[d];simp only[g,cond_true,d' c,γ,g' (b:=8) (l:=z.a6) (by omega),hw,hL (b:=32) (z:=z) e hi (by omega)];rfl
 .rw[d];simp
theorem v194 {s:aC} (h:ew s) (k:s.ak.length<=16) {n:Int} (hn:cd n) (pid:Int):vP ae s n pid=some (match gS s n pid with| .ok q=>(q,0)| .error e=>(⟨[],[]⟩,e)):=by
 show(Ey ae s n pid).val=_;unfold Ey gS eC;have hlen:=h.len;have r:B7 ae s.ak s.an (s.ak.length:Int) 0 []=some (false,(s.ak.length:Int),s.ak):=FX h k λa=>rfl;have t:CY ae n s.an 0 (s.an.length:Int)=some (false,((s.an.takeWhile λz=>decide (z.aY<n)).length:Int),((s.an.takeWhile λz=>decide (z.aY<n)).length:Int)):=by
  show cm (λa=>(o3 ae n s.an a).val) 1000000 (0,(s.an.length:Int))=_;refine px (l:=s.an) (lt:=λz=>decide (z.aY<n)) (x:=λc=>(false,(c:Int),(c:Int))) (xH (key:=av.aY) h.jn) (by omega) (λlo hi m B hle hm v hw A=>?_) λc=>?_
  .unfold o3;have d:decide ((lo:Int)<(hi:Int))=true:=decide_eq_true (by omega);have f:s.an[m]? =some s.an[m]:=ε v;simp only[T.aN,T.aH,T.aD,d,cond_true,hw,A,d' f,ζ,f,γ,h9,vk]
  .unfold o3;simp
 have u:=HV (b:=16) (l:=s.an) (lt:=λy=>decide (y.aY<n)) (x:=av.mk n pid) (by omega);have p:((s.an.length:Int)==16)=(s.an.length==16):=by rw[η];simp;omega
 simp only[T.aN,T.aH,T.bt,T.aD,T.mI,f49 h k,g' (b:=16) (l:=s.an) (by omega),yR hn,Ke,γ,r,t,p,nP,u,show((0:Int) !=0)=false from rfl,cond_false];cases dy n with
 |false=>rfl
 |true=>
  cases dR pid with
  |false=>rfl
  |true=>
   simp only[ι,cond_true,cond_false];rcases rF (key:=av.aY) (n:=n) h.jn with⟨g,i,_⟩|⟨z,g,i,j,_⟩
   .rw[g]
    by_cases o:(s.an.takeWhile λz=>decide (z.aY<n)).length<s.an.length
    .have f:=ε o;have w:=i _ f;have d:decide (((s.an.takeWhile λz=>decide (z.aY<n)).length:Int)<(s.an.length:Int))=true:=decide_eq_true (by omega);simp only[d,cond_true,d' f,ζ,f,γ,h9,cmp_eq,decide_eq_false w,cond_false];cases s.an.length==16<;>rfl
    .have d:decide (((s.an.takeWhile λz=>decide (z.aY<n)).length:Int)<(s.an.length:Int))=false:=decide_eq_false (by omega);simp only[d,cond_false];cases s.an.length==16<;>rfl
   .rw[g];have o:=(δ.1 j).1;have d:decide (((s.an.takeWhile λz=>decide (z.aY<n)).length:Int)<(s.an.length:Int))=true:=decide_eq_true (by omega);simp only[d,cond_true,d' j,ζ,j,γ,h9,cmp_eq,decide_eq_true i];rfl
theorem aiZ {s:aC} (h:ew s) (o:s.ak.length<=16) {n p:Int} (hn:cd n) (r:dy n=true) (e:eC s.an n=some p):vQ ae s n=some (mF s n,0):=by
 show(Ez ae s n).val=_;unfold Ez mF;unfold eC at e;have hlen:=h.len;have v:B8 ae s.ak s.an (s.ak.length:Int) 0 []=some (false,(s.ak.length:Int),s.ak):=FX h o λa=>rfl;have w:CZ ae n s.an 0 (s.an.length:Int)=some (false,((s.an.takeWhile λz=>decide (z.aY<n)).length:Int),((s.an.takeWhile λz=>decide (z.aY<n)).length:Int)):=by
  show cm (λa=>(o4 ae n s.an a).val) 1000000 (0,(s.an.length:Int))=_;refine px (l:=s.an) (lt:=λz=>decide (z.aY<n)) (x:=λc=>(false,(c:Int),(c:Int))) (xH (key:=av.aY) h.jn) (by omega) (λlo hi m F hle hm C hw D=>?_) λc=>?_
  .unfold o4;have f:decide ((lo:Int)<(hi:Int))=true:=decide_eq_true (by omega);have q:s.an[m]? =some s.an[m]:=ε C;simp only[T.aN,T.aH,T.aD,f,cond_true,hw,D,d' q,ζ,q,γ,h9,vk]
  .unfold o4;simp
 rcases rF (key:=av.aY) (n:=n) h.jn with⟨i,_,_⟩|⟨z,i,j,d,k⟩
 .rw[i] at e;cases e
 have E:=(δ.1 d).1;have f:decide (((s.an.takeWhile λz=>decide (z.aY<n)).length:Int)<(s.an.length:Int))=true:=decide_eq_true (by omega);have hw:μ.wrap (((s.an.takeWhile λz=>decide (z.aY<n)).length:Int)+1)=(((s.an.takeWhile λz=>decide (z.aY<n)).length+1:Nat):Int):=cr (by omega) (by omega);have A:s.an.take (s.an.takeWhile λz=>decide (z.aY<n)).length++s.an.drop ((s.an.takeWhile λz=>decide (z.aY<n)).length+1)=s.an.filter λy=>!(y.aY==n):=by
  obtain⟨t1,t2⟩:=Ug (λz:av=>decide (z.aY<n)) s.an;rw[t1,<-List.drop_drop,t2,k];have hl:=take_drop (λz:av=>decide (z.aY<n)) s.an;rw[k] at hl;have B:s.an.filter (λy=>!(y.aY==n))=(s.an.takeWhile (λz=>decide (z.aY<n))++z::s.an.filter λy=>decide (n<y.aY)).filter λy=>!(y.aY==n):=by rw[hl]
  have t:(s.an.takeWhile λz=>decide (z.aY<n)).filter (λy=>!(y.aY==n))=s.an.takeWhile λz=>decide (z.aY<n):=filter_all λy g=>by
   have:y.aY<n:=by simpa using Re g
   simp;omega
  have u:(s.an.filter λy=>decide (n<y.aY)).filter (λy=>!(y.aY==n))=s.an.filter λy=>decide (n<y.aY):=filter_all λy g=>by
   have:=of_decide_eq_true (ν.1 g).2;simp;omega
  rw[B,ζe,List.filter_cons_of_neg (by simp[j]),t,u];rfl
 simp only[T.aN,T.aH,T.bt,T.aD,f49 h o,g' (b:=16) (l:=s.an) (by omega),yR hn,r,γ,v,w,f,hw,cond_true,ι,d' d,ζ,d,h9,cmp_eq,decide_eq_true j,show((0:Int) !=0)=false from rfl,cond_false,pE,yu];rw[if_pos ⟨by omega,by omega,by omega⟩];simp only[γ,ζ,A]
theorem v168 (b:aq):vE ae b=some b.aa:=rfl
theorem v167 {s:aC} (h:ew s) (q:s.ak.length<=16) (pid:Int):GJ ae s.ak pid=some (((s.ak.takeWhile λz=>decide (z.aa<pid)).length:Int),(s.ak.find? λz=>z.aa==pid).isSome):=by
 show(uT ae s.ak pid).val=_;unfold uT;have j:CL ae s.ak pid 0 (s.ak.length:Int)=some (false,((s.ak.takeWhile λz=>decide (z.aa<pid)).length:Int),((s.ak.takeWhile λz=>decide (z.aa<pid)).length:Int)):=by
  show cm (λa=>(oY ae s.ak pid a).val) 1000000 (0,(s.ak.length:Int))=_;refine px (l:=s.ak) (lt:=λz=>decide (z.aa<pid)) (x:=λc=>(false,(c:Int),(c:Int))) (xH (key:=aq.aa) h.kY) (by omega) (λlo hi m r hle hm k hw p=>?_) λc=>?_
  .unfold oY;have b:decide ((lo:Int)<(hi:Int))=true:=decide_eq_true (by omega);have d:s.ak[m]? =some s.ak[m]:=ε k;simp only[T.aN,T.aH,T.aD,b,cond_true,hw,p,d' d,ζ,d,γ,h9,v168,vk]
  .unfold oY;simp
 simp only[T.aN,T.aH,T.bt,T.aD,γ,j,v168,h9,cmp_eq];rcases rF (key:=aq.aa) (n:=pid) h.kY with⟨e,f,_⟩|⟨z,e,f,g,_⟩
 .rw[e]
  by_cases i:(s.ak.takeWhile λz=>decide (z.aa<pid)).length<s.ak.length
  .have d:=ε i;have o:=f _ d;have b:decide (((s.ak.takeWhile λz=>decide (z.aa<pid)).length:Int)<(s.ak.length:Int))=true:=decide_eq_true (by omega);simp only[b,cond_true,d' d,γ,decide_eq_false o];rfl
  .have b:decide (((s.ak.takeWhile λz=>decide (z.aa<pid)).length:Int)<(s.ak.length:Int))=false:=decide_eq_false (by omega);simp only[b,cond_false];rfl
 .rw[e];have i:=(δ.1 g).1;have b:decide (((s.ak.takeWhile λz=>decide (z.aa<pid)).length:Int)<(s.ak.length:Int))=true:=decide_eq_true (by omega);simp only[b,cond_true,d' g,γ,decide_eq_true f];rfl
theorem RY: ∀(l a:List aq),(∀b∈l,b.a6.length<=4)->a.length+l.length<=100->nL l a=some (a++l)
 |[],a,_,_=>by rw[ξs];rfl
 |z::r,a,h,hl=>by
  have d:=h z τ;rw[ω] at hl;unfold nL JG;rw[g' (by omega),γ,hL (i:=100) (n:=101) (by omega) (by omega) (by omega),γ,RY r _ (λb c=>h b (ο _ c)) (by rw[υ,ξ6];omega),ξH];rfl
theorem FB {s:aC} (h:ew s) (c:s.ak.length<=16) {pid:Int} (hp:dR pid=true):
  lY ae s pid=some (⟨s.an,(s.ak.filter λb=>decide (b.aa<pid))++⟨pid,cJ s pid⟩::s.ak.filter λb=>decide (pid<b.aa)⟩,((s.ak.filter λb=>decide (b.aa<pid)).length:Int),0):=by
 have hlen:=h.len;have g:qW ae s=some (s,0):=by
  unfold qW HK JH;rw[f49 h c,g' (by omega),RY _ [] (λb c=>(h.box b c).2.2) (by simp;omega)];rfl
 have i:kN pid=true:=by
  unfold kN;unfold dR at hp;rw[θ] at hp;rw[hp.1,hp.2];rfl
 unfold lY xv HM;rw[g,γ];simp only[show(!((0:Int)==0))=false from rfl,cond_false,i,ι,v167 h c,γ];obtain⟨t1,t2⟩:=JV (n:=pid) h.kY;have hl:=take_drop (λz:aq=>decide (z.aa<pid)) s.ak;rcases rF (key:=aq.aa) (n:=pid) h.kY with⟨a,_,d⟩|⟨z,a,e,d,f⟩
 .rw[a];have hw:cJ s pid=[]:=by unfold cJ;rw[a]
  simp only[ζR,π,cond_true];rw[HV (b:=32) (lt:=λz:aq=>decide (z.aa<pid)) (by omega),hw];unfold b1;rw[d,t1];rfl
 .rw[a];have hw:cJ s pid=z.a6:=by unfold cJ;rw[a]
  simp only[Option.isSome_some,ι,cond_false,γ];rw[f,t1] at hl;rw[hw,t1]
  conv=>lhs;arg 1;arg 1;rw[show s=⟨s.an,s.ak⟩ from rfl,<-hl]
  rw[<-e]
theorem I9 {s:aC} (h:ew s) {pid:Int} {dA ws:Γa}:
  mC (aC.mk s.an (((s.ak.filter λb=>decide (b.aa<pid))++⟨pid,dA⟩::s.ak.filter λb=>decide (pid<b.aa)).set (s.ak.filter λb=>decide (b.aa<pid)).length ⟨pid,ws⟩))=fy s pid ws:=by
 have a: ∀(p:aq->Bool),(s.ak.filter p).filter (λz=>!(z.a6.length==0))=s.ak.filter p:=λp=>filter_all λz c=>by
  have:=(h.box z (ν.1 c).1).2.1;simp;intro e;rw[e] at this;simp at this
 unfold mC fy;rw[ζA (h:=ξa _),ζB,ζQ];simp only;rw[ζe,a,ξj,a]
 congr 2
 by_cases e:ws=[]
 .simp[e]
 .have:(ws.length==0)=false:=by simpa using e
  simp[e,this]
theorem get_at {α:Type} {a b:List α} {z:α}:idx (a++z::b) (a.length:Int)=some z:=d' (by rw[ξK (ξa _),ζB];rfl)
theorem v30 {s:aC} (h:ew s) (a:s.ak.length<=16) {pid:Int} (hp:dR pid=true):vY ae s pid=some (fy s pid [],((cJ s pid).length:Int),0):=by
 show qT ae s pid=_;unfold qT;rw[FB h a hp,γ];simp only[show(!((0:Int)==0))=false from rfl,cond_false,get_at,γ,ζ,I9 h]
theorem v198 {s:aC} (h:ew s) (a:s.ak.length<=16) {pid:Int} (hp:dR pid=true):vS ae s pid=some (match cJ s pid with|w::r=>(fy s pid r,w,0)|[]=>(⟨[],[]⟩,0,4)):=by
 show qU ae s pid=_;unfold qU;rw[FB h a hp,γ];simp only[show(!((0:Int)==0))=false from rfl,cond_false,get_at,γ,ζ,I9 h];cases cJ s pid with
 |nil=>rfl
 |cons w r=>
  have:(((w::r).length:Int)==0)=false:=by simp;omega
  simp only[this,cond_false];rfl
theorem ai0 {s:aC} (h:ew s) (b:s.ak.length<=16) {pid:Int} (hp:dR pid=true) (w:Int):vR ae s pid [w]=some (if(cJ s pid).length=4 then(⟨[],[]⟩,6) else(fy s pid (cJ s pid++[w]),0)):=by
 show qV ae s pid [w]=_;unfold qV;have hw:=rT h pid;rw[FB h b hp,γ];simp only[show(!((0:Int)==0))=false from rfl,cond_false,get_at,γ,ζ,I9 h,ξ6];have a:μ.wrap (((cJ s pid).length:Int)+((1:Nat):Int))=((cJ s pid).length:Int)+1:=cr (by omega) (by omega);simp only[a]
 by_cases e:(cJ s pid).length=4
 .rw[if_pos e,e];rfl
 .rw[if_neg e,decide_eq_false (by omega),cond_false,hL (i:=4) (n:=5) hw (by omega) (by omega),γ]
theorem Ro {α:Type} [DecidableEq α]: ∀ {l m:List α},l.Pairwise (λa b=>a≠b)->(∀x∈l,x∈m)->l.length<=m.length
 |[],_,_,_=>ζK _
 |x::r,m,hn,h=>by
  rw[ξi] at hn;have c:=h x τ;have:=Ro (m:=m.erase x) hn.2 λy d=>(List.mem_erase_of_ne λe=>hn.1 y d e.symm).2 (h y (ο _ d));rw[List.length_erase_of_mem c] at this;have:=ζw c;rw[ω];omega
theorem dC.lb {s:aF} (h:dC s):s.ao.ak.length<=16:=by
 have c:=Ro (l:=s.ao.ak.map aq.aa) (m:=s.ar.ab.map ag.aa) (List.pairwise_map.2 (h.i.kY.imp λ{a b} k=>by omega)) λx f=>by
  obtain⟨b,d,rfl⟩:=ξZ.1 f;obtain⟨y,g,e,_⟩:=h.boxes b d;exact ξZ.2 ⟨y,g,e⟩
 rw[ξl,ξl] at c;exact ζ0 c h.p.len
structure gZ (c:bq):Prop where
 p:cd (aw c.fArgs 0)
 a:cd (aw c.fArgs 1)
theorem J7 (c:bq):jS ae c=some (h3 c):=by
 show(EH ae c).val=_;unfold EH h3;simp only[T.aH,T.aD];cases c.bb==9<;>rfl
theorem Is {l:List ai} (h:eS l) {p a:Int} (c:8<=a):cy l p a=none:=by
 unfold cy;rw[kK.2 λd b=>?_]
 .rfl
 .have:=h.is d b;simp[fi] at this;simp;omega
theorem J9 {s:aF} (h:dC s) {c:bq} (B:gZ c):lO ae s c=some (dM s c):=by
 show(uW ae s c).val=_;unfold uW dM nf
 by_cases t:1<=c.bb
 .by_cases A:c.bb<=14
  .rw[T.aH,decide_eq_true t,cond_true,T.aH,decide_eq_true A,ι,cond_false,T.aN,J7,γ,if_pos ⟨t,A⟩];have hp:=B.p;have o:=B.a;have r:=h.lb;generalize aw c.fArgs 0=p at*
   generalize aw c.fArgs 1=a at*
   generalize aw c.fArgs 2=b at*
   have E:c.bb=1\/c.bb=2\/c.bb=3\/c.bb=4\/c.bb=5\/c.bb=6\/c.bb=7\/c.bb=8\/c.bb=9\/c.bb=10\/c.bb=11\/c.bb=12\/c.bb=13\/c.bb=14:=by omega
   have G:h3 c=(c.bb==9||c.bb==12):=rfl;unfold fj;rw[G];rcases E with e|e|e|e|e|e|e|e|e|e|e|e|e|e<;>
    simp only[e,T.aH,T.aD,T.aN,T.mI,ξT,ζ2,ηb,ξd,ηi,Bool.or_true,ηj,cond_true,cond_false,if_true,if_false,v28 h.p,γ]
   .cases j:bJ s.ar.ab p with
    |false=>rfl
    |true=>
     simp only[ι,cond_true,cond_false,aiR h.p,γ];cases f:hB s.ar p with
     |error x=>simp only[gJ (TZ f),π,cond_true]
     |ok x=>rfl
   .cases j:bJ s.ar.ab p with
    |false=>rfl
    |true=>
     have q:=(hz h.p.ord).1 j;simp only[ι,cond_true,cond_false,aiS h.p,γ];cases f:hh s.ar p a with
     |error x=>simp only[gJ (Gk f),π,cond_true]
     |ok x=>
      simp only[v31 h.i r,v29 h.d,v30 h.i r (jr h.p q).1,γ,beq_self_eq_true,ι,cond_false]
      by_cases g:ho s.ao p=[]
      .rw[if_pos g,g];rfl
      .have:(((ho s.ao p).length:Int)==0)=false:=by
        have:=ζ7.2 g;simp;omega
       rw[if_neg g,this];rfl
   .cases j:bJ s.ar.ab p with
    |false=>rfl
    |true=>
     simp only[ι,cond_true,cond_false,aiT h.p,γ];cases f:hE s.ar p a with
     |error x=>simp only[gJ (UQ f),π,cond_true]
     |ok x=>rfl
   .cases j:bJ s.ar.ab p with
    |false=>rfl
    |true=>
     have q:=(hz h.p.ord).1 j;simp only[ι,cond_true,cond_false,v183 h.m o,γ];cases f:fG s.au a with
     |error x=>simp only[gJ (ym f),π,cond_true]
     |ok x=>
      simp only[UJ h.d (jr h.p q).2.1,γ,beq_self_eq_true,ι,cond_false];cases n:fO s.aB p x with
      |error y=>simp only[gJ (IS n),π,cond_true]
      |ok y=>
       obtain⟨l,v⟩:=y;obtain⟨i,u,_,rfl,_⟩:=rf n;have:=(qd u).1;simp only[beq_self_eq_true,ι,cond_false,fT (x:=(i:Int)) (by omega) (by omega)]
   .cases j:bJ s.ar.ab p with
    |false=>rfl
    |true=>
     simp only[ι,cond_true,cond_false]
     by_cases z:a<8
     .simp only[decide_eq_true z,ι,cond_false,cr (x:=a) (by omega) (by omega),v232 h.d,aiU h.d,γ];cases f:gH s.aB p a with
      |error x=>
       cases n:cy s.aB p a with
       |some w=>unfold gH at f;rw[n] at f;cases f
       |none=>unfold gH at f;rw[n] at f;cases f;rfl
      |ok x=>
       obtain⟨w,n,_⟩:=Ny f;rw[n];rfl
     .have:cy s.aB p a=none:=Is h.d (by omega);unfold gH;simp only[decide_eq_false z,π,cond_true,this]
   .cases j:bJ s.ar.ab p with
    |false=>rfl
    |true=>
     have q:=(hz h.p.ord).1 j;simp only[ι,cond_true,cond_false]
     by_cases z:a<8
     .simp only[decide_eq_true z,ι,cond_false,cr (x:=a) (by omega) (by omega),v232 h.d,aiV h.d (jr h.p q).2.1,γ];cases f:fX s.aB p a with
      |error x=>
       cases n:cy s.aB p a with
       |some w=>simp only[gJ (NM f),π,ι,cond_false,cond_true]
       |none=>unfold fX at f;rw[n] at f;cases f;rfl
      |ok x=>
       obtain⟨l,v⟩:=x;obtain⟨w,n,C⟩:=NN f;obtain⟨i,u,_,rfl,_⟩:=rf C;have:=(qd u).1;simp only[n,beq_self_eq_true,ι,cond_false,fT (x:=(i:Int)) (by omega) (by omega)]
     .have:cy s.aB p a=none:=Is h.d (by omega);unfold fX;simp only[decide_eq_false z,π,cond_true,this]
   .cases j:bJ s.ar.ab p with
    |false=>rfl
    |true=>
     simp only[ι,cond_true,cond_false,aiW h.m o,γ];cases f:gF s.au a with
     |error x=>simp only[gJ (M0 f),π,cond_true]
     |ok x=>rfl
   .cases j:bJ s.ar.ab p with
    |false=>rfl
    |true=>
     simp only[ι,cond_true,cond_false,aiX h.m o,γ];cases f:iv s.au a with
     |error x=>simp only[gJ (RA f),π,cond_true]
     |ok x=>
      simp only[aiY h.d,v193 h.m o,γ,beq_self_eq_true,ι,cond_false]
      by_cases g:hf s.aB x=0
      .rw[if_pos g,g];simp only[show(((0:Nat):Int)==0)=true from rfl,ι,cond_false];cases n:hC s.au a with
       |error y=>simp only[gJ (Ux n),π,cond_true]
       |ok y=>rfl
      .have:((hf s.aB x:Int)==0)=false:=by simp;omega
       rw[if_neg g,this];rfl
   .simp only[v183 h.m o,γ];cases f:fG s.au a with
    |error x=>simp only[gJ (ym f),π,cond_true]
    |ok x=>rfl
   .cases j:bJ s.ar.ab p with
    |false=>rfl
    |true=>
     simp only[ι,cond_true,cond_false,v194 h.i r o,γ];cases f:gS s.ao a p with
     |error x=>simp only[gJ (SD f),π,cond_true]
     |ok x=>rfl
   .cases j:bJ s.ar.ab p with
    |false=>rfl
    |true=>
     simp only[ι,cond_true,cond_false,v196 h.i r o,γ];cases f:f_ s.ao a with
     |error x=>simp only[gJ (xL f),π,cond_true]
     |ok x=>
      obtain⟨u,D⟩:=q4 f;simp only[aiZ h.i r o u D,γ,beq_self_eq_true,ι,cond_false]
      by_cases g:x=p
      .rw[if_pos g,g];simp
      .have:(x==p)=false:=by simpa using g
       rw[if_neg g,this];rfl
   .simp only[v196 h.i r o,γ];cases f:f_ s.ao a with
    |error x=>simp only[gJ (xL f),π,cond_true]
    |ok x=>rfl
   .cases j:bJ s.ar.ab p with
    |false=>rfl
    |true=>
     simp only[ι,cond_true,cond_false];cases F:bJ s.ar.ab a with
     |false=>rfl
     |true=>
      have q:=(hz h.p.ord).1 F;unfold kb;simp only[ai0 h.i r (jr h.p q).1,γ,ι,cond_true,cond_false]
      by_cases g:(cJ s.ao a).length=4
      .rw[if_pos g,g];rfl
      .have:((cJ s.ao a).length==4)=false:=by simpa using g
       rw[if_neg g,this];rfl
   .cases j:bJ s.ar.ab p with
    |false=>rfl
    |true=>
     have q:=(hz h.p.ord).1 j;unfold j5;simp only[v198 h.i r (jr h.p q).1,γ,ι,cond_true,cond_false];cases cJ s.ao p<;>rfl
  .rw[T.aH,decide_eq_true t,cond_true,T.aH,decide_eq_false A,if_neg λk=>A k.2];rfl
 .rw[T.aH,decide_eq_false t,if_neg λk=>t k.1];rfl
theorem v8:G' ae=some true:=by kernel_rfl
structure uX (x:aF):Prop where
 pid: ∀z∈x.ar.ab,cd z.aa
 path: ∀z∈x.au.ab,cd z.aP
 name: ∀z∈x.ao.an,cd z.aY
theorem short {α:Type} (l:List α) (n:Nat) (h:n<=100):(l.take n).length<=maxLen:=by
 have:=kg l n;unfold maxLen;omega
theorem OJ {x:aF} (h:uX x):te (ck x) where
 p:=⟨λz a=>h.pid z (ξ2 a),short _ 18 (by omega)⟩
 d:=short _ 66 (by omega)
 i:=⟨λz a=>h.name z (ξ2 a),short _ 18 (by omega),by
  show(ζr hy (List.take 18 x.ao.ak)).length<=maxLen;rw[ξl];exact short _ 18 (by omega)⟩
theorem OH {x:aF} (h:uX x):tc bV (ck x).au:=
 ⟨λz a=>I3 (h.path z (ξ2 a)),short _ 18 (by omega)⟩
theorem J_ {s:aF} (h:dC s):lP ae s=some s:=by
 show(pe 0 [] ae s).val=_;unfold pe;have f:=h.p.len;have g:=h.d.len;have j:=h.m.len;have k:=h.i.len;have c:=h.lb;have e:Dg ae s.ao.ak s.ar.az s.au.aL s.ar.ab s.aB s.au.ab s.ao.an (s.ao.ak.length:Int) 0 []=some (false,(s.ao.ak.length:Int),s.ao.ak):=FX h.i c λa=>rfl;simp only[T.aN,T.bt,T.aD,g' (b:=32) (l:=s.ar.ab) (by omega),g' (b:=24) (l:=s.aB) (by omega),g' (b:=16) (l:=s.au.ab) (by omega),g' (b:=16) (l:=s.ao.an) (by omega),γ,e]
theorem acU {s:aF} (h:dC s):te s where
 p:=OK h.p
 d:=by have:=h.d.len;unfold maxLen;omega
 i:=⟨λz a=>(h.i.name z a).1,by have:=h.i.len;unfold maxLen;omega,by have:=h.lb;unfold maxLen;omega⟩
theorem f11 {s:aF} (h:dC s):hT ae s=some 0:=by
 rw[v11 (acU h) (J8 (OF h.m))];have:=(Ns (adf h)).2 h;unfold ng at this;rw[this];rfl
theorem yT {x:aF} (h:ky x):uX x:=⟨h.pid,h.path,h.name⟩
theorem ajn {x:aF} (h:ky x):ky (ck x):=⟨h.gl,λz a=>h.pid z (ξ2 a),λz a=>h.path z (ξ2 a),λz a=>h.name z (ξ2 a)⟩
def ajA:aF:=⟨mP,[],rZ,⟨[],[]⟩⟩
section
variable {α β X:Type}
theorem Ok {h:α->Option β}: ∀(l:List α) (a:List β),l.foldl (λa z=>a++(h z).toList) a=a++l.filterMap h
 |[],a=>by simp
 |z::r,a=>by
  rw[ξf,Ok r,ξu];cases h z<;>simp
theorem j9 {step:Int->α->List β->Option (List β⊕X)} {fin:Int->List β->Option X} {l:List α} {n:Nat} (h:α->Option β) (d: ∀(i:Nat) z a,l[i]? =some z->a.length<=n+i->step i z a=some (.inl (a++(h z).toList))) {a:List β} (b:a.length<=n):
  bF step fin 0 l a=fin (l.length:Int) (a++l.filterMap h):=by
 have:=yo (fin:=fin) (Q:=λi a=>a.length<=n+i) (g:=λa z=>a++(h z).toList) (λi z a e c=>⟨d i z a e c,by
  rw[υ];have:(h z).toList.length<=1:=by cases h z<;>simp
  omega⟩) l [] a rfl b
 rw[Ok] at this;exact this
theorem kL {p:α->Bool} {l:List α}:l.filterMap (λz=>if p z then some z else none)=l.filter p:=by
 induction l with
 |nil=>rfl
 |cons z r a=>
  rw[ξu,ξj];cases p z<;>simp[a]
theorem gm {b n i:Nat} {a:List α} {z:α} (c:a.length<=n+i) (d:i<1000) (e:n<=1000) (f:b<=1000):app b a [z]=some (a++[z]):=eK (n:=2001) (by simp;omega) (by omega)
end
def zP:ag:=⟨0,0,false,0⟩
theorem aio (l:List ag) (pid:Int):pL ae l pid=some (match eN l pid with|some z=>(z,true)|none=>(zP,false)):=UE l pid
theorem aiC (l:List ag) (i:Int):GL ae l i=some (l.any λz=>ix z.aa==i):=by
 have b:CG ae i l=match l.find? (λz=>ix z.aa==i) with|some _=>some (.inl ())|none=>some (.inr (false,(l.length:Int))):=by
  show bF (λk z a=>(um ae i l k z a).val) (λk a=>(sx ae i l k a).val) 0 l ()=_;rw[h5 (p:=λz=>ix z.aa==i) (e:=λ_=>.inl ()) λk z _=>by unfold um;simp only[T.aN,T.aH,T.aD,rS,γ]];unfold sx;simp only[T.aD,ξ4,φ,decide_false];cases l.find? (λz=>ix z.aa==i)<;>rfl
 show(EB ae l i).val=_;unfold EB;simp only[T.bt,T.aN,T.cx,T.aD,b];cases e:l.find? (λz=>ix z.aa==i) with
 |none=>
  have:(l.any λz=>ix z.aa==i)=false:=by
   rw[Bool.eq_false_iff];intro h;obtain⟨z,c,h⟩:=ξp.1 h;rw[kK.1 e z c] at h;cases h
  rw[this];rfl
 |some z=>
  have:(l.any λz=>ix z.aa==i)=true:=ξp.2 ⟨z,ψ e,ξt (p:=λz:ag=>ix z.aa==i) e⟩;rw[this];rfl
theorem aiD {l:List ag} (hl:l.length<=100) (x:ag):GM ae l x=some ((l.filter λz=>decide (ix z.aa<ix x.aa))++x::l.filter λz=>decide (ix z.aa>ix x.aa)):=by
 have e:CI ae l x.aa x.aT x.ba x.bT []=some (false,(l.length:Int),l.filter λz=>decide (ix z.aa<ix x.aa)):=by
  show bF (λk z a=>(uq ae l x.aa x.aT x.ba x.bT k z a).val) (λk a=>(sA ae l x.aa x.aT x.ba x.bT k a).val) 0 l []=_;rw[j9 (n:=0) (a:=[]) (λz:ag=>if decide (ix z.aa<ix x.aa) then some z else none) (λi z a d c=>?_) (ξa 0),kL]
  .unfold sA;simp only[T.aD,φ,decide_false,ξc]
  .have hi:=(δ.1 d).1;unfold uq;simp only[T.aN,T.aH,T.aD,rS,γ,gm (b:=32) (z:=z) c (by omega) (by omega) (by omega)];cases decide (ix z.aa<ix x.aa)<;>simp
 have g:=ξ5 (λz:ag=>decide (ix z.aa<ix x.aa)) l;have f:CH ae l x.aa x.aT x.ba x.bT ((l.filter λz=>decide (ix z.aa<ix x.aa))++[x])=some (false,(l.length:Int),((l.filter λz=>decide (ix z.aa<ix x.aa))++[x])++l.filter λz=>decide (ix z.aa>ix x.aa)):=by
  show bF (λk z a=>(uo ae l x.aa x.aT x.ba x.bT k z a).val) (λk a=>(sy ae l x.aa x.aT x.ba x.bT k a).val) 0 l _=_;rw[j9 (n:=101) (λz:ag=>if decide (ix z.aa>ix x.aa) then some z else none) (λi z a d c=>?_) (by simp;omega),kL]
  .unfold sy;simp only[T.aD,φ,decide_false]
  .have hi:=(δ.1 d).1;unfold uo;simp only[T.aN,T.aH,T.aD,rS,γ,gm (b:=32) (z:=z) c (by omega) (by omega) (by omega)];cases decide (ix z.aa>ix x.aa)<;>simp
 show(ED ae l x).val=_;unfold ED;simp only[T.bt,T.aN,T.aD,e,γ,eK (n:=1000) (xs:=l.filter λz=>decide (ix z.aa<ix x.aa)) (ys:=[x]) (b:=32) (by simp;omega) (by omega),f];simp
theorem put_eq {l:List ag} {x:ag} {n:Int} (f:l.Pairwise λa b=>ix a.aa<ix b.aa) (hn: ∀z∈l,ix z.aa≠n) (j:ix x.aa=n):(l.filter λz=>decide (ix z.aa<ix x.aa))++x::(l.filter λz=>decide (ix z.aa>ix x.aa))=b1 (λy=>decide (ix y.aa<=n)) x l:=by
 obtain⟨d,e⟩:=JV (key:=λz:ag=>ix z.aa) (n:=n) f;have g: ∀p:ag->Bool,(∀z∈l,p z=decide (ix z.aa<n))->l.takeWhile p=l.takeWhile (λz=>decide (ix z.aa<n))/\l.dropWhile p=l.dropWhile (λz=>decide (ix z.aa<n)):=by
  intro p;clear d e f hn
  induction l with
  |nil=>exact λ_=>⟨rfl,rfl⟩
  |cons z r m=>
   intro hp;obtain⟨i1,i2⟩:=m λy k=>hp y (ο _ k);rw[ξ0,ξ0,ξb,ξb,hp z (by simp),i1,i2];exact⟨rfl,rfl⟩
 obtain⟨h,i⟩:=g (λy=>decide (ix y.aa<=n)) λz c=>by
  have:=hn z c;rw[η,decide_eq_true_eq,decide_eq_true_eq];omega
 unfold b1;rw[h,i,d,e,j]
 congr 2
 refine ζn λz c=>?_;have:=hn z c;rw[η];simp;omega
theorem Yo {p:aV} (h:dk p) (parent:Int) {a:Nat} (c:a<16):(mY ae parent p.az p.ab (a:Int)).val=bif !(!(p.ab.any λx=>ix x.aa==(a:Int)+1)&&decide (aw p.az a<=65535)) then some (.inl ((a+1:Nat):Int)) else some (.inr (.inl (cD p a,p.az.set a (aw p.az a+1),(p.ab.filter λz=>decide (ix z.aa<ix (cD p a)))++⟨cD p a,parent,false,0⟩::p.ab.filter λz=>decide (ix z.aa>ix (cD p a))))):=by
 unfold mY;have hlen:=h.len;have g:=h.jY a c;have d:decide ((a:Int)<16)=true:=decide_eq_true (by omega);have hw:μ.wrap ((a:Int)+1)=(a:Int)+1:=cr (by omega) (by omega);have hn:dq (a:Int) 16=some a:=by rw[ja (by omega) (by omega),ζ]
 have e:ξe.wrap (ξe.wrap (ξe.wrap (ξe.wrap (aw p.az a)*64)+ξe.wrap a)+1)=cD p a:=by
  unfold cD;rw[fT (x:=aw p.az a) (by omega) (by omega),fT (x:=aw p.az a*64) (by omega) (by omega),fT (x:=(a:Int)) (by omega) (by omega),fT (x:=aw p.az a*64+a) (by omega) (by omega),fT (by omega) (by omega)]
 have f:μ.wrap (aw p.az a+1)=aw p.az a+1:=cr (by omega) (by omega);simp only[T.aN,T.aH,T.aD,d,hw,hn,aiC,γ,cond_true,h.gl,show(true&&Nat.beq 16 16)=true from rfl,e,f,aiD (show p.ab.length<=100 by omega)];cases p.ab.any λx=>ix x.aa==(a:Int)+1
 .rcases ηk (aw p.az a>65535) with b|b
  .rw[decide_eq_true b,decide_eq_false (show ¬aw p.az a<=65535 by omega)];rfl
  .rw[decide_eq_false b,decide_eq_true (show aw p.az a<=65535 by omega)];rfl
 .rfl
theorem aip {p:aV} (h:dk p) (parent:Int):Gy ae p parent=some (match hB p parent with| .ok (q,v)=>(q,v,0)| .error e=>(mP,0,e)):=by
 have c:Ci ae parent p.az p.ab 0=match gP p with|some i=>some (.inl (cD p i,p.az.set i (aw p.az i+1),(p.ab.filter λz=>decide (ix z.aa<ix (cD p i)))++⟨cD p i,parent,false,0⟩::p.ab.filter λz=>decide (ix z.aa>ix (cD p i))))|none=>some (.inr (false,16)):=by
  show cm (λa=>(mY ae parent p.az p.ab a).val) 1000000 ((0:Nat):Int)=_;rw[mJ (q:=λa:Nat=>!(!(p.ab.any λx=>ix x.aa==(a:Int)+1)&&decide (aw p.az a<=65535))) (x:=λa=>.inl (cD p a,p.az.set a (aw p.az a+1),(p.ab.filter λz=>decide (ix z.aa<ix (cD p a)))++⟨cD p a,parent,false,0⟩::p.ab.filter λz=>decide (ix z.aa>ix (cD p a)))) (y:=.inr (false,16)) (N:=16) (λa d=>Yo h parent d) (by unfold mY;rfl) (k:=16) (by omega) (by omega)];unfold gP;rw[ξM];simp only[ζd];cases (ξX 0 16).find? (λi:Nat=>!(p.ab.any λx=>ix x.aa==(i:Int)+1)&&decide (aw p.az i<=65535))<;>rfl
 show(D0 ae p parent).val=_;unfold D0 hB;simp only[T.aN,T.aH,T.bt,T.cx,T.aD,v87,γ,c];cases bJ p.ab parent
 .rfl
 .simp only[ι,cond_false,cond_true];cases hl:gP p with
  |none=>rfl
  |some i=>
   obtain⟨f,b,g⟩:=xI hl;obtain⟨_,_,n2,_⟩:=Iq h hl;have:=put_eq (l:=p.ab) (x:=⟨cD p i,parent,false,0⟩) (n:=(i:Int)+1) h.ord b n2;simp only[this,γ]
theorem aiq {p:aV} (h:dk p) (pid child:Int):Gz ae p pid child=some (match hE p pid child with| .ok (q,v)=>(q,v,0)| .error e=>(mP,0,e)):=by
 have hlen:=h.len;have f: ∀a b c d,Cj ae child p.ab p.az a b c d []=some (false,(p.ab.length:Int),p.ab.filter λy=>!(y.aa==child)):=λa b c d=>by
  show bF (λk z e=>(tX ae child p.ab p.az a b c d k z e).val) (λk e=>(se ae child p.ab p.az a b c d k e).val) 0 p.ab []=_;rw[j9 (n:=0) (a:=[]) (λz:ag=>if !(z.aa==child) then some z else none) (λi z e g he=>?_) (ξa 0),kL]
  .unfold se;simp only[T.aD,φ,decide_false,ξc]
  .have hi:=(δ.1 g).1;unfold tX;simp only[T.aN,T.aH,T.aD,γ,gm (b:=32) (z:=z) he (by omega) (by omega) (by omega),bne];cases z.aa==child<;>simp
 show(D1 ae p pid child).val=_;unfold D1 hE;simp only[T.aN,T.aH,T.bt,T.aD,v87,aio,γ,f];cases bJ p.ab pid
 .rfl
 .simp only[ι,cond_false,cond_true];cases eN p.ab child with
  |none=>rfl
  |some x=>
   simp only[bne];cases x.aT==pid<;>cases x.ba<;>rfl
theorem air {p:aV} (h:dk p) (pid code:Int):GA ae p pid code=some (match hh p pid code with| .ok q=>(q,0)| .error e=>(mP,e)):=by
 have hlen:=h.len;have f:Ck ae pid code p.ab p.az []=some (false,(p.ab.length:Int),p.ab.filterMap (fB pid code)):=by
  show bF (λk z e=>(tY ae pid code p.ab p.az k z e).val) (λk e=>(sf ae pid code p.ab p.az k e).val) 0 p.ab []=_;rw[j9 (n:=0) (a:=[]) (fB pid code) (λi z e c he=>?_) (ξa 0)]
  .unfold sf;simp only[T.aD,φ,decide_false,ξc]
  .have hi:=(δ.1 c).1;have g: ∀y:ag,app 32 e [y]=some (e++[y]):=λy=>gm (b:=32) (z:=y) he (by omega) (by omega) (by omega);unfold tY fB;simp only[T.aN,T.aH,T.aD,γ,g];cases d:z.aa==pid
   .cases z.aT==pid<;>cases z.ba<;>simp
   .cases l:z.aT==0
    .have j:(z.aT==pid)=false:=by
      have:=(h.one z (κ c)).self;simp only[beq_iff_eq] at d;simp only[beq_eq_false_iff_ne,ne_eq];omega
     rw[j];simp
    .simp
 show(D2 ae p pid code).val=_;unfold D2 hh;simp only[T.aN,T.aH,T.bt,T.aD,v87,γ,f];cases bJ p.ab pid
 .rfl
 .cases pid==1<;>rfl
section
variable {α:Type}
theorem UW {p1 p2:α->Bool}: ∀ {l:List α},(∀z∈l,p1 z=p2 z)->l.takeWhile p1=l.takeWhile p2/\l.dropWhile p1=l.dropWhile p2
 |[],_=>⟨rfl,rfl⟩
 |z::r,h=>by
  obtain⟨i1,i2⟩:=UW λy a=>h y (ο _ a);rw[ξ0,ξ0,ξb,ξb,h z (by simp),i1,i2];exact⟨rfl,rfl⟩
theorem Sc {key:α->Int} {l:List α} {x:α} {lt p1 p2:α->Bool} (j:l.Pairwise λa b=>key a<key b) (g: ∀z∈l,lt z=decide (key z<key x)) (h: ∀z∈l,p1 z=decide (key z<key x)) (i: ∀z∈l,p2 z=!decide (key z<key x)):l.filter p1++x::l.filter p2=b1 lt x l:=by
 obtain⟨c,d⟩:=JV (n:=key x) j;obtain⟨e,f⟩:=UW g;unfold b1;rw[e,f,c,d,ζn h,ζn i]
theorem abj {p:α->Bool} {l:List α} {i:Nat} {z:α} (g:l[i]? =some z) (hp:p z=true) (c: ∀j y,l[j]? =some y->p y=true->j=i):l.take i++l.drop (i+1)=l.filter λz=>!p z:=by
 obtain⟨hi,rfl⟩:=δ.1 g;have e:l=l.take i++l[i]::l.drop (i+1):=by rw[<-ρ hi,ζ1]
 have d:(l.take i).filter (λz=>!p z)=l.take i:=filter_all λy b=>by
  obtain⟨j,a⟩:=ζC.1 b;rw[ζN] at a;split at a
  .cases h:p y
   .rfl
   .have:=c j y a h;omega
  .cases a
 have f:(l.drop (i+1)).filter (λz=>!p z)=l.drop (i+1):=filter_all λy b=>by
  obtain⟨j,a⟩:=ζC.1 b;rw[List.getElem?_drop] at a;cases h:p y
  .rfl
  .have:=c _ y a h;omega
 conv=>rhs;rw[e]
 rw[ζe,ξj,d,f,hp];rfl
end
abbrev ie (pid fd:Int) (d:ai):Bool:=d.aa==pid&&d.bm==fd
theorem yM (l:List ai) (pid fd:Int):nB ae l pid fd=some (match l.findIdx? (ie pid fd) with|some i=>(i:Int)|none=> -1):=by
 have b:Cs ae pid fd l=match l.findIdx? (ie pid fd) with|some i=>some (.inl (i:Int))|none=>some (.inr (false,(l.length:Int))):=by
  show bF (λk z a=>(ue ae pid fd l k z a).val) (λk a=>(so ae pid fd l k a).val) 0 l ()=_;rw[yp (p:=ie pid fd) (e:=λi=>.inl (i:Int)) λi z _=>by
   unfold ue ie;simp only[T.aH,T.aD];cases z.aa==pid<;>cases z.bm==fd<;>rfl]
  unfold so;simp only[T.aD,φ,decide_false]<;>cases l.findIdx? (ie pid fd)<;>rfl
 show(D8 ae l pid fd).val=_;unfold D8;simp only[T.bt,T.aN,T.cx,T.aD,b]<;>cases l.findIdx? (ie pid fd)<;>rfl
theorem nH (l:List ai) (pid fd:Int):(l.findIdx? (ie pid fd)=none/\cy l pid fd=none)\/ ∃i d,l.findIdx? (ie pid fd)=some i/\l[i]? =some d/\cy l pid fd=some d.b3/\d.aa=pid/\d.bm=fd:=by
 have e:=Hc (p:=ie pid fd) (l:=l);unfold cy;cases h:l.findIdx? (ie pid fd) with
 |none=>
  rw[h] at e;exact .inl ⟨rfl,by rw[show l.find? (λd=>d.aa==pid&&d.bm==fd)=none from e];rfl⟩
 |some i=>
  rw[h] at e;obtain⟨hi,hp,_⟩:=ξx.1 h;rw[γ,ε hi] at e;have hp:l[i].aa=pid/\l[i].bm=fd:=by simpa[ie] using hp
  exact .inr ⟨i,l[i],rfl,ε hi,by rw[show l.find? (λd=>d.aa==pid&&d.bm==fd)=some l[i] from e];rfl,hp⟩
theorem p_ {l:List ai} (h:eS l): ∀d∈l,0<=d.bm/\d.bm<=7:=λd a=>by have:=h.is d a;simp[fi] at this;omega
theorem Un {l:List ai} (h:eS l) {pid:Int} (hp:pid<4294967296) (aZ:Int):vC ae l pid aZ=some (match fO l pid aZ with| .ok (q,v)=>(q,v,0)| .error e=>([],0,e)):=by
 have hlen:=h.len;have m:=p_ h;have B:Cr ae l pid aZ 0=some (match gr l pid with|some i=>(false,-1,(i:Int))|none=>(false,-1,8)):=by
  show cm (λa=>(oT ae l pid aZ a).val) 1000000 ((0:Nat):Int)=_;have st: ∀a:Nat,a<=8->(oT ae l pid aZ (a:Int)).val=bif (cy l pid a).isSome then some (.inl ((a+1:Nat):Int)) else some (.inr (false,-1,(a:Int))):=λa c=>by
   unfold oT;have hw:μ.wrap ((a:Int)+1)=((a+1:Nat):Int):=cr (by omega) (by omega);simp only[T.aN,T.aH,T.aD,yM,γ,hw];rcases nH l pid a with⟨o,f⟩|⟨i,d,o,_,f,_⟩
   .rw[o,f];rfl
   .rw[o,f];have:decide ((i:Int)>=0)=true:=decide_eq_true (by omega);simp only[this];rfl
  have A:(cy l pid (8:Nat)).isSome=false:=by
   rcases nH l pid (8:Nat) with⟨_,f⟩|⟨i,d,_,g,f,_,L⟩
   .rw[f];rfl
   .have:=m d (κ g);omega
  rw[mJ (q:=λa:Nat=>(cy l pid a).isSome) (x:=λa=>(false,-1,(a:Int))) (y:=(false,-1,8)) (N:=8) (λa c=>st a (by omega)) (by rw[st 8 (by omega),A];rfl) (k:=8) (by omega) (by omega)];unfold gr;rw[ξM,show(λi:Nat=>(cy l pid i).isNone)=λi:Nat=>!(cy l pid i).isSome from funext λi=>by cases cy l pid i<;>rfl];cases (ξX 0 8).find? (λi:Nat=>!(cy l pid i).isSome)<;>rfl
 have I:l.Pairwise λa b=>a.aa*8+a.bm<b.aa*8+b.bm:=h.ord.imp_of_mem λ{a b} c D C=>by
  have:=m a c;have:=m b D;rw[iO] at C;omega
 show(D7 ae l pid aZ).val=_;unfold D7 fO;have J:decide (pid>=4294967296)=false:=decide_eq_false (by omega);simp only[T.aN,T.aH,T.bt,T.aD,J,cond_false,B,γ];cases E:gr l pid with
 |none=>rfl
 |some i=>
  obtain⟨hi,H⟩:=qd E;have t:((i:Int)==8)=false:=beq_eq_false_iff_ne.2 (by omega);simp only[t,cond_false];have s:((l.length:Int)==64)=(l.length==64):=by rw[η];simp;omega
  rw[s];cases l.length==64
  rotate_left
  .rfl
  have u:Cp ae l (i:Int) pid aZ []=some (false,(l.length:Int),l.filter λd=>cC d ⟨pid,i,aZ⟩):=by
   show bF (λk z a=>(uc ae l (i:Int) pid aZ k z a).val) (λk a=>(sm ae l (i:Int) pid aZ k a).val) 0 l []=_;rw[j9 (n:=0) (a:=[]) (λz:ai=>if cC z ⟨pid,i,aZ⟩ then some z else none) (λj z a p c=>?_) (ξa 0),kL]
   .unfold sm;simp only[T.aD,φ,decide_false,ξc]
   .have F:=(δ.1 p).1;unfold uc;simp only[T.aN,T.aH,T.aD,J',γ,gm (b:=24) (z:=z) c (by omega) (by omega) (by omega)];cases cC z ⟨pid,i,aZ⟩<;>simp
  have M:=ξ5 (λd:ai=>cC d ⟨pid,i,aZ⟩) l;have w:Cq ae (i:Int) l pid aZ ((l.filter λd=>cC d ⟨pid,i,aZ⟩)++[⟨pid,i,aZ⟩])=some (false,(l.length:Int),((l.filter λd=>cC d ⟨pid,i,aZ⟩)++[⟨pid,i,aZ⟩])++l.filter λd=>cC ⟨pid,i,aZ⟩ d):=by
   show bF (λk z a=>(ud ae (i:Int) l pid aZ k z a).val) (λk a=>(sn ae (i:Int) l pid aZ k a).val) 0 l _=_;rw[j9 (n:=101) (λz:ai=>if cC ⟨pid,i,aZ⟩ z then some z else none) (λj z a p c=>?_) (by simp;omega),kL]
   .unfold sn;simp only[T.aD,φ,decide_false]
   .have F:=(δ.1 p).1;unfold ud;simp only[T.aN,T.aH,T.aD,J',γ,gm (b:=24) (z:=z) c (by omega) (by omega) (by omega)];cases cC ⟨pid,i,aZ⟩ z<;>simp
  have r: ∀d∈l,cC d ⟨pid,i,aZ⟩=decide (d.aa*8+d.bm<pid*8+i):=λd g=>by
   have:=m d g;rw[η,iO,decide_eq_true_eq];show d.aa<pid\/d.aa=pid/\d.bm<(i:Int)↔_;omega
  have G: ∀d∈l,cC ⟨pid,i,aZ⟩ d=!decide (d.aa*8+d.bm<pid*8+i):=λd g=>by
   have:=m d g;have:=H d g;rw[η,iO,ξJ,decide_eq_false_iff_not];show pid<d.aa\/pid=d.aa/\(i:Int)<d.bm↔_;omega
  have K:=Sc (key:=λd:ai=>d.aa*8+d.bm) (x:=⟨pid,i,aZ⟩) (lt:=λy=>cC y ⟨pid,i,aZ⟩) I r r G;have c:=eK (n:=1000) (b:=24) (xs:=l.filter λd=>cC d ⟨pid,i,aZ⟩) (ys:=[(⟨pid,i,aZ⟩:ai)]) (by simp;omega) (by omega);simp only[cond_false,u,γ,c,w];rw[<-K];simp
theorem aiv {l:List ai} (h:eS l) {pid:Int} (hp:pid<4294967296) (fd:Int):GC ae l pid fd=some (match fX l pid fd with| .ok (q,v)=>(q,v,0)| .error e=>([],0,e)):=by
 show(D_ ae l pid fd).val=_;unfold D_ fX;have f:decide (pid>=4294967296)=false:=decide_eq_false (by omega);simp only[T.aN,T.aH,T.aD,f,cond_false,yM,γ];rcases nH l pid fd with⟨a,b⟩|⟨i,d,a,c,b,_⟩
 .rw[a,b];rfl
 .have:decide ((i:Int)<0)=false:=decide_eq_false (by omega);rw[a,b];simp only[this,cond_false,d' c,γ,Un h hp]
theorem ait {l:List ai} (h:eS l) (pid:Int):pM ae l pid=some (kF l pid):=by
 have hlen:=h.len;have c:Cm ae pid l []=some (false,(l.length:Int),kF l pid):=by
  show bF (λk z a=>(t_ ae pid l k z a).val) (λk a=>(si ae pid l k a).val) 0 l []=_;rw[j9 (n:=0) (a:=[]) (λz:ai=>if !(z.aa==pid) then some z else none) (λj z a e d=>?_) (ξa 0),kL]
  .unfold si kF;simp only[T.aD,φ,decide_false,ξc]
  .have f:=(δ.1 e).1;unfold t_;simp only[T.aN,T.aH,T.aD,γ,gm (b:=24) (z:=z) d (by omega) (by omega) (by omega),bne];cases z.aa==pid<;>simp
 show(D4 ae l pid).val=_;unfold D4;simp only[T.aN,T.bt,T.aD,c,γ]
theorem aiy {l:List ai} (h:eS l) (aZ:Int):GG ae l aZ=some (hf l aZ:Int):=by
 have hlen:=h.len;have g: ∀(r:List ai) (a:Int),0<=a->a+r.length<=1000-> ∀(pre:List ai),l=pre++r->bF (λk z a=>(uf ae aZ l k z a).val) (λk a=>(sr ae aZ l k a).val) pre.length r a=some (false,a+((r.filter λd=>d.b3==aZ).length:Int),(l.length:Int)):=by
  intro r
  induction r with
  |nil=>
   intro a b c pre e;rw[ξs] at e;subst e;unfold bF sr;simp
  |cons z r f=>
   intro a b c pre e;rw[gW];simp only[ω] at c;have hw:μ.wrap (a+1)=a+1:=cr (by omega) (by omega);unfold uf;simp only[T.aH,T.aD,hw,ξj];have hp:(pre++[z]).length=pre.length+1:=by simp
   cases z.b3==aZ
   .have:=f a b (by omega) (pre++[z]) (by rw[e];simp);rw[hp] at this;exact this
   .have:=f (a+1) (by omega) (by omega) (pre++[z]) (by rw[e];simp);rw[hp] at this;simp only[cond_true,γ,if_true,ω];rw[show a+((r.filter λd=>d.b3==aZ).length+1:Nat)=a+1+((r.filter λd=>d.b3==aZ).length:Int) by omega];exact this
 have i:Cu ae aZ l 0=some (false,(hf l aZ:Int),(l.length:Int)):=by
  have:=g l 0 (by omega) (by omega) [] rfl;rw[Int.zero_add] at this;exact this
 show(Eb ae l aZ).val=_;unfold Eb;simp only[T.aN,T.bt,T.aD,i,γ]
theorem Yq {l:Γ} (h: ∀x∈l,x<256) (hl:l.length<=100) {pos:Nat} (hp:pos<l.length):(m0 ae (bs l) (l.length:Int) (pos:Int)).val=bif ey l[pos] then some (.inl ((pos+1:Nat):Int)) else some (.inr (.inl ())):=by
 have a:=yy h (ε hp);have hw:μ.wrap ((pos:Int)+1)=((pos+1:Nat):Int):=by rw[cr (by omega) (by omega)];omega
 unfold m0;simp only[T.aH,T.aD,T.aN];rw[decide_eq_true (by omega:(pos:Int)<(l.length:Int)),a,hw,vg];simp only[cond_true,γ];cases decide ((l[pos]:Int)>=97)<;>cases decide ((l[pos]:Int)<=122)<;>cases decide ((l[pos]:Int)>=48)<;>cases decide ((l[pos]:Int)<=57)<;>rfl
theorem Uu {l:Γ} (h: ∀x∈l,x<256) (hl:l.length<=100): ∀(k f pos:Nat),pos+k=l.length->cm (λa=>(m0 ae (bs l) (l.length:Int) a).val) (k+1+f) (pos:Int)=some (bif (l.drop pos).all ey then .inr (false,(l.length:Int)) else .inl ())
 |0,f,pos,e=>by
  obtain rfl:pos=l.length:=by omega
  rw[show 0+1+f=f+1 by omega,dB];unfold m0;simp
 |k+1,f,pos,e=>by
  have hp:pos<l.length:=by omega
  rw[show k+1+1+f=(k+1+f)+1 by omega,dB,Yq h hl hp,ρ hp,ξI];cases ey l[pos] with
  |false=>rfl
  |true=>
   simp only[cond_true,γ,ξ];exact Uu h hl k f (pos+1) (by omega)
theorem aiH {l:Γ} (h: ∀x∈l,x<256) (hl:l.length<=100):GK ae (bs l)=some (cV l):=by
 show(Ei ae (bs l)).val=_;unfold Ei cV;simp only[T.bt,T.aN,T.cx,T.aD];have:=Uu h hl l.length (999999-l.length) 0 (by omega);rw[show l.length+1+(999999-l.length)=1000000 by omega,ξN] at this;have a:CC ae (bs l) (l.length:Int) 0=some (bif l.all ey then .inr (false,(l.length:Int)) else .inl ()):=this;rw[dT,a];cases l.all ey with
 |false=>rfl
 |true=>
  cases l with
  |nil=>rfl
  |cons x r=>
   have:decide (((x::r).length:Int)>0)=true:=decide_eq_true (by simp);simp only[cond_true,γ,this];rfl
theorem abk {l:Γ} {i:Nat} (hi:i<l.length) (hl:l.length<=100):eM (bs l) (some (i:Int)) (some (μ.wrap ((i:Int)+1)))=some (bs [l[i]]):=by
 rw[cr (by omega) (by omega)];unfold eM;simp only[ξ3];rw[if_pos ⟨by omega,by omega,by rw[dT];omega⟩]
 congr 1
 apply ζ5;rw[ζu,ζ,show((i:Int)+1).toNat=i+1 by omega];unfold bs;apply ζU;rw[ζF];simp[ηg,ρ hi];rw[ρ (by simpa using hi)];simp
theorem Yp {l:Γ} (h: ∀x∈l,x<256) (hl:l.length<=100) {i:Nat} (hi:i<l.length) {acc:List (Γ)} (b:acc.length<=i) (o: ∀y∈acc,y.length<=i):(mZ ae (bs l) (l.length:Int) ((i:Int),acc.map bs)).val=some (.inl (((i+1:Nat):Int),(du acc l[i]).map bs)):=by
 have k:=yy h (ε hi);have hw:μ.wrap ((i:Int)+1)=((i+1:Nat):Int):=by rw[cr (by omega) (by omega)];omega
 have d:=abk hi hl;unfold mZ du;simp only[T.aH,T.aD,T.aN,ζ8];rw[decide_eq_true (by omega:(i:Int)<(l.length:Int)),k,d,hw];simp only[cond_true,γ]
 by_cases a:l[i]=47
 .have e:((l[i]:Int)==47)=true:=by rw[a];rfl
  rw[e,if_pos a];simp only[cond_true];rw[eK (n:=200) (by simp;omega) (by omega),γ,ξG];rfl
 .have e:((l[i]:Int)==47)=false:=by simp;omega
  rw[e,if_neg a];simp only[cond_false];rcases ζz acc with hp|⟨p,y,hp⟩
  .subst hp;rfl
  .subst hp;have hlen:(ζr bs (p.concat y)).length=p.length+1:=by simp
   have f:decide (((ζr bs (p.concat y)).length:Int)>0)=true:=decide_eq_true (by rw[hlen];omega);have m:μ.wrap (((ζr bs (p.concat y)).length:Int)-1)=(p.length:Int):=by
    rw[hlen,cr (by simp at b;omega) (by simp at b;omega)];omega
   have c:(ζr bs (p.concat y))[p.length]? =some (bs y):=by simp
   have j:idx (ζr bs (p.concat y)) (p.length:Int)=some (bs y):=HP c;have q:=o y (by simp);rw[f,m,j];simp only[cond_true,γ,ζ];rw[c];simp only[γ];rw[yw (by simp;omega)];simp only[γ];have g:(p.concat y)[(p.concat y).length-1]? =some y:=by simp
   rw[g];simp only;rw[show(p.concat y).length-1=p.length by simp,List.map_set]
theorem T1 {acc:List (Γ)} {x i:Nat} (c:acc.length<=i) (a: ∀y∈acc,y.length<=i):(du acc x).length<=i+1/\ ∀y∈du acc x,y.length<=i+1:=by
 unfold du;split
 .refine⟨by simp;omega,λy h=>?_⟩;rcases χ.1 h with h|h
  .have:=a y h;omega
  .have:y=[]:=by simpa using h
   subst this;simp
 .split
  .rename_i y b;refine⟨by simp;omega,λz h=>?_⟩;rcases ζi h with h|h
   .have:=a z h;omega
   .subst h;have:=a y (κ b);simp;omega
  .exact⟨by omega,λy h=>by have:=a y h;omega⟩
theorem Ut {l:Γ} (h: ∀x∈l,x<256) (hl:l.length<=100): ∀(k f pos:Nat) (acc:List (Γ)),pos+k=l.length->acc.length<=pos->(∀y∈acc,y.length<=pos)->cm (λa=>(mZ ae (bs l) (l.length:Int) a).val) (k+1+f) ((pos:Int),acc.map bs)=some (false,(l.length:Int),((l.drop pos).foldl du acc).map bs)
 |0,f,pos,acc,e,_,_=>by
  obtain rfl:pos=l.length:=by omega
  rw[show 0+1+f=f+1 by omega,dB];unfold mZ;simp
 |k+1,f,pos,acc,e,b,c=>by
  have hp:pos<l.length:=by omega
  rw[show k+1+1+f=(k+1+f)+1 by omega,dB,Yp h hl hp b c,γ,ρ hp,ξf];obtain⟨d,g⟩:=T1 (x:=l[pos]) b c;exact Ut h hl k f (pos+1) _ (by omega) d g
theorem Us {l:Γ} (h: ∀x∈l,x<256) (hl:l.length<=100):vF ae (bs l)=some ((l.foldl du []).map bs):=by
 show(Eh ae (bs l)).val=_;unfold Eh;simp only[T.bt,T.aN,T.aD];have:=Ut h hl l.length (999999-l.length) 0 [] (by omega) (by simp) (by simp);rw[show l.length+1+(999999-l.length)=1000000 by omega,ξN] at this;have a:CB ae (bs l) (l.length:Int) 0 []=some (false,(l.length:Int),(l.foldl du []).map bs):=this;rw[dT,a];rfl
theorem R5: ∀(d:Γ) (acc:List (Γ)) (i:Nat),(∀x∈d,x<256)->(∀p∈acc,∀x∈p,x<256)->acc.length<=i->(∀p∈acc,p.length<=i)->(∀p∈d.foldl du acc,(∀x∈p,x<256)/\p.length<=i+d.length)
 |[],acc,i,_,b,_,c=>λp hp=>⟨b p hp,by have:=c p hp;simp;omega⟩
 |x::d,acc,i,e,b,f,c=>by
  rw[ξf];obtain⟨j,k⟩:=T1 (x:=x) f c;have l:=e x τ;have g: ∀p∈du acc x,∀y∈p,y<256:=by
   unfold du;split
   .intro p hp y a;rcases χ.1 hp with hp|hp
    .exact b p hp y a
    .have:p=[]:=by simpa using hp
     subst this;simp at a
   .split
    .rename_i z h;intro p hp y a;rcases ζi hp with hp|hp
     .exact b p hp y a
     .subst hp;rcases χ.1 a with a|a
      .exact b z (κ h) y a
      .have:y=x:=by simpa using a
       omega
    .exact b
  intro p hp;have:=R5 d (du acc x) (i+1) (λy a=>e y (ο _ a)) g j k p hp;exact⟨this.1,by have:=this.2;simp;omega⟩
theorem Yh {s:ByteArray} {ps:List (Γ)} (h: ∀p∈ps,(∀x∈p,x<256)/\p.length<=100):B' ae s (ps.map bs)=bif ps.all cV then some (.inr (false,((ps.map bs).length:Int))) else some (.inl ()):=by
 show bF (λi z a=>(tR ae s (ps.map bs) i z a).val) (λi a=>(r' ae s (ps.map bs) i a).val) 0 (ps.map bs) ()=_;rw[gV (q:=λi _=>match ps[i]? with|some p=>cV p|none=>false) (x:=.inl ())]
 .have e:allI (λi (_:ByteArray)=>match ps[i]? with|some p=>cV p|none=>false) 0 (ps.map bs)=ps.all cV:=by
   rw[η,jD,ξ7];constructor
   .intro d p hp;obtain⟨i,hi⟩:=ξL hp;have:=d i (bs p) (by simp[hi]);rw[ξ4,hi] at this;exact this
   .intro d k z b;rw[ξ4];rw[ξ8] at b;cases c:ps[k]? with
    |none=>rw[c] at b;simp at b
    |some p=>exact d p (κ c)
  rw[e]
  congr 1
  unfold r';simp
 .intro i z b;rw[ξ8] at b;cases c:ps[i]? with
  |none=>rw[c] at b;simp at b
  |some p=>
   rw[c] at b;have b:bs p=z:=by simpa using b
   subst b;have hp:=h p (κ c);unfold tR;simp only[T.aH,T.aN,T.aD,aiH hp.1 hp.2,γ];cases cV p<;>rfl
theorem aiE {d:Γ} (a: ∀x∈d,x<256) (hl:d.length<=8):Gw ae (bs d)=some (jd d):=by
 show(DV ae (bs d)).val=_;unfold DV jd;simp only[T.aH,T.aN,T.aD,T.bt,T.cx];rw[yz a]
 by_cases b:d=[47]
 .rw[decide_eq_true b];rfl
 rw[decide_eq_false b,Us a (by omega)];simp only[cond_false,γ,ξd];have c:=R5 d [] 0 a (by simp) (by simp) (by simp);rw[Yh (ps:=d.foldl du []) (λp hp=>⟨(c p hp).1,by have:=(c p hp).2;omega⟩)];show _=some (match d with|47::_=>(de d).all cV&&decide ((de d).length<=4)|_=>false)
 change (Option.bind (bif (de d).all cV then _ else _) _)=_
 cases d with
 |nil=>rfl
 |cons x t=>
  have o:decide (((bs (x::t)).size:Int)>0)=true:=decide_eq_true (by rw[dT];simp);have n:decide (((bs (x::t)).size:Int)<=8)=true:=decide_eq_true (by rw[dT];omega);have m:fq (bs (x::t)) 0=some (x:Int):=yy (i:=0) a rfl;rw[o,n,m];have l:((ζr bs (η8 du [] (x::t))).length:Int)=((de (x::t)).length:Int):=by unfold de;simp
  by_cases f:x=47
  .subst f;have j:decide (((de (47::t)).length:Int)>=1)=true:=decide_eq_true (by rw[rm];simp;omega);have k:decide (((de (47::t)).length:Int)<=4)=decide ((de (47::t)).length<=4):=by rw[η];simp;omega
   rw[l,j,k];cases (de (47::t)).all cV<;>rfl
  .have e:((x:Int)==47)=false:=by simp;omega
   have g:(match x::t with|47::_=>(de (x::t)).all cV&&decide ((de (x::t)).length<=4)|_=>false)=false:=by
    split
    .rename_i h;cases h;exact absurd rfl f
    .rfl
   refine Eq.trans ?_ (congrArg some g.symm);simp only[e,γ,cond_true,cond_false];cases (de (x::t)).all cV<;>rfl
theorem aiu {n:Nat} (h:n<18446744073709551616):jV ae (n:Int)=some (bV (n:Int)):=by
 show(Fg ae (n:Int)).val=_;unfold Fg bV;simp only[T.aN,T.aH,T.aD,J5 h,γ,ζ]
 by_cases a:dH 8 n=0
 .rw[if_pos a,a];simp only[cond_true,aiE (nj n) (kE 8 n),γ];rfl
 .rw[if_neg a];have e:(dH 8 n==0)=false:=by simp[a]
  rw[e];rfl
theorem rl {w:Int} (h:cd w):jV ae w=some (bV w):=by
 obtain⟨n,rfl⟩:=ξh h.1;exact aiu (by have:=h.2;omega)
theorem NL: ∀(k:Nat) (l:Γ),(∀x∈l,0<x/\x<256)->l.length<=k->dg k (pk l)=l/\dH k (pk l)=0
 |0,l,_,hl=>by
  obtain rfl:l=[]:=List.length_eq_zero_iff.1 (by omega);exact⟨rfl,rfl⟩
 |k+1,[],_,_=>⟨by simp[dg,pk],by simp[dH,pk]⟩
 |k+1,x::r,h,hl=>by
  have f:=h x (by simp);obtain⟨c,d⟩:=NL k r (λy e=>h y (ο _ e)) (by simpa using hl);have a:(x+256*pk r)%256=x:=by omega
  have b:(x+256*pk r)/256=pk r:=by omega
  unfold dg dH pk;rw[a,b,if_neg (by omega),if_neg (by omega),c,d];exact⟨rfl,rfl⟩
theorem I2 {p:Γ} (h:cV p=true):(∀x∈p,x≠47/\0<x/\x<256)/\p≠[]:=by
 unfold cV at h;rw[θ] at h;refine⟨λx a=>?_,λe=>by subst e;cases h.2⟩;have:=ξ7.1 h.1 x a;unfold ey at this;have:=of_decide_eq_true this;omega
theorem ai8 {p r:Γ} (hp: ∀x∈p,x≠47) (a:r=[]\/ ∃t,r=47::t):wd (p++r)=p/\rs (p++r)=r:=by
 unfold wd rs
 induction p with
 |nil=>
  rcases a with rfl|⟨t,rfl⟩
  .exact⟨rfl,rfl⟩
  .simp
 |cons z p d=>
  have c:(z !=47)=true:=by simpa using hp z (by simp)
  obtain⟨i1,i2⟩:=d λx b=>hp x (ο _ b);rw[List.cons_append,ξ0,ξb,c];simp only[if_true,i1,i2,and_self]
theorem adp (ps:List (Γ)):jt ps=[]\/ ∃t,jt ps=47::t:=by
 cases ps with
 |nil=>exact .inl rfl
 |cons p r=>exact .inr ⟨p++jt r,by simp[jt]⟩
theorem I5: ∀ {ps:List (Γ)},ps.all cV=true->de (jt ps)=ps
 |[],_=>rfl
 |p::r,h=>by
  rw[ξI,θ] at h;have e:jt (p::r)=47::(p++jt r):=by simp[jt]
  obtain⟨a,b⟩:=ai8 (λx c=>((I2 h.1).1 x c).1) (adp r);rw[e,rm,a,b,I5 h.2]
theorem Uj {ps:List (Γ)} (h:ps.all cV=true): ∀x∈tx ps,0<x/\x<256:=by
 cases ps with
 |nil=>intro x a;simp[tx] at a;omega
 |cons p r=>
  intro x a;have a:x∈((p::r).map λp=>47::p).flatten:=a;obtain⟨l,hl,a⟩:=ζY.1 a;obtain⟨y,b,rfl⟩:=ξZ.1 hl;rcases ξB.1 a with rfl|a
  .omega
  .exact((I2 (ξ7.1 h y b)).1 x a).2
theorem ae_ {ps:List (Γ)} (h:ps.all cV=true):mf (tx ps)=ps:=by
 unfold mf;cases ps with
 |nil=>rfl
 |cons p r=>
  have c:tx (p::r)≠[47]:=λe=>by
   have hp:=(I2 (ξ7.1 h p (by simp))).2;have e:47::(p++jt r)=[47]:=by rw[<-e];simp[tx,jt]
   cases p with
   |nil=>exact hp rfl
   |cons a b=>cases e
  rw[if_neg c];exact I5 h
theorem U6 {ps:List (Γ)} (h:ps.all cV=true) (hl:(tx ps).length<=8):fc ps=(pk (tx ps):Nat):=by
 unfold fc;rw[u_ (Uj h) hl]
theorem ajo {ps:List (Γ)} (h:ps.all cV=true) (hl:(tx ps).length<=8) (d:ps.length<=4):bV (fc ps)=true/\bE (fc ps)=ps:=by
 obtain⟨a,b⟩:=NL 8 (tx ps) (Uj h) hl;rw[U6 h hl];unfold bV bE;rw[ζ,a,b,ae_ h];refine⟨?_,rfl⟩;unfold jd;cases ps with
 |nil=>rfl
 |cons p r=>
  have e:tx (p::r)=47::(p++jt r):=by simp[tx,jt]
  have c:de (47::(p++jt r))=p::r:=by
   have:=I5 h;rw[show jt (p::r)=47::(p++jt r) by simp[jt]] at this;exact this
  rw[e];simp only[c,h,decide_eq_true d];simp
theorem Uk {ps:List (Γ)} (h:(jt ps).length<=8):(tx ps).length<=8:=by
 cases ps with
 |nil=>simp[tx]
 |cons p r=>exact h
theorem ae3 {w:Int} (hw:bV w=true):tx (bE w)=dg 8 w.toNat:=by
 unfold bV at hw;rw[θ] at hw;have a:=hw.2;unfold bE mf;generalize dg 8 w.toNat=d at*
 unfold jd at a
 by_cases e:d=[47]
 .rw[if_pos e,e];rfl
 .rw[if_neg e];rw[decide_eq_false e,ξd] at a;split at a
  .rename_i t;have:=q0 _ (47::t) (ξa _) (.inr ⟨_,rfl⟩);rw[rm] at this ⊢;exact this
  .cases a
theorem ae4 {w:Int} (hu:cd w) (hw:bV w=true):fc (bE w)=w:=by
 obtain⟨b,_,_,c⟩:=k2 hw;rw[U6 b (Uk c),ae3 hw];have a:dH 8 w.toNat=0:=by
  unfold bV at hw;rw[θ] at hw;exact eq_of_beq hw.1
 have:=x6 8 w.toNat;rw[a] at this;have:=hu.1;omega
theorem aie {w:Int} (hw:bV w=true) (k:Nat):bV (fc ((bE w).take k))=true/\bE (fc ((bE w).take k))=(bE w).take k:=by
 obtain⟨a,_,b,c⟩:=k2 hw;refine ajo (ξ7.2 λp hp=>ξ7.1 a p (ξ2 hp)) (Uk ?_) (by simp;omega);have:jt (bE w)=jt ((bE w).take k)++jt ((bE w).drop k):=by rw[<-H4,ζ1]
 have:=congrArg ζI this;rw[υ] at this;omega
theorem J0 {w:Int} (hu:cd w) (hw:bV w=true):pS ae w=some ((bE w).map bs):=by
 obtain⟨n,rfl⟩:=ξh hu.1;have b:dH 8 n=0:=by
  unfold bV at hw;rw[θ,ζ] at hw;exact eq_of_beq hw.1
 show(EM ae (n:Int)).val=_;unfold EM;have a:=nj n;have hl:=kE 8 n;simp only[T.aN,T.aH,T.aD,J5 (show n<18446744073709551616 by have:=hu.2;omega),b,if_true,γ,yz a,Us a (show(dg 8 n).length<=100 by omega)];unfold bE mf de;rw[ζ]
 by_cases e:dg 8 n=[47]
 .rw[decide_eq_true e,if_pos e];rfl
 .rw[decide_eq_false e,if_neg e];rfl
theorem Ur {a b:Int} (m:cd a) (n:cd b):vU ae a b=some (dG a b):=by
 show(EE ae a b).val=_;unfold EE dG;simp only[T.aN,T.aH,T.bt,T.aD,T.cx,rl m,rl n,γ];cases j:bV a with
 |false=>rfl
 |true=>
  cases l:bV b with
  |false=>rfl
  |true=>
   simp only[ι,cond_false,J0 m j,J0 n l,γ,ξ];obtain⟨_,a2,a3,_⟩:=k2 j;obtain⟨_,o,t,_⟩:=k2 l;generalize bE a=p at*
   generalize bE b=q at*
   have r:CJ ae (q.map bs) (p.map bs)=bif p.isPrefixOf q then some (.inr (false,(p.length:Int))) else some (.inl ()):=by
    show bF (λi z c=>(ur ae (q.map bs) (p.map bs) i z c).val) (λi c=>(sB ae (q.map bs) (p.map bs) i c).val) 0 (p.map bs) ()=_;rw[gV (q:=λi z=>match(q.map bs)[i]? with|some y=>y.toList==z.toList|none=>false) (x:=.inl ()) λi z d=>?_]
    .have:allI (λi z=>match(q.map bs)[i]? with|some y=>y.toList==z.toList|none=>false) 0 (p.map bs)=p.isPrefixOf q:=by
      rw[η,jD,ξk,List.prefix_iff_getElem?];constructor
      .intro h i hi;have:=h i (bs p[i]) (by rw[ξ8,ε hi];rfl);rw[ξ4,ξ8] at this;cases g:q[i]? with
       |none=>rw[g] at this;cases this
       |some y=>
        rw[g] at this;have:=(Nk (o _ (κ g)).1 (a2 _ (ξO hi)).1).symm.trans this;rw[of_decide_eq_true this]
      .intro h k z d;rw[ξ8] at d;cases hp:p[k]? with
       |none=>rw[hp] at d;cases d
       |some y=>
        rw[hp] at d;cases d;obtain⟨s,rfl⟩:=δ.1 hp;rw[ξ4,ξ8,h k s];exact beq_self_eq_true _
     rw[this];unfold sB;simp
    .unfold ur;rcases ηl i (q.map bs).length with hi|hi
     .have e:(q.map bs)[i]? =some (q.map bs)[i]:=ε hi;have f:decide ((i:Int)>=((q.map bs).length:Int))=false:=decide_eq_false (by omega);simp only[T.aN,T.aH,T.aD,f,cond_false,d' e,e,γ];cases (q.map bs)[i].toList==z.toList<;>rfl
     .have e:(q.map bs)[i]? =none:=ξY hi;have f:decide ((i:Int)>=((q.map bs).length:Int))=true:=decide_eq_true (by omega);simp only[T.aH,T.aD,f,cond_true,e,cond_false]
   simp only[r];cases p.isPrefixOf q<;>rfl
theorem aiF {w:Int} (hu:cd w) (hw:bV w=true):vV ae w=some ((bE w).length:Int):=by
 show(EF ae w).val=_;unfold EF;simp only[T.aN,T.aD,J0 hu hw,γ,ξl]
theorem JY (m:a1) (w:Int):pO ae m w=some ((cq m w).getD 0):=by
 have b:Cv ae w m.ab=match m.ab.find? (λz=>z.aP==w) with|some z=>some (.inl z.aS)|none=>some (.inr (false,(m.ab.length:Int))):=by
  show bF (λi z a=>(ug ae w m.ab i z a).val) (λi a=>(ss ae w m.ab i a).val) 0 m.ab ()=_;rw[h5 (p:=λz=>z.aP==w) (e:=λz=>.inl z.aS) λi z _=>by unfold ug;simp only[T.aH,T.aD]];unfold ss;simp only[T.aD,ξ4,φ,decide_false];cases m.ab.find? (λz=>z.aP==w)<;>rfl
 show(Ec ae m w).val=_;unfold Ec cq;simp only[T.aN,T.bt,T.cx,T.aD,b];cases m.ab.find? (λz=>z.aP==w)<;>rfl
theorem HO {m:a1} (h:eT m) {w i:Int} (e:cq m w=some i):1<=i:=by
 obtain⟨x,a,_,rfl⟩:=nM e;exact(h.id x a).1
theorem aiG {m:a1} (h:eT m) {w:Int} (hw:cd w):GO ae m w=some ((m.ab.filter λx=>!(x.aP==w)&&dG w x.aP).map ax.aS):=by
 have hlen:=h.len;have d:CK ae w m.ab []=some (false,(m.ab.length:Int),(m.ab.filter λx=>!(x.aP==w)&&dG w x.aP).map ax.aS):=by
  show bF (λi z a=>(uu ae w m.ab i z a).val) (λi a=>(sC ae w m.ab i a).val) 0 m.ab []=_;rw[mu (p:=λx=>!(x.aP==w)&&dG w x.aP) (f:=ax.aS)]
  .unfold sC;simp only[T.aD,φ,decide_false]
  .intro i z a c e;have hi:=(δ.1 c).1;unfold uu;simp only[T.aN,T.aH,T.aD,Ur hw (h.path z (κ c)).1,γ,bne,gm (n:=0) (b:=8) (z:=z.aS) (i:=i) (a:=a) (by omega) (by omega) (by omega) (by omega)];cases z.aP==w<;>cases dG w z.aP<;>rfl
 show(EG ae m w).val=_;unfold EG;simp only[T.aN,T.bt,T.aD,d,γ]
theorem aiw {m:a1} (h:eT m) {w:Int} (hw:bV w=true):GD ae m w=some (match gF m w with| .ok (q,v)=>(q,v,0)| .error e=>(rZ,0,e)):=by
 have hlen:=h.len;have n1:=h.n1;have n2:=h.n2;show(D' ae m w).val=_;unfold D' gF;simp only[T.aN,T.aH,T.aD,JY,γ,hw,cond_true];cases hi:cq m w with
 |some i=>
  have:=HO h hi;have:(i !=0)=true:=by simp;omega
  simp only[ξ3,this,cond_true];rfl
 |none=>
  have a:((m.ab.length:Int)==16)=(m.ab.length==16):=by rw[η];simp;omega
  have b:(m.aL==1073741825)=decide (m.aL>1073741824):=by rw[η];simp;omega
  have c:app 16 ([]:List ax) m.ab=some m.ab:=eK (n:=1000) (by simp;omega) (by omega);have d:app 16 m.ab [ax.mk w m.aL]=some (m.ab++[ax.mk w m.aL]):=eK (n:=1000) (by simp;omega) (by omega);have f:ξe.wrap (m.aL+1)=m.aL+1:=fT (by omega) (by omega);simp only[ξo,a,b,c,d,f,γ,show((0:Int) !=0)=false from rfl,cond_false];cases m.ab.length==16<;>cases decide (m.aL>1073741824)<;>rfl
theorem aix {m:a1} (h:eT m) {w:Int} (hu:cd w) (hw:bV w=true):GF ae m w=some (match hC m w with| .ok v=>(v,0)| .error e=>(rZ,e)):=by
 have hlen:=h.len;have k:Ct ae w m.ab m.aL (m.ab.length:Int) 0 []=some (false,(m.ab.length:Int),m.ab.filter λx=>!(x.aP==w)):=by
  show cm (λa=>(oU ae w m.ab m.aL (m.ab.length:Int) a).val) 1000000 (0,[])=_;rw[mK (p:=λx=>!(x.aP==w)) (f:=id) (l:=m.ab) (x:=λa=>(false,(m.ab.length:Int),a)) (λi z a d t=>?_) (λa=>?_) (by omega)]
  .simp
  .have hi:=(δ.1 d).1;have o:decide ((i:Int)<(m.ab.length:Int))=true:=decide_eq_true (by omega);have q:μ.wrap ((i:Int)+1)=((i+1:Nat):Int):=cr (by omega) (by omega);unfold oU;simp only[T.aN,T.aH,T.aD,o,cond_true,d' d,γ,bne,gm (n:=0) (b:=16) (z:=z) (i:=i) (a:=a) (by omega) (by omega) (by omega) (by omega),q];cases z.aP==w<;>rfl
  .unfold oU;simp only[T.aH,T.aD,φ,decide_false,cond_false]
 show(Ea ae m w).val=_;unfold Ea hC;simp only[T.aN,T.aH,T.bt,T.aD,JY,aiG h hu,k,γ,hw,cond_true];cases hi:cq m w with
 |none=>rfl
 |some i=>
  have:=HO h hi;have g:(i==0)=false:=by simp;omega
  have j:decide ((((m.ab.filter λx=>!(x.aP==w)&&dG w x.aP).map ax.aS).length:Int)>0)=hM m w:=by
   unfold hM;rw[η,decide_eq_true_eq,ξp];constructor
   .intro hp;cases c:m.ab.filter (λx=>!(x.aP==w)&&dG w x.aP) with
    |nil=>rw[c] at hp;simp at hp
    |cons y r=>
     have:y∈m.ab.filter (λx=>!(x.aP==w)&&dG w x.aP):=by rw[c];simp
     exact⟨y,ν.1 this⟩
   .rintro ⟨y,s⟩;have:=ζw (ν (p:=λx:ax=>!(x.aP==w)&&dG w x.aP).2 s);simp only[ξl];omega
  simp only[ξ3,g,j,cond_false];cases hM m w<;>rfl
theorem UB (f:Nat->Option Int) {k0:Nat} {i:Int} (c:f k0=some i): ∀(L:Nat),k0<=L->(∀k,k0<k->k<=L->f k=none)->(ξw (L+1)).reverse.findSome? f=some i
 |L,e,h=>by
  rw[η3,ζL,ζv,ξF,ζM];rcases ηl k0 L with d|d
  .rw[h L d (ξa _)];cases L with
   |zero=>omega
   |succ L=>exact UB f c L (by omega) λk a b=>h k a (by omega)
  .have:L=k0:=by omega
   subst this;rw[c]
theorem aaN {m:a1} (h:eT m) {x:ax} (a:x∈m.ab):cq m x.aP=some x.aS:=by
 cases e:cq m x.aP with
 |none=>exact absurd rfl (OX e x a)
 |some i=>
  obtain⟨y,d,b,c⟩:=nM e;rw[Rh h a d b.symm,c]
theorem Um {m:a1} (h:eT m) {w:Int} (hu:cd w) (hw:bV w=true):vB ae m w=some ((jv m w).getD 0):=by
 have hlen:=h.len;obtain⟨g,s⟩: ∃g:Int×Int->ax->Int×Int,g=λa z=>bif dG z.aP w&&decide (((bE z.aP).length:Int)>a.2) then(z.aS,((bE z.aP).length:Int)) else a:=⟨_,rfl⟩;have v:Co ae w m.ab 0 (-1)=some (false,(m.ab.foldl g (0,-1)).1,(m.ab.foldl g (0,-1)).2,(m.ab.length:Int)):=by
  show bF (λi z a=>(ub ae w m.ab i z a).val) (λi a=>(sk ae w m.ab i a).val) 0 m.ab (0,-1)=_;rw[mr (g:=g) λi z a p=>?_]
  .unfold sk;simp only[T.aD,ξ4,φ,decide_false]
  .obtain⟨u,z2⟩:=h.path z p;unfold ub;rw[s];simp only[T.aN,T.aH,T.aD,Ur u hu,aiF u z2,γ];cases dG z.aP w<;>cases decide (((bE z.aP).length:Int)>a.2)<;>rfl
 have inv: ∀(r pre:List ax) (a:Int×Int),((∀x∈pre,dG x.aP w=true->((bE x.aP).length:Int)<=a.2)/\((a=(0,-1)/\ ∀x∈pre,dG x.aP w=false)\/ ∃x∈pre,dG x.aP w=true/\a=(x.aS,((bE x.aP).length:Int))))->
   ((∀x∈pre++r,dG x.aP w=true->((bE x.aP).length:Int)<=(r.foldl g a).2)/\((r.foldl g a=(0,-1)/\ ∀x∈pre++r,dG x.aP w=false)\/ ∃x∈pre++r,dG x.aP w=true/\r.foldl g a=(x.aS,((bE x.aP).length:Int)))):=by
  intro r
  induction r with
  |nil=>intro pre a A;rw[ξs];exact A
  |cons z r F=>
   intro pre a ⟨d,l⟩;rw[ξf,show pre++z::r=(pre++[z])++r by simp];refine F (pre++[z]) (g a z) ?_;have hm: ∀ {x},x∈pre++[z]↔x∈pre\/x=z:=λ{x}=>by simp
   have B:g a z=bif dG z.aP w&&decide (((bE z.aP).length:Int)>a.2) then(z.aS,((bE z.aP).length:Int)) else a:=by rw[s]
   rw[B];cases p:dG z.aP w
   .simp only[ζg,cond_false];refine⟨λx b c=>?_,?_⟩
    .rcases hm.1 b with b|rfl
     .exact d x b c
     .rw[p] at c;cases c
    .rcases l with⟨e,l⟩|⟨x,b,j,f⟩
     .refine .inl ⟨e,λx b=>?_⟩;rcases hm.1 b with b|rfl
      .exact l x b
      .exact p
     .exact .inr ⟨x,hm.2 (.inl b),j,f⟩
   .rcases ηk (((bE z.aP).length:Int)>a.2) with n|n
    .simp only[decide_eq_true n,ηd,cond_true];refine⟨λx b c=>?_,.inr ⟨z,hm.2 (.inr rfl),p,rfl⟩⟩;rcases hm.1 b with b|rfl
     .exact Int.le_trans (d x b c) (by omega)
     .exact Int.le_refl _
    .simp only[decide_eq_false n,η4,cond_false];refine⟨λx b c=>?_,?_⟩
     .rcases hm.1 b with b|rfl
      .exact d x b c
      .omega
     .rcases l with⟨e,_⟩|⟨x,b,j,f⟩
      .rw[e] at n;exact absurd (by show(-1:Int)<_;omega) n
      .exact .inr ⟨x,hm.2 (.inl b),j,f⟩
 obtain⟨i1,i2⟩:=inv m.ab [] (0,-1) ⟨λx b=>(by cases b),.inl ⟨rfl,λx b=>(by cases b)⟩⟩;rw[ξc] at i1 i2;have E:jv m w=(ξw ((bE w).length+1)).reverse.findSome? λk=>cq m (fc ((bE w).take k)):=by
  unfold jv la;rw[List.findSome?_map];rfl
 have q: ∀ {k:Nat} {i:Int},cq m (fc ((bE w).take k))=some i-> ∃y∈m.ab,dG y.aP w=true/\bE y.aP=(bE w).take k:=λ{k i} e=>by
  obtain⟨y,o,j,_⟩:=nM e;obtain⟨p1,p2⟩:=aie hw k;refine⟨y,o,?_,by rw[j];exact p2⟩;unfold dG;rw[j,p1,p2,hw,ξ,ξ,ξk];exact List.take_prefix _ _
 show(D6 ae m w).val=_;unfold D6;simp only[T.aN,T.bt,T.aD,v,γ];rw[E];rcases i2 with⟨e,C⟩|⟨x,b,c,e⟩
 .rw[e];have:(ξw ((bE w).length+1)).reverse.findSome? (λk=>cq m (fc ((bE w).take k)))=none:=by
   rw[List.findSome?_eq_none_iff];intro k _;cases f:cq m (fc ((bE w).take k)) with
   |none=>rfl
   |some i=>
    obtain⟨y,o,d,_⟩:=q f;rw[C y o] at d;cases d
  rw[this];rfl
 .rw[e];obtain⟨G,H⟩:=h.path x b;have t:bE x.aP<+:bE w:=by
   unfold dG at c;rw[θ,θ,ξk] at c;exact c.2.2
  have D:(bE w).take (bE x.aP).length=bE x.aP:=(ζs.1 t).symm;rw[UB (λk=>cq m (fc ((bE w).take k))) (k0:=(bE x.aP).length) (i:=x.aS) (by
   show cq m (fc ((bE w).take (bE x.aP).length))=_;rw[D,ae4 G H,aaN h b]) _ t.length_le λk I J=>by
   show cq m (fc ((bE w).take k))=none;cases f:cq m (fc ((bE w).take k)) with
   |none=>rfl
   |some i=>
    obtain⟨y,o,d,l⟩:=q f;have:=i1 y o d;rw[e,l,ζ3] at this;have:(((min k (bE w).length:Nat)):Int)<=((bE x.aP).length:Int):=this;omega]
  rfl
theorem JZ (s:aC) (n:Int):pP ae s n=some (match eC s.an n with|some p=>(p,true)|none=>(0,false)):=by
 have b:Cw ae n s.an=match s.an.find? (λz=>z.aY==n) with|some z=>some (.inl z.aa)|none=>some (.inr (false,(s.an.length:Int))):=by
  show bF (λi z a=>(uh ae n s.an i z a).val) (λi a=>(su ae n s.an i a).val) 0 s.an ()=_;rw[h5 (p:=λz=>z.aY==n) (e:=λz=>.inl z.aa) λi z _=>by unfold uh;simp only[T.aH,T.aD]];unfold su;simp only[T.aD,ξ4,φ,decide_false];cases s.an.find? (λz=>z.aY==n)<;>rfl
 show(Ed ae s n).val=_;unfold Ed eC;simp only[T.aN,T.bt,T.cx,T.aD,b];cases s.an.find? (λz=>z.aY==n)<;>rfl
theorem aiz {s:aC} (h:ew s) {n:Int} (hn:cd n) (pid:Int):GH ae s n pid=some (match gS s n pid with| .ok q=>(q,0)| .error e=>(⟨[],[]⟩,e)):=by
 have hlen:=h.len;have v:=ξ5 (λz:av=>decide (z.aY<n)) s.an;have j:Cx ae n pid s.an s.ak (s.an.length:Int) 0 []=some (false,(s.an.length:Int),s.an.filter λz=>decide (z.aY<n)):=by
  show cm (λa=>(oV ae n pid s.an s.ak (s.an.length:Int) a).val) 1000000 (0,[])=_;rw[mK (p:=λz=>decide (z.aY<n)) (f:=id) (l:=s.an) (x:=λa=>(false,(s.an.length:Int),a)) (λi z a c d=>?_) (λa=>?_) (by omega)]
  .simp
  .have hi:=(δ.1 c).1;have o:decide ((i:Int)<(s.an.length:Int))=true:=decide_eq_true (by omega);have u:μ.wrap ((i:Int)+1)=((i+1:Nat):Int):=cr (by omega) (by omega);unfold oV;simp only[T.aN,T.aH,T.aD,o,cond_true,d' c,γ,gm (n:=0) (b:=16) (z:=z) (i:=i) (a:=a) (by omega) (by omega) (by omega) (by omega),u];cases decide (z.aY<n)<;>rfl
  .unfold oV;simp only[T.aH,T.aD,φ,decide_false,cond_false]
 have m:Cy ae n s.an s.ak ((s.an.filter λz=>decide (z.aY<n))++[⟨n,pid⟩])=some (false,(s.an.length:Int),((s.an.filter λz=>decide (z.aY<n))++[⟨n,pid⟩])++s.an.filter λz=>decide (z.aY>n)):=by
  show bF (λk z a=>(ui ae n s.an s.ak k z a).val) (λk a=>(sv ae n s.an s.ak k a).val) 0 s.an _=_;rw[j9 (n:=101) (λz:av=>if decide (z.aY>n) then some z else none) (λi z a c d=>?_) (by simp;omega),kL]
  .unfold sv;simp only[T.aD,φ,decide_false]
  .have hi:=(δ.1 c).1;unfold ui;simp only[T.aN,T.aH,T.aD,γ,gm (b:=16) (z:=z) d (by omega) (by omega) (by omega)];cases decide (z.aY>n)<;>simp
 show(Ee ae s n pid).val=_;unfold Ee gS;simp only[T.aN,T.aH,T.bt,T.aD,yQ hn,Kb,JZ,γ];cases dy n
 .rfl
 cases dR pid
 .rfl
 simp only[ι,cond_false,cond_true];cases hl:eC s.an n with
 |some p=>rfl
 |none=>
  have g:((s.an.length:Int)==16)=(s.an.length==16):=by rw[η];simp;omega
  have d:app 16 (s.an.filter λz=>decide (z.aY<n)) [av.mk n pid]=some ((s.an.filter λz=>decide (z.aY<n))++[av.mk n pid]):=eK (n:=1000) (by simp;omega) (by omega);have r:=Q6 hl;have t:=Sc (key:=λz:av=>z.aY) (x:=⟨n,pid⟩) (lt:=λy=>decide (y.aY<n)) (p1:=λz=>decide (z.aY<n)) (p2:=λz=>decide (z.aY>n)) h.jn (λz _=>rfl) (λz _=>rfl) λz c=>by
   have:=r z c;rw[η];simp;omega
  simp only[cond_false,g,j,γ,d,m];rw[<-t];cases s.an.length==16
  .simp
  .rfl
theorem aiA {s:aC} (h:ew s) {n p:Int} (hn:cd n) (d:dy n=true) (e:eC s.an n=some p):GI ae s n=some (mF s n,0):=by
 have hlen:=h.len;have g:Cz ae n s.an s.ak (s.an.length:Int) 0 []=some (false,(s.an.length:Int),s.an.filter λz=>!(z.aY==n)):=by
  show cm (λa=>(oW ae n s.an s.ak (s.an.length:Int) a).val) 1000000 (0,[])=_;rw[mK (p:=λz=>!(z.aY==n)) (f:=id) (l:=s.an) (x:=λa=>(false,(s.an.length:Int),a)) (λi z a c m=>?_) (λa=>?_) (by omega)]
  .simp
  .have hi:=(δ.1 c).1;have j:decide ((i:Int)<(s.an.length:Int))=true:=decide_eq_true (by omega);have k:μ.wrap ((i:Int)+1)=((i+1:Nat):Int):=cr (by omega) (by omega);unfold oW;simp only[T.aN,T.aH,T.aD,j,cond_true,d' c,γ,bne,gm (n:=0) (b:=16) (z:=z) (i:=i) (a:=a) (by omega) (by omega) (by omega) (by omega),k];cases z.aY==n<;>rfl
  .unfold oW;simp only[T.aH,T.aD,φ,decide_false,cond_false]
 show(Ef ae s n).val=_;unfold Ef mF;simp only[T.aN,T.aH,T.bt,T.aD,yQ hn,JZ,d,e,γ,ι,cond_false,g]
theorem ais {s:aC} (h:ew s) (pid:Int):GB ae s pid=some (ho s pid):=by
 have hlen:=h.len;have c:Cl ae pid s.an []=some (false,(s.an.length:Int),ho s pid):=by
  show bF (λi z a=>(tZ ae pid s.an i z a).val) (λi a=>(sg ae pid s.an i a).val) 0 s.an []=_;rw[mu (p:=λz=>z.aa==pid) (f:=av.aY)]
  .unfold sg ho;simp only[T.aD,φ,decide_false]
  .intro i z a d e;have hi:=(δ.1 d).1;unfold tZ;simp only[T.aN,T.aH,T.aD,γ,gm (n:=0) (b:=8) (z:=z.aY) (i:=i) (a:=a) (by omega) (by omega) (by omega) (by omega)];cases z.aa==pid<;>rfl
 show(D3 ae s pid).val=_;unfold D3;simp only[T.aN,T.bt,T.aD,c,γ]
theorem aiB (s:aC) (pid:Int):vD ae s pid=some (cJ s pid):=by
 have b:CA ae pid s.ak=match s.ak.find? (λz=>z.aa==pid) with|some z=>some (.inl z.a6)|none=>some (.inr (false,(s.ak.length:Int))):=by
  show bF (λi z a=>(uj ae pid s.ak i z a).val) (λi a=>(sw ae pid s.ak i a).val) 0 s.ak ()=_;rw[h5 (p:=λz=>z.aa==pid) (e:=λz=>.inl z.a6) λi z _=>by unfold uj;simp only[T.aH,T.aD]];unfold sw;simp only[T.aD,ξ4,φ,decide_false];cases s.ak.find? (λz=>z.aa==pid)<;>rfl
 show(Eg ae s pid).val=_;unfold Eg cJ;simp only[T.aN,T.bt,T.cx,T.aD,b];cases s.ak.find? (λz=>z.aa==pid)<;>rfl
theorem JX {s:aC} (q:s.ak.length<=16) (pid:Int) (ws:Γa):lM ae s pid ws=some (fy s pid ws):=by
 have t:=ξ5 (λz:aq=>decide (z.aa<pid)) s.ak;have h:Cn ae pid ws s.ak s.an (s.ak.length:Int) 0 []=some (false,(s.ak.length:Int),s.ak.filter λz=>decide (z.aa<pid)):=by
  show cm (λa=>(oS ae pid ws s.ak s.an (s.ak.length:Int) a).val) 1000000 (0,[])=_;rw[mK (p:=λz=>decide (z.aa<pid)) (f:=id) (l:=s.ak) (x:=λa=>(false,(s.ak.length:Int),a)) (λi z a d c=>?_) (λa=>?_) (by omega)]
  .simp
  .have hi:=(δ.1 d).1;have m:decide ((i:Int)<(s.ak.length:Int))=true:=decide_eq_true (by omega);have o:μ.wrap ((i:Int)+1)=((i+1:Nat):Int):=cr (by omega) (by omega);unfold oS;simp only[T.aN,T.aH,T.aD,m,cond_true,d' d,γ,gm (n:=0) (b:=32) (z:=z) (i:=i) (a:=a) (by omega) (by omega) (by omega) (by omega),o];cases decide (z.aa<pid)<;>rfl
  .unfold oS;simp only[T.aH,T.aD,φ,decide_false,cond_false]
 have g: ∀a:List aq,a.length<=101->tC ae pid s.ak s.an a=some (false,(s.ak.length:Int),a++s.ak.filter λz=>decide (pid<z.aa)):=λa j=>by
  show bF (λk z a=>(ua ae pid s.ak s.an k z a).val) (λk a=>(sj ae pid s.ak s.an k a).val) 0 s.ak _=_;rw[j9 (n:=101) (λz:aq=>if decide (pid<z.aa) then some z else none) (λi z a d c=>?_) j,kL]
  .unfold sj;simp only[T.aD,φ,decide_false]
  .have hi:=(δ.1 d).1;unfold ua;have e:decide (z.aa>pid)=decide (pid<z.aa):=rfl;simp only[T.aN,T.aH,T.aD,γ,gm (b:=32) (z:=z) c (by omega) (by omega) (by omega),e];cases decide (pid<z.aa)<;>simp
 have c:app 32 (s.ak.filter λz=>decide (z.aa<pid)) [aq.mk pid ws]=some ((s.ak.filter λz=>decide (z.aa<pid))++[aq.mk pid ws]):=eK (n:=1000) (by simp;omega) (by omega);show(D5 ae s pid ws).val=_;unfold D5 fy;simp only[T.aN,T.aH,T.bt,T.aD,h,γ,c,g (s.ak.filter λz=>decide (z.aa<pid)) (by omega),g ((s.ak.filter λz=>decide (z.aa<pid))++[aq.mk pid ws]) (by simp;omega)];cases ws with
 |nil=>simp
 |cons w r=>
  have:decide ((((w::r:Γa).length:Nat):Int)>0)=true:=decide_eq_true (by simp);rw[this,if_neg (by simp)];simp

theorem JW (c:bq):jT ae c=some (h3 c):=by
 show(EK ae c).val=_;unfold EK h3;simp only[T.aH,T.aD];cases c.bb==9<;>rfl
theorem Uo {a:Int} (b:cd a):pN ae a=some (if a<8 then a else -1):=by
 show(D9 ae a).val=_;unfold D9;simp only[T.aH,T.aD]
 by_cases h:a<8
 .rw[decide_eq_false (by omega),if_pos h,cr (by have:=b.1;omega) (by omega)];rfl
 .rw[decide_eq_true (by omega),if_neg h];rfl
theorem OP {l:List ai} (h:eS l) {p a:Int} (g:cd a):cy l p (if a<8 then a else -1)=cy l p a:=by
 by_cases b:a<8
 .rw[if_pos b]
 .have c:=Is (p:=p) h (show 8<=a by omega);rw[if_neg b,c];rcases nH l p (-1) with⟨_,e⟩|⟨i,d,_,f,_,_,e⟩
  .exact e
  .have:=p_ h d (κ f);omega
theorem NJ {α:Type} {l:List α} {i:Nat} (h:i<=l.length):dn l (some (i:Int)) none none=some (l.drop i):=by
 unfold dn;simp only[ξo,ξ3];rw[if_pos ⟨by omega,by omega,by omega,by omega,by omega,by simp⟩,ζ,ζ,ζX]
def Ends (f:Option (aF×Int×Int)) (r:fz (aF×Int)):Prop:= ∃n v e,f=some (n,v,e)/\match r with| .ok x=>(n,v)=x/\e=0| .error a=>e=a
section
variable {s:aF} {c:bq} {p a b:Int}
theorem abA (h:dC s) (g:c.bb=1\/c.bb=2\/c.bb=3) (k:bJ s.ar.ab (aw c.fArgs 0)=true):Ends (Gr ae s c) (fj s c.bb (aw c.fArgs 0) (aw c.fArgs 1) (aw c.fArgs 2)):=by
 show Ends (DO ae s c).val _;have j:=h.lb;unfold DO fj;generalize aw c.fArgs 0=p at*
 generalize aw c.fArgs 1=a at*
 rcases g with e|e|e<;>simp only[e,T.aH,T.aD,T.aN,ξT,ζ2,cond_true,cond_false,if_true,if_false]
 .simp only[aip h.p,γ];cases hB s.ar p with
  |error x=>exact⟨_,_,_,rfl,rfl⟩
  |ok x=>exact⟨_,_,_,rfl,rfl,rfl⟩
 .simp only[air h.p,ais h.i,ait h.d,JX j,γ];cases f:hh s.ar p a with
  |error x=>
   simp only[gJ (Gk f),cond_false];exact⟨_,_,_,rfl,rfl⟩
  |ok x=>
   simp only[show((0:Int)==0)=true from rfl,cond_true]
   by_cases b:ho s.ao p=[]
   .rw[if_pos b,b];exact⟨_,_,_,rfl,rfl,rfl⟩
   .have:decide (((ho s.ao p).length:Int)>0)=true:=decide_eq_true (by have:=ζ7.2 b;omega);rw[if_neg b,this];exact⟨_,_,_,rfl,rfl⟩
 .simp only[aiq h.p,γ];cases hE s.ar p a with
  |error x=>exact⟨_,_,_,rfl,rfl⟩
  |ok x=>exact⟨_,_,_,rfl,rfl,rfl⟩
theorem UC (h:eT s.au) {w i:Int} (e:jv s.au w=some i):(i==0)=false:=by
 obtain⟨u,_,hu⟩:=ξy e;have:=HO h hu;simp;omega
theorem RM {l:List ai} {p x:Int} {y:List ai×Int} (e:fO l p x= .ok y):ξe.wrap y.2=y.2:=by
 obtain⟨l',v⟩:=y;obtain⟨i,a,_,rfl,_⟩:=rf e;have:=(qd a).1;exact fT (by omega) (by omega)
theorem abB (h:dC s) (F:gZ c) (I:c.bb=4\/c.bb=5\/c.bb=6) (J:bJ s.ar.ab (aw c.fArgs 0)=true):Ends (Gs ae s c) (fj s c.bb (aw c.fArgs 0) (aw c.fArgs 1) (aw c.fArgs 2)):=by
 show Ends (DP ae s c).val _;have g:=F.a;have hlen:=h.d.len;have hp:=(jr h.p ((hz h.p.ord).1 J)).2.1;unfold DP fj;generalize aw c.fArgs 0=p at*
 generalize aw c.fArgs 1=a at*
 rcases I with e|e|e<;>simp only[e,T.aH,T.aD,T.aN,ξT,ζ2,cond_true,cond_false,if_true,if_false]
 .unfold fG;simp only[rl g,γ];cases hw:bV a
  .exact⟨_,_,_,rfl,rfl⟩
  simp only[ι,cond_false,cond_true,Um h.m g hw,γ];cases hu:jv s.au a with
  |none=>exact⟨_,_,_,rfl,rfl⟩
  |some i=>
   simp only[ξ3,UC h.m hu,cond_false,Un h.d hp,γ];cases o:fO s.aB p i with
   |error x=>exact⟨_,_,_,rfl,rfl⟩
   |ok y=>
    have:=RM o;exact⟨_,_,_,rfl,by rw[this],rfl⟩
 .unfold gH;simp only[Uo g,yM,γ];rw[<-OP h.d g];obtain⟨n,hn⟩: ∃n,n=if a<8 then a else -1:=⟨_,rfl⟩;rw[<-hn];rcases nH s.aB p n with⟨b,f⟩|⟨i,d,b,k,f,o,q⟩
  .rw[b,f];exact⟨_,_,_,rfl,rfl⟩
  .have hi:=(δ.1 k).1;have r:decide ((i:Int)<0)=false:=decide_eq_false (by omega);have hw:μ.wrap ((i:Int)+1)=((i+1:Nat):Int):=cr (by omega) (by omega);have D:app 24 ([]:List ai) (s.aB.take i)=some (s.aB.take i):=eK (n:=1000) (by simp;omega) (by omega);have E:app 24 (s.aB.take i) (s.aB.drop (i+1))=some (s.aB.take i++s.aB.drop (i+1)):=eK (n:=1000) (by simp;omega) (by omega);have G:=abj (p:=λd=>d.aa==p&&d.bm==a) k (by
    have H:=p_ h.d d (κ k);have:n=a:=by
     by_cases w:a<8
     .rw[hn,if_pos w]
     .rw[hn,if_neg w] at q;omega
    rw[o,q,this];simp) λj y t B=>by
    have z:=(δ.1 t).1;have u:s.aB[i]=d:=(δ.1 k).2;have v:s.aB[j]=y:=(δ.1 t).2;have H:=p_ h.d d (κ k);have B:y.aa=p/\y.bm=a:=by simpa using B
    have K:=p_ h.d y (κ t);have:n=a:=by
     rw[hn,if_pos (by omega)]
    have A:=ξ9.1 h.d.ord;rcases ζl j i with l|l|l
    .have:=A j i z hi l;rw[u,v,iO] at this;omega
    .exact l
    .have:=A i j hi z l;rw[u,v,iO] at this;omega
   rw[b,f];simp only[r,cond_false,γ,F4 (show i<=s.aB.length by omega),D,hw,ζ8,NJ (show i+1<=s.aB.length by omega),E];exact⟨_,_,_,rfl,by rw[G],rfl⟩
 .unfold fX;simp only[Uo g,yM,γ];rw[<-OP h.d g];obtain⟨n,hn⟩: ∃n,n=if a<8 then a else -1:=⟨_,rfl⟩;rw[<-hn];rcases nH s.aB p n with⟨b,f⟩|⟨i,d,b,k,f,o,q⟩
  .rw[b,f];exact⟨_,_,_,rfl,rfl⟩
  .have r:decide ((i:Int)<0)=false:=decide_eq_false (by omega);rw[b];simp only[r,cond_false,aiv h.d hp,γ];unfold fX;simp only[f];cases C:fO s.aB p d.b3 with
   |error x=>exact⟨_,_,_,rfl,rfl⟩
   |ok y=>
    have:=RM C;exact⟨_,_,_,rfl,by rw[this],rfl⟩
theorem abC (h:dC s) (g:gZ c) (j:c.bb=7\/c.bb=8\/c.bb=9):Ends (Gt ae s c) (fj s c.bb (aw c.fArgs 0) (aw c.fArgs 1) (aw c.fArgs 2)):=by
 show Ends (DQ ae s c).val _;have f:=g.a;unfold DQ fj;generalize aw c.fArgs 0=p at*
 generalize aw c.fArgs 1=a at*
 rcases j with e|e|e<;>simp only[e,T.aH,T.aD,T.aN,ξT,ζ2,cond_true,cond_false,if_true,if_false,rl f,γ]
 .cases hw:bV a
  .unfold gF;rw[hw];exact⟨_,_,_,rfl,rfl⟩
  simp only[ι,cond_false,aiw h.m hw,γ];cases gF s.au a with
  |error x=>exact⟨_,_,_,rfl,rfl⟩
  |ok x=>exact⟨_,_,_,rfl,rfl,rfl⟩
 .unfold iv;cases hw:bV a
  .exact⟨_,_,_,rfl,rfl⟩
  simp only[ι,cond_false,cond_true,aix h.m f hw,JY,aiy h.d,γ];unfold hC;rw[hw];cases hi:cq s.au a with
  |none=>exact⟨_,_,_,rfl,rfl⟩
  |some i=>
   simp only[cond_true,ξ3];cases hM s.au a
   .simp only[cond_false,show((0:Int)==0)=true from rfl,cond_true]
    by_cases b:hf s.aB i=0
    .have:decide ((hf s.aB i:Int)>0)=false:=decide_eq_false (by omega);rw[if_pos b,this];exact⟨_,_,_,rfl,rfl,rfl⟩
    .have:decide ((hf s.aB i:Int)>0)=true:=decide_eq_true (by omega);rw[if_neg b,this];exact⟨_,_,_,rfl,rfl⟩
   .by_cases b:hf s.aB i=0
    .rw[if_pos b];exact⟨_,_,_,rfl,rfl⟩
    .rw[if_neg b];exact⟨_,_,_,rfl,rfl⟩
 .unfold fG;cases hw:bV a
  .exact⟨_,_,_,rfl,rfl⟩
  simp only[ι,cond_false,cond_true,Um h.m f hw,γ];cases hu:jv s.au a with
  |none=>exact⟨_,_,_,rfl,rfl⟩
  |some i=>
   simp only[ξ3,UC h.m hu,cond_false];exact⟨_,_,_,rfl,rfl,rfl⟩
theorem abD (h:dC s) (f:gZ c) (g:c.bb=10\/c.bb=11\/c.bb=12):Ends (Gu ae s c) (fj s c.bb (aw c.fArgs 0) (aw c.fArgs 1) (aw c.fArgs 2)):=by
 show Ends (DR ae s c).val _;have d:=f.a;unfold DR fj;generalize aw c.fArgs 0=p at*
 generalize aw c.fArgs 1=a at*
 rcases g with e|e|e<;>simp only[e,T.aH,T.aD,T.aN,ξT,ζ2,cond_true,cond_false,if_true,if_false,yQ d,JZ,γ]
 .cases hw:dy a
  .unfold gS;rw[hw];exact⟨_,_,_,rfl,rfl⟩
  simp only[ι,cond_false,aiz h.i d,γ];cases gS s.ao a p with
  |error x=>exact⟨_,_,_,rfl,rfl⟩
  |ok x=>exact⟨_,_,_,rfl,rfl,rfl⟩
 .unfold f_;cases hw:dy a
  .exact⟨_,_,_,rfl,rfl⟩
  cases hl:eC s.ao.an a with
  |none=>exact⟨_,_,_,rfl,rfl⟩
  |some q=>
   simp only[ι,cond_false,cond_true]
   by_cases b:q=p
   .have:(q !=p)=false:=by simpa using b
    rw[if_pos b,this];simp only[cond_false,aiA h.i d hw hl,γ];exact⟨_,_,_,rfl,rfl,rfl⟩
   .have:(q !=p)=true:=by simpa using b
    rw[if_neg b,this];exact⟨_,_,_,rfl,rfl⟩
 .unfold f_;cases hw:dy a
  .exact⟨_,_,_,rfl,rfl⟩
  cases hl:eC s.ao.an a with
  |none=>exact⟨_,_,_,rfl,rfl⟩
  |some q=>exact⟨_,_,_,rfl,rfl,rfl⟩
theorem abE (h:dC s) (j:c.bb=13\/c.bb=14):Ends (Gv ae s c) (fj s c.bb (aw c.fArgs 0) (aw c.fArgs 1) (aw c.fArgs 2)):=by
 show Ends (DS ae s c).val _;have g:=h.lb;unfold DS fj;generalize aw c.fArgs 0=p at*
 generalize aw c.fArgs 1=a at*
 generalize aw c.fArgs 2=b at*
 rcases j with e|e<;>simp only[e,T.aH,T.aD,T.aN,ξT,ζ2,cond_true,cond_false,if_true,if_false,rR,aiB,γ]
 .cases bJ s.ar.ab a
  .exact⟨_,_,_,rfl,rfl⟩
  have hl:=rT h.i a;have f:(((cJ s.ao a).length:Int)==4)=((cJ s.ao a).length==4):=by rw[η];simp;omega
  have d:app 8 ([]:Γa) (cJ s.ao a)=some (cJ s.ao a):=eK (n:=1000) (by simp;omega) (by omega);have a2:app 8 (cJ s.ao a) [b]=some (cJ s.ao a++[b]):=eK (n:=1000) (by simp;omega) (by omega);unfold kb;simp only[ι,cond_false,cond_true,f,d,a2,γ,JX g];cases (cJ s.ao a).length==4
  .exact⟨_,_,_,rfl,rfl,rfl⟩
  .exact⟨_,_,_,rfl,rfl⟩
 .have hl:=rT h.i p;unfold j5;cases hw:cJ s.ao p with
  |nil=>exact⟨_,_,_,rfl,rfl⟩
  |cons w r=>
   rw[hw] at hl;have f:((((w::r:Γa).length:Nat):Int)==0)=false:=by simp;omega
   have c1:dn (w::r) (some (1:Int)) none none=some r:=NJ (l:=w::r) (i:=1) (by simp);have d:app 8 ([]:Γa) r=some r:=eK (n:=1000) (by simp at hl ⊢;omega) (by omega);have i1:idx (w::r) 0=some w:=d' (i:=0) rfl;simp only[f,cond_false,c1,d,γ,JX g,i1];exact⟨_,_,_,rfl,rfl,rfl⟩
theorem u90 (h:dC s) (k:gZ c):vT ae s c=some (dM s c):=by
 show(EC ae s c).val=_;unfold EC dM nf
 by_cases w:1<=c.bb
 rotate_left
 .rw[T.aH,decide_eq_true (by omega),if_neg (by omega)];rfl
 by_cases z:c.bb<=14
 rotate_left
 .rw[T.aH,decide_eq_false (by omega),cond_false,T.aH,decide_eq_true (by omega),if_neg (by omega)];rfl
 rw[T.aH,decide_eq_false (by omega),cond_false,T.aH,decide_eq_false (by omega),cond_false,if_pos ⟨w,z⟩];have key:(h3 c=true\/bJ s.ar.ab (aw c.fArgs 0)=true)->Ends (pW ae s c) (fj s c.bb (aw c.fArgs 0) (aw c.fArgs 1) (aw c.fArgs 2)):=by
  intro a;have a:c.bb=9\/c.bb=12\/bJ s.ar.ab (aw c.fArgs 0)=true:=by
   rcases a with a|a
   .unfold h3 at a;rw[η1,beq_iff_eq,beq_iff_eq] at a;rcases a with a|a
    .exact .inl a
    .exact .inr (.inl a)
   .exact .inr (.inr a)
  have fin: ∀ {f g:Option (aF×Int×Int)} {r:fz (aF×Int)},Ends g r->f=(g.bind λy=>some (y.1,y.2.1,y.2.2))->Ends f r:=λ{f g r} ⟨n,v,e,j,b⟩ A=>⟨n,v,e,by rw[A,j];rfl,b⟩;show Ends (E_ ae s c).val _;unfold E_
  by_cases d:c.bb<=3
  .exact fin (abA h (by omega) (by rcases a with a|a|a;omega;omega;exact a)) (by rw[T.aH,decide_eq_true d,cond_true,T.aN];rfl)
  by_cases i:c.bb<=6
  .exact fin (abB h k (by omega) (by rcases a with a|a|a;omega;omega;exact a)) (by rw[T.aH,decide_eq_false d,cond_false,T.aH,decide_eq_true i,cond_true,T.aN];rfl)
  by_cases m:c.bb<=9
  .exact fin (abC h k (by omega)) (by rw[T.aH,decide_eq_false d,cond_false,T.aH,decide_eq_false i,cond_false,T.aH,decide_eq_true m,cond_true,T.aN];rfl)
  by_cases o:c.bb<=12
  .exact fin (abD h k (by omega)) (by rw[T.aH,decide_eq_false d,cond_false,T.aH,decide_eq_false i,cond_false,T.aH,decide_eq_false m,cond_false,T.aH,decide_eq_true o,cond_true,T.aN];rfl)
  .exact fin (abE h (by omega)) (by rw[T.aH,decide_eq_false d,cond_false,T.aH,decide_eq_false i,cond_false,T.aH,decide_eq_false m,cond_false,T.aH,decide_eq_false o,cond_false,T.aN];rfl)
 have tail: ∀ {t:T (aF×bP)},(t= .bd (pW ae s c) λy=>.bf (y.2.2 !=0) (.ok (s,⟨y.2.2,0⟩))<|.ok (y.1,⟨0,y.2.1⟩))->(h3 c=true\/bJ s.ar.ab (aw c.fArgs 0)=true)->t.val=some (match fj s c.bb (aw c.fArgs 0) (aw c.fArgs 1) (aw c.fArgs 2) with| .ok (n,v)=>(n,⟨0,v⟩)| .error e=>(s,⟨e,0⟩)):=λ{t} D a=>by
  obtain⟨n,v,e,j,b⟩:=key a;rw[D];simp only[T.aN,T.aH,T.aD,j,γ];cases l:fj s c.bb (aw c.fArgs 0) (aw c.fArgs 1) (aw c.fArgs 2) with
  |ok x=>
   rw[l] at b;obtain⟨q,u⟩:=b;cases q;subst u;rfl
  |error p=>
   rw[l] at b;have b:e=p:=b;subst b;have:(e !=0)=true:=by simpa using ads l
   simp only[this,cond_true]
 rw[T.aN,JW,γ,T.aH];cases B:h3 c
 .rw[π,cond_true,T.aN,rR,γ,T.aH];cases C:bJ s.ar.ab (aw c.fArgs 0)
  .rfl
  .rw[ι,cond_false];exact(tail rfl (.inr C)).trans (by simp only[ξd,cond_true]<;>rfl)
 .rw[ι,cond_false];exact(tail rfl (.inl B)).trans (by simp only[ηj,cond_true]<;>rfl)
end
end Go.Proofs.YtdhaaaeffhaadaaGreatDoor
end
section
namespace Go.Vx
open Go.RowKit Go.Dc

section
variable {S:bh} {A A':Pl} {O O':Γ} {w w':World} {g:Nat->Option (Ob S)}
def NB {α:Type} (T:Ty α):Prop:= ∀ {R O:Γ} {w:World} {cs:Γb} {x:α},(∀k,k<w.heap.size->k∉R->(∃(cur:Array Value) (t:Nat) (z:Nat×Nat),w.heap[k]? =some (.cells cur t z))->k∉O)->T.rep R w cs x->T.rep O w cs x
theorem l5 {α β:Type} {X:Ty α} {Y:Ty β} (hX:NB X) (c:NB Y):NB (Ty.pair X Y):=λh ⟨c1,c2,e,a,b⟩=>⟨c1,c2,e,hX h a,c h b⟩
theorem nW {α:Type} {T:Ty α} (p:NB T) (hn:0<T.n):NB (Ty.slice T):=λ{R O w cs x} h ⟨A,c,j,l,m⟩=>by
 refine⟨A,c,j,l,λk y r=>?_⟩;obtain⟨ad,es,g,b,i,d,e⟩:=m k y r;refine⟨ad,es,g,b,h _ b i ?_,p h d,e⟩;have hl:0<es.length:=by rw[T.len d];exact hn
 have a:=e.1 0 es[0] (ε hl);rw[Addr.add_zero'] at a;unfold World.cell? at a;have q:(ad.add (k*T.n)).block=ad.block:=fA _ _;rw[q] at a;cases f:w.heap[ad.block]? with
 |none=>rw[f] at a;cases a
 |some o=>
  rw[f] at a;cases o with
  |cells cur t z=>exact⟨cur,t,z,rfl⟩
  |_=>cases a
def yx (i n:Nat):List (LV S):=(ξX 0 n).map λj=>.sc i j
theorem SM {i:Nat} {cs:Γb} {b:Γ} (hp:A.pl i=some (gg cs b)) (c: ∀u∈cs,u.oneCell'=true): ∀(m s:Nat),s+m=cs.length->bz A O w ((ξX s m).map λj=>(.sc i j:LV S)) (cs.drop s)
 |0,s,h=>by rw[List.drop_of_length_le (by omega)];rfl
 |m+1,s,h=>by
  have a:s<cs.length:=by omega
  rw[ρ a];show bz A O w (.sc i s::(ξX (s+1) m).map λj=>.sc i j) _;exact⟨[cs[s]],_,rfl,⟨cs,b,hp,cs[s],ε a,rfl,c _ (ξO a)⟩,SM hp c m (s+1) (by omega)⟩
theorem NS {nx t:Nat} {x:S.El t} {cs:Γb} {bs new ks:Γ} (n:bS A O w g) (u:OB O w) (l:A.pl nx=none) (f:Fr [] w w') (o: ∀b∈new,w.heap.size<=b/\b<w'.heap.size) (v: ∀r∈ks,∃Z,g r=some Z)
  (B: ∀b∈bs,b∈new\/ ∃r∈ks,∃Z q,g r=some Z/\A.pl r=some q/\cI w Z q b) (hX:dD (A.put nx (gg cs bs)) (O++new) w' (.st t x) (gg cs bs)):b_ A O w g (gO ks++[(nx,some (.st t x))]) (A.put nx (gg cs bs)) (O++new) w' where
 le:=Pl.mg l
 tr:=⟨f.os,f.tape,f.output,f.size,λk C hn=>⟨λhm=>by
  rcases χ.1 hm with hm|hm
  .exact hn hm
  .have:=(o k hm).1;omega,f.block k C (by simp)⟩⟩
 ob b d:=by
  rcases χ.1 d with d|d
  .exact ζS (u b d) f.size
  .exact(o b d).2
 keep b d _:=⟨f.block b (u b d) (by simp),ξq _ d⟩
 al i X hi:=by
  rcases χ.1 hi with hi|hi
  .have:=(dz.1 hi).2;cases this
  .obtain⟨rfl,e⟩:=b' hi;cases e;refine⟨_,Pl.gz A _ _,hX,λb d=>?_⟩;rcases d with d|⟨G,F,y,z⟩
   .cases d
   .cases rL y;rcases B b z with h|⟨r,E,Z,q,a,c,s⟩
    .exact⟨ζD _ h,.inl (o b h).1⟩
    .exact⟨ξq _ (n.hU a c s),.inr ⟨r,none,q,Z,ξq _ (dz.2 ⟨E,rfl⟩),a,c,s⟩⟩
 dj i j X Y p q b D a c:=by
  rcases χ.1 a with a|a
  .have:=(dz.1 a).2;cases this
  .rcases χ.1 c with c|c
   .have:=(dz.1 c).2;cases this
   .obtain⟨rfl,_⟩:=b' a;obtain⟨rfl,_⟩:=b' c;exact absurd rfl D
 nd i X Y a c:=by
  have no:i∈ks->i=nx->False:=λhi e=>by
   subst e;obtain⟨Z,m⟩:=v _ hi;obtain⟨p,hp,_⟩:=n.al _ Z m;rw[l] at hp;cases hp
  rcases χ.1 a with a|a<;>rcases χ.1 c with c|c
  .exact(dz.1 a).2.trans (dz.1 c).2.symm
  .exact(no (dz.1 a).1 (b' c).1).elim
  .exact(no (dz.1 c).1 (b' a).1).elim
  .exact(b' a).2.trans (b' c).2.symm
 lv i X p hi hp:=by
  rcases χ.1 hi with hi|hi
  .exact v i (dz.1 hi).1
  .obtain⟨rfl,_⟩:=b' hi;rw[l] at hp;cases hp
 pl i:=by
  by_cases h:i=nx
  .subst h;exact .inr ⟨l,_,ζD _ τ⟩
  .exact .inl (Pl.oc λe=>h e.symm)
 nt i X Z hi m _:=by
  rcases χ.1 hi with hi|hi
  .have:=(dz.1 hi).2;cases this
  .obtain⟨rfl,_⟩:=b' hi;obtain⟨p,hp,_⟩:=n.al _ Z m;rw[l] at hp;cases hp
theorem abI {i:Nat} {Z:Ob S} {cs:Γb} {bs:Γ} (e:OB O w) (hi:g i=some Z) (hp:A.pl i=some (gg cs bs)) (l: ∀b,cI w Z (gg cs bs) b↔b∈bs) (f: ∀b∈bs,b∈O) (a:Fr bs w w'):b_ A O w g [(i,none)] A (O.filter λb=>!bs.contains b) w' where
 le:=Pl.le.refl A
 tr:=⟨a.os,a.tape,a.output,a.size,λk m hn=>⟨λhm=>hn (ν.1 hm).1,a.block k m λh=>hn (f k h)⟩⟩
 ob b hm:=ζS (e b (ν.1 hm).1) a.size
 keep b hm h:=by
  have c:b∉bs:=λd=>h i none _ τ hp Z hi ((l b).2 d);exact⟨a.block b (e b hm) c,ν.2 ⟨hm,by simpa using c⟩⟩
 al j X h:=by have:=(b' h).2;cases this
 dj j k X Y p q b _ h:=by have:=(b' h).2;cases this
 nd j X Y c d:=(b' c).2.trans (b' d).2.symm
 lv j X q h n:=by
  obtain⟨rfl,_⟩:=b' h;exact⟨Z,hi⟩
 pl _:=.inl rfl
 nt j X Y h:=by have:=(b' h).2;cases this
end
end Go.Vx
end
