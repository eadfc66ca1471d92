/- A part of the proof that OrderOne returns true for every input: the machine of values, its soundness, the program as plain functions, the law. Conditions: those of the given rows. -/
import Derived.Test.YtoggponeookhbaaGreatDoorQ4
import Derived.Laws.Bits64b
import Derived.Laws.Strings
set_option linter.unusedVariables false
set_option linter.unusedSimpArgs false
noncomputable section
set_option maxRecDepth 1000000
set_option maxHeartbeats 12000000
open Array renaming ext'→ζX
open Bool renaming and_eq_true→θ,not_true→ι,eq_iff_iff→κ,not_false→ν,true_and→ω,false_eq_true→ξ6,false_or→ξr,not_eq_true'→ξO,false_ne_true→ζ2,not_not→ζr,and_assoc→ζS,false_and→ζT,or_false→η2,or_self→η7
open ByteArray renaming mk→ξ0,ext→ζd
open Go.ByteArray renaming toList_eq→ξA
open Go.IntKind renaming i64→δ,u64→ξq,wrap_u64→ζL
open Go.Lib renaming indexByte→η3
open Go.Proofs.Tryz renaming prog→μ,f94→ξk,f12→ξW,f58→ζ5,f17→ζh,f123→ζs,func94→ζz,f32→ζE,func12→η9,func58→ηa,f23→ηb,f33→ηc,f34→ηd,f92→ηe
open Go.Utf8 renaming decode→ξ5,decode→ζ6
open Int renaming toNat_natCast→η,eq_ofNat_of_zero_le→ξD,fdiv_eq_ediv_of_nonneg→ξY
open List renaming getElem?_eq_getElem→ε,getElem?_eq_some_iff→ζ,mem_filter→ξ,length_append→ο,mem_cons_of_mem→ρ,mem_cons_self→τ,mem_of_find?_eq_some→υ,mem_of_getElem?→φ,length_cons→χ,length_singleton→ψ,getElem?_append_right→ξ1,pairwise_iff_getElem→ξ3,range→ξ4,pairwise_cons→ξ7,takeWhile_cons→ξ8,length_filter_le→ξ9,pairwise_append→ξc,append_nil→ξe,dropWhile_sublist→ξf,all_eq_true→ξg,filter_cons→ξh,getElem?_append_left→ξi,drop_eq_getElem_cons→ξj,getElem?_map→ξl,any_eq_false→ξm,find?_some→ξn,takeWhile_append_dropWhile→ξo,eq_nil_of_length_eq_zero→ξs,mem_singleton→ξt,foldl_cons→ξv,length_map→ξw,map_append→ξx,mem_cons→ξy,any_eq_true→ξz,dropWhile_cons→ξB,filterMap_cons→ξC,find?_cons→ξE,findIdx?_cons→ξF,mem_append→ξH,pairwise_singleton→ξI,findIdx?_eq_some_iff_getElem→ξJ,exists_of_findSome?_eq_some→ξK,takeWhile_sublist→ξL,append_assoc→ξN,getElem?_set→ξP,getElem?_of_mem→ξS,mem_append_left→ξT,mem_of_mem_take→ξU,map_cons→ξV,isPrefixOf_iff_prefix→ξZ,mem_map→ζ1,mem_filterMap→ζ3,filter_append→ζ4,mem_take_iff_getElem→ζ7,ext_getElem?→ζa,head?_dropWhile_not→ζb,getElem?_cons_succ→ζe,getElem?_cons_zero→ζf,map_take→ζg,getElem_mem→ζi,take_length→ζj,length_nil→ζl,getElem?_eq_none→ζm,singleton_append→ζn,nil_append→ζo,set_append_right→ζp,range_eq_range'→ζu,drop_zero→ζv,mem_range→ζw,length_pos_iff→ζx,getElem_of_mem→ζy,all_cons→ζA,find?_eq_none→ζB,set_cons_zero→ζC,map_map→ζI,length_take→ζM,all_append→ζN,length→ζO,map_id→ζQ,range_succ→ζR,take_left→ζU,drop_left→ζV,replicate→ζW,any_cons→η1,map_nil→η6,range'→η8
open Nat renaming le_refl→ξ2,zero_add→ξp,lt_or_eq_of_le→ξu,add_sub_cancel→ξG,le_trans→ξQ,mul_le_mul_right→ξR,zero_le→ξX,add_zero→ζ0,lt_succ_iff_lt_or_eq→ζ9,pow_succ→ζk,sub_self→ζq,pow_le_pow_right→ζt,lt_trichotomy→ζG,mul_comm→ζH,le_of_lt→ζJ,lt_or_ge→ζK,mul_assoc→ζZ,add_assoc→η0,add_comm→η4,mul_zero→η5
open Option renaming bind_some→γ,getD_none→ξa,getD_some→ξb,map_eq_none_iff→ξM,isSome_none→ζD,map_some→ζP,map→ζY
open Option.some renaming injEq→ζF
open Sum renaming rec→ζ8
open UInt8 renaming ofNat→ξd,toNat→ζc
section
namespace Go.Proofs.YtoggponeookhbaaGreatDoor
open Go.RowKit Go.Dc Go.Vx
def gk (s:ByteArray) (j:Nat):Nat:=((s.data.toList[j]?).map ζc).getD 0
def i_ (c:Nat->Nat):Nat->Nat
 |0=>0
 |i+1=>i_ c i+256^i*c i
def oo (s:ByteArray):Int×Int:=if 8<s.size then(0,111) else if(ξ4 s.size).any (λj=>gk s j==0) then(0,2) else((i_ (gk s) 8:Nat),0)
theorem ahu (s:ByteArray) (j:Nat):gk s j<256:=by
 unfold gk;cases s.data.toList[j]? with
 |none=>simp
 |some b=>simpa using b.toNat_lt
theorem QW {c:Nat->Nat} (hc: ∀j,c j<256): ∀i,i_ c i<256^i
 |0=>by simp[i_]
 |i+1=>by
  have U:=QW hc i;have h2:256^i*c i<=256^i*255:=Nat.mul_le_mul_left _ (by have:=hc i;omega);simp only[i_,ζk];generalize (256:Nat)^i=q at*
  generalize q*c i=r at*
  omega
theorem ar9 (c i:Nat) (hc:c<256) (hi:i<8):uW .u64 (c:Int) ((8*i:Nat):Int)=some ((256^i*c:Nat):Int):=by
 unfold uW;rw[if_neg (by omega)];have wA:ξq.bits=64:=rfl;have hm:min ((8*i:Nat):Int).toNat ξq.bits=8*i:=by rw[wA,η];omega
 have hp:(2:Nat)^(8*i)=256^i:=by rw[Nat.pow_mul]
 have hle:256^i<=256^7:=ζt (by omega) (by omega);have e7:(256:Nat)^7=72057594037927936:=by decide
 have e:(c:Int)*2^(8*i)=((256^i*c:Nat):Int):=by rw[<-hp,Int.natCast_mul,Int.natCast_pow,Int.mul_comm];rfl
 rw[hm,ζL,e];have aB:256^i*c<18446744073709551616:=by
  have U:256^i*c<=256^7*c:=ξR _ hle;rw[e7] at U;omega
 generalize 256^i*c=q at*
 rw[ζF];omega
theorem apH {c:Nat->Nat} (hc: ∀j,c j<256) (i:Nat) (hi:i<8):bits .or .u64 (i_ c i:Int) ((256^i*c i:Nat):Int)=(i_ c (i+1):Int):=by
 have U:=QW hc i;have h2:=QW hc (i+1);have hle:256^(i+1)<=256^8:=ζt (by omega) (by omega);have e8:(256:Nat)^8=18446744073709551616:=by decide
 rw[e8] at hle;have h3:i_ c (i+1)=i_ c i+256^i*c i:=rfl;rw[bits_or_u64_nat _ _ (by omega) (by omega),Nat.or_comm,h3];have hp:(2:Nat)^(8*i)=256^i:=by rw[Nat.pow_mul]
 have:=Nat.two_pow_add_eq_or_of_lt (i:=8*i) (b:=i_ c i) (by rw[hp];exact U) (c i);rw[hp] at this;rw[<-this,η4]
theorem E3 {α:Type} {b:Nat} {xs ys:List α} (h:(xs.length+ys.length)*b<=140737488355328):app b xs ys=some (xs++ys):=by
 unfold app;rw[if_pos h]
def dg:Nat->Nat->List Nat
 |0,_=>[]
 |k+1,n=>if n%256=0 then[] else n%256::dg k (n/256)
def mE:Nat->Nat->Nat
 |0,n=>n
 |k+1,n=>if n%256=0 then n else mE k (n/256)
def bs (l:List Nat):ByteArray:=⟨(l.map ξd).toArray⟩
theorem yT: ∀(k n:Nat),(dg k n).length<=k
 |0,_=>by simp[dg]
 |k+1,n=>by
  simp only[dg];split
  ·simp
  ·have:=yT k (n/256);simp;omega
theorem Fk: ∀(k n:Nat),∀x∈dg k n,0<x/\x<256
 |0,_,x,h=>by simp[dg] at h
 |k+1,n,x,h=>by
  simp only[dg] at h;split at h
  ·cases h
  ·rcases ξy.1 h with e|h
   ·omega
   ·exact Fk k _ x h
theorem iO (l:List Nat):(bs l).size=l.length:=by simp[bs,ByteArray.size]
theorem ahs (l m:List Nat):bs l++bs m=bs (l++m):=by
 apply ζd;simp[bs,ByteArray.data_append]
theorem foldl_push: ∀(xs:List Int) (r:ByteArray),(xs.foldl (λr n=>r.push (ξd n.toNat)) r).data.toList=r.data.toList++xs.map (λn=>ξd n.toNat)
 |[],r=>by simp
 |x::xs,r=>by
  rw[ξv,foldl_push xs];simp[ByteArray.data_push]
theorem asm (l:List Nat):strOf (l.map λ(n:Nat)=>(n:Int))=bs l:=by
 apply ζd;apply ζX;unfold strOf;rw[foldl_push];show[]++_=_;simp[bs]
theorem acM {l m:List Nat} (h:l.length+m.length<=1000):uU (bs l) (bs m)=some (bs (l++m)):=by
 unfold uU;rw[iO,iO,if_pos (by omega),ahs]
theorem ahg {n:Nat} (h:n<18446744073709551616):bits .and .u64 (n:Int) 255=((n%256:Nat):Int):=by
 have e:bits .and .u64 (n:Int) ((255:Nat):Int)=((n&&&255:Nat):Int):=bits_and_u64_nat n 255 h (by omega);have e2:n&&&255=n%256:=by
  have:=Nat.and_two_pow_sub_one_eq_mod n 8;simpa using this
 rw[e2] at e;exact e
def pk:List Nat->Nat
 |[]=>0
 |x::r=>x+256*pk r
theorem QX (c:Nat->Nat): ∀k,i_ c (k+1)=c 0+256*i_ (λi=>c (i+1)) k
 |0=>by simp[i_]
 |k+1=>by
  rw[i_,QX c k];simp only[i_,ζk,Nat.mul_add];rw[ζH (256^k) 256];simp only[ζZ,η0]
theorem QV: ∀(k:Nat) (l:List Nat),l.length<=k->i_ (λi=>(l[i]?).getD 0) k=pk l
 |0,l,h=>by
  have:l=[]:=ξs (by omega);subst this;rfl
 |k+1,[],h=>by
  rw[QX];have:=QV k [] (by simp);simp only[List.getElem?_nil,ξa] at this ⊢;rw[this];rfl
 |k+1,x::r,h=>by
  rw[QX];have:=QV k r (by simpa using h);simp only[ζe,ζf,ξb] at this ⊢;rw[this];rfl
theorem Q3: ∀(k n:Nat),pk (dg k n)+256^(dg k n).length*mE k n=n
 |0,n=>by simp[dg,mE,pk]
 |k+1,n=>by
  simp only[dg,mE];split
  ·simp[pk]
  ·have:=Q3 k (n/256);simp only[pk,χ,ζk];rw[ζH (256^_) 256,ζZ];omega
theorem Vw {l:List Nat} (h: ∀x∈l,x<256) (j:Nat):gk (bs l) j=(l[j]?).getD 0:=by
 unfold gk bs;simp only[ξl];cases hj:l[j]? with
 |none=>simp
 |some x=>
  have:=h x (φ hj);simp;omega
theorem L3 {l:List Nat} (h: ∀x∈l,0<x/\x<256) (hl:l.length<=8):oo (bs l)=(((pk l:Nat):Int),0):=by
 unfold oo;rw[iO,if_neg (by omega)];have e:(ξ4 l.length).any (λj=>gk (bs l) j==0)=false:=by
  rw[ξm];intro j hj;have hj:j<l.length:=by simpa using hj
  rw[Vw (λx hx=>(h x hx).2),ε hj];have:=(h _ (ζi hj)).1;simp;omega
 rw[e,if_neg (by simp)];rw[show gk (bs l)=λi=>(l[i]?).getD 0 from funext λj=>Vw (λx hx=>(h x hx).2) j,QV 8 l hl]
theorem WD {l:List Nat} (h: ∀x∈l,x<256) {i x:Nat} (hx:l[i]? =some x):((bs l).get! i).toNat=x:=by
 have hl:=(ζ.1 hx).1;have aB:=h x (φ hx);have e:(bs l).get! i=ξd x:=by
  unfold ByteArray.get! bs;have:((l.map ξd).toArray)[i]? =some (ξd x):=by simp[hx]
  simp[getElem!_def,this]
 rw[e];simp;omega
theorem Mu {s:ByteArray} {i:Nat} (h:(s.get! i).toNat<128):ζ6 s i=((s.get! i).toNat,1):=by
 unfold ζ6;simp only[ζ0];rw[if_pos h]
theorem decode_high {s:ByteArray} {i:Nat} (h: ¬(s.get! i).toNat<128):128<=(ζ6 s i).1:=by
 unfold ζ6;simp only[ζ0];rw[if_neg h];have hr:128<=Go.Utf8.runeError:=by decide
 repeat' split
 all_goals first|exact hr|skip
 ·assumption
 ·rename_i hc;simp only[θ,decide_eq_true_eq] at hc;have:=hc.1;show 128<=_;omega
 ·rename_i hc;simp only[θ,decide_eq_true_eq] at hc;have:=hc.1;show 128<=_;omega
def lD (c:Nat):Bool:=decide (97<=c/\c<=122\/48<=c/\c<=57)
theorem E9 {c:Nat} (h:128<=c):lD c=false:=by
 unfold lD;simp;omega
theorem Mw (n:Nat): ∀x∈dg 8 n,x<256:=λx hx=>(Fk 8 n x hx).2
theorem MA (l:List Nat):((bs l).toList==(⟨#[]⟩:ByteArray).toList)=l.isEmpty:=by
 have e1: ∀x:ByteArray,x.toList=x.data.toList:=λx=>ξA x;rw[e1,e1];cases l<;>simp[bs]
def hP (n:Int):Bool:=(mE 8 n.toNat==0)&&!(dg 8 n.toNat).isEmpty&&(dg 8 n.toNat).all lD
theorem ao5 {s:ByteArray} (hs:s.size<=8) {i:Nat} (hi:i<8):aI (ez [0,0,0,0,0,0,0,0] (s.data.toList.map λb=>(b.toNat:Int))) i=(gk s i:Int):=by
 have hl:s.data.toList.length=s.size:=by rw[Array.length_toList];rfl
 unfold aI ez gk;simp only[ξw,χ,ζl,hl]
 by_cases h:i<s.size
 ·rw[ξi (by rw[ζM,ξw];omega),List.getElem?_take,if_pos (by omega),ξl,ε (by omega)];rfl
 ·have hn:s.data.toList[i]? =none:=ζm (by omega);rw[hn,ξ1 (by rw[ζM,ξw];omega)];have: ∀(k:Nat) (l:List Int),(∀x∈l,x=0)->(l[k]?).getD 0=0:=λk l hl=>by
   cases hk:l[k]? with
   |none=>rfl
   |some x=>exact hl x (φ hk)
  exact this _ _ λx hx=>by
   have:=List.mem_of_mem_drop hx;simp only[ξy,List.not_mem_nil,or_false] at this;omega
theorem YK: ∀l:List Int,oO KK 5 .u8 l=some l
 |[]=>rfl
 |x::l=>by
  have ih:=YK l;show(match oO KK 5 .u8 l with|some zs=>some (x::zs)|none=>none)=_;rw[ih]
theorem S79 {s:ByteArray} (hs:s.size<=8) {i:Nat} (hi:i<8):(yn ab s (ez [0,0,0,0,0,0,0,0] (s.data.toList.map λb=>(b.toNat:Int))) (((i_ (gk s) i:Nat):Int),(i:Int))).val=if gk s i=0/\i<s.size then some (.inr (.inl ())) else some (.inl (((i_ (gk s) (i+1):Nat):Int),((i+1:Nat):Int))):=by
 have hb:=ahu s;unfold yn;simp only[T.aR,T.bh,T.aM];have U:decide ((i:Int)<8)=true:=decide_eq_true (by omega);have kG:ξq.wrap (gk s i:Int)=(gk s i:Int):=by have:=hb i;rw[ζL];omega
 have mw:δ.wrap (8*(i:Int))=((8*i:Nat):Int):=by rw[eo (by omega) (by omega)];omega
 have sg:δ.wrap ((i:Int)+1)=((i+1:Nat):Int):=by rw[eo (by omega) (by omega)];omega
 rw[U,ur (by omega) (by omega)];simp only[cond_true,γ,η];rw[ao5 hs hi,kG,mw,sg,ar9 _ i (hb i) hi];simp only[γ];rw[apH hb i hi]
 by_cases h0:gk s i=0
 ·by_cases hz:i<s.size
  ·have e:decide ((i:Int)<(s.size:Int))=true:=decide_eq_true (by omega);rw[h0,e,if_pos ⟨rfl,hz⟩];rfl
  ·have e:decide ((i:Int)<(s.size:Int))=false:=decide_eq_false (by omega);rw[h0,e,if_neg (λh=>hz h.2)];rfl
 ·have e:((gk s i:Int)==0)=false:=by simp;omega
  rw[e,if_neg (λh=>h0 h.1)];rfl
theorem adp {s:ByteArray} (hs:s.size<=8): ∀(k f i:Nat),i+k=8->(∀j,j<i->j<s.size->gk s j≠0)->
  dv (λa=>(yn ab s (ez [0,0,0,0,0,0,0,0] (s.data.toList.map λb=>(b.toNat:Int))) a).val) (k+1+f) (((i_ (gk s) i:Nat):Int),(i:Int))=some (if(ξ4 s.size).any (λj=>gk s j==0) then .inl () else .inr (false,((i_ (gk s) 8:Nat):Int),8))
 |0,f,i,e,h=>by
  obtain rfl:i=8:=by omega
  have j8:(ξ4 s.size).any (λj=>gk s j==0)=false:=by
   rw[ξm];intro j hj;have hj:j<s.size:=by simpa using hj
   have:=h j (by omega) hj;simpa using this
  rw[j8,show 0+1+f=f+1 by omega,ib];rfl
 |k+1,f,i,e,h=>by
  rw[show k+1+1+f=(k+1+f)+1 by omega,ib,S79 hs (by omega)]
  by_cases h0:gk s i=0/\i<s.size
  ·have anX:(ξ4 s.size).any (λj=>gk s j==0)=true:=by
    rw[ξz];exact⟨i,by simpa using h0.2,by simpa using h0.1⟩
   rw[if_pos h0,anX];rfl
  ·rw[if_neg h0,γ];simp only;exact adp hs k f (i+1) (by omega) λj hj wN=>by
    rcases ζ9.1 hj with U|U
    ·exact h j U wN
    ·subst U;exact λhz=>h0 ⟨hz,wN⟩
theorem v79 (s:ByteArray):FO ab s=some (oo s):=by
 show(En ab s).val=_;unfold En oo;simp only[T.cE,T.bh,T.dU,T.aM,T.aR]
 by_cases h:8<s.size
 ·have e:decide ((s.size:Int)>8)=true:=decide_eq_true (by omega);rw[e,if_pos h];rfl
 ·have e:decide ((s.size:Int)>8)=false:=decide_eq_false (by omega);have hb:Nat.ble s.size 8=true:=Nat.ble_eq_true_of_le (by omega);rw[e,if_neg h];simp only[cond_false,IJ,sameKind,hb,ω,cond_true,γ];have hL:KZ ab s (ez [0,0,0,0,0,0,0,0] (s.data.toList.map λb=>(b.toNat:Int))) 0 0=_:=adp (by omega) 8 999991 0 rfl λj hj=>by omega
  rw[hL];cases (ξ4 s.size).any (λj=>gk s j==0)<;>rfl
def ints (l:List Nat):List Int:=l.map λ(n:Nat)=>(n:Int)
theorem UQ (p0:Int) {n:Nat} {l:List Nat} (hn:n<18446744073709551616) (hl:l.length<=100):(yl ab p0 ((n:Int),ints l)).val=if n%256=0 then some (.inr (false,0,(n:Int),ints l)) else some (.inl (((n/256:Nat):Int),ints (l++[n%256]))):=by
 unfold yl;simp only[T.aR,T.bh,T.aM];rw[ahg hn]
 by_cases hm:n%256=0
 ·have e:(((n%256:Nat):Int) !=0)=false:=by rw[hm];rfl
  rw[e,if_pos hm,hm];rfl
 ·have e:(((n%256:Nat):Int) !=0)=true:=by simp;omega
  rw[e,if_neg hm];simp only[cond_true];have hw:IntKind.u8.wrap (n:Int)=((n%256:Nat):Int):=by rw[IntKind.wrap_u8];omega
  have mw:(n:Int).fdiv 256=((n/256:Nat):Int):=by
   rw[ξY _ (by omega)];omega
  rw[hw,mw,E3 (by simp[ints];omega)];simp only[γ];rw[ints,ints,ξx];rfl
theorem adk (p0:Int): ∀(k f n:Nat) (l:List Nat),n<256^k->n<18446744073709551616->l.length+k<=100->
  ∃m,dv (λa=>(yl ab p0 a).val) (k+1+f) ((n:Int),ints l)=some (false,0,m,ints (l++dg k n))
 |0,f,n,l,h,_,_=>by
  have:n=0:=by simpa using h
  subst this;rw[show 0+1+f=f+1 by omega,ib,UQ p0 (by omega) (by omega)];exact⟨0,by simp[dg]⟩
 |k+1,f,n,l,h,hn,hl=>by
  rw[show k+1+1+f=(k+1+f)+1 by omega,ib,UQ p0 hn (by omega)]
  by_cases hm:n%256=0
  ·rw[if_pos hm];exact⟨(n:Int),by simp[dg,hm]⟩
  ·rw[if_neg hm,γ];simp only;obtain⟨m,t_⟩:=adk p0 k f (n/256) (l++[n%256]) (by rw[ζk] at h;omega) (by omega) (by simp;omega);rw[t_];exact⟨m,by simp only[dg,if_neg hm,ξN,ζn]⟩
theorem adj {n:Nat} (h:n<18446744073709551616):Fw ab (n:Int)=some (if mE 8 n=0 then(bs (dg 8 n),0) else(⟨#[]⟩,2)):=by
 show(D3 ab (n:Int)).val=_;unfold D3;simp only[T.cE,T.bh,T.aR,T.aM];obtain⟨m,hm⟩:=adk (n:Int) 8 999991 n [] (by omega) h (by simp);rw[ζo] at hm;have hL:KT ab (n:Int) (n:Int) []=_:=hm;rw[hL];simp only[γ,YK,v79];rw[show strOf (ints (dg 8 n))=bs (dg 8 n) from asm _,L3 (Fk 8 n) (yT 8 n)];have:=Q3 8 n;simp only[bne_self_eq_false,cond_false]
 by_cases h0:mE 8 n=0
 ·rw[h0,η5,ζ0] at this;rw[this,if_pos h0];simp
 ·have U:0<256^(dg 8 n).length*mE 8 n:=Nat.mul_pos (Nat.pow_pos (by omega)) (by omega);have e:(((pk (dg 8 n):Nat):Int) !=(n:Int))=true:=by simp;omega
  rw[e,if_neg h0];rfl
theorem VE (c:Nat):lD c=(bif decide ((c:Int)>=97) then(bif decide ((c:Int)<=122) then true else(bif decide ((c:Int)>=48) then decide ((c:Int)<=57) else false)) else(bif decide ((c:Int)>=48) then decide ((c:Int)<=57) else false)):=by
 unfold lD
 by_cases U:(c:Int)>=97<;>by_cases h2:(c:Int)<=122<;>by_cases h3:(c:Int)>=48<;>by_cases h4:(c:Int)<=57<;>simp[U,h2,h3,h4]<;>omega
def H4:((Bool×Bool×Int×Bool×Bool×Bool×Bool×Int×Nat) ⊕ (Bool×Int×Bool×Bool×Bool×Int×Nat) ⊕ (Bool×Bool×Int×Bool×Bool×Bool×Int×Nat) ⊕ (Bool×Int×Bool×Bool×Int×Nat) ⊕ (Bool×Int×Int×Nat) ⊕ (Bool×Nat))->Bool
 | .inl y=>y.2.1
 | .inr (.inl _)=>false
 | .inr (.inr (.inl y))=>y.2.1
 | .inr (.inr (.inr (.inl _)))=>false
 | .inr (.inr (.inr (.inr (.inl _))))=>false
 | .inr (.inr (.inr (.inr (.inr y))))=>y.1
theorem S98 {s:ByteArray} {pos:Nat} (ok:Bool) (hp:pos<s.size):(ok&&lD (ξ5 s pos).1)=true/\(rk ab s (ok,pos)).val=some (.inl (true,pos+(ξ5 s pos).2))\/(ok&&lD (ξ5 s pos).1)=false/\ ∃x,(rk ab s (ok,pos)).val=some (.inr x)/\H4 x=false:=by
 unfold rk;simp only[T.aR,T.aM];rw[decide_eq_true hp,VE];cases ok with
 |false=>exact .inr ⟨rfl,_,rfl,rfl⟩
 |true=>
  simp only[cond_true,ω];cases decide (((ξ5 s pos).1:Int)>=97) with
  |true=>
   cases decide (((ξ5 s pos).1:Int)<=122) with
   |true=>exact .inl ⟨rfl,rfl⟩
   |false=>
    cases decide (((ξ5 s pos).1:Int)>=48) with
    |false=>exact .inr ⟨rfl,_,rfl,rfl⟩
    |true=>
     cases decide (((ξ5 s pos).1:Int)<=57) with
     |true=>exact .inl ⟨rfl,rfl⟩
     |false=>exact .inr ⟨rfl,_,rfl,rfl⟩
  |false=>
   cases decide (((ξ5 s pos).1:Int)>=48) with
   |false=>exact .inr ⟨rfl,_,rfl,rfl⟩
   |true=>
    cases decide (((ξ5 s pos).1:Int)<=57) with
    |true=>exact .inl ⟨rfl,rfl⟩
    |false=>exact .inr ⟨rfl,_,rfl,rfl⟩
theorem Sn {l:List Nat} (h: ∀x∈l,x<256): ∀(k f pos:Nat) (ok:Bool),pos+k=l.length-> ∃x,dv (λa=>(rk ab (bs l) a).val) (k+1+f) (ok,pos)=some x/\H4 x=(ok&&(l.drop pos).all lD)
 |0,f,pos,ok,e=>by
  obtain rfl:pos=l.length:=by omega
  rw[show 0+1+f=f+1 by omega,ib];have:(rk ab (bs l) (ok,l.length)).val=some (.inr (.inr (.inr (.inr (.inr (.inr (ok,l.length))))))):=by
   unfold rk;simp[iO]
  rw[this];exact⟨_,rfl,by simp[H4]⟩
 |k+1,f,pos,ok,e=>by
  have hp:pos<l.length:=by omega
  have hx:=ε hp;have hg:=WD h hx;rw[show k+1+1+f=(k+1+f)+1 by omega,ib,ξj hp,ζA];rcases S98 (s:=bs l) ok (pos:=pos) (by rw[iO];exact hp) with⟨U,h2⟩|⟨U,x,h2,h3⟩
  ·have hb:((bs l).get! pos).toNat<128:=by
    apply Classical.byContradiction;intro hb;rw[E9 (decode_high hb)] at U;simp at U
   rw[Mu hb,hg] at U h2;rw[h2,γ];simp only;obtain⟨x,Pu,hx2⟩:=Sn h k f (pos+1) true (by omega);refine⟨x,Pu,?_⟩;rw[hx2,<-ζS,U]
  ·rw[h2,γ];refine⟨x,rfl,?_⟩;rw[h3,<-ζS]
   by_cases hb:((bs l).get! pos).toNat<128
   ·rw[Mu hb,hg] at U;rw[U];rfl
   ·have h4:=E9 (c:=l[pos]) (by rw[<-hg];omega);rw[h4];simp
theorem adq (x:(Bool×Bool×Int×Bool×Bool×Bool×Bool×Int×Nat) ⊕ (Bool×Int×Bool×Bool×Bool×Int×Nat) ⊕ (Bool×Bool×Int×Bool×Bool×Bool×Int×Nat) ⊕ (Bool×Int×Bool×Bool×Int×Nat) ⊕ (Bool×Int×Int×Nat) ⊕ (Bool×Nat)):
  (T.cs x (λy1=> .ok y1.2.1) λSI=> .cs SI (λ_=> .ok false) λSJ=> .cs SJ (λy1=> .ok y1.2.1) λSK=> .cs SK (λ_=> .ok false) λSL=> .cs SL (λ_=> .ok false) λy1=> .ok y1.1:T Bool).val=some (H4 x):=by
 rcases x with x|x|x|x|x|x<;>rfl
theorem v98 {n:Nat} (h:n<18446744073709551616):pM ab (n:Int)=some (hP (n:Int)):=by
 show(DX ab (n:Int)).val=_;unfold DX hP;simp only[T.cE,T.bh,T.aR,adj h,γ,η];have hl:=yT 8 n
 by_cases h0:mE 8 n=0
 ·rw[if_pos h0,h0];obtain⟨x,U,h2⟩:=Sn (Mw n) (dg 8 n).length (999999-(dg 8 n).length) 0 (!(dg 8 n).isEmpty) (by omega);rw[show(dg 8 n).length+1+(999999-(dg 8 n).length)=1000000 by omega] at U;rw[ζv] at h2;simp only[MA];have hL:yg ab (!(dg 8 n).isEmpty) (bs (dg 8 n)) 0=some x:=U;rw[hL];simp only[γ,beq_self_eq_true,cond_true,ω];exact(adq x).trans (by rw[h2])
 ·rw[if_neg h0];have e:(mE 8 n==0)=false:=by simp[h0]
  obtain⟨x,U,h2⟩:=Sn (l:=[]) (by simp) 0 999999 0 false rfl;have hL:yg ab false (ξ0 #[]) 0=some x:=U;rw[e];simp only[show((2:Int)==0)=false from rfl,cond_false];rw[hL];simp only[γ,ζT];exact(adq x).trans (by rw[h2];rfl)
abbrev eQ (x:Int):Prop:=0<=x/\x<18446744073709551616
def gx (p:Int):Bool:=decide (p>=1)&&decide (p<4294967296)
@[simp] theorem So (p:Int):wg ab p=some (gx p):=by
 show(vL ab p).val=_;unfold vL gx;simp only[T.aR,T.aM];cases decide (p>=1)<;>rfl
theorem IZ {w:Int} (h:eQ w):pM ab w=some (hP w):=by
 obtain⟨n,rfl⟩:=ξD h.1;exact v98 (by have:=h.2;omega)
def xt (z:az):Bool:=hP z.br&&gx z.aa
def okB (z:aq):Bool:=gx z.aa&&(decide (1<=z.bt.length)&&decide (z.bt.length<=4))
def xk (l:List az):Bool:=allI (λi z=>xt z&&ka (λy z=>decide (y.br<z.br)) l i z) 0 l
def vT (l:List aq):Bool:=allI (λi z=>okB z&&ka (λy z=>decide (y.aa<z.aa)) l i z) 0 l
def uP (s:aP):Bool:=xk s.aA&&(vT s.au&&decide (s.aA.length<=16))
structure Ud (s:aP):Prop where
 names: ∀z∈s.aA,eQ z.br
 ln:s.aA.length<=maxLen
 lb:s.au.length<=maxLen
theorem Wz (a b:Int):decide (a>=b)=!decide (a<b):=by rw[κ];simp
theorem aoK {S:Int->az->Unit->T (Unit ⊕ Unit ⊕ (Bool×Int))} {F:Int->Unit->T (Unit ⊕ (Bool×Int))} {l:List az} (hm:l.length<=maxLen)
  (hF:(F (l.length:Int) ()).val=some (.inr (false,(l.length:Int))))
  (hS: ∀(i:Int) z,z∈l->(S i z ()).val=bif !hP z.br then some (.inr (.inl ())) else bif !gx z.aa then some (.inr (.inl ())) else bif decide (i>0) then(idx l (δ.wrap (i-1))).bind λy=>bif decide (y.br>=z.br) then some (.inr (.inl ())) else some (.inl ()) else some (.inl ())):
  cB (λi z a=>(S i z a).val) (λi a=>(F i a).val) 0 l ()=bif xk l then some (.inr (false,(l.length:Int))) else some (.inl ()):=by
 unfold xk;rw[xG (q:=λi z=>xt z&&ka (λy z=>decide (y.br<z.br)) l i z) (x:= .inl ()),hF];intro i z hz;refine QZ (S:=S i z ()) (g:=xt) (q:=λy z=>decide (y.br<z.br)) hm hz ?_;rw[hS _ z (φ hz)];unfold xt;simp only[Wz];cases hP z.br<;>cases gx z.aa<;>rfl
theorem ahr {S:Int->aq->Unit->T (Unit ⊕ Unit ⊕ (Bool×Int))} {F:Int->Unit->T (Unit ⊕ (Bool×Int))} {l:List aq} (hm:l.length<=maxLen)
  (hF:(F (l.length:Int) ()).val=some (.inr (false,(l.length:Int))))
  (hS: ∀(i:Int) z,(S i z ()).val=bif !gx z.aa then some (.inr (.inl ())) else bif decide ((z.bt.length:Int)<1) then some (.inr (.inl ())) else bif decide ((z.bt.length:Int)>4) then some (.inr (.inl ())) else bif decide (i>0) then(idx l (δ.wrap (i-1))).bind λy=>bif decide (y.aa>=z.aa) then some (.inr (.inl ())) else some (.inl ()) else some (.inl ())):
  cB (λi z a=>(S i z a).val) (λi a=>(F i a).val) 0 l ()=bif vT l then some (.inr (false,(l.length:Int))) else some (.inl ()):=by
 unfold vT;rw[xG (q:=λi z=>okB z&&ka (λy z=>decide (y.aa<z.aa)) l i z) (x:= .inl ()),hF];intro i z hz;refine QZ (S:=S i z ()) (g:=okB) (q:=λy z=>decide (y.aa<z.aa)) hm hz ?_;rw[hS];unfold okB;have e1:decide ((z.bt.length:Int)<1)=!decide (1<=z.bt.length):=by
  by_cases h:1<=z.bt.length
  ·rw[decide_eq_true h,decide_eq_false (by omega)];rfl
  ·rw[decide_eq_false h,decide_eq_true (by omega)];rfl
 have e2:decide ((z.bt.length:Int)>4)=!decide (z.bt.length<=4):=by
  by_cases h:z.bt.length<=4
  ·rw[decide_eq_true h,decide_eq_false (by omega)];rfl
  ·rw[decide_eq_false h,decide_eq_true (by omega)];rfl
 simp only[Wz,e1,e2];cases gx z.aa<;>cases decide (1<=z.bt.length)<;>cases decide (z.bt.length<=4)<;>rfl
theorem v49 {s:aP} (h:Ud s):pP ab s=some (bif uP s then 0 else 350):=by
 show(EO ab s).val=_;unfold EO uP;simp only[T.cE,T.bh,T.dU,T.aM,T.aR];have U:Lt ab s.aA s.au=_:=aoK (S:=DO ab s.aA s.au) (F:=Cq ab s.aA s.au) h.ln (by unfold Cq;simp) (λi z hz=>by
  unfold DO;simp only[T.bh,T.aR,T.aM,IZ (h.names z hz),So,γ])
 have h2:Ls ab s.au s.aA=_:=ahr (S:=DN ab s.au s.aA) (F:=Cp ab s.au s.aA) h.lb (by unfold Cp;simp) (λi z=>by
  unfold DN;simp only[T.bh,T.aR,T.aM,So,γ])
 rw[U,h2]
 by_cases hl:s.aA.length<=16
 ·rw[decide_eq_false (by omega: ¬(s.aA.length:Int)>16),decide_eq_true hl];cases xk s.aA<;>cases vT s.au<;>rfl
 ·rw[decide_eq_true (by omega:(s.aA.length:Int)>16),decide_eq_false hl];cases xk s.aA<;>cases vT s.au<;>rfl
theorem vZ {α:Type} [DecidableEq α] {S:Int->α->Unit->T (Unit ⊕ Unit ⊕ (Bool×Int))} {F:Int->Unit->T (Unit ⊕ (Bool×Int))} {l m:List α} {e:α->α->Bool} (he: ∀x y,e x y=decide (x=y)) (hl:l.length=m.length)
  (hF:(F (l.length:Int) ()).val=some (.inr (false,(l.length:Int))))
  (hS: ∀(i:Int) z,(S i z ()).val=(idx m i).bind λy=>bif !e z y then some (.inr (.inl ())) else some (.inl ())):
  cB (λi z a=>(S i z a).val) (λi a=>(F i a).val) 0 l ()=bif decide (l=m) then some (.inr (false,(l.length:Int))) else some (.inl ()):=by
 rw[xG (q:=λi z=>decide (m[i]? =some z)) (x:= .inl ()),hF]
 ·congr 1
  rw[κ,tc];constructor
  ·intro h;refine decide_eq_true (ζa λi=>?_);cases hz:l[i]? with
   |none=>rw[List.getElem?_eq_none_iff] at hz;rw[ζm (by omega)]
   |some z=>
    have:=h i z hz;rw[ξp] at this;exact(of_decide_eq_true this).symm
  ·intro h k z hk;have h:=of_decide_eq_true h;rw[ξp,<-h];exact decide_eq_true hk
 ·intro i z hz;have aB:=(ζ.1 hz).1;have hm:m[i]? =some m[i]:=ε (by omega);have hi:idx m (i:Int)=some m[i]:=iD hm;rw[hS,hi,hm];simp only[γ,he,ζF]
  by_cases h:z=m[i]
  ·rw[decide_eq_true h,decide_eq_true h.symm];rfl
  ·rw[decide_eq_false h,decide_eq_false (λx=>h x.symm)];rfl
theorem v_ {L:Option (Unit ⊕ (Bool×Int))} {p:Bool} {n:Int} (h:L=bif p then some (.inr (false,n)) else some (.inl ())):(T.bd L λx=> .cs x (λ_=> .ok false) λ_=> .ok true:T Bool).val=some p:=by
 rw[h];cases p<;>rfl
theorem xg {α:Type} {l m:List α}:((l.length:Int) !=(m.length:Int))=!decide (l.length=m.length):=by
 by_cases h:l.length=m.length
 ·rw[decide_eq_true h,h];simp
 ·rw[decide_eq_false h];simp;omega
theorem xl {α:Type} [DecidableEq α] {l m:List α} (h:l.length≠m.length):decide (l=m)=false:=decide_eq_false λe=>h (by rw[e])
theorem eqP (x y:ai):kA x y=decide (x=y):=by
 rw[κ];cases x;cases y;simp[kA,and_assoc]
theorem eqD (x y:aj):mO x y=decide (x=y):=by
 rw[κ];cases x;cases y;simp[mO,and_assoc]
theorem eqM (x y:aw):pJ x y=decide (x=y):=by
 rw[κ];cases x;cases y;simp[pJ]
theorem eqN (x y:az):pK x y=decide (x=y):=by
 rw[κ];cases x;cases y;simp[pK]
theorem eqI (x y:Int):(x==y)=decide (x=y):=by rw[κ];simp
@[simp] theorem v57 (a b:List aj):MW ab a b=some (decide (a=b)):=by
 show(EF ab a b).val=_;unfold EF;simp only[T.aR,T.aM,T.cE,xg]
 by_cases h:a.length=b.length
 ·rw[decide_eq_true h];exact v_ (vZ (S:=LH ab a b) (F:=Cm ab a b) (e:=mO) eqD h (by unfold Cm;simp) (λi z=>rfl))
 ·rw[decide_eq_false h,xl h];rfl
@[simp] theorem atK (a b:List ai):M5 ab a b=some (decide (a=b)):=by
 show(ES ab a b).val=_;unfold ES;simp only[T.aR,T.aM,T.cE,xg]
 by_cases h:a.length=b.length
 ·rw[decide_eq_true h];exact v_ (vZ (S:=LJ ab a b) (F:=Cr ab a b) (e:=kA) eqP h (by unfold Cr;simp) (λi z=>rfl))
 ·rw[decide_eq_false h,xl h];rfl
@[simp] theorem atL (a b:List aw):M6 ab a b=some (decide (a=b)):=by
 show(ET ab a b).val=_;unfold ET;simp only[T.aR,T.aM,T.cE,xg]
 by_cases h:a.length=b.length
 ·rw[decide_eq_true h];exact v_ (vZ (S:=LK ab a b) (F:=Cs ab a b) (e:=pJ) eqM h (by unfold Cs;simp) (λi z=>rfl))
 ·rw[decide_eq_false h,xl h];rfl
@[simp] theorem atM (a b:List az):M7 ab a b=some (decide (a=b)):=by
 show(EU ab a b).val=_;unfold EU;simp only[T.aR,T.aM,T.cE,xg]
 by_cases h:a.length=b.length
 ·rw[decide_eq_true h];exact v_ (vZ (S:=LL ab a b) (F:=Ct ab a b) (e:=pK) eqN h (by unfold Ct;simp) (λi z=>rfl))
 ·rw[decide_eq_false h,xl h];rfl
@[simp] theorem v105 (a b:List Int):M8 ab a b=some (decide (a=b)):=by
 show(EV ab a b).val=_;unfold EV;simp only[T.aR,T.aM,T.cE,xg]
 by_cases h:a.length=b.length
 ·rw[decide_eq_true h];exact v_ (vZ (S:=LM ab a b) (F:=Cv ab a b) (e:=(λx y=>x==y)) eqI h (by unfold Cv;simp) (λi z=>rfl))
 ·rw[decide_eq_false h,xl h];rfl
theorem v56 (a b:bS):MV ab a b=some (decide (a=b)):=by
 show(EE ab a b).val=_;unfold EE;simp only[T.aR,T.bh,T.aM,atK,γ];obtain⟨g,l⟩:=a;obtain⟨g',l'⟩:=b
 by_cases hg:g=g'
 ·subst hg;simp
 ·have e:(g==g')=false:=by simp[hg]
  simp[hg,e]
theorem v58 (a b:cp):MX ab a b=some (decide (a=b)):=by
 show(EG ab a b).val=_;unfold EG;simp only[T.aR,T.bh,T.aM,atL,γ];obtain⟨l,g⟩:=a;obtain⟨l',g'⟩:=b
 by_cases hg:g=g'
 ·subst hg;simp
 ·have e:(g==g')=false:=by simp[hg]
  simp[hg,e]
def Fp (x y:aq):Bool:=(x.aa==y.aa)&&decide (x.bt=y.bt)
theorem alE (x y:aq):Fp x y=decide (x=y):=by
 rw[κ];cases x;cases y;simp[Fp]
theorem aoh (a b:aP):decide (a=b)=(decide (a.aA=b.aA)&&decide (a.au=b.au)):=by
 rw[κ];cases a;cases b;simp
theorem v59 (a b:aP):MY ab a b=some (decide (a=b)):=by
 show(EH ab a b).val=_;unfold EH;rw[aoh];simp only[T.aR,T.aM,T.cE,T.bh,atM,γ,xg];cases decide (a.aA=b.aA) with
 |false=>rfl
 |true=>
  simp only[cond_true,ω]
  by_cases h2:a.au.length=b.au.length
  rotate_left
  ·rw[decide_eq_false h2,xl h2];rfl
  rw[decide_eq_true h2];have h4:Lv ab b.au a.au=_:=vZ (S:=DP ab b.au a.au) (F:=Cu ab b.au a.au) (l:=a.au) (m:=b.au) (e:=Fp) alE h2 (by unfold Cu;simp) (λi z=>by
   unfold DP Fp;simp only[T.bh,T.aR,T.aM,v105,γ];cases idx b.au i with
   |none=>rfl
   |some y=>
    simp only[γ];cases h:z.aa==y.aa<;>simp)
  exact v_ h4
theorem asi (a b:bo):decide (a=b)=(decide (a.aC=b.aC)&&(decide (a.aV=b.aV)&&(decide (a.aL=b.aL)&&decide (a.aF=b.aF)))):=by
 rw[κ];cases a;cases b;simp
theorem v12 (a b:bo):nC ab a b=some (decide (a=b)):=by
 show(Ep ab a b).val=_;unfold Ep;rw[asi];simp only[T.aR,T.aM,T.bh,v56,v57,v58,v59,γ];cases decide (a.aC=b.aC)<;>cases decide (a.aV=b.aV)<;>cases decide (a.aL=b.aL)<;>rfl
def eF:bo:=⟨⟨[1,0,0,0,0,0,0,0,0,0,0,0,0,0,0,0],[ai.mk 1 0 false 0]⟩,[],⟨[],1⟩,⟨[],[]⟩⟩
theorem ai0 {α:Type} (l:List α) (n:Nat) (k:Int) (hk:k=n):gq l none (some (if k<(l.length:Int) then k else(l.length:Int))) none=some (l.take n):=by
 subst hk;unfold gq
 by_cases h:(n:Int)<(l.length:Int)
 ·rw[if_pos h];simp only[ξa,ξb];rw[if_pos ⟨by omega,by omega,by omega,by omega,by omega,by simp⟩];simp
 ·rw[if_neg h];simp only[ξa,ξb];rw[if_pos ⟨by omega,by omega,by omega,by omega,by omega,by simp⟩,η];show some ((l.take l.length).drop 0)=_;rw[ζv,ζj,List.take_of_length_le (by omega)]
theorem pw {α:Type} {b n:Nat} {xs ys:List α} (h:xs.length+ys.length<=n) (hb:b*n<=140737488355328):app b xs ys=some (xs++ys):=by
 refine E3 ?_;have:(xs.length+ys.length)*b<=n*b:=ξR _ h;rw[ζH n b] at this;omega
theorem BO:za ab=some eF:=rfl
theorem xh (p:Int×Int) (r:List (Int×Int)) (j:Int):b6 (p::r) j=bif j==p.1 then some p.2 else b6 r j:=by
 unfold b6;rw[ξE];cases j==p.1<;>rfl
theorem acQ (p:Int×Int) (r:List (Int×Int)) (k v:Int):dk (p::r) k v=bif k==p.1 then(k,v)::r else p::dk r k v:=by
 unfold dk;rw[ξF];cases k==p.1 with
 |true=>rfl
 |false=>
  simp only[cond_false,ξ6,if_false];cases List.findIdx? (λp=>k==p.1) r<;>rfl
theorem xj (k v j:Int): ∀m:List (Int×Int),b6 (dk m k v) j=if j=k then some v else b6 m j
 |[]=>by
  show b6 [(k,v)] j=_;rw[xh]
  by_cases h:j=k
  ·simp[h]
  ·have e:(j==k)=false:=by simp[h]
   simp[h,e]
 |p::r=>by
  rw[acQ];cases hk:k==p.1 with
  |true=>
   have hk:=eq_of_beq hk;simp only[cond_true];rw[xh,xh]
   by_cases h:j=k
   ·simp[h]
   ·have h2:(j==p.1)=false:=by rw[<-hk];simp[h]
    have e:(j==k)=false:=by simp[h]
    simp[h,h2,e]
  |false=>
   simp only[cond_false];rw[xh,xh,xj k v j r]
   by_cases h:j=k
   ·subst h;rw[hk];simp
   ·simp[h]
theorem ZQ {α:Type} (c:α->Bool) (key:α->Int) (j:Int): ∀(l:List α) (m:List (Int×Int)),b6 (l.foldl (λa z=>bif c z then dk a (key z) 1 else a) m) j=if l.any (λz=>c z&&(key z==j)) then some 1 else b6 m j
 |[],m=>by simp
 |z::l,m=>by
  rw[ξv,ZQ c key j l,η1];cases c z with
  |false=>simp
  |true=>
   simp only[cond_true,ω,xj]
   by_cases h:j=key z
   ·subst h;simp
   ·have:(key z==j)=false:=by simp;exact λe=>h e.symm
    simp[h,this]
theorem ZR {α:Type} (c:α->Bool) (key:α->Int) (j:Int) (l:List α):((b6 (l.foldl (λa z=>bif c z then dk a (key z) 1 else a) []) j).getD 0==1)=l.any (λz=>c z&&(key z==j)):=by
 rw[ZQ];cases l.any (λz=>c z&&(key z==j))<;>rfl
theorem QS {l:List ai} (h: ∀i x,l[i]? =some x->mC l i x=true): ∀(j i:Nat) (x y:ai),i<j->l[i]? =some x->l[j]? =some y->ix x.aa<ix y.aa
 |0,i,x,y,cC,_,_=>by omega
 |j+1,i,x,y,cC,hx,hy=>by
  have U:=h (j+1) y hy;have aB:=(ζ.1 hy).1;have hj:l[j]? =some l[j]:=ε (by omega);unfold mC at U;rw[show(j+1==0)=false from rfl,ξr,ξG,hj] at U;have U:ix l[j].aa<ix y.aa:=of_decide_eq_true U;rcases ζ9.1 cC with h2|h2
  ·have:=QS h j i x l[j] h2 hx hj;omega
  ·subst h2;rw[hj] at hx;cases hx;exact U
theorem arX {p:bS} (h:allI (λi x=>nf p x&&mC p.ae i x) 0 p.ae=true) (pid:Int):cT p.ae pid=p.ae.any (λz=>!z.bK&&(z.aa==pid)):=by
 have ho: ∀i x,p.ae[i]? =some x->mC p.ae i x=true:=λi x hx=>by
  have:=tc.1 h i x hx;rw[ξp,θ] at this;exact this.2
 unfold cT jQ;cases hf:p.ae.find? (λz=>z.aa==pid) with
 |none=>
  symm
  rw[ξm];intro z hz;have:=ζB.1 hf z hz;simp only[θ,not_and];exact λ_=>this
 |some z0=>
  have YE:=υ hf;have kZ:(z0.aa==pid)=true:=ξn (p:=λz:ai=>z.aa==pid) hf;rw[κ,ξz];constructor
  ·intro hd;have hd:(!z0.bK)=true:=hd;exact⟨z0,YE,by rw[hd,kZ];rfl⟩
  ·rintro ⟨z,hz,hc⟩;rw[θ] at hc;obtain⟨i,hi⟩:=ξS hz;obtain⟨j,hj⟩:=ξS YE;have e:z.aa=z0.aa:=(eq_of_beq hc.2).trans (eq_of_beq kZ).symm;rcases ζG i j with U|U|U
   ·have:=QS ho j i z z0 U hi hj;rw[e] at this;omega
   ·subst U;rw[hi] at hj;cases hj;exact hc.1
   ·have:=QS ho i j z0 z U hj hi;rw[e] at this;omega
def H3 {A B C D:Type}:(A×Bool×B) ⊕ (C×Bool×D)->Bool
 | .inl y=>y.2.1
 | .inr y=>y.2.1
theorem Ix {α X:Type} {step:Int->α->Bool->Option (Bool ⊕ X)} {fin:Int->Bool->Option X} {out:X->Bool} {q:α->Bool} (hF: ∀i a,∃x,fin i a=some x/\out x=a):
  ∀ {l:List α} {i:Nat},(∀i z a,z∈l->(q z=true/\step i z a=some (.inl true))\/(q z=false/\ ∃x,step i z a=some (.inr x)/\out x=false))-> ∃x,cB step fin i l true=some x/\out x=l.all q
 |[],i,_=>by
  obtain⟨x,U,h2⟩:=hF i true;exact⟨x,U,h2⟩
 |z::l,i,h=>by
  rw[nV,ζA];rcases h i z true τ with⟨U,h2⟩|⟨U,x,h2,h3⟩
  ·rw[U,h2,γ];obtain⟨x,h4,h5⟩:=Ix hF (l:=l) (i:=i+1) λi z a hz=>h i z a (ρ _ hz);exact⟨x,h4,by simpa using h5⟩
  ·rw[U,h2,γ];exact⟨x,rfl,by simpa using h3⟩
def Bu (s:bo):Bool:=(s.aV.all λd=>cT s.aC.ae d.aa&&s.aL.ae.any λm=>m.bj==d.dq)&&((s.aF.aA.all λn=>cT s.aC.ae n.aa)&&s.aF.au.all λb=>cT s.aC.ae b.aa)
structure Uf (s:bo):Prop where
 p:JC s.aC
 d:s.aV.length<=maxLen
 i:Ud s.aF
theorem S50 (l:List aj) (M1 M2:List (Int×Int)) (i:Int) (z:aj) (a:Bool):(vI ab l M1 M2 i z a).val=bif ((b6 M1 z.aa).getD 0==1) then(bif !((b6 M2 z.dq).getD 0==1) then some (.inr (.inl (!((b6 M2 z.dq).getD 0==1),((b6 M2 z.dq).getD 0==1),z.aa,z.b_,z.dq,z,decide (i<l.length),a,i))) else some (.inl ((b6 M2 z.dq).getD 0==1))) else some (.inr (.inl (true,false,z.aa,z.b_,z.dq,z,decide (i<l.length),a,i))):=by
 unfold vI;cases b6 M1 z.aa<;>cases b6 M2 z.dq<;>rfl
theorem S52 (l:List az) (M1:List (Int×Int)) (i:Int) (z:az) (a:Bool):(vJ ab l M1 i z a).val=bif !((b6 M1 z.aa).getD 0==1) then some (.inr (.inl (!((b6 M1 z.aa).getD 0==1),((b6 M1 z.aa).getD 0==1),z.br,z.aa,z,decide (i<l.length),a,i))) else some (.inl ((b6 M1 z.aa).getD 0==1)):=by
 unfold vJ;cases b6 M1 z.aa<;>rfl
theorem S54 (l:List aq) (M1:List (Int×Int)) (i:Int) (z:aq) (a:Bool):(vK ab l M1 i z a).val=bif !((b6 M1 z.aa).getD 0==1) then some (.inr (.inl (!((b6 M1 z.aa).getD 0==1),((b6 M1 z.aa).getD 0==1),z.aa,z.bt,z,decide (i<l.length),a,i))) else some (.inl ((b6 M1 z.aa).getD 0==1)):=by
 unfold vK;cases b6 M1 z.aa<;>rfl
theorem v11 {s:bo} (h:Uf s) {m:Bool} (hm:zd ab s.aL=some (bif m then 0 else 340)):FU ab s=some (bif o5 s.aC&&(uO s.aV&&(m&&(uP s.aF&&Bu s))) then 0 else 360):=by
 show(EB ab s).val=_;unfold EB;simp only[T.bh,T.aR,T.aM,T.cE,v46 h.p,v47 h.d,hm,v49 h.i,γ];cases hp:o5 s.aC
 ·rfl
 cases uO s.aV
 ·rfl
 cases m
 ·rfl
 cases uP s.aF
 ·rfl
 have gK:allI (λi x=>nf s.aC x&&mC s.aC.ae i x) 0 s.aC.ae=true:=by
  unfold o5 at hp;rw[θ,θ] at hp;exact hp.2.1
 have hr:=arX gK;simp only[cond_true,cond_false,ω,show((0:Int) !=0)=false from rfl];obtain⟨M1,Xg⟩: ∃M,M=s.aC.ae.foldl (λa z=>bif !z.bK then dk a z.aa 1 else a) []:=⟨_,rfl⟩;obtain⟨M2,Xh⟩: ∃M,M=s.aL.ae.foldl (λa z=>bif (λ_:aw=>true) z then dk a z.bj 1 else a) []:=⟨_,rfl⟩;have U:De ab s.aC.ae s.aC.aQ s.aV s.aL.ae s.aL.bE s.aF.aA s.aF.au []=some (false,(s.aC.ae.length:Int),M1):=by
  have:=xH (g:=λa (z:ai)=>bif !z.bK then dk a z.aa 1 else a) (l:=s.aC.ae) (i:=0) (a:=[]) (step:=λi z a=>(yx ab s.aC.ae s.aC.aQ s.aV s.aL.ae s.aL.bE s.aF.aA s.aF.au i z a).val) (fin:=λi a=>(Cl ab s.aC.ae s.aC.aQ s.aV s.aL.ae s.aL.bE s.aF.aA s.aF.au i a).val) (λi z a _=>by
   show(yx ab s.aC.ae s.aC.aQ s.aV s.aL.ae s.aL.bE s.aF.aA s.aF.au i z a).val=_;unfold yx;cases z.bK<;>rfl)
  have h2:De ab s.aC.ae s.aC.aQ s.aV s.aL.ae s.aL.bE s.aF.aA s.aF.au []=_:=this;rw[h2,Xg];unfold Cl;simp
 have h2:Dd ab s.aL.ae s.aC.aQ s.aC.ae s.aV s.aL.bE s.aF.aA s.aF.au M1 []=some (false,(s.aL.ae.length:Int),M2):=by
  have:=xH (g:=λa (z:aw)=>bif (λ_:aw=>true) z then dk a z.bj 1 else a) (l:=s.aL.ae) (i:=0) (a:=[]) (step:=λi z a=>(LG ab s.aL.ae s.aC.aQ s.aC.ae s.aV s.aL.bE s.aF.aA s.aF.au M1 i z a).val) (fin:=λi a=>(Ck ab s.aL.ae s.aC.aQ s.aC.ae s.aV s.aL.bE s.aF.aA s.aF.au M1 i a).val) (λi z a _=>rfl);have h2:Dd ab s.aL.ae s.aC.aQ s.aC.ae s.aV s.aL.bE s.aF.aA s.aF.au M1 []=_:=this;rw[h2,Xh];unfold Ck;simp
 have aX: ∀pid,((b6 M1 pid).getD 0==1)=cT s.aC.ae pid:=λpid=>by rw[Xg,ZR (λz:ai=>!z.bK) (λz=>z.aa),hr pid]
 have hmt: ∀id,((b6 M2 id).getD 0==1)=s.aL.ae.any λm=>m.bj==id:=λid=>by rw[Xh,ZR (λ_:aw=>true) (λz=>z.bj)];simp
 obtain⟨x6,h6,o6⟩:=Ix (out:=H3) (q:=λd:aj=>cT s.aC.ae d.aa&&s.aL.ae.any λm=>m.bj==d.dq) (step:=λi z a=>(vI ab s.aV M1 M2 i z a).val) (fin:=λi a=>(Jm ab s.aV M1 M2 i a).val) (λi a=>⟨_,rfl,rfl⟩) (l:=s.aV) (i:=0) (λi z a _=>by
  show _/\(vI ab s.aV M1 M2 i z a).val=_\/_;rw[S50,aX,hmt];cases cT s.aC.ae z.aa with
  |false=>exact .inr ⟨rfl,_,rfl,rfl⟩
  |true=>
   cases (s.aL.ae.any λm=>m.bj==z.dq) with
   |false=>exact .inr ⟨rfl,_,rfl,rfl⟩
   |true=>exact .inl ⟨rfl,rfl⟩)
 obtain⟨x7,h7,o7⟩:=Ix (out:=H3) (q:=λd:az=>cT s.aC.ae d.aa) (step:=λi z a=>(vJ ab s.aF.aA M1 i z a).val) (fin:=λi a=>(Jn ab s.aF.aA M1 i a).val) (λi a=>⟨_,rfl,rfl⟩) (l:=s.aF.aA) (i:=0) (λi z a _=>by
  show _/\(vJ ab s.aF.aA M1 i z a).val=_\/_;rw[S52,aX];cases cT s.aC.ae z.aa with
  |false=>exact .inr ⟨rfl,_,rfl,rfl⟩
  |true=>exact .inl ⟨rfl,rfl⟩)
 obtain⟨x8,h8,o8⟩:=Ix (out:=H3) (q:=λd:aq=>cT s.aC.ae d.aa) (step:=λi z a=>(vK ab s.aF.au M1 i z a).val) (fin:=λi a=>(Jo ab s.aF.au M1 i a).val) (λi a=>⟨_,rfl,rfl⟩) (l:=s.aF.au) (i:=0) (λi z a _=>by
  show _/\(vK ab s.aF.au M1 i z a).val=_\/_;rw[S54,aX];cases cT s.aC.ae z.aa with
  |false=>exact .inr ⟨rfl,_,rfl,rfl⟩
  |true=>exact .inl ⟨rfl,rfl⟩)
 have h6:Lu ab s.aV M1 M2 true=some x6:=h6;have h7:Dg ab s.aF.aA M1 true=some x7:=h7;have h8:vA ab s.aF.au M1 true=some x8:=h8;unfold Bu;rw[U];simp only[γ];rw[h2];simp only[γ];rw[h6,h7,h8,<-o6,<-o7,<-o8];simp only[γ];rcases x6 with y6|y6<;>rcases x7 with y7|y7<;>rcases x8 with y8|y8<;>simp only[T.dU,T.bh,T.cE,T.aR,T.aM,H3,γ]<;>cases y6.2.1<;>cases y7.2.1<;>cases y8.2.1<;>rfl
abbrev LC (w:Int) (b:Bool):Prop:=y9 ab w=some (bif b then 0 else 310)
structure Ue (P:Int->Bool) (m:cp):Prop where
 path: ∀z∈m.ae,LC z.bC (P z.bC)
 len:m.ae.length<=maxLen
def Bc (P:Int->Bool) (next:Int) (z:aw):Bool:=P z.bC&&(decide (1<=z.bj)&&decide (z.bj<next))
def xm (l:List aw) (i:Nat) (z:aw):Bool:=!(l.take i).any λy=>y.bC==z.bC
def HJ (P:Int->Bool) (next:Int) (l:List aw):Bool:=allI (λi z=>(Bc P next z&&ka (λy z=>decide (y.bj<z.bj)) l i z)&&xm l i z) 0 l
def Bw (P:Int->Bool) (m:cp):Bool:=HJ P m.bE m.ae&&(decide (m.ae.length<=16)&&(decide (m.bE>=1)&&decide (m.bE<=1073741825)))
theorem aiY {α:Type} {l:List α} {i:Nat} (h:i<=l.length):gq l none (some (i:Int)) none=some (l.take i):=by
 unfold gq;simp only[ξa,ξb];rw[if_pos ⟨by omega,by omega,by omega,by omega,by omega,by simp⟩,η];rfl
def uV (P:Int->Bool) (next:Int):Int->List aw->Bool
 |_,[]=>true
 |a,z::r=>(P z.bC&&(decide (a<z.bj)&&decide (z.bj<next)))&&uV P next z.bj r
theorem acP {P:Int->Bool} {l0:List aw} {next:Int}: ∀(l:List aw) (i:Nat) (a:Int),(∀z∈l,LC z.bC (P z.bC))->(uV P next a l=true/\ ∃b,cB (λi z a=>(rm ab l0 next i z a).val) (λi a=>(Co ab l0 next i a).val) i l a=some (.inr b))\/(uV P next a l=false/\cB (λi z a=>(rm ab l0 next i z a).val) (λi a=>(Co ab l0 next i a).val) i l a=some (.inl ()))
 |[],i,a,_=> .inl ⟨rfl,_,rfl⟩
 |z::l,i,a,h=>by
  have hs:(rm ab l0 next i z a).val=bif P z.bC&&(decide (a<z.bj)&&decide (z.bj<next)) then some (.inl z.bj) else some (.inr (.inl ())):=by
   unfold rm;simp only[T.bh,T.aR,T.aM,h z τ,γ];have e1:decide (z.bj<=a)=!decide (a<z.bj):=by rw[κ];simp
   have e2:decide (z.bj>=next)=!decide (z.bj<next):=by rw[κ];simp
   rw[e1,e2];cases P z.bC<;>cases decide (a<z.bj)<;>cases decide (z.bj<next)<;>rfl
  rw[nV];show _/\(∃b,((rm ab l0 next i z a).val.bind _)=_)\/_/\((rm ab l0 next i z a).val.bind _)=_;rw[hs];unfold uV;cases P z.bC&&(decide (a<z.bj)&&decide (z.bj<next)) with
  |false=>exact .inr ⟨rfl,rfl⟩
  |true=>
   simp only[cond_true,γ,ω];exact acP l (i+1) z.bj λy hy=>h y (ρ _ hy)
theorem acO {P:Int->Bool} {next:Int} {l0:List aw}: ∀(r pre:List aw) (a:Int),l0=pre++r->(pre=[]->a=0)->(∀y,pre.getLast? =some y->a=y.bj/\1<=y.bj)->uV P next a r=allI (λi z=>Bc P next z&&ka (λy z=>decide (y.bj<z.bj)) l0 i z) pre.length r
 |[],_,_,_,_,_=>rfl
 |z::r,pre,a,e,h0,U=>by
  unfold uV allI Bc;have hq:(P z.bC&&(decide (a<z.bj)&&decide (z.bj<next)))=((P z.bC&&(decide (1<=z.bj)&&decide (z.bj<next)))&&ka (λy z=>decide (y.bj<z.bj)) l0 pre.length z):=by
   unfold ka;rcases List.eq_nil_or_concat pre with hp|⟨p,y,hp⟩
   ·subst hp;rw[h0 rfl];have:decide ((0:Int)<z.bj)=decide (1<=z.bj):=by rw[κ];simp;omega
    rw[this];simp
   ·subst hp;obtain⟨e1,e2⟩:=U y (by simp);have hg:l0[(p++[y]).length-1]? =some y:=by rw[e];simp
    have aN:((p++[y]).length==0)=false:=by simp
    have:decide (a<z.bj)=(decide (1<=z.bj)&&decide (y.bj<z.bj)):=by rw[κ];simp;omega
    simp only[List.concat_eq_append] at*
    rw[hg,aN,this];simp only[ξr];cases P z.bC<;>cases decide (1<=z.bj)<;>cases decide (y.bj<z.bj)<;>cases decide (z.bj<next)<;>rfl
  rw[hq];cases hc:(P z.bC&&(decide (1<=z.bj)&&decide (z.bj<next)))&&ka (λy z=>decide (y.bj<z.bj)) l0 pre.length z with
  |false=>rfl
  |true=>
   have tW:1<=z.bj:=by
    simp only[θ,decide_eq_true_eq] at hc;exact hc.1.2.1
   have:=acO (P:=P) (next:=next) (l0:=l0) r (pre++[z]) z.bj (by rw[e];simp) (λh=>by simp at h) (λy hy=>by simp at hy;subst hy;exact⟨rfl,tW⟩);rw[show(pre++[z]).length=pre.length+1 by simp] at this;rw[this];rfl
def mapM:List (Int×Int)->List aw->List (Int×Int)
 |m,[]=>m
 |m,z::r=>mapM (dk m z.bC z.bj) r
def mg:List (Int×Int)->List aw->Bool
 |_,[]=>true
 |m,z::r=>!(b6 m z.bC).isSome&&mg (dk m z.bC z.bj) r
theorem ZO (k v:Int): ∀m:List (Int×Int),(dk m k v).length=if(b6 m k).isSome then m.length else m.length+1
 |[]=>rfl
 |p::r=>by
  rw[acQ,xh];cases k==p.1 with
  |true=>simp
  |false=>
   simp only[cond_false,χ,ZO k v r];split<;>rfl
theorem ZZ: ∀(l:List aw) (m:List (Int×Int)),(mapM m l).length<=m.length+l.length/\(mg m l=true->(mapM m l).length=m.length+l.length)/\(mg m l=false->(mapM m l).length<m.length+l.length)
 |[],m=>by simp[mapM,mg]
 |z::r,m=>by
  obtain⟨U,h2,h3⟩:=ZZ r (dk m z.bC z.bj);have hl:=ZO z.bC z.bj m;simp only[mapM,mg,χ];cases hs:(b6 m z.bC).isSome with
  |true=>
   rw[hs,if_pos rfl] at hl;simp only[ι,ζT];refine⟨by omega,λh=>(by cases h),λ_=>by omega⟩
  |false=>
   rw[hs,if_neg (by simp)] at hl;simp only[ν,ω];exact⟨by omega,λh=>by have:=h2 h;omega,λh=>by have:=h3 h;omega⟩
theorem Z4 (j:Int): ∀(l:List aw) (m:List (Int×Int)),(b6 (mapM m l) j).isSome=(l.any (λy=>y.bC==j)||(b6 m j).isSome)
 |[],m=>by simp[mapM]
 |z::r,m=>by
  simp only[mapM,η1];rw[Z4 j r,xj]
  by_cases h:j=z.bC
  ·subst h;simp
  ·have:(z.bC==j)=false:=by simp;exact λe=>h e.symm
   simp[h,this]
theorem ZY: ∀(l r:List aw) (m:List (Int×Int)),mapM m (l++r)=mapM (mapM m l) r
 |[],r,m=>rfl
 |z::l,r,m=>ZY l r _
theorem Ww {l0:List aw}: ∀(r pre:List aw),l0=pre++r->mg (mapM [] pre) r=allI (λi z=>xm l0 i z) pre.length r
 |[],_,_=>rfl
 |z::r,pre,e=>by
  unfold mg allI xm;rw[Z4];have ht:l0.take pre.length=pre:=by rw[e];simp
  have hn:(b6 ([]:List (Int×Int)) z.bC).isSome=false:=rfl;rw[ht,hn,η2];have:=Ww (l0:=l0) r (pre++[z]) (by rw[e];simp);rw[show(pre++[z]).length=pre.length+1 by simp,ZY] at this;have this:mg (dk (mapM [] pre) z.bC z.bj) r=_:=this;rw[this];rfl
theorem Ve {α:Type} {p q:Nat->α->Bool}: ∀ {l:List α} {i:Nat},allI (λi z=>p i z&&q i z) i l=(allI p i l&&allI q i l)
 |[],_=>rfl
 |z::l,i=>by
  simp only[allI];rw[Ve];cases p i z<;>cases q i z<;>cases allI p (i+1) l<;>simp
theorem aoy {P:Int->Bool} {next:Int} {l:List aw}:HJ P next l=(uV P next 0 l&&mg [] l):=by
 unfold HJ;rw[Ve,acO (l0:=l) l [] 0 rfl (λ_=>rfl) (λy hy=>by simp at hy)];have:=Ww (l0:=l) l [] rfl;have this:mg [] l=_:=this;rw[this];rfl
theorem fold_map: ∀(l:List aw) (m:List (Int×Int)),l.foldl (λa z=>dk a z.bC z.bj) m=mapM m l
 |[],_=>rfl
 |z::r,m=>fold_map r _
theorem v48 {P:Int->Bool} {m:cp} (h:Ue P m):zd ab m=some (bif Bw P m then 0 else 340):=by
 show(EN ab m).val=_;unfold EN Bw;rw[aoy];simp only[T.cE,T.bh,T.dU,T.aR,T.aM];have h2:C4 ab m.ae []=some (false,(m.ae.length:Int),mapM [] m.ae):=by
  have:=xH (g:=λa (z:aw)=>dk a z.bC z.bj) (l:=m.ae) (i:=0) (a:=[]) (step:=λi z a=>(LD ab m.ae i z a).val) (fin:=λi a=>(BZ ab m.ae i a).val) (λi z a _=>rfl);have h2:C4 ab m.ae []=_:=this;rw[h2,fold_map];unfold BZ;simp
 obtain⟨q1,q2,q3⟩:=ZZ m.ae [];have bY:decide (((mapM [] m.ae).length:Int)<(m.ae.length:Int))=!mg [] m.ae:=by
  cases hf:mg [] m.ae with
  |true=>have:=q2 hf;simp at this;exact decide_eq_false (by omega)
  |false=>have:=q3 hf;simp at this;exact decide_eq_true (by omega)
 have e1:decide ((m.ae.length:Int)>16)=!decide (m.ae.length<=16):=by
  by_cases h:m.ae.length<=16
  ·rw[decide_eq_true h,decide_eq_false (by omega)];rfl
  ·rw[decide_eq_false h,decide_eq_true (by omega)];rfl
 have e2:decide (m.bE<1)=!decide (m.bE>=1):=by rw[κ];simp
 have e3:decide (m.bE>1073741825)=!decide (m.bE<=1073741825):=by rw[κ];simp
 rcases acP (P:=P) (l0:=m.ae) (next:=m.bE) m.ae 0 0 h.path with⟨h3,b,h4⟩|⟨h3,h4⟩
 ·have h4:Df ab m.ae m.bE 0=some (.inr b):=h4;rw[h4,h3,h2];simp only[γ,ω];rw[bY,e1,e2,e3];cases mg [] m.ae<;>cases decide (m.ae.length<=16)<;>cases decide (m.bE>=1)<;>cases decide (m.bE<=1073741825)<;>rfl
 ·have h4:Df ab m.ae m.bE 0=some (.inl ()):=h4;rw[h4,h3];rfl
def jL (l:List Nat):Bool:=l.all lD&&!l.isEmpty
theorem afH {s:ByteArray} {pos:Nat} (hp:pos<s.size):(vE ab s pos).val=bif lD (ξ5 s pos).1 then some (.inl (pos+(ξ5 s pos).2)) else some (.inr (.inl ())):=by
 unfold vE;simp only[T.aR,T.aM];rw[decide_eq_true hp,VE];cases decide (((ξ5 s pos).1:Int)>=97)<;>cases decide (((ξ5 s pos).1:Int)<=122)<;>cases decide (((ξ5 s pos).1:Int)>=48)<;>cases decide (((ξ5 s pos).1:Int)<=57)<;>rfl
theorem adl {l:List Nat} (h: ∀x∈l,x<256): ∀(k f pos:Nat),pos+k=l.length->dv (λa=>(vE ab (bs l) a).val) (k+1+f) pos=some (bif (l.drop pos).all lD then .inr l.length else .inl ())
 |0,f,pos,e=>by
  obtain rfl:pos=l.length:=by omega
  rw[show 0+1+f=f+1 by omega,ib];unfold vE;simp[iO]
 |k+1,f,pos,e=>by
  have hp:pos<l.length:=by omega
  have hg:=WD h (ε hp);rw[show k+1+1+f=(k+1+f)+1 by omega,ib,afH (by rw[iO];exact hp),ξj hp,ζA]
  by_cases hb:((bs l).get! pos).toNat<128
  ·rw[Mu hb,hg];cases lD l[pos] with
   |false=>rfl
   |true=>
    simp only[cond_true,γ,ω];exact adl h k f (pos+1) (by omega)
  ·have h4:=E9 (c:=l[pos]) (by rw[<-hg];omega);rw[E9 (decode_high hb),h4];rfl
theorem v175 {l:List Nat} (h: ∀x∈l,x<256) (hl:l.length<=100):zb ab (bs l)=some (jL l):=by
 show(Ek ab (bs l)).val=_;unfold Ek jL;simp only[T.cE,T.bh,T.dU,T.aM];have:=adl h l.length (999999-l.length) 0 (by omega);rw[show l.length+1+(999999-l.length)=1000000 by omega,ζv] at this;have hL:KY ab (bs l) 0=some (bif l.all lD then .inr l.length else .inl ()):=this;rw[hL];cases l.all lD with
 |false=>rfl
 |true=>
  simp only[cond_true,γ,ω];rw[MA]
def jT (acc:List (List Nat)) (x:Nat):List (List Nat):=if x=47 then acc++[[]] else match acc[acc.length-1]? with|some y=>acc.set (acc.length-1) (y++[x])|none=>acc
theorem Wt: ∀(a:List Nat) (acc:List (List Nat)) (y:List Nat),(∀x∈a,x≠47)->a.foldl jT (acc++[y])=acc++[y++a]
 |[],acc,y,_=>by simp
 |x::a,acc,y,h=>by
  have hx:jT (acc++[y]) x=acc++[y++[x]]:=by
   unfold jT;rw[if_neg (h x τ)];simp
  rw[ξv,hx,Wt a acc (y++[x]) λz hz=>h z (ρ _ hz)];simp
def wd (t:List Nat):List Nat:=t.takeWhile λx=>x !=47
def rs (t:List Nat):List Nat:=t.dropWhile λx=>x !=47
theorem adw: ∀(t:List Nat) (x:Nat),x∈wd t->x≠47
 |[],x,h=>by simp[wd] at h
 |z::t,x,h=>by
  unfold wd at h;rw[ξ8] at h;cases hz:z !=47 with
  |true=>
   rw[hz] at h;rcases ξy.1 h with rfl|h
   ·simpa using hz
   ·exact adw t x h
  |false=>rw[hz] at h;simp at h
theorem F1 (t:List Nat) (acc:List (List Nat)):(47::t).foldl jT acc=(rs t).foldl jT (acc++[wd t]):=by
 rw[ξv];have U:jT acc 47=acc++[[]]:=by unfold jT;rw[if_pos rfl]
 rw[U]
 conv=>lhs;rw[<-ξo (p:=λx=>x !=47) (l:=t)]
 rw[List.foldl_append];show List.foldl jT (List.foldl jT (acc++[[]]) (wd t)) (rs t)=_;rw[Wt _ acc [] λx hx=>adw t x hx];rfl
theorem xI (t:List Nat):rs t=[]\/ ∃u,rs t=47::u:=by
 unfold rs;cases h:t.dropWhile λx=>x !=47 with
 |nil=>exact .inl rfl
 |cons x u=>
  right;have:=ζb (λx=>x !=47) t;rw[h] at this;simp at this;exact⟨u,by rw[this]⟩
theorem F0: ∀(k:Nat) (r:List Nat) (acc:List (List Nat)),r.length<=k->(r=[]\/ ∃t,r=47::t)->r.foldl jT acc=acc++r.foldl jT []
 |0,r,acc,hk,_=>by
  have:r=[]:=ξs (by omega);subst this;simp
 |k+1,r,acc,hk,hr=>by
  rcases hr with rfl|⟨t,rfl⟩
  ·simp
  ·have hl:(rs t).length<=k:=by
    have:(rs t).length<=t.length:=(ξf _).length_le;simp at hk;omega
   rw[F1,F1,F0 k (rs t) _ hl (xI t),F0 k (rs t) ([]++[wd t]) hl (xI t)];simp
theorem PF: ∀(t:List Nat),(∀x∈t,x<256)->η3 (bs t).data.toList (Nat.toUInt8 47)=if rs t=[] then -1 else((wd t).length:Int)
 |[],_=>rfl
 |x::t,h=>by
  have ih:=PF t λz hz=>h z (ρ _ hz);have hx:=h x τ;have e1:(bs (x::t)).data.toList=ξd x::(bs t).data.toList:=by simp[bs]
  rw[e1];unfold η3 rs wd;rw[ξB,ξ8]
  by_cases F7:x=47
  ·subst F7;rfl
  ·have e2:(ξd x==Nat.toUInt8 47)=false:=by
    rw[beq_eq_false_iff_ne];intro e;have:=congrArg ζc e;simp at this;omega
   have e3:(x !=47)=true:=by simp[F7]
   rw[e2,e3];simp only[ξ6,if_false,if_true];unfold rs wd at ih;rw[ih];split
   ·rfl
   ·rename_i aN;rw[if_neg (by simp)];simp
theorem ady (t:List Nat):wd t++rs t=t:=ξo
theorem aiZ {l:List Nat} {i j:Nat} (cC:i<=j) (hj:j<=l.length):(bs l).extract i j=bs ((l.take j).drop i):=by
 apply ζd;rw[ByteArray.data_extract];unfold bs;apply ζX;rw[Array.toList_extract];simp[List.extract,List.map_drop,ζg,List.take_drop,show i+(j-i)=j by omega]
theorem ot {l:List Nat} {i j:Nat} (cC:i<=j) (hj:j<=l.length) {lo hi:Option Int} (U:lo.getD 0=(i:Int)) (h2:hi.getD ((bs l).size:Int)=(j:Int)):iP (bs l) lo hi=some (bs ((l.take j).drop i)):=by
 unfold iP;rw[U,h2,if_pos ⟨by omega,by omega,by rw[iO];omega⟩,η,η,aiZ cC hj]
theorem afI {d t:List Nat} {w:Int} {acc:List (List Nat)} (hd:((bs d).toList==(ξ0 #[47]).toList)=false) (h: ∀x∈t,x<256) (hl:t.length<=50) (ha:acc.length<=50):
  (lr ab (bs d) w (true,bs (47::t),acc.map bs)).val=bif jL (wd t) then some (.inl (true,bs (rs t),(acc++[wd t]).map bs)) else some (.inr (.inl (false,bs (47::t),acc.map bs))):=by
 have si:=ady t;have hlen:(wd t).length+(rs t).length=t.length:=by rw[<-ο,si]
 have hw: ∀x∈wd t,x<256:=λx hx=>h x (by rw[<-si];exact ξT _ hx);have e1:decide (((bs (47::t)).size:Int)>=1)=true:=decide_eq_true (by rw[iO];simp;omega);have c1:iP (bs (47::t)) none (some 1)=some (bs [47]):=ot (i:=0) (j:=1) (by omega) (by simp) rfl rfl;have c2:iP (bs (47::t)) (some 1) none=some (bs t):=by
  have:=ot (l:=47::t) (i:=1) (j:=t.length+1) (lo:=some 1) (hi:=none) (by omega) (by simp) rfl (by rw[iO];simp);rw[this];simp
 have e2:((bs [47]).toList==(ξ0 #[47]).toList)=true:=by
  have:bs [47]=ξ0 #[47]:=rfl;rw[this];exact beq_self_eq_true _
 have tN:app 16 (acc.map bs) [bs (wd t)]=some ((acc++[wd t]).map bs):=by
  rw[pw (n:=200) (by simp;omega) (by omega),ξx];rfl
 unfold lr;simp only[T.aR,T.aM,T.bh];rw[e1,c1];simp only[cond_true,γ];rw[e2,c2];simp only[cond_true,γ];rw[PF t h,hd]
 by_cases hr:rs t=[]
 ·have hwt:wd t=t:=by rw[hr,ξe] at si;exact si
  rw[if_pos hr];have e3:(δ.wrap (-1+1)==0)=true:=rfl;have c3:iP (bs (47::t)) (some 1) (some ((bs (47::t)).size:Int))=some (bs (wd t)):=by
   have:=ot (l:=47::t) (i:=1) (j:=t.length+1) (lo:=some 1) (hi:=some ((bs (47::t)).size:Int)) (by omega) (by simp) rfl (by rw[iO];simp);rw[this,hwt];simp
  have c4:iP (bs (47::t)) (some ((bs (47::t)).size:Int)) none=some (bs (rs t)):=by
   have:=ot (l:=47::t) (i:=t.length+1) (j:=t.length+1) (lo:=some ((bs (47::t)).size:Int)) (hi:=none) (by omega) (by simp) (by rw[iO];simp) (by rw[iO];simp);rw[this,hr];simp
  rw[e3];simp only[cond_true];rw[c3];simp only[γ,cond_false];rw[v175 hw (by omega),tN,c4];cases jL (wd t)<;>rfl
 ·rw[if_neg hr];have m3:0<(rs t).length:=ζx.2 hr;have hwl:δ.wrap (((wd t).length:Int)+1)=(((wd t).length+1:Nat):Int):=by rw[eo (by omega) (by omega)];omega
  rw[hwl];have e3:((((wd t).length+1:Nat):Int)==0)=false:=by simp;omega
  have c3:iP (bs (47::t)) (some 1) (some (((wd t).length+1:Nat):Int))=some (bs (wd t)):=by
   have:=ot (l:=47::t) (i:=1) (j:=(wd t).length+1) (lo:=some 1) (hi:=some (((wd t).length+1:Nat):Int)) (by omega) (by simp;omega) rfl rfl;rw[this];have:t.take (wd t).length=wd t:=by
    have:=ζU (l₁:=wd t) (l₂:=rs t)
    rwa [si] at this
   simp[this]
  have c4:iP (bs (47::t)) (some (((wd t).length+1:Nat):Int)) none=some (bs (rs t)):=by
   have:=ot (l:=47::t) (i:=(wd t).length+1) (j:=t.length+1) (lo:=some (((wd t).length+1:Nat):Int)) (hi:=none) (by omega) (by simp) rfl (by rw[iO];simp);rw[this];have:t.drop (wd t).length=rs t:=by
    have:=ζV (l₁:=wd t) (l₂:=rs t)
    rwa [si] at this
   simp[this]
  rw[e3];simp only[cond_false];rw[c3];simp only[γ,cond_false];rw[v175 hw (by omega),tN,c4];cases jL (wd t)<;>rfl
theorem ado {d:List Nat} {w:Int} (hd:((bs d).toList==(ξ0 #[47]).toList)=false): ∀(k f:Nat) (r:List Nat) (acc:List (List Nat)),r.length<=k->(∀x∈r,x<256)->r.length+acc.length<=50->acc.all jL=true->(r=[]\/ ∃t,r=47::t)->
  ((r.foldl jT []).all jL=true/\ ∃b s0,dv (λa=>(lr ab (bs d) w a).val) (k+1+f) (true,bs r,acc.map bs)=some (.inr (b,s0,true,(acc++r.foldl jT []).map bs)))\/
  ((r.foldl jT []).all jL=false/\ ∃s0 ps,ps.all jL=true/\(∃q,acc++r.foldl jT []=ps++q)/\dv (λa=>(lr ab (bs d) w a).val) (k+1+f) (true,bs r,acc.map bs)=some (.inl (false,s0,ps.map bs)))
 |k,f,[],acc,_,_,_,_,_=>by
  left;refine⟨rfl,false,bs [],?_⟩;rw[show k+1+f=(k+f)+1 by omega,ib];have:(lr ab (bs d) w (true,bs [],acc.map bs)).val=some (.inr (.inr (false,bs [],true,acc.map bs))):=by
   unfold lr;rfl
  rw[this];simp
 |0,f,x::r,acc,hk,_,_,_,_=>by simp at hk
 |k+1,f,x::t,acc,hk,h,hl,ha,hr=>by
  rcases hr with h0|⟨t',e⟩
  ·cases h0
  cases e;have ht: ∀x∈t,x<256:=λx hx=>h x (ρ _ hx);simp only[χ] at hk hl;have hlen:(rs t).length<=t.length:=(ξf _).length_le;rw[show k+1+1+f=(k+1+f)+1 by omega,ib,afI hd ht (by omega) (by omega),F1,ζo,F0 (rs t).length (rs t) _ (ξ2 _) (xI t)];rw[ζN];cases hp:jL (wd t) with
  |false=>
   right;refine⟨by simp[hp],bs (47::t),acc,ha,⟨_,rfl⟩,rfl⟩
  |true=>
   simp only[cond_true,γ];have eX:(acc++[wd t]).all jL=true:=by rw[ζN,ha];simp[hp]
   have wQ: ∀x∈rs t,x<256:=λx hx=>ht x ((ξf (λx=>x !=47)).subset hx);have e1:acc++([wd t]++(rs t).foldl jT [])=(acc++[wd t])++(rs t).foldl jT []:=by simp
   have e2:[wd t].all jL=true:=by simp[hp]
   rw[e1,e2,ω];exact ado hd k f (rs t) (acc++[wd t]) (by omega) wQ (by simp;omega) eX (xI t)
def jt (ps:List (List Nat)):List Nat:=(ps.map λp=>47::p).flatten
def tx (ps:List (List Nat)):List Nat:=match ps with|[]=>[47]|_=>jt ps
theorem aol (p:List Nat) (ps:List (List Nat)):my ((p::ps).map bs) (ξ0 #[47])=bs (p++jt ps):=by
 unfold my;apply ζd;apply ζX;show Lib.join (((p::ps).map bs).map (·.data.toList)) [47]=_;rw[ξV,ξV,Lib.join_cons];unfold Lib.joinTail jt bs;simp only[ξx,ζI]
 congr 1
 rw[List.map_flatten,ζI]
 congr 1
theorem ar': ∀(ps:List (List Nat)),(tx ps).length<=500->uU (ξ0 #[47]) (my (ps.map bs) (ξ0 #[47]))=some (bs (tx ps))/\(my (ps.map bs) (ξ0 #[47])).size<=500
 |[],_=>by
  have e:my [] (ξ0 #[47])=bs []:=rfl;rw[η6,e];exact⟨acM (l:=[47]) (m:=[]) (by simp),by rw[iO];simp⟩
 |p::ps,h=>by
  rw[aol];have h:(47::p++jt ps).length<=500:=by simpa[tx,jt] using h
  refine⟨?_,by rw[iO];simp at h ⊢;omega⟩;have:=acM (l:=[47]) (m:=p++jt ps) (by simp at h ⊢;omega);have e:bs [47]=ξ0 #[47]:=rfl;rw[e] at this;rw[this];rfl
theorem IX {ps:List (List Nat)} (eX:ps.all jL=true) (h: ∀p∈ps,(∀x∈p,x<256)/\p.length<=100) (hl:(tx ps).length<=500) (hn:ps.length<=100):pN ab (ps.map bs)=some ((oo (bs (tx ps))).1,(oo (bs (tx ps))).2==0&&decide (ps.length<=4)):=by
 show(Em ab (ps.map bs)).val=_;unfold Em;obtain⟨U,h2⟩:=ar' ps hl;simp only[T.aR,T.bh,T.aM,T.cE,T.dU];rw[U,decide_eq_true (by simp;omega:(ps.map bs).length<=140737488355328),decide_eq_true (by omega:(my (ps.map bs) (ξ0 #[47])).size<=140737488355328)];simp only[Bool.and_self,cond_true,γ,v79];have e1:decide (((ps.map bs).length:Int)<=4)=decide (ps.length<=4):=by rw[κ];simp;omega
 have hL:Lk ab (ps.map bs)=some (.inr (false,((ps.map bs).length:Int))):=by
  show cB (λi z a=>(DJ ab (ps.map bs) i z a).val) (λi a=>(Ch ab (ps.map bs) i a).val) 0 (ps.map bs) ()=_;rw[xH (g:=λa _=>a)]
  ·unfold Ch;simp
  ·intro i z a hz;obtain⟨p,hp,rfl⟩:=ζ1.1 hz;unfold DJ;have:=ξg.1 eX p hp;simp only[T.aR,T.bh,T.aM,v175 (h p hp).1 (h p hp).2,this,γ];rfl
 rw[e1,hL];cases (oo (bs (tx ps))).2==0<;>cases decide (ps.length<=4)<;>rfl
def jq (d:List Nat):List (List Nat):=d.foldl jT []
theorem aaT (t:List Nat):jq (47::t)=wd t::jq (rs t):=by
 unfold jq;rw[F1,ζo,F0 (rs t).length (rs t) _ (ξ2 _) (xI t)];rfl
theorem Hy: ∀(k:Nat) (r:List Nat),r.length<=k->(r=[]\/ ∃t,r=47::t)->jt (jq r)=r
 |_,[],_,_=>rfl
 |0,x::r,hk,_=>by simp at hk
 |k+1,x::t,hk,hr=>by
  rcases hr with h0|⟨t',e⟩
  ·cases h0
  cases e;have hlen:(rs t).length<=t.length:=(ξf _).length_le;simp only[χ] at hk;have ih:=Hy k (rs t) (by omega) (xI t);rw[aaT];unfold jt at ih ⊢;rw[ξV,List.flatten_cons,ih];show 47::(wd t++rs t)=_;rw[ady]
theorem acV {d:List Nat} (h: ∀x∈d,x<256):((bs d).toList==(ξ0 #[47]).toList)=decide (d=[47]):=by
 have e1: ∀x:ByteArray,x.toList=x.data.toList:=λx=>ξA x;rw[e1,e1,κ];simp only[beq_iff_eq,decide_eq_true_eq];constructor
 ·intro e;have e:d.map ξd=[47]:=by simpa[bs] using e
  obtain⟨x,rfl⟩:=List.length_eq_one_iff.1 (by simpa using congrArg ζO e);have hx:=h x (by simp);simp at e;have:=congrArg ζc e;simp at this;rw[show x=47 by omega]
 ·rintro rfl;rfl
def wW (d:List Nat):Bool:=decide (d=[47])||(match d with|47::_=>(jq d).all jL&&decide ((jq d).length<=4)|_=>false)
def dG (w:Int):Bool:=(mE 8 w.toNat==0)&&wW (dg 8 w.toNat)
def Q5 (d:List Nat):List (List Nat):=if d=[47] then[] else jq d
def eC (w:Int):List (List Nat):=Q5 (dg 8 w.toNat)
theorem aoI {ps:List (List Nat)} {p:List Nat} {x:Nat} (hp:p∈ps) (hx:x∈p):x∈jt ps:=by
 unfold jt;rw[List.mem_flatten];exact⟨47::p,ζ1.2 ⟨p,hp,rfl⟩,ρ _ hx⟩
theorem YO: ∀ {ps:List (List Nat)} {p:List Nat},p∈ps->p.length+1<=(jt ps).length
 |q::ps,p,h=>by
  have e:(jt (q::ps)).length=q.length+1+(jt ps).length:=by simp[jt];omega
  rcases ξy.1 h with rfl|h
  ·omega
  ·have:=YO h;omega
theorem PT: ∀(ps:List (List Nat)),ps.length<=(jt ps).length
 |[]=>by simp
 |q::ps=>by
  have e:(jt (q::ps)).length=q.length+1+(jt ps).length:=by simp[jt];omega
  have:=PT ps;simp only[χ];omega
theorem YN (ps q:List (List Nat)):jt (ps++q)=jt ps++jt q:=by simp[jt]
theorem Z6 {d:List Nat} (hd: ∀x∈d,x<256) (hl:d.length<=8) (hs: ∃t,d=47::t) {p:List Nat} (hp:p∈jq d):(∀x∈p,x<256)/\p.length<=100:=by
 have hj:=Hy d.length d (ξ2 _) (.inr hs);refine⟨λx hx=>hd x (by rw[<-hj];exact aoI hp hx),?_⟩;have:=YO hp;rw[hj] at this;omega
theorem atB:oo (bs (tx []))=(47,0):=L3 (l:=[47]) (by simp) (by simp)
theorem adm:pN ab []=some (47,true):=by
 have:=IX (ps:=[]) rfl (by simp) (by simp[tx]) (by simp);rw[η6] at this;rw[this,atB];rfl
theorem IT {α:Type} {w:Int} {ps:List ByteArray} {b:Bool} {s0:α} {r:Int×Bool} (hr:pN ab ps=some r):(T.bd (pN ab ps) λy2=> .bf (!b) (.ok (n6.mk [] 0,false))<| .bf (!y2.2) (.ok (n6.mk [] 0,false))<| .bf (y2.1 !=w) (.ok (n6.mk [] 0,false))<| .ok (n6.mk ps w,true):T (n6×Bool)).val=some (bif b&&(r.2&&r.1==w) then⟨ps,w⟩ else⟨[],0⟩,b&&(r.2&&r.1==w)):=by
 rw[T.bh,hr,γ];simp only[T.aR,T.aM];have e:(r.1 !=w)=!(r.1==w):=rfl;rw[e];cases b<;>cases r.2<;>cases r.1==w<;>rfl
theorem v131 {n:Nat} (h:n<18446744073709551616):tC ab (n:Int)=some (bif dG (n:Int) then⟨(eC (n:Int)).map bs,(n:Int)⟩ else⟨[],0⟩,dG (n:Int)):=by
 show(D2 ab (n:Int)).val=_;unfold D2 dG eC;simp only[T.bh,T.aR,T.aM,T.cE,adj h,γ,η]
 by_cases h0:mE 8 n=0
 rotate_left
 ·rw[if_neg h0];have e:(mE 8 n==0)=false:=by simp[h0]
  rw[e];rfl
 rw[if_pos h0,h0];simp only[show((0:Int) !=0)=false from rfl,cond_false,MA,beq_self_eq_true,ω];have hd:=Mw n;have hl:=yT 8 n;have mZ:=Q3 8 n;rw[h0,η5,ζ0] at mZ;have OW:=Fk 8 n;generalize dg 8 n=d at*
 cases d with
 |nil=>rfl
 |cons x t=>
  simp only[List.isEmpty_cons,cond_false]
  by_cases hx:x=47
  ·subst hx;cases t with
   |nil=>
    have hn:(n:Int)=47:=by simp[pk] at mZ;omega
    have hL:vz ab (bs [47]) (n:Int) true (bs [47]) []=some (.inl (true,bs [47],[])):=by
     show dv (λa=>(lr ab (bs [47]) (n:Int) a).val) 1000000 (true,bs [47],[])=_;rw[show(1000000:Nat)=999999+1 from rfl,ib];have:(lr ab (bs [47]) (n:Int) (true,bs [47],[])).val=some (.inr (.inl (true,bs [47],[]))):=by
      have e1:decide (((bs [47]).size:Int)>=1)=true:=decide_eq_true (by rw[iO];simp);have c1:iP (bs [47]) none (some 1)=some (bs [47]):=ot (l:=[47]) (i:=0) (j:=1) (by omega) (by simp) rfl rfl;have c2:iP (bs [47]) (some 1) none=some (bs []):=ot (l:=[47]) (i:=1) (j:=1) (by omega) (by simp) rfl (by rw[iO];simp);have c3:iP (bs [47]) (some 1) (some ((bs [47]).size:Int))=some (bs []):=ot (l:=[47]) (i:=1) (j:=1) (by omega) (by simp) rfl (by rw[iO];simp);have e2:((bs [47]).toList==(ξ0 #[47]).toList)=true:=by
       have:bs [47]=ξ0 #[47]:=rfl;rw[this];exact beq_self_eq_true _
      unfold lr;simp only[T.aR,T.bh,T.aM];rw[e1,c1];simp only[cond_true,γ];rw[e2,c2];simp only[cond_true,γ];rw[PF [] (by simp),if_pos (show rs []=[] from rfl),show(δ.wrap (-1+1)==0)=true from rfl];simp only[cond_true];rw[c3];simp only[γ]
     rw[this];rfl
    rw[hL];simp only[γ,T.dU];refine(IT (s0:=()) (b:=true) (w:=(n:Int)) adm).trans ?_;rw[hn];rfl
   |cons y t=>
    have aN:decide (47::y::t=[47])=false:=decide_eq_false (by simp);have hs:=acV hd;rw[aN] at hs;have hj:=Hy _ (47::y::t) (ξ2 _) (.inr ⟨_,rfl⟩);have OM:wW (47::y::t)=((jq (47::y::t)).all jL&&decide ((jq (47::y::t)).length<=4)):=by
     unfold wW;rw[aN];rfl
    rw[OM];have oG:=ado (w:=(n:Int)) hs (47::y::t).length (999999-(47::y::t).length) (47::y::t) [] (ξ2 _) hd (by simp at hl ⊢;omega) rfl (.inr ⟨_,rfl⟩);rw[show(47::y::t).length+1+(999999-(47::y::t).length)=1000000 by omega] at oG;have mr: ∀p∈jq (47::y::t),(∀x∈p,x<256)/\p.length<=100:=λp hp=>Z6 hd hl ⟨_,rfl⟩ hp;have am6:=PT (jq (47::y::t));rw[hj] at am6;rcases oG with⟨U,b,s0,h2⟩|⟨U,s0,ps,h3,⟨q,h4⟩,h2⟩
    ·have hL:vz ab (bs (47::y::t)) (n:Int) true (bs (47::y::t)) []=some (.inr (b,s0,true,(jq (47::y::t)).map bs)):=h2;have U:(jq (47::y::t)).all jL=true:=U;rw[hL,U];simp only[γ,T.dU];have Yy:tx (jq (47::y::t))=47::y::t:=by
      rw[aaT] at hj ⊢;exact hj
     have F6:=IX U mr (by rw[Yy];omega) (by omega);rw[Yy,L3 OW hl,mZ] at F6;refine(IT (s0:=()) (b:=true) (w:=(n:Int)) F6).trans ?_;rw[show Q5 (47::y::t)=jq (47::y::t) from if_neg (by simp)];simp
    ·have hL:vz ab (bs (47::y::t)) (n:Int) true (bs (47::y::t)) []=some (.inl (false,s0,ps.map bs)):=h2;have U:(jq (47::y::t)).all jL=false:=U;have h4:jq (47::y::t)=ps++q:=by simpa[jq] using h4
     rw[hL,U];simp only[γ,T.dU];have iy:(jt ps).length<=8:=by
      rw[h4,YN] at hj;have:=congrArg ζO hj;rw[ο] at this;omega
     have F6:=IX h3 (λp hp=>mr p (by rw[h4];exact ξT _ hp)) (by
      cases ps with
      |nil=>simp[tx]
      |cons a b=>show(jt (a::b)).length<=500;omega) (by have:=PT ps;omega)
     exact IT (s0:=()) (b:=false) (w:=(n:Int)) F6
  ·have OM:wW (x::t)=false:=by
    unfold wW;rw[decide_eq_false (by simp;intro e;exact absurd e hx),ξr];split
    ·rename_i h;cases h;exact absurd rfl hx
    ·rfl
   have hL:vz ab (bs (x::t)) (n:Int) true (bs (x::t)) []=some (.inr (false,bs (x::t),true,[])):=by
    show dv (λa=>(lr ab (bs (x::t)) (n:Int) a).val) 1000000 (true,bs (x::t),[])=_;rw[show(1000000:Nat)=999999+1 from rfl,ib];have:(lr ab (bs (x::t)) (n:Int) (true,bs (x::t),[])).val=some (.inr (.inr (false,bs (x::t),true,[]))):=by
     have e1:decide (((bs (x::t)).size:Int)>=1)=true:=decide_eq_true (by rw[iO];simp;omega);have c1:iP (bs (x::t)) none (some 1)=some (bs [x]):=ot (i:=0) (j:=1) (by omega) (by simp) rfl rfl;have e2:((bs [x]).toList==(ξ0 #[47]).toList)=false:=by
      rw[acV (λz hz=>by have:z=x:=by simpa using hz
                        subst this;exact hd z τ)]
      exact decide_eq_false (by simp;exact hx)
     unfold lr;simp only[T.aR,T.bh,T.aM];rw[e1,c1];simp only[cond_true,γ];rw[e2];rfl
    rw[this];rfl
   rw[hL,OM];simp only[γ,T.dU];refine(IT (s0:=()) (b:=true) (w:=(n:Int)) adm).trans ?_;have hn:((47:Int)==(n:Int))=false:=by
    have au5:=hd x τ;simp[pk] at mZ;simp;omega
   rw[hn];rfl
theorem v96 {n:Nat} (h:n<18446744073709551616):y9 ab (n:Int)=some (bif dG (n:Int) then 0 else 310):=by
 show(DW ab (n:Int)).val=_;unfold DW;simp only[T.bh,T.aR,T.aM,v131 h,γ];cases dG (n:Int)<;>rfl
theorem aaS {w:Int} (h:eQ w):LC w (dG w):=by
 obtain⟨n,rfl⟩:=ξD h.1;have hn:n<18446744073709551616:=by have:=h.2;omega
 exact v96 hn
abbrev kr (α:Type):=Except Int α
def cL {α:Type} (lt:α->Bool) (x:α) (l:List α):List α:=l.takeWhile lt++x::l.dropWhile lt
def nP (p:bS):Option Nat:=(ξ4 16).find? λi=>!(p.ae.any λx=>ix x.aa==(i:Int)+1)&&decide (aI p.aQ i<=65535)
def fv (p:bS) (i:Nat):Int:=aI p.aQ i*64+i+1
def o_ (p:bS) (parent:Int):kr (bS×Int):=
 bif cT p.ae parent then match nP p with
  |some i=> .ok (⟨p.aQ.set i (aI p.aQ i+1),cL (λy=>decide (ix y.aa<=i+1)) ⟨fv p i,parent,false,0⟩ p.ae⟩,fv p i)
  |none=> .error 322
 else .error 321
def kT (pid code:Int) (y:ai):Option ai:=
 bif y.aa==pid then bif y.ba==0 then none else some ⟨y.aa,y.ba,true,code⟩
 else bif y.ba==pid then bif y.bK then none else some ⟨y.aa,0,y.bK,y.da⟩
 else some y
def ov (p:bS) (pid code:Int):kr bS:=
 bif cT p.ae pid then bif pid==1 then .error 323 else .ok ⟨p.aQ,p.ae.filterMap (kT pid code)⟩ else .error 321
def pf (p:bS) (pid child:Int):kr (bS×Int):=
 bif cT p.ae pid then match jQ p.ae child with
  |some x=>bif x.ba==pid then bif x.bK then .ok (⟨p.aQ,p.ae.filter λy=>!(y.aa==child)⟩,x.da) else .error 322 else .error 324
  |none=> .error 324
 else .error 321
def eM (l:List aj) (pid fd:Int):Option Int:=(l.find? λd=>d.aa==pid&&d.b_==fd).map aj.dq
def mP (l:List aj) (pid:Int):Option Nat:=(ξ4 8).find? λ(i:Nat)=>(eM l pid i).isNone
def ng (l:List aj) (pid bW:Int):kr (List aj×Int):=
 match mP l pid with
 |some i=>bif l.length==64 then .error 6 else .ok (cL (λy=>fF y ⟨pid,i,bW⟩) ⟨pid,i,bW⟩ l,i)
 |none=> .error 6
def mN (l:List aj) (pid fd:Int):kr (List aj×Int):=
 match eM l pid fd with
 |some bW=>ng l pid bW
 |none=> .error 4
def l8 (l:List aj) (pid fd:Int):kr (List aj):=
 match eM l pid fd with
 |some _=> .ok (l.filter λd=>!(d.aa==pid&&d.b_==fd))
 |none=> .error 4
def yU (l:List aj) (pid:Int):List aj:=l.filter λd=>!(d.aa==pid)
def tt (l:List aj) (bW:Int):Nat:=(l.filter λd=>d.dq==bW).length
def eZ (m:cp) (w:Int):Option Int:=(m.ae.find? λx=>x.bC==w).map aw.bj
def BU (ps:List (List Nat)):Int:=(oo (bs (tx ps))).1
def vR (a b:Int):Bool:=dG a&&(dG b&&(eC a).isPrefixOf (eC b))
def og (m:cp) (w:Int):kr (cp×Int):=
 bif dG w then match eZ m w with
  |some _=> .error 5
  |none=>bif m.ae.length==16||decide (m.bE>1073741824) then .error 6 else .ok (⟨m.ae++[⟨w,m.bE⟩],m.bE+1⟩,m.bE)
 else .error 310
def oV (m:cp) (w:Int):kr Int:=
 bif dG w then match eZ m w with
  |some i=> .ok i
  |none=> .error 4
 else .error 310
def ru (m:cp) (w:Int):Bool:=m.ae.any λx=>!(x.bC==w)&&vR w x.bC
def pb (m:cp) (w:Int):kr cp:=
 bif dG w then match eZ m w with
  |some _=>bif ru m w then .error 341 else .ok ⟨m.ae.filter λx=>!(x.bC==w),m.bE⟩
  |none=> .error 4
 else .error 310
def u4 (w:Int):List Int:=(ξ4 ((eC w).length+1)).reverse.map λk=>BU ((eC w).take k)
def IW (m:cp) (w:Int):Option Int:=(u4 w).findSome? (eZ m)
def kK (m:cp) (w:Int):kr Int:=
 bif dG w then match IW m w with
  |some i=> .ok i
  |none=> .error 4
 else .error 310
def jO (l:List az) (n:Int):Option Int:=(l.find? λz=>z.br==n).map az.aa
def oZ (s:aP) (n pid:Int):kr aP:=
 bif hP n then bif gx pid then match jO s.aA n with
  |some _=> .error 5
  |none=>bif s.aA.length==16 then .error 6 else .ok ⟨cL (λy=>decide (y.br<n)) ⟨n,pid⟩ s.aA,s.au⟩
 else .error 2 else .error 351
def lP (s:aP) (n:Int):kr Int:=
 bif hP n then match jO s.aA n with
  |some p=> .ok p
  |none=> .error 4
 else .error 351
def BM (s:aP) (n:Int):aP:=⟨s.aA.filter λy=>!(y.br==n),s.au⟩
def rS (s:aP) (pid:Int):List Int:=(s.aA.filter λy=>y.aa==pid).map az.br
def fe (s:aP) (pid:Int):List Int:=match s.au.find? λb=>b.aa==pid with|some b=>b.bt|none=>[]
def kg (s:aP) (pid:Int) (ws:List Int):aP:=
 ⟨s.aA,(s.au.filter λb=>decide (b.aa<pid))++((if ws=[] then[] else[⟨pid,ws⟩])++s.au.filter λb=>decide (pid<b.aa))⟩
def sO (s:aP) (pid w:Int):kr aP:=bif (fe s pid).length==4 then .error 322 else .ok (kg s pid (fe s pid++[w]))
def sJ (s:aP) (pid:Int):kr (aP×Int):=
 match fe s pid with
 |w::r=> .ok (kg s pid r,w)
 |[]=> .error 322
def uG (c:bR):Bool:=c.bP==9||c.bP==12
def xc (s:bo) (k p a b:Int):kr (bo×Int):=
 if k=1 then match o_ s.aC p with| .ok (q,v)=> .ok (⟨q,s.aV,s.aL,s.aF⟩,v)| .error e=> .error e
 else if k=2 then match ov s.aC p a with
  | .ok q=>if rS s.aF p=[] then .ok (⟨q,yU s.aV p,s.aL,kg s.aF p []⟩,0) else .error 341
  | .error e=> .error e
 else if k=3 then match pf s.aC p a with| .ok (q,v)=> .ok (⟨q,s.aV,s.aL,s.aF⟩,v)| .error e=> .error e
 else if k=4 then match kK s.aL a with
  | .ok i=>match ng s.aV p i with| .ok (l,v)=> .ok (⟨s.aC,l,s.aL,s.aF⟩,v)| .error e=> .error e
  | .error e=> .error e
 else if k=5 then match l8 s.aV p a with| .ok l=> .ok (⟨s.aC,l,s.aL,s.aF⟩,0)| .error e=> .error e
 else if k=6 then match mN s.aV p a with| .ok (l,v)=> .ok (⟨s.aC,l,s.aL,s.aF⟩,v)| .error e=> .error e
 else if k=7 then match og s.aL a with| .ok (m,v)=> .ok (⟨s.aC,s.aV,m,s.aF⟩,v)| .error e=> .error e
 else if k=8 then match oV s.aL a with
  | .ok i=>if tt s.aV i=0 then match pb s.aL a with| .ok m=> .ok (⟨s.aC,s.aV,m,s.aF⟩,0)| .error e=> .error e else .error 341
  | .error e=> .error e
 else if k=9 then match kK s.aL a with| .ok i=> .ok (s,i)| .error e=> .error e
 else if k=10 then match oZ s.aF a p with| .ok i=> .ok (⟨s.aC,s.aV,s.aL,i⟩,0)| .error e=> .error e
 else if k=11 then match lP s.aF a with
  | .ok q=>if q=p then .ok (⟨s.aC,s.aV,s.aL,BM s.aF a⟩,0) else .error 362
  | .error e=> .error e
 else if k=12 then match lP s.aF a with| .ok q=> .ok (s,q)| .error e=> .error e
 else if k=13 then bif cT s.aC.ae a then match sO s.aF a b with| .ok i=> .ok (⟨s.aC,s.aV,s.aL,i⟩,0)| .error e=> .error e else .error 4
 else match sJ s.aF p with| .ok (i,v)=> .ok (⟨s.aC,s.aV,s.aL,i⟩,v)| .error e=> .error e
def ry (s:bo) (c:bR):kr (bo×Int):=
 if 1<=c.bP/\c.bP<=14 then bif uG c||cT s.aC.ae (aI c.fArgs 0) then xc s c.bP (aI c.fArgs 0) (aI c.fArgs 1) (aI c.fArgs 2) else .error 321
 else .error 361
def jh (s:bo) (c:bR):bo×cF:=
 match ry s c with
 | .ok (n,v)=>(n,⟨0,v⟩)
 | .error e=>(s,⟨e,0⟩)
theorem alF {a b:ai} (h:kA a b=true):a=b:=by
 obtain⟨a1,a2,a3,a4⟩:=a;obtain⟨b1,b2,b3,b4⟩:=b;simp[kA] at h;simp[h]
section
variable {α:Type} {q:α->α->Bool} {A:α->Bool} {l:List α}
theorem Bj (ht: ∀a b c,q a b=true->q b c=true->q a c=true):
  allI (λi z=>A z&&ka q l i z) 0 l=true↔(∀z∈l,A z=true)/\l.Pairwise λa b=>q a b=true:=by
 rw[tc];constructor
 ·intro h;have U: ∀z∈l,A z=true:=λz hz=>by
   obtain⟨k,hk⟩:=ξS hz;have:=h k z hk;rw[θ] at this;exact this.1
  have h2: ∀k (hk:k+1<l.length),q l[k] l[k+1]=true:=λk hk=>by
   have:=h (k+1) l[k+1] (ε hk);rw[θ] at this;have:=this.2;unfold ka at this;rw[ξp,show(k+1==0)=false from rfl,ξr,ξG,ε (by omega)] at this;exact this
  refine⟨U,ξ3.2 λi j hi hj cC=>?_⟩;obtain⟨d,rfl⟩: ∃d,j=i+1+d:=⟨j-(i+1),by omega⟩
  induction d with
  |zero=>exact h2 i hj
  |succ d ih=>exact ht _ _ _ (ih (by omega) (by omega)) (h2 (i+1+d) hj)
 ·rintro ⟨U,h2⟩ k z hk;rw[θ];refine⟨U z (φ hk),?_⟩;unfold ka;rw[ξp];cases k with
  |zero=>rfl
  |succ k=>
   have aB:=(ζ.1 hk).1;rw[show(k+1==0)=false from rfl,ξr,ξG,ε (by omega)];have:=ξ3.1 h2 k (k+1) (by omega) aB (by omega);obtain⟨_,rfl⟩:=ζ.1 hk;exact this
theorem take_drop (p:α->Bool) (l:List α):l.takeWhile p++l.dropWhile p=l:=ξo
theorem sr {lt:α->Bool} {x z:α}:z∈cL lt x l↔z=x\/z∈l:=by
 unfold cL
 conv=>rhs;rw[<-take_drop lt l]
 simp only[ξH,ξy];constructor
 ·rintro (h|h|h)
  ·exact .inr (.inl h)
  ·exact .inl h
  ·exact .inr (.inr h)
 ·rintro (h|h|h)
  ·exact .inr (.inl h)
  ·exact .inl h
  ·exact .inr (.inr h)
theorem ZN {lt:α->Bool} {x:α}:(cL lt x l).length=l.length+1:=by
 unfold cL
 conv=>rhs;rw[<-take_drop lt l]
 simp only[ο,χ];omega
theorem Z7 {p:α->Bool} {z:α} (h:z∈l.takeWhile p):p z=true:=by
 have:=List.all_takeWhile (p:=p) (l:=l);rw[ξg] at this;exact this z h
theorem ajb {p:α->Bool} {z:α} {r:List α} (h:l.dropWhile p=z::r):p z=false:=by
 have:=ζb p l;rw[h] at this;simpa using this
theorem QY {R:α->α->Prop} {lt:α->Bool} {x:α} (ho:l.Pairwise R) (ht: ∀a b c,R a b->R b c->R a c) (U: ∀z∈l,lt z=true->R z x) (h2: ∀z∈l,lt z=false->R x z):(cL lt x l).Pairwise R:=by
 unfold cL;have Am: ∀z,z∈l.takeWhile lt->z∈l:=λz hz=>(ξL lt).mem hz;have t_: ∀z,z∈l.dropWhile lt->z∈l:=λz hz=>(ξf lt).mem hz;have eA:=ho;rw[<-take_drop lt l,ξc] at eA;have hx: ∀z∈l.dropWhile lt,R x z:=by
  intro z hz;cases e:l.dropWhile lt with
  |nil=>rw[e] at hz;cases hz
  |cons y r=>
   have hy:=h2 y (t_ y (by rw[e];exact τ)) (ajb e);rw[e] at hz;rcases ξy.1 hz with rfl|hz
   ·exact hy
   ·have:=eA.2.1;rw[e,ξ7] at this;exact ht _ _ _ hy (this.1 z hz)
 rw[ξc,ξ7];refine⟨eA.1,⟨hx,eA.2.1⟩,λa ha b hb=>?_⟩;have Xy:=U a (Am a ha) (Z7 ha);rcases ξy.1 hb with rfl|hb
 ·exact Xy
 ·exact ht _ _ _ Xy (hx b hb)
theorem tE {p:α->Bool}:l.find? p=none↔ ∀z∈l,p z=false:=by
 rw[ζB];constructor
 ·intro h z hz;have:=h z hz;cases e:p z with
  |true=>exact absurd e this
  |false=>rfl
 ·intro h z hz;rw[h z hz];exact ζ2
theorem alZ {p:α->Bool} {z:α} (hu: ∀a∈l,∀b∈l,p a=true->p b=true->a=b):l.find? p=some z↔z∈l/\p z=true:=by
 constructor
 ·intro h;exact⟨υ h,ξn h⟩
 ·rintro ⟨U,h2⟩;cases e:l.find? p with
  |none=>rw[tE.1 e z U] at h2;cases h2
  |some y=>rw[hu y (υ e) z U (ξn e) h2]
theorem Q0 {R:α->α->Prop} (ho:l.Pairwise R) {a b:α} (ha:a∈l) (hb:b∈l):a=b\/R a b\/R b a:=by
 obtain⟨i,hi,rfl⟩:=ζy ha;obtain⟨j,hj,rfl⟩:=ζy hb;rcases ζG i j with h|h|h
 ·exact .inr (.inl (ξ3.1 ho i j hi hj h))
 ·subst h;exact .inl rfl
 ·exact .inr (.inr (ξ3.1 ho j i hj hi h))
theorem acS {key:α->Int} {n:Nat}: ∀ {l:List α} {a:Int},l.Pairwise (λx y=>key x<key y)->(∀z∈l,a<key z/\key z<=a+n)->l.length<=n
 |[],_,_,_=>by simp
 |z::r,a,ho,h=>by
  rw[ξ7] at ho;obtain⟨hz1,hz2⟩:=h z τ;have hn:0<n:=by omega
  obtain⟨m,hm⟩: ∃m:Nat,(m:Int)=a+n-key z:=⟨(a+n-key z).toNat,by omega⟩;have:=acS (n:=m) (a:=key z) ho.2 λy hy=>by
   have U:=ho.1 y hy;have h2:=h y (ρ _ hy);omega
  simp only[χ];omega
end
def fg (l:List ai) (pid:Int):Prop:= ∃x∈l,x.aa=pid/\x.bK=false
structure UP (p:bS) (x:ai):Prop where
 i1:1<=ix x.aa
 i2:ix x.aa<=16
 gen:x.aa/64+1=aI p.aQ (ix x.aa-1).toNat
 self:x.ba≠x.aa
 par:x.ba=0\/fg p.ae x.ba
 dead:x.bK=true->x.ba≠0
 live:x.bK=false->x.da=0
structure fB (p:bS):Prop where
 gl:p.aQ.length=16
 rJ: ∀i,i<16->0<=aI p.aQ i/\aI p.aQ i<=65536
 u: ∀x∈p.ae,eQ x.aa
 one: ∀x∈p.ae,UP p x
 ord:p.ae.Pairwise λa b=>ix a.aa<ix b.aa
 head:p.ae.head? =some ⟨1,0,false,0⟩
theorem H' {l:List ai} (ho:l.Pairwise λa b=>ix a.aa<ix b.aa) {a b:ai} (ha:a∈l) (hb:b∈l) (h:a.aa=b.aa):a=b:=by
 rcases Q0 ho ha hb with U|U|U
 ·exact U
 ·rw[h] at U;omega
 ·rw[h] at U;omega
theorem QM {l:List ai} (ho:l.Pairwise λa b=>ix a.aa<ix b.aa) {pid:Int} {x:ai}:jQ l pid=some x↔x∈l/\x.aa=pid:=by
 unfold jQ;rw[alZ λa ha b hb U h2=>H' ho ha hb ((eq_of_beq U).trans (eq_of_beq h2).symm),beq_iff_eq]
theorem nk {l:List ai} (ho:l.Pairwise λa b=>ix a.aa<ix b.aa) {pid:Int}:cT l pid=true↔fg l pid:=by
 unfold cT;constructor
 ·intro h;cases e:jQ l pid with
  |none=>rw[e] at h;cases h
  |some x=>
   rw[e] at h;have:=(QM ho).1 e;exact⟨x,this.1,this.2,by simpa using h⟩
 ·rintro ⟨x,hx,hp,hd⟩;rw[(QM ho).2 ⟨hx,hp⟩];simp[hd]
theorem apI (l:List ai):mC l=ka (λa b=>decide (ix a.aa<ix b.aa)) l:=by funext i x;unfold mC ka;cases l[i-1]? <;>rfl
theorem aaL {p:bS}:allI (λi x=>nf p x&&mC p.ae i x) 0 p.ae=true↔(∀x∈p.ae,nf p x=true)/\p.ae.Pairwise λa b=>ix a.aa<ix b.aa:=by
 rw[apI];have:=Bj (q:=λa b:ai=>decide (ix a.aa<ix b.aa)) (A:=nf p) (l:=p.ae) (λa b c U h2=>decide_eq_true (by have:=of_decide_eq_true U;have:=of_decide_eq_true h2;omega));rw[this];simp only[decide_eq_true_eq]
theorem aaw {p:bS} (ho:p.ae.Pairwise λa b=>ix a.aa<ix b.aa) {x:ai}:nf p x=true↔UP p x:=by
 unfold nf;simp only[θ,decide_eq_true_eq,beq_iff_eq,ξO,beq_eq_false_iff_ne,ne_eq,Bool.or_eq_true,nk ho];constructor
 ·rintro ⟨U,h2,h3,h4,h5,h6⟩;refine⟨U,h2,h3,h4,h5,λhd=>?_,λhd=>?_⟩
  ·rw[hd] at h6;simpa using h6
  ·rw[hd] at h6;simpa using h6
 ·rintro ⟨U,h2,h3,h4,h5,h6,h7⟩;refine⟨U,h2,h3,h4,h5,?_⟩;cases hd:x.bK with
  |true=>simpa using h6 hd
  |false=>simpa using h7 hd
theorem WA {g:List Int}:rK g=true↔ ∀i,i<16->0<=aI g i/\aI g i<=65536:=by
 unfold rK;simp only[ξg,ζw,θ,decide_eq_true_eq]
theorem aof {p:bS} (gl:p.aQ.length=16) (u: ∀x∈p.ae,eQ x.aa) (h:o5 p=true):fB p:=by
 unfold o5 at h;rw[θ,θ,WA,aaL] at h;obtain⟨U,⟨h2,h3⟩,h4⟩:=h;refine⟨gl,U,u,λx hx=>(aaw h3).1 (h2 x hx),h3,?_⟩;cases e:p.ae with
 |nil=>rw[e] at h4;cases h4
 |cons z r=>
  rw[e] at h4;have:z=⟨1,0,false,0⟩:=alF h4;rw[this];rfl
theorem abK {p:bS} (h:fB p):o5 p=true:=by
 unfold o5;rw[θ,θ,WA,aaL];refine⟨h.rJ,⟨λx hx=>(aaw h.ord).2 (h.one x hx),h.ord⟩,?_⟩;have:=h.head;cases e:p.ae with
 |nil=>rw[e] at this;cases this
 |cons z r=>
  rw[e] at this;cases this;rfl
theorem fB.len {p:bS} (h:fB p):p.ae.length<=16:=
 acS (a:=0) h.ord λz hz=>by have:=h.one z hz;have:=this.i1;have:=(h.one z hz).i2;omega
theorem fB.pid {p:bS} (h:fB p) {x:ai} (hx:x∈p.ae):1<=x.aa/\x.aa<4194304:=by
 have U:=h.one x hx;have h2:=h.u x hx;have e:=AQ h2.1;have h3:=U.i1;have h4:=U.i2;have h5:=U.gen;have h6:=h.rJ (ix x.aa-1).toNat (by omega);omega
theorem al1 {p:bS} (h:fB p):⟨1,0,false,0⟩∈p.ae:=List.mem_of_mem_head? h.head
theorem Qt {g:List Int} {i j:Nat} {v:Int} (hi:i<g.length):aI (g.set i v) j=if j=i then v else aI g j:=by
 unfold aI;rw[ξP]
 by_cases h:i=j
 ·subst h;simp[hi]
 ·rw[if_neg h,if_neg (λe=>h e.symm)]
theorem Qg {p:bS} {i:Nat} (h:nP p=some i):i<16/\(∀x∈p.ae,ix x.aa≠(i:Int)+1)/\aI p.aQ i<=65535:=by
 have U:=υ h;have h2:=ξn h;simp only[θ,ξO,ξm,decide_eq_true_eq,beq_iff_eq] at h2;exact⟨ζw.1 U,h2.1,h2.2⟩
theorem aag {p:bS} (hp:fB p) {i:Nat} (h:nP p=some i):0<=fv p i/\fv p i<4194304/\ix (fv p i)=i+1/\fv p i/64=aI p.aQ i:=by
 obtain⟨U,h2,h3⟩:=Qg h;have h4:=hp.rJ i U;have h0:0<=fv p i:=by unfold fv;omega
 rw[AQ h0];unfold fv;omega
theorem ab1 {l l':List ai} {q:Int} (h: ∀x∈l,x.aa=q->x.bK=false-> ∃y∈l',y.aa=q/\y.bK=false):fg l q->fg l' q:=λ⟨x,hx,hp,hd⟩=>h x hx hp hd
theorem asf {p:bS} {parent:Int} {q:bS} {v:Int} (h:o_ p parent= .ok (q,v)): ∃i,cT p.ae parent=true/\nP p=some i/\v=fv p i/\q=⟨p.aQ.set i (aI p.aQ i+1),cL (λy=>decide (ix y.aa<=i+1)) ⟨fv p i,parent,false,0⟩ p.ae⟩:=by
 unfold o_ at h;cases U:cT p.ae parent with
 |false=>rw[U] at h;cases h
 |true=>
  rw[U] at h;cases h2:nP p with
  |none=>rw[h2] at h;cases h
  |some i=>
   rw[h2] at h;cases h;exact⟨i,rfl,rfl,rfl,rfl⟩
theorem ase {p:bS} (hp:fB p) {parent:Int} {i:Nat} (hr:cT p.ae parent=true) (h:nP p=some i):fB ⟨p.aQ.set i (aI p.aQ i+1),cL (λy=>decide (ix y.aa<=i+1)) ⟨fv p i,parent,false,0⟩ p.ae⟩:=by
 obtain⟨U,h2,h3⟩:=Qg h;obtain⟨n0,n1,n2,n3⟩:=aag hp h;have aX:=(nk hp.ord).1 hr;have qd:i<p.aQ.length:=by rw[hp.gl];exact U
 have hm: ∀q,fg p.ae q->fg (cL (λy=>decide (ix y.aa<=i+1)) ⟨fv p i,parent,false,0⟩ p.ae) q:=λq=>ab1 λx hx e d=>⟨x,sr.2 (.inr hx),e,d⟩;refine⟨?_,?_,?_,?_,?_,?_⟩
 ·simp[hp.gl]
 ·intro j hj;show 0<=aI (p.aQ.set i _) j/\aI (p.aQ.set i _) j<=65536;rw[Qt qd];have:=hp.rJ j hj;have:=hp.rJ i U;split<;>omega
 ·intro x hx;rcases sr.1 hx with rfl|hx
  ·exact⟨n0,by show fv p i<_;omega⟩
  ·exact hp.u x hx
 ·intro x hx;rcases sr.1 hx with rfl|hx
  ·refine⟨?_,?_,?_,?_,.inr (hm _ aX),λe=>(ζ2 e).elim,λ_=>rfl⟩
   ·show 1<=ix (fv p i);omega
   ·show ix (fv p i)<=16;omega
   ·show fv p i/64+1=aI (p.aQ.set i _) (ix (fv p i)-1).toNat;rw[n2,n3,show((i:Int)+1-1).toNat=i by omega,Qt qd,if_pos rfl]
   ·show parent≠fv p i;intro e;obtain⟨x,hx,cH,_⟩:=aX;apply h2 x hx;rw[cH,e,n2]
  ·have ho:=hp.one x hx;refine⟨ho.i1,ho.i2,?_,ho.self,ho.par.imp_right (hm _),ho.dead,ho.live⟩;show x.aa/64+1=aI (p.aQ.set i _) (ix x.aa-1).toNat;rw[Qt qd,if_neg,ho.gen];intro e;apply h2 x hx;have:=ho.i1;omega
 ·refine QY hp.ord (λa b c U h2=>by omega) (λz hz e=>?_) λz hz e=>?_
  ·have e:=of_decide_eq_true e;have:=h2 z hz;show ix z.aa<ix (fv p i);omega
  ·have e:=of_decide_eq_false e;show ix (fv p i)<ix z.aa;omega
 ·have:=hp.head;show(cL _ _ p.ae).head? =_;cases e:p.ae with
  |nil=>rw[e] at this;cases this
  |cons z r=>
   rw[e] at this;cases this;have:ix 1=1:=by rw[AQ (by omega)];rfl
   unfold cL;rw[ξ8];have:decide (ix (ai.mk 1 0 false 0).aa<=(i:Int)+1)=true:=decide_eq_true (by show ix 1<=_;omega);simp only[this,if_true];rfl
theorem alR {p:bS} {pid code:Int} {q:bS} (h:ov p pid code= .ok q):cT p.ae pid=true/\pid≠1/\q=⟨p.aQ,p.ae.filterMap (kT pid code)⟩:=by
 unfold ov at h;cases U:cT p.ae pid with
 |false=>rw[U] at h;cases h
 |true=>
  rw[U] at h;cases h2:pid==1 with
  |true=>rw[h2] at h;cases h
  |false=>
   rw[h2] at h;cases h;exact⟨rfl,by simpa using h2,rfl⟩
theorem Ft {pid code:Int} {x y:ai} (h:kT pid code x=some y):y.aa=x.aa/\((x.aa=pid/\x.ba≠0/\y=⟨x.aa,x.ba,true,code⟩)\/(x.aa≠pid/\x.ba=pid/\x.bK=false/\y=⟨x.aa,0,x.bK,x.da⟩)\/(x.aa≠pid/\x.ba≠pid/\y=x)):=by
 unfold kT at h;cases U:x.aa==pid with
 |true=>
  rw[U] at h;cases h2:x.ba==0 with
  |true=>rw[h2] at h;cases h
  |false=>
   rw[h2] at h;cases h;exact⟨rfl,.inl ⟨by simpa using U,by simpa using h2,rfl⟩⟩
 |false=>
  rw[U] at h;cases h2:x.ba==pid with
  |true=>
   rw[h2] at h;cases h3:x.bK with
   |true=>rw[h3] at h;cases h
   |false=>
    rw[h3] at h;cases h;exact⟨rfl,.inr (.inl ⟨by simpa using U,by simpa using h2,rfl,rfl⟩)⟩
  |false=>
   rw[h2] at h;cases h;exact⟨rfl,.inr (.inr ⟨by simpa using U,by simpa using h2,rfl⟩)⟩
theorem alQ {pid code:Int} {x:ai} (U:x.aa≠pid) (h2:x.bK=false): ∃y,kT pid code x=some y/\y.aa=x.aa/\y.bK=false:=by
 unfold kT;rw[show(x.aa==pid)=false by simpa using U,h2];cases x.ba==pid
 ·exact⟨_,rfl,rfl,h2⟩
 ·exact⟨_,rfl,rfl,rfl⟩
theorem Fu {l:List ai} {pid code q:Int} (hq:q≠pid) (h:fg l q):fg (l.filterMap (kT pid code)) q:=by
 obtain⟨x,hx,rfl,hd⟩:=h;obtain⟨y,hy,hp,Oj⟩:=alQ (code:=code) hq hd;exact⟨y,ζ3.2 ⟨x,hx,hy⟩,hp,Oj⟩
theorem alP {p:bS} (hp:fB p) {pid code:Int} (hr:fg p.ae pid) (U:pid≠1):fB ⟨p.aQ,p.ae.filterMap (kT pid code)⟩:=by
 refine⟨hp.gl,hp.rJ,?_,?_,?_,?_⟩
 ·intro y hy;obtain⟨x,hx,h⟩:=ζ3.1 hy;rw[(Ft h).1];exact hp.u x hx
 ·intro y hy;obtain⟨x,hx,h⟩:=ζ3.1 hy;obtain⟨e,h'⟩:=Ft h;have ho:=hp.one x hx;have Yl:x.ba≠pid->x.ba=0\/fg (p.ae.filterMap (kT pid code)) x.ba:=λhn=>ho.par.imp_right λhr=>Fu hn hr;refine⟨by rw[e];exact ho.i1,by rw[e];exact ho.i2,by rw[e];exact ho.gen,?_,?_,?_,?_⟩
  ·rcases h' with⟨_,_,rfl⟩|⟨_,_,_,rfl⟩|⟨_,_,rfl⟩
   ·exact ho.self
   ·have:=(hp.pid hx).1;show(0:Int)≠x.aa;omega
   ·exact ho.self
  ·rcases h' with⟨k,_,rfl⟩|⟨_,_,_,rfl⟩|⟨_,k,rfl⟩
   ·exact Yl (λe=>ho.self (e.trans k.symm))
   ·exact .inl rfl
   ·exact Yl k
  ·intro hd;rcases h' with⟨_,k,rfl⟩|⟨_,_,k,rfl⟩|⟨_,k,rfl⟩
   ·exact k
   ·rw[show(ai.mk x.aa 0 x.bK x.da).bK=x.bK from rfl,k] at hd;cases hd
   ·exact ho.dead hd
  ·intro hd;rcases h' with⟨_,k,rfl⟩|⟨_,_,k,rfl⟩|⟨_,k,rfl⟩
   ·cases hd
   ·exact ho.live k
   ·exact ho.live hd
 ·refine hp.ord.filterMap _ λa b hab a' ha b' hb=>?_;rw[(Ft ha).1,(Ft hb).1];exact hab
 ·have:=hp.head;show(p.ae.filterMap (kT pid code)).head? =_;cases e:p.ae with
  |nil=>rw[e] at this;cases this
  |cons z r=>
   rw[e] at this;cases this;have h0:(0:Int)≠pid:=by
    obtain⟨x,hx,rfl,_⟩:=hr;have:=(hp.pid hx).1;omega
   rw[ξC];have:kT pid code ⟨1,0,false,0⟩=some ⟨1,0,false,0⟩:=by
    unfold kT;rw[show((ai.mk 1 0 false 0).aa==pid)=false by simpa using λe=>U (Eq.symm e),show((ai.mk 1 0 false 0).ba==pid)=false by simpa using h0];rfl
   rw[this];rfl
theorem at3 {p:bS} (hp:fB p) {pid child:Int} {q:bS} {v:Int} (h:pf p pid child= .ok (q,v)): ∃x∈p.ae,x.aa=child/\x.ba=pid/\x.bK=true/\v=x.da/\fg p.ae pid/\q=⟨p.aQ,p.ae.filter λy=>!(y.aa==child)⟩:=by
 unfold pf at h;cases U:cT p.ae pid with
 |false=>rw[U] at h;cases h
 |true=>
  rw[U] at h;cases h2:jQ p.ae child with
  |none=>rw[h2] at h;cases h
  |some x=>
   rw[h2] at h;obtain⟨hx,hc⟩:=(QM hp.ord).1 h2;cases h3:x.ba==pid with
   |false=>simp only[h3,cond_true,cond_false] at h;cases h
   |true=>
    cases h4:x.bK with
    |false=>simp only[h3,h4,cond_true,cond_false] at h;cases h
    |true=>
     simp only[h3,h4,cond_true] at h;cases h;exact⟨x,hx,hc,by simpa using h3,h4,rfl,(nk hp.ord).1 U,rfl⟩
theorem adu {p:bS} (hp:fB p) {x:ai} (hx:x∈p.ae) (hd:x.bK=true) {q:Int} (h:fg p.ae q):fg (p.ae.filter λy=>!(y.aa==x.aa)) q:=by
 obtain⟨y,hy,rfl,hl⟩:=h;refine⟨y,ξ.2 ⟨hy,?_⟩,rfl,hl⟩;have:y.aa≠x.aa:=λe=>by
  rw[H' hp.ord hy hx e,hd] at hl;cases hl
 simpa using this
theorem at2 {p:bS} (hp:fB p) {x:ai} (hx:x∈p.ae) (hd:x.bK=true):fB ⟨p.aQ,p.ae.filter λy=>!(y.aa==x.aa)⟩:=by
 refine⟨hp.gl,hp.rJ,λy hy=>hp.u y (ξ.1 hy).1,λy hy=>?_,hp.ord.filter _,?_⟩
 ·have ho:=hp.one y (ξ.1 hy).1;exact⟨ho.i1,ho.i2,ho.gen,ho.self,ho.par.imp_right λh=>adu hp hx hd h,ho.dead,ho.live⟩
 ·have:=hp.head;show(p.ae.filter λy=>!(y.aa==x.aa)).head? =_;cases e:p.ae with
  |nil=>rw[e] at this;cases this
  |cons z r=>
   rw[e] at this;cases this;have U:(1:Int)≠x.aa:=λh=>by
    have:=H' hp.ord (al1 hp) hx h;rw[<-this] at hd;cases hd
   rw[ξh,show(!((ai.mk 1 0 false 0).aa==x.aa))=true by simpa using U];rfl
structure ko (l:List aj):Prop where
 is: ∀d∈l,m8 d=true
 ord:l.Pairwise λa b=>fF a b=true
 len:l.length<=64
theorem yE {a b:aj}:fF a b=true↔a.aa<b.aa\/a.aa=b.aa/\a.b_<b.b_:=by simp[fF]
theorem L0 (a b c:aj) (U:fF a b=true) (h2:fF b c=true):fF a c=true:=by rw[yE] at*;omega
theorem abH {l:List aj}:uO l=true↔ko l:=by
 unfold uO;rw[θ,decide_eq_true_eq];have:=Bj (q:=fF) (A:=m8) (l:=l) L0;constructor
 ·rintro ⟨U,h2⟩;have:=this.1 U;exact⟨this.1,this.2,h2⟩
 ·rintro ⟨U,h2,h3⟩;exact⟨this.2 ⟨U,h2⟩,h3⟩
theorem ai_ {l:List aj} (h:ko l) {a b:aj} (ha:a∈l) (hb:b∈l) (U:a.aa=b.aa) (h2:a.b_=b.b_):a=b:=by
 rcases Q0 h.ord ha hb with e|e|e
 ·exact e
 ·rw[yE] at e;omega
 ·rw[yE] at e;omega
theorem Xx {l:List aj} {pid fd w:Int} (h:eM l pid fd=some w): ∃d∈l,d.aa=pid/\d.b_=fd/\d.dq=w:=by
 unfold eM at h;cases e:l.find? (λd=>d.aa==pid&&d.b_==fd) with
 |none=>rw[e] at h;cases h
 |some d=>
  rw[e] at h;have:=ξn e;simp only[θ,beq_iff_eq] at this;exact⟨d,υ e,this.1,this.2,by simpa using h⟩
theorem amV {l:List aj} {pid fd:Int} (h:eM l pid fd=none): ∀d∈l,¬(d.aa=pid/\d.b_=fd):=by
 unfold eM at h;rw[ξM] at h;intro d hd;have:=tE.1 h d hd;simpa using this
theorem HZ {l:List aj} {pid bW:Int} {l':List aj} {v:Int} (h:ng l pid bW= .ok (l',v)): ∃i:Nat,mP l pid=some i/\l.length≠64/\v=i/\l'=cL (λy=>fF y ⟨pid,i,bW⟩) ⟨pid,i,bW⟩ l:=by
 unfold ng at h;cases U:mP l pid with
 |none=>rw[U] at h;cases h
 |some i=>
  rw[U] at h;cases h2:l.length==64 with
  |true=>simp only[h2,cond_true] at h;cases h
  |false=>
   simp only[h2,cond_false] at h;cases h;exact⟨i,rfl,by simpa using h2,rfl,rfl⟩
theorem Nf {l:List aj} {pid:Int} {i:Nat} (h:mP l pid=some i):i<8/\ ∀d∈l,¬(d.aa=pid/\d.b_=i):=by
 have U:=υ h;have h2:=ξn h;exact⟨ζw.1 U,amV (Option.isNone_iff_eq_none.1 h2)⟩
theorem apt {l:List aj} (h:ko l) {pid bW:Int} {i:Nat} (hp:pid<4294967296) (hf:mP l pid=some i) (hl:l.length≠64):ko (cL (λy=>fF y ⟨pid,i,bW⟩) ⟨pid,i,bW⟩ l):=by
 obtain⟨U,h2⟩:=Nf hf;refine⟨λd hd=>?_,QY h.ord L0 (λ_ _ e=>e) λz hz e=>?_,?_⟩
 ·rcases sr.1 hd with rfl|hd
  ·simp only[m8,θ,decide_eq_true_eq];omega
  ·exact h.is d hd
 ·have:=h2 z hz;rw[yE];have e: ¬_:=λk=>ζ2 (e.symm.trans (yE.2 k));simp only at e ⊢;omega
 ·rw[ZN];have:=h.len;omega
theorem ko.filter {l:List aj} (h:ko l) (p:aj->Bool):ko (l.filter p):=
 ⟨λd hd=>h.is d (ξ.1 hd).1,h.ord.filter _,ξQ (ξ9 _ _) h.len⟩
theorem VX {l:List aj} {pid fd:Int} {r:List aj×Int} (h:mN l pid fd= .ok r): ∃w,eM l pid fd=some w/\ng l pid w= .ok r:=by
 unfold mN at h;cases e:eM l pid fd with
 |none=>rw[e] at h;cases h
 |some w=>rw[e] at h;exact⟨w,rfl,h⟩
theorem VH {l:List aj} {pid fd:Int} {r:List aj} (h:l8 l pid fd= .ok r): ∃w,eM l pid fd=some w/\r=l.filter λd=>!(d.aa==pid&&d.b_==fd):=by
 unfold l8 at h;cases e:eM l pid fd with
 |none=>rw[e] at h;cases h
 |some w=>rw[e] at h;cases h;exact⟨w,rfl,rfl⟩
structure kN (m:cp):Prop where
 path: ∀x∈m.ae,eQ x.bC/\dG x.bC=true
 id: ∀x∈m.ae,1<=x.bj/\x.bj<m.bE
 ord:m.ae.Pairwise λa b=>a.bj<b.bj
 new:m.ae.Pairwise λa b=>a.bC≠b.bC
 len:m.ae.length<=16
 n1:1<=m.bE
 n2:m.bE<=1073741825
theorem ahf {α:Type} {p q:Nat->α->Bool} {l:List α} {i:Nat}:allI (λi z=>p i z&&q i z) i l=true↔allI p i l=true/\allI q i l=true:=by
 simp only[tc,θ];exact⟨λh=>⟨λk z hk=>(h k z hk).1,λk z hk=>(h k z hk).2⟩,λh k z hk=>⟨h.1 k z hk,h.2 k z hk⟩⟩
theorem aoU {l:List aw}:allI (λi z=>xm l i z) 0 l=true↔l.Pairwise λa b=>a.bC≠b.bC:=by
 rw[tc,ξ3];constructor
 ·intro h i j hi hj cC e;have:=h j l[j] (ε hj);unfold xm at this;rw[ξO,ξm,ξp] at this;apply this l[i] (ζ7.2 ⟨i,by omega,rfl⟩);simpa using e
 ·intro h k z hk;obtain⟨aB,rfl⟩:=ζ.1 hk;unfold xm;rw[ξO,ξm,ξp];intro y hy e;obtain⟨i,hi,rfl⟩:=ζ7.1 hy;exact h i k (by omega) aB (by omega) (by simpa using e)
theorem abJ {m:cp} (hu: ∀x∈m.ae,eQ x.bC):Bw dG m=true↔kN m:=by
 unfold Bw HJ;rw[θ,θ,θ,ahf,aoU,decide_eq_true_eq,decide_eq_true_eq,decide_eq_true_eq];have:=Bj (q:=λy z:aw=>decide (y.bj<z.bj)) (A:=Bc dG m.bE) (l:=m.ae) (λa b c U h2=>decide_eq_true (by have:=of_decide_eq_true U;have:=of_decide_eq_true h2;omega));simp only[decide_eq_true_eq] at this;rw[this];simp only[Bc,θ,decide_eq_true_eq];constructor
 ·rintro ⟨⟨⟨U,h2⟩,h3⟩,h4,h5,h6⟩;exact⟨λx hx=>⟨hu x hx,(U x hx).1⟩,λx hx=>(U x hx).2,h2,h3,h4,h5,h6⟩
 ·rintro ⟨U,h2,h3,h4,h5,h6,h7⟩;exact⟨⟨⟨λx hx=>⟨(U x hx).2,h2 x hx⟩,h3⟩,h4⟩,h5,h6,h7⟩
theorem aoJ {m:cp} (h:kN m) {a b:aw} (ha:a∈m.ae) (hb:b∈m.ae) (e:a.bC=b.bC):a=b:=by
 rcases Q0 h.new ha hb with k|k|k
 ·exact k
 ·exact(k e).elim
 ·exact(k e.symm).elim
theorem PD {m:cp} {w i:Int} (h:eZ m w=some i): ∃x∈m.ae,x.bC=w/\x.bj=i:=by
 unfold eZ at h;cases e:m.ae.find? (λx=>x.bC==w) with
 |none=>rw[e] at h;cases h
 |some x=>
  rw[e] at h;exact⟨x,υ e,by simpa using ξn e,by simpa using h⟩
theorem an6 {m:cp} {w:Int} (h:eZ m w=none): ∀x∈m.ae,x.bC≠w:=by
 unfold eZ at h;rw[ξM] at h;intro x hx;simpa using tE.1 h x hx
theorem aha {m:cp} {w:Int} {n:cp} {v:Int} (h:og m w= .ok (n,v)):dG w=true/\eZ m w=none/\m.ae.length≠16/\m.bE<=1073741824/\v=m.bE/\n=⟨m.ae++[⟨w,m.bE⟩],m.bE+1⟩:=by
 unfold og at h;cases U:dG w with
 |false=>rw[U] at h;cases h
 |true=>
  rw[U] at h;cases h2:eZ m w with
  |some _=>rw[h2] at h;cases h
  |none=>
   rw[h2] at h;cases h3:(m.ae.length==16||decide (m.bE>1073741824)) with
   |true=>simp only[h3,cond_true] at h;cases h
   |false=>
    simp only[h3,cond_true,cond_false] at h;cases h;simp only[Bool.or_eq_false_iff,beq_eq_false_iff_ne,decide_eq_false_iff_not] at h3;exact⟨rfl,rfl,h3.1,by omega,rfl,rfl⟩
theorem ag_ {m:cp} (h:kN m) {w:Int} (hu:eQ w) (hw:dG w=true) (hi:eZ m w=none) (hl:m.ae.length≠16) (hn:m.bE<=1073741824):kN ⟨m.ae++[⟨w,m.bE⟩],m.bE+1⟩:=by
 refine⟨λx hx=>?_,λx hx=>?_,?_,?_,?_,?_,?_⟩
 ·rcases ξH.1 hx with hx|hx
  ·exact h.path x hx
  ·cases ξt.1 hx;exact⟨hu,hw⟩
 ·rcases ξH.1 hx with hx|hx
  ·have:=h.id x hx;show 1<=x.bj/\x.bj<m.bE+1;omega
  ·cases ξt.1 hx;have:=h.n1;show 1<=m.bE/\m.bE<m.bE+1;omega
 ·refine ξc.2 ⟨h.ord,ξI _ _,λa ha b hb=>?_⟩;cases ξt.1 hb;exact(h.id a ha).2
 ·refine ξc.2 ⟨h.new,ξI _ _,λa ha b hb=>?_⟩;cases ξt.1 hb;exact an6 hi a ha
 ·have:=h.len;show(m.ae++_).length<=16;rw[ο,ψ];omega
 ·have:=h.n1;show 1<=m.bE+1;omega
 ·show m.bE+1<=_;omega
theorem atF {m:cp} {w:Int} {n:cp} (h:pb m w= .ok n):dG w=true/\(∃i,eZ m w=some i)/\ru m w=false/\n=⟨m.ae.filter λx=>!(x.bC==w),m.bE⟩:=by
 unfold pb at h;cases U:dG w with
 |false=>rw[U] at h;cases h
 |true=>
  rw[U] at h;cases h2:eZ m w with
  |none=>rw[h2] at h;cases h
  |some i=>
   rw[h2] at h;cases h3:ru m w with
   |true=>simp only[h3,cond_true] at h;cases h
   |false=>
    simp only[h3,cond_true,cond_false] at h;cases h;exact⟨rfl,⟨i,rfl⟩,rfl,rfl⟩
theorem kN.filter {m:cp} (h:kN m) (p:aw->Bool):kN ⟨m.ae.filter p,m.bE⟩:=
 ⟨λx hx=>h.path x (ξ.1 hx).1,λx hx=>h.id x (ξ.1 hx).1,h.ord.filter _,h.new.filter _,ξQ (ξ9 _ _) h.len,h.n1,h.n2⟩
theorem ao_ {m:cp} {w i:Int} (h:oV m w= .ok i):dG w=true/\eZ m w=some i:=by
 unfold oV at h;cases U:dG w with
 |false=>rw[U] at h;cases h
 |true=>
  rw[U] at h;cases h2:eZ m w with
  |none=>rw[h2] at h;cases h
  |some j=>rw[h2] at h;cases h;exact⟨rfl,rfl⟩
theorem arq {m:cp} {w i:Int} (h:kK m w= .ok i): ∃x∈m.ae,x.bj=i:=by
 unfold kK at h;cases U:dG w with
 |false=>rw[U] at h;cases h
 |true=>
  rw[U] at h;cases h2:IW m w with
  |none=>rw[h2] at h;cases h
  |some j=>
   rw[h2] at h;cases h;obtain⟨u,_,h2⟩:=ξK h2;obtain⟨x,hx,_,e⟩:=PD h2;exact⟨x,hx,e⟩
structure ij (s:aP):Prop where
 name: ∀z∈s.aA,eQ z.br/\hP z.br=true/\gx z.aa=true
 qI:s.aA.Pairwise λa b=>a.br<b.br
 len:s.aA.length<=16
 box: ∀b∈s.au,gx b.aa=true/\1<=b.bt.length/\b.bt.length<=4
 sy:s.au.Pairwise λa b=>a.aa<b.aa
theorem ZV {α:Type} {f:α->Int} (a b c:α) (U:decide (f a<f b)=true) (h2:decide (f b<f c)=true):decide (f a<f c)=true:=decide_eq_true (by have:=of_decide_eq_true U;have:=of_decide_eq_true h2;omega)
theorem abI {s:aP} (hu: ∀z∈s.aA,eQ z.br):uP s=true↔ij s:=by
 unfold uP xk vT;rw[θ,θ,decide_eq_true_eq];have U:=Bj (q:=λy z:az=>decide (y.br<z.br)) (A:=xt) (l:=s.aA) ZV;have h2:=Bj (q:=λy z:aq=>decide (y.aa<z.aa)) (A:=okB) (l:=s.au) ZV;simp only[decide_eq_true_eq] at U h2;rw[U,h2];simp only[xt,okB,θ,decide_eq_true_eq];constructor
 ·rintro ⟨⟨a1,a2⟩,⟨a3,a4⟩,a5⟩;exact⟨λz hz=>⟨hu z hz,a1 z hz⟩,a2,a5,a3,a4⟩
 ·rintro ⟨a1,a2,a3,a4,a5⟩;exact⟨⟨λz hz=>(a1 z hz).2,a2⟩,⟨a4,a5⟩,a3⟩
theorem aoA {l:List az} {n:Int} (h:jO l n=none): ∀z∈l,z.br≠n:=by
 unfold jO at h;rw[ξM] at h;intro z hz;simpa using tE.1 h z hz
theorem ark {s:aP} {n pid:Int} {r:aP} (h:oZ s n pid= .ok r):hP n=true/\gx pid=true/\jO s.aA n=none/\s.aA.length≠16/\r=⟨cL (λy=>decide (y.br<n)) ⟨n,pid⟩ s.aA,s.au⟩:=by
 unfold oZ at h;cases U:hP n with
 |false=>rw[U] at h;cases h
 |true=>
  cases h2:gx pid with
  |false=>rw[U,h2] at h;cases h
  |true=>
   rw[U,h2] at h;cases h3:jO s.aA n with
   |some _=>rw[h3] at h;cases h
   |none=>
    rw[h3] at h;cases h4:s.aA.length==16 with
    |true=>simp only[h4,cond_true] at h;cases h
    |false=>
     simp only[h4,cond_true,cond_false] at h;cases h;exact⟨rfl,rfl,rfl,by simpa using h4,rfl⟩
theorem arj {s:aP} (h:ij s) {n pid:Int} (hu:eQ n) (U:hP n=true) (h2:gx pid=true) (h3:jO s.aA n=none) (h4:s.aA.length≠16):ij ⟨cL (λy=>decide (y.br<n)) ⟨n,pid⟩ s.aA,s.au⟩:=by
 refine⟨λz hz=>?_,QY h.qI (λa b c U h2=>by omega) (λz hz e=>of_decide_eq_true e) λz hz e=>?_,?_,h.box,h.sy⟩
 ·rcases sr.1 hz with rfl|hz
  ·exact⟨hu,U,h2⟩
  ·exact h.name z hz
 ·have:=aoA h3 z hz;have e:=of_decide_eq_false e;show n<z.br;omega
 ·show(cL _ _ _).length<=16;rw[ZN];have:=h.len;omega
theorem A6 {s:aP} {n p:Int} (h:lP s n= .ok p):hP n=true/\jO s.aA n=some p:=by
 unfold lP at h;cases U:hP n with
 |false=>rw[U] at h;cases h
 |true=>
  rw[U] at h;cases h3:jO s.aA n with
  |none=>rw[h3] at h;cases h
  |some q=>rw[h3] at h;cases h;exact⟨rfl,rfl⟩
theorem atI {s:aP} (h:ij s) (n:Int):ij (BM s n):=
 ⟨λz hz=>h.name z (ξ.1 hz).1,h.qI.filter _,ξQ (ξ9 _ _) h.len,h.box,h.sy⟩
theorem I3 {s:aP} {pid:Int} {ws:List Int} {b:aq}:b∈(kg s pid ws).au↔(b∈s.au/\b.aa≠pid)\/(ws≠[]/\b=⟨pid,ws⟩):=by
 unfold kg;simp only[ξH,ξ,decide_eq_true_eq];have h:b∈(if ws=[] then[] else[aq.mk pid ws])↔ws≠[]/\b=⟨pid,ws⟩:=by
  split
  ·rename_i e;simp[e]
  ·rename_i e;simp[e]
 rw[h];constructor
 ·rintro (⟨U,h2⟩|h|⟨U,h2⟩)
  ·exact .inl ⟨U,by omega⟩
  ·exact .inr h
  ·exact .inl ⟨U,by omega⟩
 ·rintro (⟨U,h2⟩|h)
  ·rcases Int.lt_or_gt_of_ne h2 with k|k
   ·exact .inl ⟨U,k⟩
   ·exact .inr (.inr ⟨U,k⟩)
  ·exact .inr (.inl h)
theorem aub {s:aP} (h:s.au.Pairwise λa b=>a.aa<b.aa) {pid:Int} {ws:List Int}:(kg s pid ws).au.Pairwise λa b=>a.aa<b.aa:=by
 have oJ:(if ws=[] then[] else[aq.mk pid ws]).Pairwise λa b=>a.aa<b.aa:=by
  split
  ·exact .nil
  ·exact ξI _ _
 have hm: ∀b∈(if ws=[] then[] else[aq.mk pid ws]),b.aa=pid:=by
  intro b hb;split at hb
  ·cases hb
  ·cases ξt.1 hb;rfl
 refine ξc.2 ⟨h.filter _,ξc.2 ⟨oJ,h.filter _,λa ha b hb=>?_⟩,λa ha b hb=>?_⟩
 ·have:=of_decide_eq_true (ξ.1 hb).2;rw[hm a ha];exact this
 ·have ha:=of_decide_eq_true (ξ.1 ha).2;rcases ξH.1 hb with hb|hb
  ·rw[hm b hb];exact ha
  ·have:=of_decide_eq_true (ξ.1 hb).2;omega
theorem Sz {s:aP} (h:ij s) {pid:Int} {ws:List Int} (hp:gx pid=true) (hl:ws.length<=4):ij (kg s pid ws):=by
 refine⟨h.name,h.qI,h.len,λb hb=>?_,aub h.sy⟩;rcases I3.1 hb with⟨hb,_⟩|⟨hn,rfl⟩
 ·exact h.box b hb
 ·refine⟨hp,?_,hl⟩;cases ws with
  |nil=>exact(hn rfl).elim
  |cons _ _=>exact Nat.succ_le_succ (ξX _)
theorem Su {s:aP} (h:ij s) (pid:Int):(fe s pid).length<=4:=by
 unfold fe;cases e:s.au.find? (λb=>b.aa==pid) with
 |none=>exact ξX _
 |some b=>exact(h.box b (υ e)).2.2
theorem ar8 {s:aP} {pid w:Int} {r:aP} (h:sO s pid w= .ok r):(fe s pid).length≠4/\r=kg s pid (fe s pid++[w]):=by
 unfold sO at h;cases U:(fe s pid).length==4 with
 |true=>rw[U] at h;cases h
 |false=>rw[U] at h;cases h;exact⟨by simpa using U,rfl⟩
theorem arh {s:aP} {pid v:Int} {r:aP} (h:sJ s pid= .ok (r,v)): ∃ws,fe s pid=v::ws/\r=kg s pid ws:=by
 unfold sJ at h;cases U:fe s pid with
 |nil=>rw[U] at h;cases h
 |cons w ws=>rw[U] at h;cases h;exact⟨ws,rfl,rfl⟩
structure im (s:bo):Prop where
 p:fB s.aC
 d:ko s.aV
 m:kN s.aL
 i:ij s.aF
 bW: ∀d∈s.aV,fg s.aC.ae d.aa/\ ∃x∈s.aL.ae,x.bj=d.dq
 names: ∀n∈s.aF.aA,fg s.aC.ae n.aa
 boxes: ∀b∈s.aF.au,fg s.aC.ae b.aa
def Ma (s:bo):Bool:=o5 s.aC&&(uO s.aV&&(Bw dG s.aL&&(uP s.aF&&Bu s)))
structure LP (s:bo):Prop where
 gl:s.aC.aQ.length=16
 pid: ∀z∈s.aC.ae,eQ z.aa
 path: ∀z∈s.aL.ae,eQ z.bC
 name: ∀z∈s.aF.aA,eQ z.br
theorem aog {s:bo} (h:im s):LP s:=⟨h.p.gl,h.p.u,λz hz=>(h.m.path z hz).1,λz hz=>(h.i.name z hz).1⟩
theorem abG {s:bo} (h:s.aC.ae.Pairwise λa b=>ix a.aa<ix b.aa):Bu s=true↔(∀d∈s.aV,fg s.aC.ae d.aa/\ ∃x∈s.aL.ae,x.bj=d.dq)/\(∀n∈s.aF.aA,fg s.aC.ae n.aa)/\ ∀b∈s.aF.au,fg s.aC.ae b.aa:=by
 unfold Bu;simp only[θ,ξg,ξz,nk h,beq_iff_eq]
theorem VC {s:bo} (h:LP s):Ma s=true↔im s:=by
 unfold Ma;rw[θ,θ,θ,θ,abH,abJ h.path,abI h.name];constructor
 ·rintro ⟨U,h2,h3,h4,h5⟩;have U:=aof h.gl h.pid U;obtain⟨h5,h6,h7⟩:=(abG U.ord).1 h5;exact⟨U,h2,h3,h4,h5,h6,h7⟩
 ·intro h;exact⟨abK h.p,h.d,h.m,h.i,(abG h.p.ord).2 ⟨h.bW,h.names,h.boxes⟩⟩
theorem qQ {p:bS} (h:fB p) {q:Int} (hr:fg p.ae q):gx q=true/\q<4294967296/\1<=q:=by
 obtain⟨x,hx,rfl,_⟩:=hr;have:=h.pid hx;unfold gx;simp only[θ,decide_eq_true_eq];omega
inductive Step (s:bo) (p a b:Int):Int->bo->Int->Prop
 |spawn (i:Nat):cT s.aC.ae p=true->nP s.aC=some i->Step s p a b 1 ⟨⟨s.aC.aQ.set i (aI s.aC.aQ i+1),cL (λy=>decide (ix y.aa<=i+1)) ⟨fv s.aC i,p,false,0⟩ s.aC.ae⟩,s.aV,s.aL,s.aF⟩ (fv s.aC i)
 |exit:fg s.aC.ae p->p≠1->(∀n∈s.aF.aA,n.aa≠p)->Step s p a b 2 ⟨⟨s.aC.aQ,s.aC.ae.filterMap (kT p a)⟩,yU s.aV p,s.aL,kg s.aF p []⟩ 0
 |wait (x:ai):x∈s.aC.ae->x.aa=a->x.ba=p->x.bK=true->Step s p a b 3 ⟨⟨s.aC.aQ,s.aC.ae.filter λy=>!(y.aa==x.aa)⟩,s.aV,s.aL,s.aF⟩ x.da
 |bA (x:aw) (i:Nat):kK s.aL a= .ok x.bj->x∈s.aL.ae->mP s.aV p=some i->s.aV.length≠64->Step s p a b 4 ⟨s.aC,cL (λy=>fF y ⟨p,i,x.bj⟩) ⟨p,i,x.bj⟩ s.aV,s.aL,s.aF⟩ i
 |close (w:Int):eM s.aV p a=some w->Step s p a b 5 ⟨s.aC,s.aV.filter λd=>!(d.aa==p&&d.b_==a),s.aL,s.aF⟩ 0
 |dup (w:Int) (i:Nat):eM s.aV p a=some w->mP s.aV p=some i->s.aV.length≠64->Step s p a b 6 ⟨s.aC,cL (λy=>fF y ⟨p,i,w⟩) ⟨p,i,w⟩ s.aV,s.aL,s.aF⟩ i
 |aaa:dG a=true->eZ s.aL a=none->s.aL.ae.length≠16->s.aL.bE<=1073741824->Step s p a b 7 ⟨s.aC,s.aV,⟨s.aL.ae++[⟨a,s.aL.bE⟩],s.aL.bE+1⟩,s.aF⟩ s.aL.bE
 |ade (x:aw):x∈s.aL.ae->x.bC=a->(∀d∈s.aV,d.dq≠x.bj)->ru s.aL a=false->Step s p a b 8 ⟨s.aC,s.aV,⟨s.aL.ae.filter λx=>!(x.bC==a),s.aL.bE⟩,s.aF⟩ 0
 |resolve (i:Int):kK s.aL a= .ok i->Step s p a b 9 s i
 |register:hP a=true->gx p=true->jO s.aF.aA a=none->s.aF.aA.length≠16->Step s p a b 10 ⟨s.aC,s.aV,s.aL,⟨cL (λy=>decide (y.br<a)) ⟨a,p⟩ s.aF.aA,s.aF.au⟩⟩ 0
 |unregister:hP a=true->jO s.aF.aA a=some p->Step s p a b 11 ⟨s.aC,s.aV,s.aL,BM s.aF a⟩ 0
 |lookup (q:Int):hP a=true->jO s.aF.aA a=some q->Step s p a b 12 s q
 |send:fg s.aC.ae a->(fe s.aF a).length≠4->Step s p a b 13 ⟨s.aC,s.aV,s.aL,kg s.aF a (fe s.aF a++[b])⟩ 0
 |abr (v:Int) (ws:List Int):fe s.aF p=v::ws->Step s p a b 14 ⟨s.aC,s.aV,s.aL,kg s.aF p ws⟩ v
theorem aoq {s:bo} (h:im s) {k p a b:Int} (k0:1<=k/\k<=14) {n:bo} {v:Int} (hk:xc s k p a b= .ok (n,v)):Step s p a b k n v:=by
 unfold xc at hk
 by_cases k1:k=1
 ·rw[if_pos k1] at hk;subst k1;cases e:o_ s.aC p with
  |error _=>rw[e] at hk;cases hk
  |ok r=>
   obtain⟨q,w⟩:=r;rw[e] at hk;cases hk;obtain⟨i,U,h2,rfl,rfl⟩:=asf e;exact .spawn i U h2
 rw[if_neg k1] at hk
 by_cases k2:k=2
 ·rw[if_pos k2] at hk;subst k2;cases e:ov s.aC p a with
  |error _=>rw[e] at hk;cases hk
  |ok q=>
   rw[e] at hk;obtain⟨U,h2,rfl⟩:=alR e
   by_cases hh:rS s.aF p=[]
   ·simp only[hh,if_true] at hk;cases hk;refine .exit ((nk h.p.ord).1 U) h2 λn hn e=>?_;have:n.br∈rS s.aF p:=ζ1.2 ⟨n,ξ.2 ⟨hn,by simpa using e⟩,rfl⟩;rw[hh] at this;cases this
   ·simp only[hh,if_false] at hk;cases hk
 rw[if_neg k2] at hk
 by_cases k3:k=3
 ·rw[if_pos k3] at hk;subst k3;cases e:pf s.aC p a with
  |error _=>rw[e] at hk;cases hk
  |ok r=>
   obtain⟨q,w⟩:=r;rw[e] at hk;cases hk;obtain⟨x,hx,rfl,U,hd,rfl,_,rfl⟩:=at3 h.p e;exact .wait x hx rfl U hd
 rw[if_neg k3] at hk
 by_cases k4:k=4
 ·rw[if_pos k4] at hk;subst k4;cases e:kK s.aL a with
  |error _=>rw[e] at hk;cases hk
  |ok i=>
   rw[e] at hk;cases e2:ng s.aV p i with
   |error _=>simp only[e2] at hk;cases hk
   |ok r=>
    obtain⟨l,w⟩:=r;simp only[e2] at hk;cases hk;obtain⟨x,hx,rfl⟩:=arq e;obtain⟨j,U,h2,rfl,rfl⟩:=HZ e2;exact .bA x j e hx U h2
 rw[if_neg k4] at hk
 by_cases k5:k=5
 ·rw[if_pos k5] at hk;subst k5;cases e:l8 s.aV p a with
  |error _=>rw[e] at hk;cases hk
  |ok l=>
   rw[e] at hk;cases hk;obtain⟨w,hw,rfl⟩:=VH e;exact .close w hw
 rw[if_neg k5] at hk
 by_cases k6:k=6
 ·rw[if_pos k6] at hk;subst k6;cases e:mN s.aV p a with
  |error _=>rw[e] at hk;cases hk
  |ok r=>
   obtain⟨l,w⟩:=r;rw[e] at hk;cases hk;obtain⟨bW,U,h2⟩:=VX e;obtain⟨j,h3,h4,rfl,rfl⟩:=HZ h2;exact .dup bW j U h3 h4
 rw[if_neg k6] at hk
 by_cases k7:k=7
 ·rw[if_pos k7] at hk;subst k7;cases e:og s.aL a with
  |error _=>rw[e] at hk;cases hk
  |ok r=>
   obtain⟨m,w⟩:=r;rw[e] at hk;cases hk;obtain⟨U,h2,h3,h4,rfl,rfl⟩:=aha e;exact .aaa U h2 h3 h4
 rw[if_neg k7] at hk
 by_cases k8:k=8
 ·rw[if_pos k8] at hk;subst k8;cases e:oV s.aL a with
  |error _=>rw[e] at hk;cases hk
  |ok i=>
   rw[e] at hk
   by_cases hc:tt s.aV i=0
   ·simp only[hc,if_true] at hk;cases e2:pb s.aL a with
    |error _=>simp only[e2] at hk;cases hk
    |ok m=>
     simp only[e2] at hk;cases hk;obtain⟨U,_,h2,rfl⟩:=atF e2;obtain⟨x0,sj,kZ,rfl⟩:=PD (ao_ e).2;refine .ade x0 sj kZ (λd hd hw=>?_) h2;have:d∈s.aV.filter λd=>d.dq==x0.bj:=ξ.2 ⟨hd,by simpa using hw⟩;rw[ξs hc] at this;cases this
   ·simp only[hc,if_false] at hk;cases hk
 rw[if_neg k8] at hk
 by_cases k9:k=9
 ·rw[if_pos k9] at hk;subst k9;cases e:kK s.aL a with
  |error _=>rw[e] at hk;cases hk
  |ok i=>rw[e] at hk;cases hk;exact .resolve _ e
 rw[if_neg k9] at hk
 by_cases wY:k=10
 ·rw[if_pos wY] at hk;subst wY;cases e:oZ s.aF a p with
  |error _=>rw[e] at hk;cases hk
  |ok r=>
   rw[e] at hk;cases hk;obtain⟨U,h2,h3,h4,rfl⟩:=ark e;exact .register U h2 h3 h4
 rw[if_neg wY] at hk
 by_cases wZ:k=11
 ·rw[if_pos wZ] at hk;subst wZ;cases e:lP s.aF a with
  |error _=>rw[e] at hk;cases hk
  |ok q=>
   rw[e] at hk
   by_cases hq:q=p
   ·subst hq;simp only[if_true] at hk;cases hk;exact .unregister (A6 e).1 (A6 e).2
   ·simp only[hq,if_false] at hk;cases hk
 rw[if_neg wZ] at hk
 by_cases w_:k=12
 ·rw[if_pos w_] at hk;subst w_;cases e:lP s.aF a with
  |error _=>rw[e] at hk;cases hk
  |ok i=>rw[e] at hk;cases hk;exact .lookup _ (A6 e).1 (A6 e).2
 rw[if_neg w_] at hk
 by_cases xa:k=13
 ·rw[if_pos xa] at hk;subst xa;cases se:cT s.aC.ae a with
  |false=>rw[se] at hk;cases hk
  |true=>
   rw[se] at hk;cases e:sO s.aF a b with
   |error _=>rw[e] at hk;cases hk
   |ok r=>
    rw[e] at hk;cases hk;obtain⟨U,rfl⟩:=ar8 e;exact .send ((nk h.p.ord).1 se) U
 rw[if_neg xa] at hk;obtain rfl:k=14:=by omega
 cases e:sJ s.aF p with
 |error _=>rw[e] at hk;cases hk
 |ok r=>
  obtain⟨r,w⟩:=r;rw[e] at hk;cases hk;obtain⟨ws,U,rfl⟩:=arh e;exact .abr _ ws U
theorem aaF {s:bo} (h:im s) {p bW:Int} {i:Nat} (aX:fg s.aC.ae p) (hw: ∃x∈s.aL.ae,x.bj=bW) (U:mP s.aV p=some i) (h2:s.aV.length≠64):im ⟨s.aC,cL (λy=>fF y ⟨p,i,bW⟩) ⟨p,i,bW⟩ s.aV,s.aL,s.aF⟩:=by
 refine⟨h.p,apt h.d (qQ h.p aX).2.1 U h2,h.m,h.i,λd hd=>?_,h.names,h.boxes⟩;rcases sr.1 hd with rfl|hd
 ·exact⟨aX,hw⟩
 ·exact h.bW d hd
theorem asj {s:bo} (h:im s) {k p a b:Int} (hu:eQ a) (hr:k≠9->k≠12->fg s.aC.ae p) {n:bo} {v:Int} (hk:Step s p a b k n v):im n:=by
 cases hk with
 |spawn i U h2=>
  have hm: ∀ {y},fg s.aC.ae y->fg (cL (λy=>decide (ix y.aa<=i+1)) ⟨fv s.aC i,p,false,0⟩ s.aC.ae) y:=λ{y}=>ab1 λx hx e d=>⟨x,sr.2 (.inr hx),e,d⟩;exact⟨ase h.p U h2,h.d,h.m,h.i,λd hd=>(h.bW d hd).imp_left hm,λn hn=>hm (h.names n hn),λb hb=>hm (h.boxes b hb)⟩
 |exit aX h2 Hb=>
  refine⟨alP h.p aX h2,h.d.filter _,h.m,Sz h.i (qQ h.p aX).1 (ξX _),λd hd=>?_,λn hn=>Fu (Hb n hn) (h.names n hn),λb hb=>?_⟩
  ·obtain⟨hd,aN⟩:=ξ.1 hd;have aN:d.aa≠p:=by simpa using aN
   exact(h.bW d hd).imp_left (Fu aN)
  ·rcases I3.1 hb with⟨hb,aN⟩|⟨hn,_⟩
   ·exact Fu aN (h.boxes b hb)
   ·exact(hn rfl).elim
 |wait x hx _ _ hd=>
  have hm: ∀ {y},fg s.aC.ae y->fg (s.aC.ae.filter λy=>!(y.aa==x.aa)) y:=λ{y}=>adu h.p hx hd;exact⟨at2 h.p hx hd,h.d,h.m,h.i,λd hd=>(h.bW d hd).imp_left hm,λn hn=>hm (h.names n hn),λb hb=>hm (h.boxes b hb)⟩
 |bA x i h0 hx U h2=>exact aaF h (hr (by omega) (by omega)) ⟨x,hx,rfl⟩ U h2
 |close=>exact⟨h.p,h.d.filter _,h.m,h.i,λd hd=>h.bW d (ξ.1 hd).1,h.names,h.boxes⟩
 |dup w i h0 U h2=>
  obtain⟨d,hd,_,_,rfl⟩:=Xx h0;exact aaF h (hr (by omega) (by omega)) (h.bW d hd).2 U h2
 |aaa U h2 h3 h4=>exact⟨h.p,h.d,ag_ h.m hu U h2 h3 h4,h.i,λd hd=>⟨(h.bW d hd).1,(h.bW d hd).2.imp λx hx=>⟨ξT _ hx.1,hx.2⟩⟩,h.names,h.boxes⟩
 |ade x0 sj kZ hc h2=>
  refine⟨h.p,h.d,h.m.filter _,h.i,λd hd=>⟨(h.bW d hd).1,?_⟩,h.names,h.boxes⟩;obtain⟨x,hx,hw⟩:=(h.bW d hd).2;refine⟨x,ξ.2 ⟨hx,?_⟩,hw⟩;have aN:x.bC≠a:=λe=>by
   have:=aoJ h.m hx sj (e.trans kZ.symm);subst this;exact hc d hd hw.symm
  simpa using aN
 |resolve=>exact h
 |register U h2 h3 h4=>
  refine⟨h.p,h.d,h.m,arj h.i hu U h2 h3 h4,h.bW,λn hn=>?_,h.boxes⟩;rcases sr.1 hn with rfl|hn
  ·exact hr (by omega) (by omega)
  ·exact h.names n hn
 |unregister=>exact⟨h.p,h.d,h.m,atI h.i a,h.bW,λn hn=>h.names n (ξ.1 hn).1,h.boxes⟩
 |lookup=>exact h
 |send aX U=>
  have:=Su h.i a;refine⟨h.p,h.d,h.m,Sz h.i (qQ h.p aX).1 (by rw[ο,ψ];omega),h.bW,h.names,λb hb=>?_⟩;rcases I3.1 hb with⟨hb,_⟩|⟨_,rfl⟩
  ·exact h.boxes b hb
  ·exact aX
 |abr v ws U=>
  have aX:=hr (by omega) (by omega);have:=Su h.i p;rw[U,χ] at this;refine⟨h.p,h.d,h.m,Sz h.i (qQ h.p aX).1 (by omega),h.bW,h.names,λb hb=>?_⟩;rcases I3.1 hb with⟨hb,_⟩|⟨_,rfl⟩
  ·exact h.boxes b hb
  ·exact aX
theorem ahx {s:bo} (h:im s) {c:bR} {n:bo} {v:Int} (hk:ry s c= .ok (n,v)):Step s (aI c.fArgs 0) (aI c.fArgs 1) (aI c.fArgs 2) c.bP n v/\(c.bP≠9->c.bP≠12->fg s.aC.ae (aI c.fArgs 0)):=by
 unfold ry at hk;split at hk
 ·rename_i k0;cases e:uG c||cT s.aC.ae (aI c.fArgs 0) with
  |false=>rw[e] at hk;cases hk
  |true=>
   rw[e] at hk;refine⟨aoq h k0 hk,λk1 k2=>?_⟩;rw[<-nk h.p.ord];simpa[uG,k1,k2] using e
 ·cases hk
def jx:List Int:=[2,4,5,6,310,321,322,323,324,341,351,361,362]
theorem V' {e:Int} (h:e∈jx):e≠0:=by
 intro e0;subst e0
 revert h
 decide
theorem mf {e:Int} (h:e∈jx):(e==0)=false:=by simpa using V' h
theorem acW {x:bS} {y e:Int} (h:o_ x y= .error e):e∈jx:=by
 unfold o_ at h;cases U:cT x.ae y with
 |false=>rw[U] at h;cases h;decide
 |true=>
  rw[U] at h;cases h2:nP x<;>(rw[h2] at h;cases h);decide
theorem Wc {x:bS} {y z e:Int} (h:ov x y z= .error e):e∈jx:=by
 unfold ov at h;cases U:cT x.ae y with
 |false=>rw[U] at h;cases h;decide
 |true=>
  rw[U] at h;cases h2:y==1<;>(rw[h2] at h;cases h);decide
theorem adt {x:bS} {y z e:Int} (h:pf x y z= .error e):e∈jx:=by
 unfold pf at h;cases U:cT x.ae y with
 |false=>rw[U] at h;cases h;decide
 |true=>
  rw[U] at h;cases h2:jQ x.ae z with
  |none=>rw[h2] at h;cases h;decide
  |some u=>
   rw[h2] at h;cases h3:u.ba==y with
   |false=>simp only[h3,cond_true,cond_false] at h;cases h;decide
   |true=>cases h4:u.bK<;>(simp only[h3,h4,cond_true,cond_false] at h;cases h);decide
theorem QR {x:List aj} {y z e:Int} (h:ng x y z= .error e):e∈jx:=by
 unfold ng at h;cases U:mP x y with
 |none=>rw[U] at h;cases h;decide
 |some i=>
  rw[U] at h;cases h2:x.length==64<;>(simp only[h2,cond_true,cond_false] at h;cases h);decide
theorem ahI {x:List aj} {y z e:Int} (h:l8 x y z= .error e):e∈jx:=by
 unfold l8 at h;cases e:eM x y z<;>(rw[e] at h;cases h);decide
theorem VW {x:List aj} {y z e:Int} (h:mN x y z= .error e):e∈jx:=by
 unfold mN at h;cases e:eM x y z with
 |none=>rw[e] at h;cases h;decide
 |some w=>rw[e] at h;exact QR h
theorem Iv {x:cp} {y e:Int} (h:kK x y= .error e):e∈jx:=by
 unfold kK at h;cases U:dG y with
 |false=>rw[U] at h;cases h;decide
 |true=>
  rw[U] at h;cases h2:IW x y<;>(rw[h2] at h;cases h);decide
theorem aat {x:cp} {y e:Int} (h:oV x y= .error e):e∈jx:=by
 unfold oV at h;cases U:dG y with
 |false=>rw[U] at h;cases h;decide
 |true=>
  rw[U] at h;cases h2:eZ x y<;>(rw[h2] at h;cases h);decide
theorem Va {x:cp} {y e:Int} (h:og x y= .error e):e∈jx:=by
 unfold og at h;cases U:dG y with
 |false=>rw[U] at h;cases h;decide
 |true=>
  rw[U] at h;cases h2:eZ x y with
  |some _=>rw[h2] at h;cases h;decide
  |none=>
   rw[h2] at h;cases h3:(x.ae.length==16||decide (x.bE>1073741824))<;>(simp only[h3,cond_true,cond_false] at h;cases h);decide
theorem adf {x:cp} {y e:Int} (h:pb x y= .error e):e∈jx:=by
 unfold pb at h;cases U:dG y with
 |false=>rw[U] at h;cases h;decide
 |true=>
  rw[U] at h;cases h2:eZ x y with
  |none=>rw[h2] at h;cases h;decide
  |some i=>
   rw[h2] at h;cases h3:ru x y<;>(simp only[h3,cond_true,cond_false] at h;cases h);decide
theorem HK {x:aP} {y e:Int} (h:lP x y= .error e):e∈jx:=by
 unfold lP at h;cases U:hP y with
 |false=>rw[U] at h;cases h;decide
 |true=>
  rw[U] at h;cases h2:jO x.aA y<;>(rw[h2] at h;cases h);decide
theorem abu {x:aP} {y z e:Int} (h:oZ x y z= .error e):e∈jx:=by
 unfold oZ at h;cases U:hP y with
 |false=>rw[U] at h;cases h;decide
 |true=>
  cases h2:gx z with
  |false=>rw[U,h2] at h;cases h;decide
  |true=>
   rw[U,h2] at h;cases h3:jO x.aA y with
   |some _=>rw[h3] at h;cases h;decide
   |none=>
    rw[h3] at h;cases h4:x.aA.length==16<;>(simp only[h4,cond_true,cond_false] at h;cases h);decide
theorem ar7 {x:aP} {y z e:Int} (h:sO x y z= .error e):e∈jx:=by
 unfold sO at h;cases e:(fe x y).length==4<;>(rw[e] at h;cases h);decide
theorem arf {x:aP} {y e:Int} (h:sJ x y= .error e):e∈jx:=by
 unfold sJ at h;cases e:fe x y<;>(rw[e] at h;cases h);decide
theorem aop {s:bo} {k p a b e:Int} (hk:xc s k p a b= .error e):e∈jx:=by
 unfold xc at hk
 by_cases k1:k=1
 ·rw[if_pos k1] at hk;cases e:o_ s.aC p with
  |error _=>rw[e] at hk;cases hk;exact acW e
  |ok r=>rw[e] at hk;cases hk
 rw[if_neg k1] at hk
 by_cases k2:k=2
 ·rw[if_pos k2] at hk;cases e:ov s.aC p a with
  |error _=>rw[e] at hk;cases hk;exact Wc e
  |ok r=>
   rw[e] at hk
   by_cases hh:rS s.aF p=[]
   ·simp only[hh,if_true] at hk;cases hk
   ·simp only[hh,if_false] at hk;cases hk;decide
 rw[if_neg k2] at hk
 by_cases k3:k=3
 ·rw[if_pos k3] at hk;cases e:pf s.aC p a with
  |error _=>rw[e] at hk;cases hk;exact adt e
  |ok r=>rw[e] at hk;cases hk
 rw[if_neg k3] at hk
 by_cases k4:k=4
 ·rw[if_pos k4] at hk;cases e:kK s.aL a with
  |error _=>rw[e] at hk;cases hk;exact Iv e
  |ok i=>
   rw[e] at hk;cases e2:ng s.aV p i with
   |error _=>simp only[e2] at hk;cases hk;exact QR e2
   |ok r=>simp only[e2] at hk;cases hk
 rw[if_neg k4] at hk
 by_cases k5:k=5
 ·rw[if_pos k5] at hk;cases e:l8 s.aV p a with
  |error _=>rw[e] at hk;cases hk;exact ahI e
  |ok r=>rw[e] at hk;cases hk
 rw[if_neg k5] at hk
 by_cases k6:k=6
 ·rw[if_pos k6] at hk;cases e:mN s.aV p a with
  |error _=>rw[e] at hk;cases hk;exact VW e
  |ok r=>rw[e] at hk;cases hk
 rw[if_neg k6] at hk
 by_cases k7:k=7
 ·rw[if_pos k7] at hk;cases e:og s.aL a with
  |error _=>rw[e] at hk;cases hk;exact Va e
  |ok r=>rw[e] at hk;cases hk
 rw[if_neg k7] at hk
 by_cases k8:k=8
 ·rw[if_pos k8] at hk;cases e:oV s.aL a with
  |error _=>rw[e] at hk;cases hk;exact aat e
  |ok i=>
   rw[e] at hk
   by_cases hc:tt s.aV i=0
   ·simp only[hc,if_true] at hk;cases e2:pb s.aL a with
    |error _=>simp only[e2] at hk;cases hk;exact adf e2
    |ok m=>simp only[e2] at hk;cases hk
   ·simp only[hc,if_false] at hk;cases hk;decide
 rw[if_neg k8] at hk
 by_cases k9:k=9
 ·rw[if_pos k9] at hk;cases e:kK s.aL a with
  |error _=>rw[e] at hk;cases hk;exact Iv e
  |ok r=>rw[e] at hk;cases hk
 rw[if_neg k9] at hk
 by_cases wY:k=10
 ·rw[if_pos wY] at hk;cases e:oZ s.aF a p with
  |error _=>rw[e] at hk;cases hk;exact abu e
  |ok r=>rw[e] at hk;cases hk
 rw[if_neg wY] at hk
 by_cases wZ:k=11
 ·rw[if_pos wZ] at hk;cases e:lP s.aF a with
  |error _=>rw[e] at hk;cases hk;exact HK e
  |ok q=>
   rw[e] at hk
   by_cases hq:q=p
   ·simp only[hq,if_true] at hk;cases hk
   ·simp only[hq,if_false] at hk;cases hk;decide
 rw[if_neg wZ] at hk
 by_cases w_:k=12
 ·rw[if_pos w_] at hk;cases e:lP s.aF a with
  |error _=>rw[e] at hk;cases hk;exact HK e
  |ok r=>rw[e] at hk;cases hk
 rw[if_neg w_] at hk
 by_cases xa:k=13
 ·rw[if_pos xa] at hk;cases se:cT s.aC.ae a with
  |false=>rw[se] at hk;cases hk;decide
  |true=>
   rw[se] at hk;cases e:sO s.aF a b with
   |error _=>rw[e] at hk;cases hk;exact ar7 e
   |ok r=>rw[e] at hk;cases hk
 rw[if_neg xa] at hk;cases e:sJ s.aF p with
 |error _=>rw[e] at hk;cases hk;exact arf e
 |ok r=>rw[e] at hk;cases hk
theorem Vz {s:bo} {c:bR} {e:Int} (hk:ry s c= .error e):e∈jx:=by
 unfold ry at hk;split at hk
 ·cases U:uG c||cT s.aC.ae (aI c.fArgs 0) with
  |false=>rw[U] at hk;cases hk;decide
  |true=>rw[U] at hk;exact aop hk
 ·cases hk;decide
theorem filter_all {α:Type} {l:List α} {p:α->Bool} (h: ∀z∈l,p z=true):l.filter p=l:=List.filter_eq_self.2 h
section
variable {α σ X β:Type}
theorem RD {step:Int->α->Unit->Option (Unit ⊕ X)} {fin:Int->Unit->Option X} {p:α->Bool} {e:Nat->X} {l:List α} (h: ∀(i:Nat) z,l[i]? =some z->step i z ()=bif p z then some (.inr (e i)) else some (.inl ())):
  cB step fin 0 l ()=match l.findIdx? p with|some i=>some (e i)|none=>fin (l.length:Int) ():=by
 suffices H: ∀(r pre:List α),l=pre++r->cB step fin pre.length r ()=match r.findIdx? p with|some i=>some (e (pre.length+i))|none=>fin (l.length:Int) () by
  have:=H l [] rfl;simpa using this
 intro r
 induction r with
 |nil=>intro pre e;rw[e,ξe];rfl
 |cons z r ih=>
  intro pre e';rw[nV,h pre.length z (by rw[e'];simp),ξF];cases hp:p z with
  |true=>simp
  |false=>
   simp only[cond_false,γ];have:=ih (pre++[z]) (by rw[e'];simp);rw[show(pre++[z]).length=pre.length+1 by simp] at this;rw[this];cases hf:r.findIdx? p with
   |none=>rfl
   |some i=>simp only[ζP,ξ6,if_false];rw[show pre.length+1+i=pre.length+(i+1) by omega]
theorem RC {step:Int->α->σ->Option (σ ⊕ X)} {fin:Int->σ->Option X} {g:σ->α->σ} {Q:Nat->σ->Prop} {l:List α} (h: ∀(i:Nat) z a,l[i]? =some z->Q i a->step i z a=some (.inl (g a z))/\Q (i+1) (g a z)):
  ∀(r pre:List α) (a:σ),l=pre++r->Q pre.length a->cB step fin pre.length r a=fin (l.length:Int) (r.foldl g a)
 |[],pre,a,e,_=>by rw[e,ξe];rfl
 |z::r,pre,a,e,hq=>by
  obtain⟨U,h2⟩:=h pre.length z a (by rw[e];simp) hq;rw[nV,U];have:=RC (fin:=fin) h r (pre++[z]) (g a z) (by rw[e];simp) (by rw[ο,ψ];exact h2);rw[ο,ψ] at this;exact this
theorem Nd {p:α->Bool} {f:α->β}: ∀(l:List α) (a:List β),l.foldl (λa z=>if p z then a++[f z] else a) a=a++(l.filter p).map f
 |[],a=>by simp
 |z::r,a=>by
  rw[ξv,Nd r];cases hp:p z<;>simp[hp]
theorem YP {p:Bool} {a:List β} {y:β} {i:Nat} (h:a.length<=i):(if p then a++[y] else a).length<=i+1:=by
 split
 ·simp;omega
 ·omega
theorem By {step:Int->α->List β->Option (List β ⊕ X)} {fin:Int->List β->Option X} {p:α->Bool} {f:α->β} {l:List α} (h: ∀(i:Nat) z a,l[i]? =some z->a.length<=i->step i z a=some (.inl (if p z then a++[f z] else a))):
  cB step fin 0 l []=fin (l.length:Int) ((l.filter p).map f):=by
 have:=RC (fin:=fin) (Q:=λi a=>a.length<=i) (g:=λa z=>if p z then a++[f z] else a) (λi z a hz hq=>⟨h i z a hz hq,YP hq⟩) l [] [] rfl (ξ2 0);rw[Nd] at this;exact this
theorem adz {step:Int×σ->Option ((Int×σ) ⊕ X)} {g:σ->α->σ} {Q:Nat->σ->Prop} {x:σ->X} {l:List α} (h: ∀(i:Nat) z a,l[i]? =some z->Q i a->step ((i:Int),a)=some (.inl (((i+1:Nat):Int),g a z))/\Q (i+1) (g a z)) (hN: ∀a,Q l.length a->step ((l.length:Int),a)=some (.inr (x a))):
  ∀(r pre:List α) (a:σ) (n:Nat),l=pre++r->Q pre.length a->r.length<n->dv step n ((pre.length:Int),a)=some (x (r.foldl g a))
 |[],pre,a,n+1,e,hq,_=>by
  have e':l=pre:=by rw[e,ξe]
  rw[ib,<-e',hN a (e'▸hq)];rfl
 |z::r,pre,a,n+1,e,hq,hn=>by
  obtain⟨U,h2⟩:=h pre.length z a (by rw[e];simp) hq;rw[ib,U];have:=adz h hN r (pre++[z]) (g a z) n (by rw[e];simp) (by rw[ο,ψ];exact h2) (by simpa using hn);rw[ο,ψ] at this;exact this
theorem Sy {step:Int×List β->Option ((Int×List β) ⊕ X)} {p:α->Bool} {f:α->β} {x:List β->X} {l:List α} {n:Nat} (h: ∀(i:Nat) z a,l[i]? =some z->a.length<=i->step ((i:Int),a)=some (.inl (((i+1:Nat):Int),if p z then a++[f z] else a))) (hN: ∀a,step ((l.length:Int),a)=some (.inr (x a))) (hn:l.length<n):
  dv step n (0,[])=some (x ((l.filter p).map f)):=by
 have:=adz (Q:=λi a=>a.length<=i) (g:=λa z=>if p z then a++[f z] else a) (λi z a hz hq=>⟨h i z a hz hq,YP hq⟩) (λa _=>hN a) l [] [] n rfl (ξ2 0) hn;rw[Nd] at this;exact this
theorem xL {g:α->α} {l:List α} {i:Nat} (h:i<l.length):((l.take i).map g++l.drop i).set i (g l[i])=(l.take (i+1)).map g++l.drop (i+1):=by
 have e:((l.take i).map g).length=i:=by simp;omega
 rw[ζp (h:=by omega),e,ζq,ξj h,ζC,List.take_succ_eq_append_getElem h,ξx,ξN];rfl
theorem get_map {g:α->α} {l:List α} {i:Nat} (h:i<l.length):((l.take i).map g++l.drop i)[i]? =some l[i]:=by
 have e:((l.take i).map g).length=i:=by simp;omega
 rw[ξ1 (by omega),e,ζq,ξj h];rfl
theorem aua {step:Int×List α->Option ((Int×List α) ⊕ X)} {g:α->α} {x:List α->X} {l:List α} {n:Nat} (h: ∀(i:Nat) (hi:i<l.length) (a:List α),a[i]? =some l[i]->a.length=l.length->step ((i:Int),a)=some (.inl (((i+1:Nat):Int),a.set i (g l[i])))) (hN: ∀a,step ((l.length:Int),a)=some (.inr (x a))) (hn:l.length<n):
  dv step n (0,l)=some (x (l.map g)):=by
 suffices H: ∀(k i n:Nat),i+k=l.length->k<n->dv step n ((i:Int),(l.take i).map g++l.drop i)=some (x (l.map g)) by
  have:=H l.length 0 n (by omega) hn;simpa using this
 intro k
 induction k with
 |zero=>
  intro i n e hn;obtain⟨m,rfl⟩: ∃m,n=m+1:=⟨n-1,by omega⟩;obtain rfl:i=l.length:=by omega
  rw[ib,hN];simp
 |succ k ih=>
  intro i n e hn;obtain⟨m,rfl⟩: ∃m,n=m+1:=⟨n-1,by omega⟩;have hi:i<l.length:=by omega
  rw[ib,h i hi _ (get_map hi) (by simp;omega),xL hi];exact ih (i+1) m (by omega) (by omega)
theorem Wm {p:α->Bool}: ∀ {l:List α},l.find? p=(l.findIdx? p).bind λi=>l[i]?
 |[]=>rfl
 |z::r=>by
  rw[ξE,ξF];cases hp:p z with
  |true=>rfl
  |false=>
   rw[Wm];cases r.findIdx? p<;>rfl
theorem findIdx_take {p:α->Bool}: ∀ {l:List α},l.take ((l.findIdx? p).getD l.length)=l.takeWhile (λz=>!p z)/\l.drop ((l.findIdx? p).getD l.length)=l.dropWhile (λz=>!p z)
 |[]=>⟨rfl,rfl⟩
 |z::r=>by
  rw[ξF,ξ8,ξB];cases hp:p z with
  |true=>exact⟨rfl,rfl⟩
  |false=>
   have:=findIdx_take (p:=p) (l:=r);cases e:r.findIdx? p with
   |none=>
    rw[e] at this;simpa using this
   |some i=>
    rw[e] at this;simpa using this
end
theorem L5 {X:Type} {step:Int×Int->Option ((Int×Int) ⊕ X)} {q:Nat->Bool} {N c:Nat} {x:X} (hc:c<=N) (U: ∀i,i<c->q i=true) (h2: ∀i,c<=i->i<N->q i=false)
  (h: ∀lo hi:Nat,lo<hi->hi<=N->step ((lo:Int),(hi:Int))=some (.inl (if q ((lo+hi)/2) then((((lo+hi)/2+1:Nat):Int),(hi:Int)) else((lo:Int),(((lo+hi)/2:Nat):Int)))))
  (hN:step ((c:Int),(c:Int))=some (.inr x)): ∀(d lo hi n:Nat),hi-lo<=d->d<n->lo<=c->c<=hi->hi<=N->dv step n ((lo:Int),(hi:Int))=some x
 |d,lo,hi,0,_,hn,_,_,_=>by omega
 |d,lo,hi,n+1,hd,hn,hl,hh,hm=>by
  rw[ib]
  by_cases e:lo=hi
  ·obtain rfl:lo=c:=by omega
   obtain rfl:lo=hi:=e;rw[hN];rfl
  ·rw[h lo hi (by omega) hm,γ];cases hq:q ((lo+hi)/2) with
   |true=>
    have:(lo+hi)/2<c:=Nat.lt_of_not_le λhle=>by rw[h2 _ hle (by omega)] at hq;cases hq
    exact L5 hc U h2 h hN (d-1) _ hi n (by omega) (by omega) (by omega) hh hm
   |false=>
    have:c<=(lo+hi)/2:=Nat.le_of_not_lt λaB=>by rw[U _ aB] at hq;cases hq
    exact L5 hc U h2 h hN (d-1) lo _ n (by omega) (by omega) hl this (by omega)
theorem half {lo hi:Nat} (h:lo+hi<4611686018427387904):δ.wrap ((ξq.wrap (δ.wrap ((lo:Int)+(hi:Int)))).fdiv 2)=(((lo+hi)/2:Nat):Int):=by
 rw[eo (x:=(lo:Int)+hi) (by omega) (by omega),qW (x:=(lo:Int)+hi) (by omega) (by omega),ξY _ (by omega),eo (by omega) (by omega)];omega
theorem LZ {α:Type} {lt:α->Bool}: ∀ {l:List α},l.Pairwise (λa b=>lt b=true->lt a=true)-> ∀(i:Nat) z,l[i]? =some z->(lt z=true↔i<(l.takeWhile lt).length)
 |[],_,i,z,h=>by simp at h
 |y::r,ho,i,z,h=>by
  rw[ξ7] at ho;rw[ξ8];cases hy:lt y with
  |true=>
   cases i with
   |zero=>simp at h;subst h;simp[hy]
   |succ i=>simpa using LZ ho.2 i z (by simpa using h)
  |false=>
   simp only[ξ6,if_false,ζl,Nat.not_lt_zero,iff_false];intro hz;cases i with
   |zero=>simp at h;subst h;rw[hy] at hz;cases hz
   |succ i=>
    have:=ho.1 z (φ (by simpa using h:r[i]? =some z)) hz;rw[hy] at this;cases this
theorem l6 {α:Type} {b:Nat} {l:List α} (h:l.length*b<=140737488355328):app b [] l=some l:=by
 rw[E3 (by simpa using h)];rfl
theorem mK {α:Type} {b i n:Nat} {a:List α} {z:α} (U:a.length<=i) (h2:i<n) (h3:(n+1)*b<=140737488355328):app b a [z]=some (a++[z]):=
 E3 (ξQ (ξR b (by simp;omega)) h3)
theorem WW {p:bS} (h:fB p):JC p:=⟨h.u,by have:=h.len;unfold maxLen;omega⟩
theorem f46 {p:bS} (h:fB p):rG ab p=some 0:=by rw[v46 (WW h),abK h];rfl
theorem ao8 (l:List ai) (pid:Int):jQ l pid=(l.findIdx? λz=>z.aa==pid).bind λi=>l[i]? :=Wm
theorem Q4 {S:Int->ai->Unit->T (Unit ⊕ Nat ⊕ (Bool×Int))} {F:Int->Unit->T (Nat ⊕ (Bool×Int))} {l:List ai} {pid:Int}
  (hF:(F (l.length:Int) ()).val=some (.inr (false,(l.length:Int))))
  (hS: ∀(i:Int) z,(S i z ()).val=(l[i.toNat]?).bind λz1=>bif z1.aa==pid then some (.inr (.inl i.toNat)) else some (.inl ())):
  cB (λi z a=>(S i z a).val) (λi a=>(F i a).val) 0 l ()=match l.findIdx? (λz=>z.aa==pid) with|some i=>some (.inl i)|none=>some (.inr (false,(l.length:Int))):=by
 rw[RD (p:=λz=>z.aa==pid) (e:=λi=> .inl i) λi z hz=>by rw[hS,η,hz];rfl,hF]
 first|done|(cases l.findIdx? (λz=>z.aa==pid)<;>rfl)
theorem afw (g:List Int) (l:List ai) (pid:Int):KP ab g l pid=match l.findIdx? (λz=>z.aa==pid) with|some i=>some (.inl i)|none=>some (.inr (false,(l.length:Int))):=
 Q4 (by unfold Jh;simp) λi z=>rfl
theorem afx (g:List Int) (l:List ai) (pid:Int):KQ ab g l pid=match l.findIdx? (λz=>z.aa==pid) with|some i=>some (.inl i)|none=>some (.inr (false,(l.length:Int))):=
 Q4 (by unfold Ji;simp) λi z=>rfl
theorem afy (g:List Int) (l:List ai) (pid:Int):C7 ab g l pid=match l.findIdx? (λz=>z.aa==pid) with|some i=>some (.inl i)|none=>some (.inr (false,(l.length:Int))):=
 Q4 (by unfold Jj;simp) λi z=>rfl
theorem v72 {p:bS} (h:fB p) (pid:Int):MN ab p pid=some (match jQ p.ae pid with|some z=>(z,true)|none=>(⟨0,0,false,0⟩,false)):=by
 show(DY ab p pid).val=_;unfold DY;have hL:KO ab p.aQ p.ae pid=match p.ae.find? (λz=>z.aa==pid) with|some z=>some (.inl z)|none=>some (.inr (false,(p.ae.length:Int))):=by
  show cB (λi z a=>(Dr ab p.aQ p.ae pid i z a).val) (λi a=>(B2 ab p.aQ p.ae pid i a).val) 0 p.ae ()=_;rw[Bx (p:=λz=>z.aa==pid) (e:=λz=> .inl z)]
  ·cases p.ae.find? (λz=>z.aa==pid) with
   |none=>unfold B2;simp
   |some z=>rfl
  ·intro i z _;unfold Dr;cases h:z.aa==pid<;>simp
 simp only[T.bh,T.aR,T.cE,T.dU,T.aM,f46 h,γ,hL,jQ];cases p.ae.find? (λz=>z.aa==pid)<;>rfl
theorem v28 {p:bS} (h:fB p) (pid:Int):ze ab p pid=some (cT p.ae pid):=by
 show(EP ab p pid).val=_;unfold EP cT;simp only[T.bh,v72 h,γ];cases jQ p.ae pid<;>rfl
def SV:bS:=⟨[0,0,0,0,0,0,0,0,0,0,0,0,0,0,0,0],[]⟩
theorem IE (l:List ai) (pid:Int):(l.findIdx? (λz=>z.aa==pid)=none/\cT l pid=false/\jQ l pid=none)\/ ∃i x,l.findIdx? (λz=>z.aa==pid)=some i/\l[i]? =some x/\cT l pid=(!x.bK)/\jQ l pid=some x/\x.aa=pid:=by
 have h:=ao8 l pid;cases e:l.findIdx? (λz=>z.aa==pid) with
 |none=>
  rw[e] at h;exact .inl ⟨rfl,by unfold cT;rw[h];rfl,h⟩
 |some i=>
  rw[e] at h;obtain⟨hi,hp,_⟩:=ξJ.1 e;have hx:l[i]? =some l[i]:=ε hi;rw[γ,hx] at h;exact .inr ⟨i,l[i],rfl,hx,by unfold cT;rw[h],h,by simpa using hp⟩
theorem afC (l:List ai) {a:Nat} (ha:a<16):Lb ab l (a:Int)=match l.findIdx? (λz=>ix z.aa==(a:Int)+1) with|some i=>some (.inl (i:Int))|none=>some (.inr (false,(l.length:Int))):=by
 show cB (λi z b=>(DE ab l a i z b).val) (λi b=>(Cd ab l a i b).val) 0 l ()=_;rw[RD (p:=λz=>ix z.aa==(a:Int)+1) (e:=λi=> .inl (i:Int))]
 ·unfold Cd;cases l.findIdx? (λz=>ix z.aa==(a:Int)+1)<;>simp
 ·intro i z hz;unfold DE;simp only[T.bh,T.aR,T.aM,η,hz,v93,γ];rw[eo (by omega) (by omega)]
theorem ahh {α:Type} {p:α->Bool} {l:List α}:l.any p=(l.findIdx? p).isSome:=by rw[κ,ξz,List.findIdx?_isSome,ξz]
theorem afJ {p:bS} (h:fB p) {a:Nat} (ha:a<16):(vF ab p.aQ p.ae (a:Int)).val=bif !(!(p.ae.any λx=>ix x.aa==(a:Int)+1)&&decide (aI p.aQ a<=65535)) then some (.inl ((a+1:Nat):Int)) else some (.inr (.inr (true,aI p.aQ a,a,(a:Int),true,false,true))):=by
 unfold vF;have hd:decide ((a:Int)<16)=true:=decide_eq_true (by omega);have hw:δ.wrap ((a:Int)+1)=((a+1:Nat):Int):=eo (by omega) (by omega);have hn:fq (a:Int) 16=some a:=by rw[ur (by omega) (by omega),η]
 simp only[T.bh,T.aR,T.aM,T.cE,T.dU,hd,hw,hn,afC p.ae ha,ahh,ι,cond_false,γ];cases e:p.ae.findIdx? (λz=>ix z.aa==(a:Int)+1) with
 |some i=>
  have:decide ((i:Int)>=0)=true:=decide_eq_true (by omega);simp[this]
 |none=>
  cases e2:decide (aI p.aQ a<=65535)<;>simp[e2]
theorem afB {p:bS} (h:fB p):K0 ab p.aQ p.ae 0=match nP p with|some i=>some (.inr (true,aI p.aQ i,i,(i:Int),true,false,true))|none=>some (.inl (false,16)):=by
 show dv (λa=>(vF ab p.aQ p.ae a).val) 1000000 ((0:Nat):Int)=_;rw[I2 (q:=λa:Nat=>!(!(p.ae.any λx=>ix x.aa==(a:Int)+1)&&decide (aI p.aQ a<=65535))) (x:=λa=> .inr (true,aI p.aQ a,a,(a:Int),true,false,true)) (y:= .inl (false,16)) (N:=16) (λa ha=>afJ h ha) (by unfold vF;rfl) (k:=16) (by omega) (by omega)];unfold nP;rw[ζu];simp only[ζr];cases (η8 0 16).find? (λi:Nat=>!(p.ae.any λx=>ix x.aa==(i:Int)+1)&&decide (aI p.aQ i<=65535))<;>rfl
theorem afD (l:List ai) (a b:Int):Lc ab l a b=match l.findIdx? (λz=>decide (ix z.aa>ix a)) with|some i=>some (.inl (i:Int))|none=>some (.inr (false,(l.length:Int))):=by
 show cB (λi z c=>(DF ab l a b i z c).val) (λi c=>(Ce ab l a b i c).val) 0 l ()=_;rw[RD (p:=λz=>decide (ix z.aa>ix a)) (e:=λi=> .inl (i:Int))]
 ·unfold Ce;cases l.findIdx? (λz=>decide (ix z.aa>ix a))<;>simp
 ·intro i z hz;unfold DF;simp only[T.bh,T.aR,T.aM,η,hz,v93,γ]
theorem aoc {α:Type} {b:Nat} {l:List α} {p lt:α->Bool} {x:α} (hl:(l.length+1)*b<=1099511627776) (hp: ∀z,lt z=!p z):
  Go.Dc.m7 b l (((l.findIdx? p).getD l.length:Nat):Int) [x]=some (cL lt x l):=by
 obtain rfl:lt=λz=>!p z:=funext hp;obtain⟨U,h2⟩:=findIdx_take (p:=p) (l:=l);have hlen:(l.findIdx? p).getD l.length<=l.length:=by
  cases e:l.findIdx? p with
  |none=>exact ξ2 _
  |some i=>exact ζJ (ξJ.1 e).1
 unfold Go.Dc.m7 cL;rw[if_pos ⟨by omega,by omega,by simpa using hl⟩,η,U,h2];simp
theorem atN {p:bS} (h:fB p) (parent:Int):Fx ab p parent=some (match o_ p parent with| .ok (q,v)=>(q,v,0)| .error e=>(SV,0,e)):=by
 show(D4 ab p parent).val=_;unfold D4;have hlen:=h.len;simp only[T.bh,T.aR,T.aM,T.cE,T.dU,T.u5,f46 h,l6 (b:=32) (l:=p.ae) (by omega),afw,γ,show(!((0:Int)==0))=false from rfl,cond_false];unfold o_;rcases IE p.ae parent with⟨e1,e2,_⟩|⟨j,x,e1,e2,e3,_⟩
 ·simp only[e1,e2,γ,cond_false];rfl
 ·simp only[e1,e2,e3,γ,ζr];cases hd:x.bK with
  |true=>rfl
  |false=>
   simp only[afB h,cond_false,cond_true,ν,T.bh,T.aR,T.aM,T.cE,T.dU,T.u5];cases hl:nP p with
   |none=>rfl
   |some i=>
    obtain⟨U,h2,h3⟩:=Qg hl;obtain⟨n0,n1,n2,n3⟩:=aag h hl;have hg:=h.rJ i U;have hn:fq (i:Int) 16=some i:=by rw[ur (by omega) (by omega),η]
    have hw:ξq.wrap (δ.wrap (δ.wrap (δ.wrap (aI p.aQ i*64)+i)+1))=fv p i:=by
     unfold fv;rw[eo (x:=aI p.aQ i*64) (by omega) (by omega),eo (x:=aI p.aQ i*64+i) (by omega) (by omega),eo (by omega) (by omega),qW (by omega) (by omega)]
    have mw:δ.wrap (aI p.aQ i+1)=aI p.aQ i+1:=eo (by omega) (by omega);have rW:=aoc (b:=32) (l:=p.ae) (p:=λz=>decide (ix z.aa>ix (fv p i))) (lt:=λy=>decide (ix y.aa<=i+1)) (x:=ai.mk (fv p i) parent false 0) (by omega) (λz=>by rw[n2,κ];simp);simp only[γ,hn,hw,mw,afD,h.gl,ω,show Nat.beq 16 16=true from rfl,cond_true,uv];cases e:p.ae.findIdx? (λz=>decide (ix z.aa>ix (fv p i))) with
    |none=>
     rw[e,ξa] at rW;simp only[γ,rW]
    |some k=>
     rw[e,ξb] at rW;have hk:decide ((k:Int)<0)=false:=decide_eq_false (by omega);simp only[γ,rW,hk,cond_false]
theorem atP {p:bS} (h:fB p) (pid child:Int):FC ab p pid child=some (match pf p pid child with| .ok (q,v)=>(q,v,0)| .error e=>(SV,0,e)):=by
 show(D8 ab p pid child).val=_;unfold D8;have hlen:=h.len;have hL:K2 ab p.ae child []=some (false,(p.ae.length:Int),p.ae.filter λy=>!(y.aa==child)):=by
  show cB (λi z a=>(Dy ab p.ae child i z a).val) (λi a=>(B8 ab p.ae child i a).val) 0 p.ae []=_;rw[By (p:=λy=>!(y.aa==child)) (f:=id)]
  ·unfold B8;simp
  ·intro i z a hz ha;unfold Dy;have hi:=(ζ.1 hz).1;simp only[T.bh,T.aR,T.aM,η,hz,γ,mK (b:=32) (z:=z) ha hi (by omega)];cases e:z.aa==child<;>simp[bne,e]
 simp only[T.bh,T.aR,T.aM,T.cE,T.dU,T.u5,f46 h,l6 (b:=32) (l:=p.ae) (by omega),afy,γ,show(!((0:Int)==0))=false from rfl,cond_false,hL];unfold pf;rcases IE p.ae pid with⟨e1,e2,_⟩|⟨j,x,e1,e2,e3,_⟩
 ·simp only[e1,e2,γ,cond_false];rfl
 ·simp only[e1,e2,e3,γ,ζr];cases hd:x.bK with
  |true=>rfl
  |false=>
   simp only[cond_false,cond_true,ν];rcases IE p.ae child with⟨c1,_,c2⟩|⟨k,y,c1,c2,_,c3,_⟩
   ·simp only[c1,c2,γ];rfl
   ·simp only[c1,c2,c3,γ];cases y.ba==pid<;>cases y.bK<;>rfl
def HM (pid code:Int) (z:ai):ai:=bif z.aa==pid then⟨z.aa,z.ba,true,code⟩ else z
def AT (pid:Int) (o:Bool) (z:ai):Bool:=(!(z.aa==pid)||!o)&&(!(z.ba==pid)||!z.bK)
def zk (pid:Int) (z:ai):ai:=bif z.ba==pid then⟨z.aa,0,z.bK,z.da⟩ else z
theorem Wk {α β:Type} {m:α->β} {k:β->Bool} {g:β->β}: ∀l:List α,((l.map m).filter k).map g=l.filterMap λz=>if k (m z) then some (g (m z)) else none
 |[]=>rfl
 |z::r=>by
  rw[ξV,ξh,ξC,<-Wk r];cases k (m z)<;>rfl
theorem Wq {α β:Type} {f g:α->Option β}: ∀ {l:List α},(∀z∈l,f z=g z)->l.filterMap f=l.filterMap g
 |[],_=>rfl
 |z::r,h=>by rw[ξC,ξC,h z τ,Wq λy hy=>h y (ρ _ hy)]
theorem jm {α:Type} {l:List α} {i:Nat} {z:α} (h:l[i]? =some z):idx l (i:Int)=some z:=by
 unfold idx;rw[if_pos (by omega),η,h]
theorem alS {p:bS} (h:fB p) {pid code:Int} {i:Nat} {x:ai} (hx:p.ae[i]? =some x) (hp:x.aa=pid):
  ((p.ae.set i ⟨x.aa,x.ba,true,code⟩).filter (AT pid (x.ba==0))).map (zk pid)=p.ae.filterMap (kT pid code):=by
 have hm:p.ae.set i ⟨x.aa,x.ba,true,code⟩=p.ae.map (HM pid code):=by
  refine ζa λj=>?_;rw[ξP,ξl]
  by_cases e:i=j
  ·subst e;rw[if_pos rfl,if_pos (ζ.1 hx).1,hx];simp[HM,hp]
  ·rw[if_neg e];cases hj:p.ae[j]? with
   |none=>rfl
   |some z=>
    have:z.aa≠pid:=λe2=>by
     obtain⟨U,h2⟩:=ζ.1 hx;obtain⟨h3,h4⟩:=ζ.1 hj;have:=ξ3.1 h.ord;rcases Nat.lt_or_gt_of_ne e with k|k
     ·have:=this i j U h3 k;rw[h2,h4,hp,e2] at this;omega
     ·have:=this j i h3 U k;rw[h2,h4,hp,e2] at this;omega
    have e':(z.aa==pid)=false:=by simpa using this
    simp[HM,e']
 rw[hm,Wk];refine Wq λz hz=>?_;have jK:=φ hx;unfold HM kT AT zk;cases e1:z.aa==pid with
 |true=>
  have:z=x:=H' h.ord hz jK ((eq_of_beq e1).trans hp.symm);subst this;have:(z.ba==pid)=false:=by have:=(h.one z hz).self;rw[<-hp];simpa using this
  cases e2:z.ba==0<;>simp[e1,this]
 |false=>
  cases e2:z.ba==pid<;>cases e3:z.bK<;>simp[e1,e2,e3]
theorem atO {p:bS} (h:fB p) (pid code:Int):Fy ab p pid code=some (match ov p pid code with| .ok q=>(q,0)| .error e=>(SV,e)):=by
 show(D5 ab p pid code).val=_;unfold D5;have hlen:=h.len;have hK: ∀(l:List ai) (o:Bool),l.length<=16->K1 ab l pid o (l.length:Int) 0 []=some (false,(l.length:Int),l.filter (AT pid o)):=by
  intro l o hl;show dv (λa=>(yo ab l pid o (l.length:Int) a).val) 1000000 (0,[])=_;rw[Sy (p:=AT pid o) (f:=id) (x:=λa=>(false,(l.length:Int),a)) (l:=l) (λi z a hz ha=>?_) (λa=>?_) (by omega),ζQ]
  ·have hi:=(ζ.1 hz).1;have aB:decide ((i:Int)<(l.length:Int))=true:=decide_eq_true (by omega);have hw:δ.wrap ((i:Int)+1)=((i+1:Nat):Int):=eo (by omega) (by omega);unfold yo AT;simp only[T.bh,T.aR,T.aM,aB,cond_true,jm hz,η,hz,γ,hw,bne,mK (b:=32) (z:=z) ha hi (by omega)];cases z.aa==pid<;>cases z.ba==pid<;>cases z.bK<;>cases o<;>rfl
  ·unfold yo;simp
 have hT: ∀(a:List Int) (b:List ai) (c d:Int) (l:List ai),l.length<=16->KR ab a b pid d l 0 l=some (false,(l.length:Int),l.map (zk pid)):=by
  intro a b c d l hl;show dv (λx=>(yk ab a b pid d l x).val) 1000000 (0,l)=_;rw[aua (g:=zk pid) (x:=λa=>(false,(l.length:Int),a)) (l:=l) (λi hi y hy Px=>?_) (λa=>?_) (by omega)]
  ·have aB:decide ((i:Int)<(l.length:Int))=true:=decide_eq_true (by omega);have hw:δ.wrap ((i:Int)+1)=((i+1:Nat):Int):=eo (by omega) (by omega);unfold yk zk;simp only[T.bh,T.aR,T.aM,aB,cond_true,jm hy,η,hy,γ,hw];cases e:l[i].ba==pid with
   |true=>rfl
   |false=>
    have:y.set i l[i]=y:=ζa λj=>by
     rw[ξP]
     by_cases e:i=j
     ·subst e;rw[if_pos rfl,if_pos (by omega),hy]
     ·rw[if_neg e]
    simp[this]
  ·unfold yk;simp
 simp only[T.bh,T.aR,T.aM,T.cE,T.dU,T.u5,f46 h,l6 (b:=32) (l:=p.ae) (by omega),afx,γ,show(!((0:Int)==0))=false from rfl,cond_false];unfold ov;rcases IE p.ae pid with⟨e1,e2,_⟩|⟨i,x,e1,e2,e3,_,e4⟩
 ·simp only[e1,e2,γ,cond_false];rfl
 ·simp only[e1,e2,e3,γ,ζr];have hi:=(ζ.1 e2).1;cases hd:x.bK with
  |true=>rfl
  |false=>
   cases sb:pid==1 with
   |true=>
    simp only[bne,sb,cond_false,cond_true,ν,ι];rfl
   |false=>
    simp only[bne,sb,cond_false,cond_true,ν,ι,List.set_set,List.getElem?_set_self hi,γ];rw[hK _ _ (by simpa using hlen)];simp only[γ];rw[hT _ _ pid _ _ (ξQ (ξ9 _ _) (by simpa using hlen))];simp only[γ];rw[alS h e2 e4]
theorem f47 {l:List aj} (h:ko l):ow ab l=some 0:=by
 rw[v47 (by have:=h.len;unfold maxLen;omega),abH.2 h];rfl
theorem v29 {l:List aj} (h:ko l) (pid:Int):FA ab l pid=some (yU l pid,(l.length:Int)-(yU l pid).length):=by
 show(D7 ab l pid).val=_;unfold D7 yU;have hlen:=h.len;have hL:K3 ab l pid []=some (false,(l.length:Int),l.filter λd=>!(d.aa==pid)):=by
  show cB (λi z a=>(Dz ab l pid i z a).val) (λi a=>(B9 ab l pid i a).val) 0 l []=_;rw[By (p:=λd=>!(d.aa==pid)) (f:=id)]
  ·unfold B9;simp
  ·intro i z a hz ha;have hi:=(ζ.1 hz).1;unfold Dz;simp only[T.bh,T.aR,T.aM,bne,mK (b:=24) (z:=z) ha hi (by omega),γ];cases z.aa==pid<;>rfl
 have:=ξ9 (λd:aj=>!(d.aa==pid)) l;simp only[T.bh,T.aR,T.cE,T.aM,f47 h,hL,γ,show((0:Int) !=0)=false from rfl,cond_false];rw[eo (by omega) (by omega)]
theorem v232 {l:List aj} (h:ko l) (pid fd:Int):rF ab l pid fd=some (match eM l pid fd with|some w=>(w,true)|none=>(0,false)):=by
 show(Et ab l pid fd).val=_;unfold Et eM;have hL:Lf ab l fd pid=match l.find? (λd=>d.aa==pid&&d.b_==fd) with|some z=>some (.inl z.dq)|none=>some (.inr (false,(l.length:Int))):=by
  show cB (λi z a=>(DH ab l fd pid i z a).val) (λi a=>(Cf ab l fd pid i a).val) 0 l ()=_;rw[Bx (p:=λd=>d.aa==pid&&d.b_==fd) (e:=λz=> .inl z.dq)]
  ·unfold Cf;cases l.find? (λd=>d.aa==pid&&d.b_==fd)<;>simp
  ·intro i z _;unfold DH;simp only[T.aR,T.aM];cases z.aa==pid<;>cases z.b_==fd<;>rfl
 simp only[T.bh,T.aR,T.cE,T.dU,T.aM,f47 h,hL,γ,show((0:Int) !=0)=false from rfl,cond_false];cases l.find? (λd=>d.aa==pid&&d.b_==fd)<;>rfl
theorem atV {l:List aj} (h:ko l) (bW:Int):FI ab l bW=some (tt l bW:Int):=by
 show(Ef ab l bW).val=_;unfold Ef tt;have hlen:=h.len;have hL:K5 ab l bW []=some (false,(l.length:Int),l.filter λd=>d.dq==bW):=by
  show cB (λi z a=>(DB ab l bW i z a).val) (λi a=>(Ca ab l bW i a).val) 0 l []=_;rw[By (p:=λd=>d.dq==bW) (f:=id)]
  ·unfold Ca;simp
  ·intro i z a hz ha;have hi:=(ζ.1 hz).1;unfold DB;simp only[T.bh,T.aR,T.aM,mK (b:=24) (z:=z) ha hi (by omega),γ];cases z.dq==bW<;>rfl
 simp only[T.bh,T.aR,T.cE,T.aM,f47 h,hL,γ,show((0:Int) !=0)=false from rfl,cond_false]
theorem ac' {α:Type} (p:α->Bool) (l:List α):l.take (l.takeWhile p).length=l.takeWhile p/\l.drop (l.takeWhile p).length=l.dropWhile p:=by
 have h:=take_drop p l;constructor
 ·conv=>lhs;arg 2;rw[<-h]
  exact ζU
 ·conv=>lhs;arg 2;rw[<-h]
  exact ζV
theorem PK {α:Type} {b:Nat} {l:List α} {lt:α->Bool} {x:α} (hl:(l.length+1)*b<=1099511627776):Go.Dc.m7 b l ((l.takeWhile lt).length:Int) [x]=some (cL lt x l):=by
 obtain⟨U,h2⟩:=ac' lt l;have:=(ξL (l:=l) lt).length_le;unfold Go.Dc.m7 cL;rw[if_pos ⟨by omega,by omega,by simpa using hl⟩,η,U,h2];simp
theorem Z9 {α:Type} {b:Nat} {l:List α} {c:Int} {z:α} (hc:(l.length:Int)<=c) (hb:(b:Int)*c<=281474976710656) (h:c<=281474976710656):nR b (l.length:Int) c z=some (ζW l.length z)/\ez (ζW l.length z) l=l:=by
 constructor
 ·unfold nR;rw[if_pos ⟨by omega,hc,hb,h⟩,η]
 ·unfold ez;simp
theorem yL {α X:Type} {step:Int×Int->Option ((Int×Int) ⊕ X)} {l:List α} {lt:α->Bool} {x:Nat->X} (ho:l.Pairwise λa b=>lt b=true->lt a=true) (hl:l.length<=100)
  (h: ∀lo hi m:Nat,lo<hi->hi<=l.length->m=(lo+hi)/2-> ∀(hm:m<l.length),δ.wrap ((ξq.wrap (δ.wrap ((lo:Int)+(hi:Int)))).fdiv 2)=(m:Int)->δ.wrap ((m:Int)+1)=((m+1:Nat):Int)->step ((lo:Int),(hi:Int))=bif lt l[m] then some (.inl (((m+1:Nat):Int),(hi:Int))) else some (.inl ((lo:Int),(m:Int))))
  (hN: ∀c:Nat,step ((c:Int),(c:Int))=some (.inr (x c))):dv step 1000000 (0,(l.length:Int))=some (x (l.takeWhile lt).length):=by
 have hc:(l.takeWhile lt).length<=l.length:=(ξL (l:=l) lt).length_le;refine L5 (q:=λi=>match l[i]? with|some z=>lt z|none=>false) hc (λi hi=>?_) (λi hi aB=>?_) (λlo hi aB hle=>?_) (hN _) l.length 0 l.length 1000000 (by omega) (by omega) (by omega) hc (ξ2 _)
 ·have hz:l[i]? =some l[i]:=ε (by omega);simp only[hz];exact(LZ ho i _ hz).2 hi
 ·have hz:l[i]? =some l[i]:=ε aB;simp only[hz];cases e:lt l[i] with
  |false=>rfl
  |true=>have:=(LZ ho i _ hz).1 e;omega
 ·have hm:(lo+hi)/2<l.length:=by omega
  rw[h lo hi _ aB hle rfl hm (half (by omega)) (eo (by omega) (by omega)),ε hm];cases hq:lt l[(lo+hi)/2]<;>simp[hq]
theorem ahc {l:List aj} (h:l.Pairwise λa b=>fF a b=true) (n:aj):l.Pairwise λa b=>fF b n=true->fF a n=true:=h.imp λ{a b} U h2=>L0 a b n U h2
theorem atA {l:List aj} (pid:Int): ∀ {a:List Bool} {j:Nat},a.length=8->(∀d∈l,0<=d.b_/\d.b_<=7)->j<8->
  iY (l.foldl (λa z=>bif z.aa==pid then a.set z.b_.toNat true else a) a) j=(iY a j||(eM l pid j).isSome):=by
 unfold eM
 induction l with
 |nil=>intro a j _ _ _;simp
 |cons z r ih=>
  intro a j ha hf hj;have hz:=hf z τ;rw[ξv,ih (by cases z.aa==pid<;>simp[ha]) (λd hd=>hf d (ρ _ hd)) hj,ξE];cases e:z.aa==pid with
  |false=>rfl
  |true=>
   have:iY (a.set z.b_.toNat true) j=(iY a j||(z.b_==(j:Int))):=by
    unfold iY;rw[ξP]
    by_cases k:z.b_.toNat=j
    ·rw[if_pos k,if_pos (by omega),show(z.b_==(j:Int))=true by simp;omega];simp
    ·rw[if_neg k,show(z.b_==(j:Int))=false by simp;omega];simp
   rw[cond_true,this];cases e2:z.b_==(j:Int)<;>simp
theorem adn {l:List aj} (h:ko l) {pid:Int} (hp:pid<4294967296) (bW:Int):y_ ab l pid bW=some (match ng l pid bW with| .ok (q,v)=>(q,v,0)| .error e=>([],0,e)):=by
 show(D_ ab l pid bW).val=_;unfold D_ ng;have hlen:=h.len;have XT: ∀d∈l,0<=d.b_/\d.b_<=7:=λd hd=>by have:=h.is d hd;simp[m8] at this;omega
 have Ns:Le ab l pid bW [false,false,false,false,false,false,false,false]=some (false,(l.length:Int),l.foldl (λa z=>bif z.aa==pid then a.set z.b_.toNat true else a) [false,false,false,false,false,false,false,false]):=by
  show cB (λi z a=>(DG ab l pid bW i z a).val) (λi a=>(xX ab l pid bW i a).val) 0 l _=_;refine(RC (fin:=λi a=>(xX ab l pid bW i a).val) (Q:=λ_ a=>a.length=8) (g:=λa z=>bif z.aa==pid then a.set z.b_.toNat true else a) (λi z a hz hq=>?_) l [] _ rfl rfl).trans (by unfold xX;simp);have uk:=XT z (φ hz);refine⟨?_,by cases z.aa==pid<;>simp[hq]⟩;unfold DG;simp only[T.bh,T.aR,T.aM,T.u5,ur (n:=8) uk.1 (by omega),γ,hq,show Nat.beq 8 8=true from rfl,cond_true];cases z.aa==pid<;>rfl
 have tL:K7 ab (l.foldl (λa z=>bif z.aa==pid then a.set z.b_.toNat true else a) [false,false,false,false,false,false,false,false]) 0=match mP l pid with|some i=>some (.inl (i:Int))|none=>some (.inr (false,8)):=by
  show dv (λa=>(yp ab _ a).val) 1000000 ((0:Nat):Int)=_;rw[I2 (q:=λi:Nat=>(eM l pid i).isSome) (x:=λi=> .inl (i:Int)) (y:= .inr (false,8)) (N:=8) (λa ha=>?_) (by unfold yp;rfl) (k:=8) (by omega) (by omega)]
  ·unfold mP;rw[ζu];simp only[Option.not_isSome];cases (η8 0 8).find? (λi:Nat=>(eM l pid i).isNone)<;>rfl
  ·unfold yp;have hd:decide ((a:Int)<8)=true:=decide_eq_true (by omega);have h0:iY [false,false,false,false,false,false,false,false] a=false:=by
    have: ∀b:Nat,b<8->iY [false,false,false,false,false,false,false,false] b=false:=by decide
    exact this a ha
   simp only[T.bh,T.aR,T.aM,hd,cond_true,ur (j:=(a:Int)) (n:=8) (by omega) (by omega),η,γ,atA pid (a:=[false,false,false,false,false,false,false,false]) rfl XT ha,h0,ξr,show δ.wrap ((a:Int)+1)=((a+1:Nat):Int) from eo (by omega) (by omega)];cases (eM l pid a).isSome<;>rfl
 have cH:decide (pid>=4294967296)=false:=decide_eq_false (by omega);obtain⟨Am,t_⟩:=Z9 (b:=24) (l:=l) (c:=(l.length:Int)) (z:=aj.mk 0 0 0) (by omega) (by omega) (by omega);simp only[T.bh,T.aR,T.cE,T.dU,T.aM,f47 h,Ns,tL,cH,γ,show((0:Int) !=0)=false from rfl,cond_false];cases hf:mP l pid with
 |none=>rfl
 |some i=>
  have hi:decide ((i:Int)<0)=false:=decide_eq_false (by omega);simp only[γ,hi,cond_false];cases wA:l.length==64 with
  |true=>
   have:((l.length:Int)==64)=true:=by simp at wA ⊢;omega
   simp only[this,cond_true]
  |false=>
   have:((l.length:Int)==64)=false:=by simp at wA ⊢;omega
   simp only[this,cond_false,Am,t_,γ];have hb:K8 ab l pid i bW (l.length:Int) (l.length:Int) 0=some (false,((l.takeWhile λy=>fF y ⟨pid,i,bW⟩).length:Int),((l.takeWhile λy=>fF y ⟨pid,i,bW⟩).length:Int)):=by
    show dv (λa=>(yq ab l pid i bW (l.length:Int) a).val) 1000000 (0,(l.length:Int))=_;refine yL (lt:=λy=>fF y ⟨pid,i,bW⟩) (x:=λc=>(false,(c:Int),(c:Int))) (ahc h.ord _) (by omega) (λlo hi m aB hle hm qt hw kG=>?_) λc=>?_
    ·unfold yq;have hd:decide ((lo:Int)<(hi:Int))=true:=decide_eq_true (by omega);have hx:l[m]? =some l[m]:=ε qt;have hc:decide (yQ l[m] ⟨pid,i,bW⟩<0)=fF l[m] ⟨pid,i,bW⟩:=by
      have:=VJ l[m] ⟨pid,i,bW⟩;rw[κ] at this ⊢;simp at this ⊢;rw[<-Bool.not_eq_false,<-this];omega
     simp only[T.bh,T.aR,T.aM,hd,cond_true,hw,kG,jm hx,η,hx,γ,Sm,hc]
    ·unfold yq;simp
   rw[hb];simp only[γ,wU,PK (b:=24) (l:=l) (lt:=λy=>fF y ⟨pid,i,bW⟩) (x:=aj.mk pid i bW) (by omega)]
   by_cases hc:(l.takeWhile λy=>fF y ⟨pid,i,bW⟩).length<l.length
   ·have hd:decide (((l.takeWhile λy=>fF y ⟨pid,i,bW⟩).length:Int)<(l.length:Int))=true:=decide_eq_true (by omega);have hx:=ε hc;simp only[hd,cond_true,jm hx,η,hx,γ,Sm]
   ·have hd:decide (((l.takeWhile λy=>fF y ⟨pid,i,bW⟩).length:Int)<(l.length:Int))=false:=decide_eq_false (by omega);simp only[hd,cond_false]
theorem atS {l:List aj} (h:ko l) {pid:Int} (hp:pid<4294967296) (fd:Int):FF ab l pid fd=some (match mN l pid fd with| .ok (q,v)=>(q,v,0)| .error e=>([],0,e)):=by
 show(Ec ab l pid fd).val=_;unfold Ec mN;have cH:decide (pid>=4294967296)=false:=decide_eq_false (by omega);simp only[T.bh,T.aR,T.aM,f47 h,v232 h,cH,γ,show((0:Int) !=0)=false from rfl,cond_false];cases eM l pid fd with
 |none=>rfl
 |some w=>
  simp only[adn h hp,γ,ι,cond_false]
theorem atQ {l:List aj} (h:ko l) (pid fd:Int):FD ab l pid [fd]=some (match l8 l pid fd with| .ok q=>(q,0)| .error e=>([],e)):=by
 show(Ea ab l pid [fd]).val=_;unfold Ea l8;have hlen:=h.len;have hK: ∀w,eM l pid fd=some w->K4 ab l pid fd w []=some (false,(l.length:Int),l.filter λd=>!(d.aa==pid&&d.b_==fd)):=by
  intro w hw;show cB (λi z a=>(DA ab l pid fd w i z a).val) (λi a=>(B_ ab l pid fd w i a).val) 0 l []=_;rw[By (p:=λd=>!(d.aa==pid&&d.b_==fd)) (f:=id)]
  ·unfold B_;simp
  ·intro i z a hz ha;have hi:=(ζ.1 hz).1;have he:mO z ⟨pid,fd,w⟩=(z.aa==pid&&z.b_==fd):=by
    unfold mO;cases e:z.aa==pid&&z.b_==fd with
    |false=>simp[e]
    |true=>
     obtain⟨d,hd,e1,e2,e3⟩:=Xx hw;have e':=e;rw[θ] at e';have:=ai_ h (φ hz) hd ((eq_of_beq e'.1).trans e1.symm) ((eq_of_beq e'.2).trans e2.symm);subst this;simp[e3]
   unfold DA;simp only[T.bh,T.aR,T.aM,η,hz,he,mK (b:=24) (z:=z) ha hi (by omega),γ];cases z.aa==pid&&z.b_==fd<;>rfl
 have hL:KV ab pid [fd] l true=match eM l pid fd with
   |some w=>some (.inr (false,true,1,l.filter λd=>!(d.aa==pid&&d.b_==fd)))
   |none=>some (.inl (true,false,0,fd,true,true,0,l)):=by
  show cB (λi z a=>(Du ab pid [fd] i z a).val) (λi a=>(Jl ab pid [fd] i a).val) 0 [fd] (true,l)=_;unfold cB Du;simp only[T.bh,T.aR,T.cE,T.aM,v232 h,γ];cases hh:eM l pid fd with
  |none=>rfl
  |some w=>
   simp only[hK w hh,γ,ι,cond_false];rfl
 simp only[T.bh,T.aR,T.cE,T.dU,T.aM,f47 h,hL,l6 (b:=24) (l:=l) (by omega),γ,show((0:Int) !=0)=false from rfl,cond_false];cases eM l pid fd<;>rfl
theorem WT {m:cp} (h:kN m):Ue dG m:=⟨λz hz=>aaS (h.path z hz).1,by have:=h.len;unfold maxLen;omega⟩
theorem IY {m:cp} (h:kN m) {w:Int} (hw:eQ w):wj ab m w=some (bif dG w then 0 else 310):=by
 show(Er ab m w).val=_;unfold Er;simp only[T.bh,T.aR,T.aM,v48 (WT h),(abJ λx hx=>(h.path x hx).1).2 h,aaS hw,γ];rfl
theorem Sl {w:Int} (hw:eQ w):tC ab w=some (bif dG w then⟨(eC w).map bs,w⟩ else⟨[],0⟩,dG w):=by
 obtain⟨n,rfl⟩:=ξD hw.1;exact v131 (by have:=hw.2;omega)
theorem H7 {w:Int} (hw:dG w=true):(eC w).all jL=true/\(∀p∈eC w,(∀x∈p,x<256)/\p.length<=100)/\(eC w).length<=4/\(jt (eC w)).length<=8:=by
 unfold dG at hw;rw[θ] at hw;have hd:=Mw w.toNat;have hl:=yT 8 w.toNat;unfold eC Q5;generalize dg 8 w.toNat=d at*
 have ht:=hw.2;unfold wW at ht
 by_cases e:d=[47]
 ·rw[if_pos e];exact⟨rfl,by simp,by simp,by simp[jt]⟩
 ·rw[if_neg e];rw[decide_eq_false e,ξr] at ht;cases d with
  |nil=>cases ht
  |cons x t=>
   split at ht
   ·rename_i t' e';rw[θ,decide_eq_true_eq] at ht;refine⟨ht.1,λp hp=>Z6 hd hl ⟨_,e'⟩ hp,ht.2,?_⟩;rw[Hy _ (x::t) (ξ2 _) (.inr ⟨_,e'⟩)];exact hl
   ·cases ht
theorem atJ {w:Int} (hw:dG w=true) (k:Nat):pN ab (((eC w).map bs).take k)=some (BU ((eC w).take k),(oo (bs (tx ((eC w).take k)))).2==0&&decide (((eC w).take k).length<=4)):=by
 obtain⟨U,h2,h3,h4⟩:=H7 hw;rw[<-ζg];have hj:(jt ((eC w).take k)).length<=8:=by
  have:jt (eC w)=jt ((eC w).take k)++jt ((eC w).drop k):=by rw[<-YN,List.take_append_drop]
  have:=congrArg ζO this;rw[ο] at this;omega
 refine IX (ξg.2 λp hp=>ξg.1 U p (ξU hp)) (λp hp=>h2 p (ξU hp)) ?_ (by simp;omega);generalize (eC w).take k=ps at*
 cases ps with
 |nil=>simp[tx]
 |cons a b=>show(jt (a::b)).length<=500;omega
theorem v226 {w:Int} (hw:eQ w) (hp:dG w=true):MO ab w=some (u4 w,0):=by
 show(Es ab w).val=_;unfold Es;obtain⟨U,h2,h3,h4⟩:=H7 hp;have oG: ∀(k n:Nat) (acc:List Int),k<n->acc.length+k<=20->k<=(eC w).length+1->dv (λa=>(vG ab ((eC w).map bs) w a).val) n ((k:Int)-1,acc)=some (false,-1,acc++(ξ4 k).reverse.map λj=>BU ((eC w).take j)):=by
  intro k
  induction k with
  |zero=>
   intro n acc hn _ _;obtain⟨n,rfl⟩: ∃m,n=m+1:=⟨n-1,by omega⟩;rw[ib];unfold vG;simp
  |succ k ih=>
   intro n acc hn ha hk;obtain⟨n,rfl⟩: ∃m,n=m+1:=⟨n-1,by omega⟩;rw[ib];have hd:decide (((k+1:Nat):Int)-1>=0)=true:=decide_eq_true (by omega);have hc:gq ((eC w).map bs) none (some (((k+1:Nat):Int)-1)) (some (((k+1:Nat):Int)-1))=some (((eC w).map bs).take k):=by
    rw[show((k+1:Nat):Int)-1=(k:Int) by omega];unfold gq;simp only[ξa,ξb];rw[if_pos ⟨by omega,by omega,by simp;omega,by omega,by simp;omega,by simp⟩,η];rfl
   have hs:(vG ab ((eC w).map bs) w (((k+1:Nat):Int)-1,acc)).val=some (.inl ((k:Int)-1,acc++[BU ((eC w).take k)])):=by
    unfold vG;simp only[T.bh,T.aR,T.aM,hd,cond_true,hc,atJ hp k,γ,mK (b:=8) (i:=20) (n:=21) (a:=acc) (z:=BU ((eC w).take k)) (by omega) (by omega) (by omega)];rw[show((k+1:Nat):Int)-1-1=(k:Int)-1 by omega,eo (x:=(k:Int)-1) (by omega) (by omega)]
   simp only[hs,γ];rw[ih n _ (by omega) (by rw[ο,ψ];omega) (by omega),ζR,List.reverse_append,List.reverse_singleton,ζn,ξV,ξN];rfl
 have hL:K6 ab ((eC w).map bs) w (((eC w).map bs).length:Int) []=some (false,-1,u4 w):=by
  have:=oG ((eC w).length+1) 1000000 [] (by omega) (by simp;omega) (by omega);rw[show(((eC w).length+1:Nat):Int)-1=(((eC w).map bs).length:Int) by simp] at this;exact this
 simp only[T.bh,T.aR,T.cE,T.aM,Sl hw,hp,cond_true,γ,ι,cond_false,hL]
theorem aht {p q:List Nat} (hp: ∀x∈p,x<256) (hq: ∀x∈q,x<256):((bs p).toList==(bs q).toList)=decide (p=q):=by
 rw[ξA,ξA,κ,beq_iff_eq,decide_eq_true_eq];constructor
 ·intro e;have e:p.map ξd=q.map ξd:=by simpa[bs] using e
  have e2:=congrArg (List.map ζc) e;have tW: ∀l:List Nat,(∀x∈l,x<256)->(l.map ξd).map ζc=l:=by
   intro l hl;rw[ζI]
   conv=>rhs;rw[<-ζQ l]
   refine List.map_congr_left λx hx=>?_;have:=hl x hx;simp;omega
  rw[tW p hp,tW q hq] at e2;exact e2
 ·rintro rfl;rfl
theorem atY {a b:Int} (ha:eQ a) (hb:eQ b):MP ab a b=some (vR a b):=by
 show(Ev ab a b).val=_;unfold Ev vR;simp only[T.bh,T.aR,T.cE,T.aM,T.dU,Sl ha,Sl hb,γ];cases ea:dG a with
 |false=>rfl
 |true=>
  cases eb:dG b with
  |false=>rfl
  |true=>
   simp only[cond_true,ω,ξw];obtain⟨_,a2,a3,_⟩:=H7 ea;obtain⟨_,b2,b3,_⟩:=H7 eb;generalize eC a=p at*
   generalize eC b=q at*
   by_cases hl:p.length<=q.length
   ·have hd:decide ((p.length:Int)<=(q.length:Int))=true:=decide_eq_true (by omega);have hc:gq (q.map bs) none (some (p.length:Int)) none=some ((q.take p.length).map bs):=by rw[aiY (by simpa using hl),ζg]
    have hn:((p.length:Int) !=(((q.take p.length).map bs).length:Int))=false:=by simp;omega
    have hL:Lm ab (p.map bs) ((q.take p.length).map bs)=bif decide (q.take p.length=p) then some (.inr (false,(p.length:Int))) else some (.inl ()):=by
     show cB (λi z c=>(DK ab (p.map bs) ((q.take p.length).map bs) i z c).val) (λi c=>(Ci ab (p.map bs) ((q.take p.length).map bs) i c).val) 0 (p.map bs) ()=_;rw[xG (q:=λi z=>match((q.take p.length).map bs)[i]? with|some y=>z.toList==y.toList|none=>false) (x:= .inl ()) λi z hz=>?_]
     ·have:allI (λi z=>match((q.take p.length).map bs)[i]? with|some y=>z.toList==y.toList|none=>false) 0 (p.map bs)=decide (q.take p.length=p):=by
       rw[κ,tc,decide_eq_true_eq];constructor
       ·intro h;refine List.ext_getElem (by simp;omega) λi U h2=>?_;have:=h i (bs p[i]) (by rw[ξl,ε h2];rfl);rw[ξp,ξl,ε U,ζP] at this;have:=(aht (a2 _ (ζi h2)).1 (b2 _ (ξU (ζi U))).1).symm.trans this;exact(of_decide_eq_true this).symm
       ·intro h k z hz;rw[ξp,h,hz];exact beq_self_eq_true _
      rw[this];unfold Ci;simp
     ·unfold DK;have hi:=(ζ.1 hz).1;have iw:i<((q.take p.length).map bs).length:=by simp at hi ⊢;omega
      have hy:((q.take p.length).map bs)[i]? =some ((q.take p.length).map bs)[i]:=ε iw;simp only[T.bh,T.aR,T.aM,jm hy,hy,γ];cases z.toList==((q.take p.length).map bs)[i].toList<;>rfl
    have qx:p.isPrefixOf q=decide (q.take p.length=p):=by
     rw[κ,ξZ,List.prefix_iff_eq_take,decide_eq_true_eq];exact eq_comm
    rw[hd,hc,qx];simp only[cond_true,γ,hn,cond_false,hL];cases decide (q.take p.length=p)<;>rfl
   ·have hd:decide ((p.length:Int)<=(q.length:Int))=false:=decide_eq_false (by omega);have qx:p.isPrefixOf q=false:=by
     rw[<-Bool.not_eq_true,ξZ];intro h;exact hl h.length_le
    rw[hd,qx];rfl
theorem ZS (j:Int): ∀(l:List aw) (m:List (Int×Int)),l.Pairwise (λa b=>a.bC≠b.bC)->b6 (mapM m l) j=match l.find? (λx=>x.bC==j) with|some x=>some x.bj|none=>b6 m j
 |[],m,_=>rfl
 |z::r,m,h=>by
  rw[ξ7] at h;show b6 (mapM (dk m z.bC z.bj) r) j=_;rw[ZS j r _ h.2,ξE,xj];cases e:z.bC==j with
  |true=>
   have e:=eq_of_beq e;rw[tE.2 λy hy=>by have:=h.1 y hy;rw[e] at this;simpa using λk=>this k.symm];simp[e]
  |false=>
   have: ¬j=z.bC:=λk=>by rw[k] at e;simp at e
   simp only[if_neg this]
theorem Hq {m:cp} (h:kN m) (w:Int):b6 (m.ae.foldl (λa z=>dk a z.bC z.bj) []) w=eZ m w:=by
 rw[fold_map,ZS w _ _ h.new];unfold eZ;cases m.ae.find? (λx=>x.bC==w)<;>rfl
theorem HL {X:Type} {S:Int->aw->List (Int×Int)->T (List (Int×Int) ⊕ X)} {F:Int->List (Int×Int)->T X} {l:List aw} (hS: ∀i z a,(S i z a).val=some (.inl (dk a z.bC z.bj))):
  cB (λi z a=>(S i z a).val) (λi a=>(F i a).val) 0 l []=(F (l.length:Int) (l.foldl (λa z=>dk a z.bC z.bj) [])).val:=by
 rw[xH (g:=λa z=>dk a z.bC z.bj) λi z a _=>hS i z a];simp
def adN:cp:=⟨[],0⟩
theorem atT {m:cp} (h:kN m) {w:Int} (hw:eQ w):FG ab m w=some (match og m w with| .ok (q,v)=>(q,v,0)| .error e=>(adN,0,e)):=by
 show(Ed ab m w).val=_;unfold Ed og;have hlen:=h.len;have r9:=h.n1;have qu:=h.n2;have hL:KH ab m.ae []=some (false,(m.ae.length:Int),m.ae.foldl (λa z=>dk a z.bC z.bj) []):=by
  refine(HL λi z a=>rfl).trans ?_;unfold Je;simp
 obtain⟨Am,t_⟩:=Z9 (b:=16) (l:=m.ae) (c:=δ.wrap ((m.ae.length:Int)+1)) (z:=aw.mk 0 0) (by rw[eo (by omega) (by omega)];omega) (by rw[eo (by omega) (by omega)];omega) (by rw[eo (by omega) (by omega)];omega);simp only[T.bh,T.aR,T.cE,T.aM,IY h hw,γ,hL,Hq h,Am,t_];cases hp:dG w with
 |false=>rfl
 |true=>
  simp only[cond_true,cond_false,show((0:Int) !=0)=false from rfl];cases hi:eZ m w with
  |some i=>rfl
  |none=>
   have e1:((m.ae.length:Int)==16)=(m.ae.length==16):=by rw[κ];simp;omega
   simp only[ζD,cond_false,e1];cases W5:m.ae.length==16 with
   |true=>rfl
   |false=>
    cases hn:decide (m.bE>1073741824) with
    |true=>rfl
    |false=>
     have:app 16 m.ae [aw.mk w m.bE]=some (m.ae++[aw.mk w m.bE]):=mK (i:=16) (n:=17) hlen (by omega) (by omega);have mw:ξq.wrap (m.bE+1)=m.bE+1:=qW (by omega) (by omega);simp only[cond_false,this,γ,mw,η7]
theorem atU {m:cp} (h:kN m) {w:Int} (hw:eQ w):FH ab m w=some (match oV m w with| .ok v=>(v,0)| .error e=>(0,e)):=by
 show(Ee ab m w).val=_;unfold Ee oV;have hL:KI ab m.ae []=some (false,(m.ae.length:Int),m.ae.foldl (λa z=>dk a z.bC z.bj) []):=by
  refine(HL λi z a=>rfl).trans ?_;unfold Jf;simp
 simp only[T.bh,T.aR,T.cE,T.aM,IY h hw,γ,hL,Hq h];cases dG w with
 |false=>rfl
 |true=>cases eZ m w<;>rfl
theorem v193 {m:cp} (h:kN m) {w:Int} (hw:eQ w):FJ ab m w=some (match pb m w with| .ok v=>(v,0)| .error e=>(adN,e)):=by
 show(Eg ab m w).val=_;unfold Eg pb;have hlen:=h.len;have hL:KJ ab m.ae []=some (false,(m.ae.length:Int),m.ae.foldl (λa z=>dk a z.bC z.bj) []):=by
  refine(HL λi z a=>rfl).trans ?_;unfold Jg;simp
 have hB:Lg ab m.ae m.bE w=bif ru m w then some (.inl ()) else some (.inr (false,(m.ae.length:Int))):=by
  show cB (λi z a=>(DI ab m.ae m.bE w i z a).val) (λi a=>(Cg ab m.ae m.bE w i a).val) 0 m.ae ()=_;unfold ru;rw[Bx (p:=λx=>!(x.bC==w)&&vR w x.bC) (e:=λ_=> .inl ()),<-alY]
  ·unfold Cg;cases m.ae.find? (λx=>!(x.bC==w)&&vR w x.bC)<;>simp
  ·intro i z hz;unfold DI;simp only[T.bh,T.aR,T.aM,atY hw (h.path z hz).1,γ,bne];cases z.bC==w<;>cases vR w z.bC<;>rfl
 have hK:K9 ab m.ae w []=some (false,(m.ae.length:Int),m.ae.filter λx=>!(x.bC==w)):=by
  show cB (λi z a=>(DC ab m.ae w i z a).val) (λi a=>(Cb ab m.ae w i a).val) 0 m.ae []=_;rw[By (p:=λx=>!(x.bC==w)) (f:=id)]
  ·unfold Cb;simp
  ·intro i z a hz ha;have hi:=(ζ.1 hz).1;unfold DC;simp only[T.bh,T.aR,T.aM,bne,mK (b:=16) (z:=z) ha hi (by omega),γ];cases z.bC==w<;>rfl
 simp only[T.bh,T.aR,T.cE,T.dU,T.aM,IY h hw,γ,hL,Hq h,hB,hK];cases dG w with
 |false=>rfl
 |true=>
  cases eZ m w with
  |none=>rfl
  |some i=>cases ru m w<;>rfl
def QU:(Bool×Int×Int×Bool×Int×Int) ⊕ (Bool×Int×Int)->Int
 | .inl y=>y.2.1
 | .inr y=>y.2.1
theorem v183 {m:cp} (h:kN m) {w:Int} (hw:eQ w):wh ab m w=some (match kK m w with| .ok v=>(v,0)| .error e=>(0,e)):=by
 show(D9 ab m w).val=_;unfold D9 kK IW;have hL:KG ab m.ae []=some (false,(m.ae.length:Int),m.ae.foldl (λa z=>dk a z.bC z.bj) []):=by
  refine(HL λi z a=>rfl).trans ?_;unfold Jd;simp
 have tW: ∀ {u i},eZ m u=some i->0<i:=λe=>by
  obtain⟨x,hx,_,rfl⟩:=PD e;have:=h.id x hx;omega
 have oG: ∀(l:List Int) (p0:List Int) (j:Nat),∃y,cB (λi z a=>(ym ab p0 (m.ae.foldl (λa z=>dk a z.bC z.bj) []) i z a).val) (λi a=>(Jk ab p0 (m.ae.foldl (λa z=>dk a z.bC z.bj) []) i a).val) j l 0=some y/\QU y=(l.findSome? (eZ m)).getD 0:=by
  intro l p0
  induction l with
  |nil=>intro j;exact⟨_,rfl,rfl⟩
  |cons u r ih=>
   intro j;have hs:(ym ab p0 (m.ae.foldl (λa z=>dk a z.bC z.bj) []) j u 0).val=bif decide ((eZ m u).getD 0>0) then some (.inr (.inl (decide ((eZ m u).getD 0>0),(eZ m u).getD 0,u,decide ((j:Int)<(p0.length:Int)),0,(j:Int)))) else some (.inl ((eZ m u).getD 0)):=by
    unfold ym;simp only[T.aR,T.aM,Hq h]
   rw[nV,List.findSome?_cons,hs];cases e:eZ m u with
   |some i=>
    have:decide ((some i).getD 0>0)=true:=decide_eq_true (tW e);rw[this];exact⟨_,rfl,rfl⟩
   |none=>
    have:decide ((none:Option Int).getD 0>0)=false:=rfl;rw[this];exact ih (j+1)
 simp only[T.bh,T.aR,T.cE,T.dU,T.aM,IY h hw,γ,hL];cases hp:dG w with
 |false=>rfl
 |true=>
  obtain⟨y,hy,ho⟩:=oG (u4 w) (u4 w) 0;have hy:KU ab (u4 w) (m.ae.foldl (λa z=>dk a z.bC z.bj) []) 0=some y:=hy;simp only[cond_true,cond_false,show((0:Int) !=0)=false from rfl,v226 hw hp,γ,hy];have hz: ∀(x:Int),(bif x==0 then some ((0:Int),(4:Int)) else some (x,0))=some (if x=0 then(0,4) else(x,0)):=λx=>by
   by_cases e:x=0
   ·simp[e]
   ·rw[show(x==0)=false by simpa using e,if_neg e];rfl
  refine Eq.trans (b:=some (if QU y=0 then((0:Int),(4:Int)) else(QU y,0))) (by cases y<;>exact hz _) ?_;rw[ho];cases e2:(u4 w).findSome? (eZ m) with
  |none=>rfl
  |some i=>
   obtain⟨u,_,hu⟩:=ξK e2;have:=tW hu;have: ¬i=0:=by omega
   simp[this]
theorem f49 {s:aP} (h:ij s) (hb:s.au.length<=16):pP ab s=some 0:=by
 rw[v49 ⟨λz hz=>(h.name z hz).1,by have:=h.len;unfold maxLen;omega,by unfold maxLen;omega⟩,(abI λz hz=>(h.name z hz).1).2 h];rfl
section
variable {α:Type} {key:α->Int} {l:List α} {n:Int}
theorem atE (ho:l.Pairwise λa b=>key a<key b):l.takeWhile (λz=>decide (key z<n))=l.filter (λz=>decide (key z<n))/\l.dropWhile (λz=>decide (key z<n))=l.filter (λz=>!decide (key z<n)):=by
 induction l with
 |nil=>exact⟨rfl,rfl⟩
 |cons z r ih=>
  rw[ξ7] at ho;obtain⟨U,h2⟩:=ih ho.2;rw[ξ8,ξB,ξh,ξh];cases e:decide (key z<n) with
  |true=>simp only[if_true,U,h2,ι,ξ6,if_false];exact⟨trivial,trivial⟩
  |false=>
   have e:=of_decide_eq_false e;have h3:r.filter (λz=>decide (key z<n))=[]:=List.filter_eq_nil_iff.2 λy hy=>by have:=ho.1 y hy;simp;omega
   have h4:r.filter (λz=>!decide (key z<n))=r:=filter_all λy hy=>by have:=ho.1 y hy;simp;omega
   simp[h3,h4]
theorem BA (ho:l.Pairwise λa b=>key a<key b):
  (l.find? (λz=>key z==n)=none/\(∀z,l[(l.takeWhile λz=>decide (key z<n)).length]? =some z->key z≠n)/\l.dropWhile (λz=>decide (key z<n))=l.filter λz=>decide (n<key z))\/
  ∃z,l.find? (λz=>key z==n)=some z/\key z=n/\l[(l.takeWhile λz=>decide (key z<n)).length]? =some z/\l.dropWhile (λz=>decide (key z<n))=z::l.filter λz=>decide (n<key z):=by
 induction l with
 |nil=>exact .inl ⟨rfl,by simp,rfl⟩
 |cons z r ih=>
  rw[ξ7] at ho;rw[ξE,ξ8,ξB,ξh]
  by_cases U:key z<n
  ·have e1:(key z==n)=false:=by simp;omega
   have e2:decide (n<key z)=false:=by simp;omega
   simp only[e1,e2,decide_eq_true U,if_true,χ,ζe,ξ6,if_false];exact ih ho.2
  ·have e3:decide (key z<n)=false:=decide_eq_false U;have hr:r.filter (λz=>decide (n<key z))=r:=filter_all λy hy=>by have:=ho.1 y hy;simp;omega
   simp only[e3,ξ6,if_false,ζl,ζf,hr]
   by_cases h2:key z=n
   ·right;exact⟨z,by simp[h2],h2,rfl,by simp[h2]⟩
   ·left;have e1:(key z==n)=false:=by simpa using h2
    have e2:decide (n<key z)=true:=by simp;omega
    simp only[e1,e2,if_true];refine⟨tE.2 λy hy=>by have:=ho.1 y hy;simp;omega,λy hy=>?_,trivial⟩;cases hy;exact h2
end
theorem Fe (x y:Int):decide (l9 x y<0)=decide (x<y):=by
 unfold l9;rw[κ,decide_eq_true_eq,decide_eq_true_eq];split
 ·simp[*]
 ·split
  ·simp;omega
  ·simp;omega
theorem cmp_eq (x y:Int):(l9 x y==0)=decide (x=y):=by
 unfold l9;rw[κ,decide_eq_true_eq,beq_iff_eq];split
 ·constructor
  ·intro h;omega
  ·intro h;omega
 ·split
  ·constructor
   ·intro h;omega
   ·intro h;omega
  ·constructor
   ·intro _;omega
   ·intro _;rfl
theorem HB {α:Type} {key:α->Int} {l:List α} {n:Int} (ho:l.Pairwise λa b=>key a<key b):l.Pairwise λa b=>decide (key b<n)=true->decide (key a<n)=true:=ho.imp λ{a b} U h2=>decide_eq_true (by have:=of_decide_eq_true h2;omega)
theorem v31 {s:aP} (h:ij s) (hb:s.au.length<=16) (pid:Int):Fz ab s pid=some (rS s pid):=by
 show(D6 ab s pid).val=_;unfold D6 rS;have hlen:=h.len;have hL:Ld ab s.aA s.au pid (s.aA.length:Int) 0 []=some (false,(s.aA.length:Int),(s.aA.filter λy=>y.aa==pid).map az.br):=by
  show dv (λa=>(yr ab s.aA s.au pid (s.aA.length:Int) a).val) 1000000 (0,[])=_;rw[Sy (p:=λy=>y.aa==pid) (f:=az.br) (x:=λa=>(false,(s.aA.length:Int),a)) (l:=s.aA) (λi z a hz ha=>?_) (λa=>?_) (by omega)]
  ·have hi:=(ζ.1 hz).1;have aB:decide ((i:Int)<(s.aA.length:Int))=true:=decide_eq_true (by omega);have hw:δ.wrap ((i:Int)+1)=((i+1:Nat):Int):=eo (by omega) (by omega);unfold yr;simp only[T.bh,T.aR,T.aM,aB,cond_true,jm hz,γ,hw,mK (b:=8) (z:=z.br) ha hi (by omega)];cases z.aa==pid<;>rfl
  ·unfold yr;simp
 simp only[T.bh,T.aR,T.cE,T.aM,f49 h hb,γ,hL,show((0:Int) !=0)=false from rfl,cond_false]
theorem v196 {s:aP} (h:ij s) (hb:s.au.length<=16) {n:Int} (hn:eQ n):wi ab s n=some (match lP s n with| .ok p=>(p,0)| .error e=>(0,e)):=by
 show(Ej ab s n).val=_;unfold Ej lP jO;have hlen:=h.len;have hL:Lj ab s.aA n 0 (s.aA.length:Int)=some (false,((s.aA.takeWhile λz=>decide (z.br<n)).length:Int),((s.aA.takeWhile λz=>decide (z.br<n)).length:Int)):=by
  show dv (λa=>(yv ab s.aA n a).val) 1000000 (0,(s.aA.length:Int))=_;refine yL (l:=s.aA) (lt:=λz=>decide (z.br<n)) (x:=λc=>(false,(c:Int),(c:Int))) (HB (key:=az.br) h.qI) (by omega) (λlo hi m aB hle hm qt hw kG=>?_) λc=>?_
  ·unfold yv;have hd:decide ((lo:Int)<(hi:Int))=true:=decide_eq_true (by omega);have hx:s.aA[m]? =some s.aA[m]:=ε qt;simp only[T.bh,T.aR,T.aM,hd,cond_true,hw,kG,jm hx,η,hx,γ,nn,Fe]
  ·unfold yv;simp
 simp only[T.bh,T.aR,T.cE,T.aM,f49 h hb,IZ hn,γ,hL,show((0:Int) !=0)=false from rfl,cond_false];cases hP n with
 |false=>rfl
 |true=>
  simp only[ι,cond_true,cond_false];rcases BA (key:=az.br) (n:=n) h.qI with⟨e1,e2,_⟩|⟨z,e1,e2,e3,_⟩
  ·rw[e1]
   by_cases hc:(s.aA.takeWhile λz=>decide (z.br<n)).length<s.aA.length
   ·have hx:=ε hc;have aN:=e2 _ hx;have hd:decide (((s.aA.takeWhile λz=>decide (z.br<n)).length:Int)<(s.aA.length:Int))=true:=decide_eq_true (by omega);simp only[hd,cond_true,jm hx,γ,nn,cmp_eq,decide_eq_false aN];rfl
   ·have hd:decide (((s.aA.takeWhile λz=>decide (z.br<n)).length:Int)<(s.aA.length:Int))=false:=decide_eq_false (by omega);simp only[hd,cond_false];rfl
  ·rw[e1];have hc:=(ζ.1 e3).1;have hd:decide (((s.aA.takeWhile λz=>decide (z.br<n)).length:Int)<(s.aA.length:Int))=true:=decide_eq_true (by omega);simp only[hd,cond_true,jm e3,γ,nn,cmp_eq,decide_eq_true e2];rfl
theorem Mj {S:Int×List aq->T ((Int×List aq) ⊕ (Bool×Int×List aq))} {s:aP} (h:ij s) (hb:s.au.length<=16)
  (hS: ∀a,(S a).val=bif decide (a.1<(s.au.length:Int)) then(idx s.au a.1).bind λz0=>(app 8 [] z0.bt).bind λz1=>(app 32 a.2 [aq.mk z0.aa z1]).bind λz2=>some (.inl (δ.wrap (a.1+1),z2)) else some (.inr (decide (a.1<(s.au.length:Int)),a.1,a.2))):
  dv (λa=>(S a).val) 1000000 (0,[])=some (false,(s.au.length:Int),s.au):=by
 rw[Sy (p:=λ_=>true) (f:=id) (x:=λa=>(false,(s.au.length:Int),a)) (l:=s.au) (λi z a hz ha=>?_) (λa=>?_) (by omega)]
 ·rw[filter_all λ_ _=>rfl,ζQ]
 ·have hi:=(ζ.1 hz).1;have aB:decide ((i:Int)<(s.au.length:Int))=true:=decide_eq_true (by omega);have hw:δ.wrap ((i:Int)+1)=((i+1:Nat):Int):=eo (by omega) (by omega);have hz4:=(h.box z (φ hz)).2.2;rw[hS];simp only[aB,cond_true,jm hz,γ,l6 (b:=8) (l:=z.bt) (by omega),hw,mK (b:=32) (z:=z) ha hi (by omega)];rfl
 ·rw[hS];simp
theorem v194 {s:aP} (h:ij s) (hb:s.au.length<=16) {n:Int} (hn:eQ n) (pid:Int):FK ab s n pid=some (match oZ s n pid with| .ok q=>(q,0)| .error e=>(⟨[],[]⟩,e)):=by
 show(Eh ab s n pid).val=_;unfold Eh oZ jO;have hlen:=h.len;have hC:K_ ab s.au s.aA (s.au.length:Int) 0 []=some (false,(s.au.length:Int),s.au):=Mj h hb λa=>rfl;have hL:Lh ab n s.aA 0 (s.aA.length:Int)=some (false,((s.aA.takeWhile λz=>decide (z.br<n)).length:Int),((s.aA.takeWhile λz=>decide (z.br<n)).length:Int)):=by
  show dv (λa=>(yt ab n s.aA a).val) 1000000 (0,(s.aA.length:Int))=_;refine yL (l:=s.aA) (lt:=λz=>decide (z.br<n)) (x:=λc=>(false,(c:Int),(c:Int))) (HB (key:=az.br) h.qI) (by omega) (λlo hi m aB hle hm qt hw kG=>?_) λc=>?_
  ·unfold yt;have hd:decide ((lo:Int)<(hi:Int))=true:=decide_eq_true (by omega);have hx:s.aA[m]? =some s.aA[m]:=ε qt;simp only[T.bh,T.aR,T.aM,hd,cond_true,hw,kG,jm hx,η,hx,γ,nn,Fe]
  ·unfold yt;simp
 have rW:=PK (b:=16) (l:=s.aA) (lt:=λy=>decide (y.br<n)) (x:=az.mk n pid) (by omega);have e16:((s.aA.length:Int)==16)=(s.aA.length==16):=by rw[κ];simp;omega
 simp only[T.bh,T.aR,T.cE,T.aM,T.u5,f49 h hb,l6 (b:=16) (l:=s.aA) (by omega),IZ hn,So,γ,hC,hL,e16,wV,rW,show((0:Int) !=0)=false from rfl,cond_false];cases hP n with
 |false=>rfl
 |true=>
  cases gx pid with
  |false=>rfl
  |true=>
   simp only[ι,cond_true,cond_false];rcases BA (key:=az.br) (n:=n) h.qI with⟨e1,e2,_⟩|⟨z,e1,e2,e3,_⟩
   ·rw[e1]
    by_cases hc:(s.aA.takeWhile λz=>decide (z.br<n)).length<s.aA.length
    ·have hx:=ε hc;have aN:=e2 _ hx;have hd:decide (((s.aA.takeWhile λz=>decide (z.br<n)).length:Int)<(s.aA.length:Int))=true:=decide_eq_true (by omega);simp only[hd,cond_true,jm hx,η,hx,γ,nn,cmp_eq,decide_eq_false aN,cond_false];cases s.aA.length==16<;>rfl
    ·have hd:decide (((s.aA.takeWhile λz=>decide (z.br<n)).length:Int)<(s.aA.length:Int))=false:=decide_eq_false (by omega);simp only[hd,cond_false];cases s.aA.length==16<;>rfl
   ·rw[e1];have hc:=(ζ.1 e3).1;have hd:decide (((s.aA.takeWhile λz=>decide (z.br<n)).length:Int)<(s.aA.length:Int))=true:=decide_eq_true (by omega);simp only[hd,cond_true,jm e3,η,e3,γ,nn,cmp_eq,decide_eq_true e2];rfl
theorem atW {s:aP} (h:ij s) (hb:s.au.length<=16) {n p:Int} (hn:eQ n) (U:hP n=true) (h2:jO s.aA n=some p):FL ab s n=some (BM s n,0):=by
 show(Ei ab s n).val=_;unfold Ei BM;unfold jO at h2;have hlen:=h.len;have hC:La ab s.au s.aA (s.au.length:Int) 0 []=some (false,(s.au.length:Int),s.au):=Mj h hb λa=>rfl;have hL:Li ab n s.aA 0 (s.aA.length:Int)=some (false,((s.aA.takeWhile λz=>decide (z.br<n)).length:Int),((s.aA.takeWhile λz=>decide (z.br<n)).length:Int)):=by
  show dv (λa=>(yu ab n s.aA a).val) 1000000 (0,(s.aA.length:Int))=_;refine yL (l:=s.aA) (lt:=λz=>decide (z.br<n)) (x:=λc=>(false,(c:Int),(c:Int))) (HB (key:=az.br) h.qI) (by omega) (λlo hi m aB hle hm qt hw kG=>?_) λc=>?_
  ·unfold yu;have hd:decide ((lo:Int)<(hi:Int))=true:=decide_eq_true (by omega);have hx:s.aA[m]? =some s.aA[m]:=ε qt;simp only[T.bh,T.aR,T.aM,hd,cond_true,hw,kG,jm hx,η,hx,γ,nn,Fe]
  ·unfold yu;simp
 rcases BA (key:=az.br) (n:=n) h.qI with⟨e1,_,_⟩|⟨z,e1,e2,e3,e4⟩
 ·rw[e1] at h2;cases h2
 have hc:=(ζ.1 e3).1;have hd:decide (((s.aA.takeWhile λz=>decide (z.br<n)).length:Int)<(s.aA.length:Int))=true:=decide_eq_true (by omega);have hw:δ.wrap (((s.aA.takeWhile λz=>decide (z.br<n)).length:Int)+1)=(((s.aA.takeWhile λz=>decide (z.br<n)).length+1:Nat):Int):=eo (by omega) (by omega);have am9:s.aA.take (s.aA.takeWhile λz=>decide (z.br<n)).length++s.aA.drop ((s.aA.takeWhile λz=>decide (z.br<n)).length+1)=s.aA.filter λy=>!(y.br==n):=by
  obtain⟨t1,t2⟩:=ac' (λz:az=>decide (z.br<n)) s.aA;rw[t1,<-List.drop_drop,t2,e4];have hl:=take_drop (λz:az=>decide (z.br<n)) s.aA;rw[e4] at hl;have hf:s.aA.filter (λy=>!(y.br==n))=(s.aA.takeWhile (λz=>decide (z.br<n))++z::s.aA.filter λy=>decide (n<y.br)).filter λy=>!(y.br==n):=by rw[hl]
  have hA:(s.aA.takeWhile λz=>decide (z.br<n)).filter (λy=>!(y.br==n))=s.aA.takeWhile λz=>decide (z.br<n):=filter_all λy hy=>by
   have:y.br<n:=by simpa using Z7 hy
   simp;omega
  have hB:(s.aA.filter λy=>decide (n<y.br)).filter (λy=>!(y.br==n))=s.aA.filter λy=>decide (n<y.br):=filter_all λy hy=>by
   have:=of_decide_eq_true (ξ.1 hy).2;simp;omega
  rw[hf,ζ4,List.filter_cons_of_neg (by simp[e2]),hA,hB];rfl
 simp only[T.bh,T.aR,T.cE,T.aM,f49 h hb,l6 (b:=16) (l:=s.aA) (by omega),IZ hn,U,γ,hC,hL,hd,hw,cond_true,ι,jm e3,η,e3,nn,cmp_eq,decide_eq_true e2,show((0:Int) !=0)=false from rfl,cond_false,yS,IF];rw[if_pos ⟨by omega,by omega,by omega⟩];simp only[γ,η,am9]
theorem v168 (b:aq):FR ab b=some b.aa:=rfl
theorem v167 {s:aP} (h:ij s) (hb:s.au.length<=16) (pid:Int):MQ ab s.au pid=some (((s.au.takeWhile λz=>decide (z.aa<pid)).length:Int),(s.au.find? λz=>z.aa==pid).isSome):=by
 show(Ex ab s.au pid).val=_;unfold Ex;have hL:Ll ab s.au pid 0 (s.au.length:Int)=some (false,((s.au.takeWhile λz=>decide (z.aa<pid)).length:Int),((s.au.takeWhile λz=>decide (z.aa<pid)).length:Int)):=by
  show dv (λa=>(yw ab s.au pid a).val) 1000000 (0,(s.au.length:Int))=_;refine yL (l:=s.au) (lt:=λz=>decide (z.aa<pid)) (x:=λc=>(false,(c:Int),(c:Int))) (HB (key:=aq.aa) h.sy) (by omega) (λlo hi m aB hle hm qt hw kG=>?_) λc=>?_
  ·unfold yw;have hd:decide ((lo:Int)<(hi:Int))=true:=decide_eq_true (by omega);have hx:s.au[m]? =some s.au[m]:=ε qt;simp only[T.bh,T.aR,T.aM,hd,cond_true,hw,kG,jm hx,η,hx,γ,nn,v168,Fe]
  ·unfold yw;simp
 simp only[T.bh,T.aR,T.cE,T.aM,γ,hL,v168,nn,cmp_eq];rcases BA (key:=aq.aa) (n:=pid) h.sy with⟨e1,e2,_⟩|⟨z,e1,e2,e3,_⟩
 ·rw[e1]
  by_cases hc:(s.au.takeWhile λz=>decide (z.aa<pid)).length<s.au.length
  ·have hx:=ε hc;have aN:=e2 _ hx;have hd:decide (((s.au.takeWhile λz=>decide (z.aa<pid)).length:Int)<(s.au.length:Int))=true:=decide_eq_true (by omega);simp only[hd,cond_true,jm hx,γ,decide_eq_false aN];rfl
  ·have hd:decide (((s.au.takeWhile λz=>decide (z.aa<pid)).length:Int)<(s.au.length:Int))=false:=decide_eq_false (by omega);simp only[hd,cond_false];rfl
 ·rw[e1];have hc:=(ζ.1 e3).1;have hd:decide (((s.au.takeWhile λz=>decide (z.aa<pid)).length:Int)<(s.au.length:Int))=true:=decide_eq_true (by omega);simp only[hd,cond_true,jm e3,γ,decide_eq_true e2];rfl
theorem aaP: ∀(l a:List aq),(∀b∈l,b.bt.length<=4)->a.length+l.length<=100->wT l a=some (a++l)
 |[],a,_,_=>by rw[ξe];rfl
 |z::r,a,h,hl=>by
  have hz:=h z τ;rw[χ] at hl;unfold wT RR;rw[l6 (by omega),γ,mK (i:=100) (n:=101) (by omega) (by omega) (by omega),γ,aaP r _ (λb hb=>h b (ρ _ hb)) (by rw[ο,ψ];omega),ξN];rfl
theorem L4 {s:aP} (h:ij s) (hb:s.au.length<=16) {pid:Int} (hp:gx pid=true):
  uo ab s pid=some (⟨s.aA,(s.au.filter λb=>decide (b.aa<pid))++⟨pid,fe s pid⟩::s.au.filter λb=>decide (pid<b.aa)⟩,((s.au.filter λb=>decide (b.aa<pid)).length:Int),0):=by
 have hlen:=h.len;have gu:AO ab s=some (s,0):=by
  unfold AO Pz RS;rw[f49 h hb,l6 (by omega),aaP _ [] (λb hb=>(h.box b hb).2.2) (by simp;omega)];rfl
 have anE:sm pid=true:=by
  unfold sm;unfold gx at hp;rw[θ] at hp;rw[hp.1,hp.2];rfl
 unfold uo Hp PB;rw[gu,γ];simp only[show(!((0:Int)==0))=false from rfl,cond_false,anE,ι,v167 h hb,γ];obtain⟨t1,t2⟩:=atE (n:=pid) h.sy;have hl:=take_drop (λz:aq=>decide (z.aa<pid)) s.au;rcases BA (key:=aq.aa) (n:=pid) h.sy with⟨e1,_,e3⟩|⟨z,e1,e2,e3,e4⟩
 ·rw[e1];have hw:fe s pid=[]:=by unfold fe;rw[e1]
  simp only[ζD,ν,cond_true];rw[PK (b:=32) (lt:=λz:aq=>decide (z.aa<pid)) (by omega),hw];unfold cL;rw[e3,t1];rfl
 ·rw[e1];have hw:fe s pid=z.bt:=by unfold fe;rw[e1]
  simp only[Option.isSome_some,ι,cond_false,γ];rw[e4,t1] at hl;rw[hw,t1]
  conv=>lhs;arg 1;arg 1;rw[show s=⟨s.aA,s.au⟩ from rfl,<-hl]
  rw[<-e2]
theorem Q8 {s:aP} (h:ij s) {pid:Int} {fM ws:List Int}:
  uX (aP.mk s.aA (((s.au.filter λb=>decide (b.aa<pid))++⟨pid,fM⟩::s.au.filter λb=>decide (pid<b.aa)).set (s.au.filter λb=>decide (b.aa<pid)).length ⟨pid,ws⟩))=kg s pid ws:=by
 have hk: ∀(p:aq->Bool),(s.au.filter p).filter (λz=>!(z.bt.length==0))=s.au.filter p:=λp=>filter_all λz hz=>by
  have:=(h.box z (ξ.1 hz).1).2.1;simp;intro e;rw[e] at this;simp at this
 unfold uX kg;rw[ζp (h:=ξ2 _),ζq,ζC];simp only;rw[ζ4,hk,ξh,hk]
 congr 2
 by_cases e:ws=[]
 ·simp[e]
 ·have:(ws.length==0)=false:=by simpa using e
  simp[e,this]
theorem get_at {α:Type} {a b:List α} {z:α}:idx (a++z::b) (a.length:Int)=some z:=jm (by rw[ξ1 (ξ2 _),ζq];rfl)
theorem v30 {s:aP} (h:ij s) (hb:s.au.length<=16) {pid:Int} (hp:gx pid=true):FB ab s pid=some (kg s pid [],((fe s pid).length:Int),0):=by
 show AL ab s pid=_;unfold AL;rw[L4 h hb hp,γ];simp only[show(!((0:Int)==0))=false from rfl,cond_false,get_at,γ,η,Q8 h]
theorem v198 {s:aP} (h:ij s) (hb:s.au.length<=16) {pid:Int} (hp:gx pid=true):FN ab s pid=some (match fe s pid with|w::r=>(kg s pid r,w,0)|[]=>(⟨[],[]⟩,0,4)):=by
 show AM ab s pid=_;unfold AM;rw[L4 h hb hp,γ];simp only[show(!((0:Int)==0))=false from rfl,cond_false,get_at,γ,η,Q8 h];cases fe s pid with
 |nil=>rfl
 |cons w r=>
  have:(((w::r).length:Int)==0)=false:=by simp;omega
  simp only[this,cond_false];rfl
theorem atX {s:aP} (h:ij s) (hb:s.au.length<=16) {pid:Int} (hp:gx pid=true) (w:Int):FM ab s pid [w]=some (if(fe s pid).length=4 then(⟨[],[]⟩,6) else(kg s pid (fe s pid++[w]),0)):=by
 show AN ab s pid [w]=_;unfold AN;have hw:=Su h pid;rw[L4 h hb hp,γ];simp only[show(!((0:Int)==0))=false from rfl,cond_false,get_at,γ,η,Q8 h,ψ];have ew:δ.wrap (((fe s pid).length:Int)+((1:Nat):Int))=((fe s pid).length:Int)+1:=eo (by omega) (by omega);simp only[ew]
 by_cases e:(fe s pid).length=4
 ·rw[if_pos e,e];rfl
 ·rw[if_neg e,decide_eq_false (by omega),cond_false,mK (i:=4) (n:=5) hw (by omega) (by omega),γ]
theorem aaj {α:Type} [DecidableEq α]: ∀ {l m:List α},l.Pairwise (λa b=>a≠b)->(∀x∈l,x∈m)->l.length<=m.length
 |[],_,_,_=>ξX _
 |x::r,m,hn,h=>by
  rw[ξ7] at hn;have hx:=h x τ;have:=aaj (m:=m.erase x) hn.2 λy hy=>(List.mem_erase_of_ne λe=>hn.1 y hy e.symm).2 (h y (ρ _ hy));rw[List.length_erase_of_mem hx] at this;have:=List.length_pos_of_mem hx;rw[χ];omega
theorem im.lb {s:bo} (h:im s):s.aF.au.length<=16:=by
 have U:=aaj (l:=s.aF.au.map aq.aa) (m:=s.aC.ae.map ai.aa) (List.pairwise_map.2 (h.i.sy.imp λ{a b} k=>by omega)) λx hx=>by
  obtain⟨b,hb,rfl⟩:=ζ1.1 hx;obtain⟨y,hy,e,_⟩:=h.boxes b hb;exact ζ1.2 ⟨y,hy,e⟩
 rw[ξw,ξw] at U;exact ξQ U h.p.len
structure fZ (c:bR):Prop where
 p:eQ (aI c.fArgs 0)
 a:eQ (aI c.fArgs 1)
theorem v22 (c:bR):M4 ab c=some (uG c):=by
 show(ER ab c).val=_;unfold ER uG;simp only[T.aR,T.aM];cases c.bP==9<;>rfl
theorem aal {l:List aj} (h:ko l) {p a:Int} (h8:8<=a):eM l p a=none:=by
 unfold eM;rw[tE.2 λd hd=>?_]
 ·rfl
 ·have:=h.is d hd;simp[m8] at this;simp;omega
theorem v67 {s:bo} (h:im s) {c:bR} (hc:fZ c):MT ab s c=some (jh s c):=by
 show(EC ab s c).val=_;unfold EC jh ry
 by_cases U:1<=c.bP
 ·by_cases F5:c.bP<=14
  ·rw[T.aR,decide_eq_true U,cond_true,T.aR,decide_eq_true F5,ι,cond_false,T.bh,v22,γ,if_pos ⟨U,F5⟩];have hp:=hc.p;have ha:=hc.a;have r8:=h.lb;generalize aI c.fArgs 0=p at*
   generalize aI c.fArgs 1=a at*
   generalize aI c.fArgs 2=b at*
   have hk:c.bP=1\/c.bP=2\/c.bP=3\/c.bP=4\/c.bP=5\/c.bP=6\/c.bP=7\/c.bP=8\/c.bP=9\/c.bP=10\/c.bP=11\/c.bP=12\/c.bP=13\/c.bP=14:=by omega
   have Az:uG c=(c.bP==9||c.bP==12):=rfl;unfold xc;rw[Az];rcases hk with e|e|e|e|e|e|e|e|e|e|e|e|e|e<;>
    simp only[e,T.aR,T.aM,T.bh,T.u5,Int.reduceBEq,Int.reduceEq,η2,ξr,η7,Bool.or_true,Bool.true_or,cond_true,cond_false,if_true,if_false,v28 h.p,γ]
   ·cases hr:cT s.aC.ae p with
    |false=>rfl
    |true=>
     simp only[ι,cond_true,cond_false,atN h.p,γ];cases e2:o_ s.aC p with
     |error x=>simp only[mf (acW e2),ν,cond_true]
     |ok x=>rfl
   ·cases hr:cT s.aC.ae p with
    |false=>rfl
    |true=>
     have aX:=(nk h.p.ord).1 hr;simp only[ι,cond_true,cond_false,atO h.p,γ];cases e2:ov s.aC p a with
     |error x=>simp only[mf (Wc e2),ν,cond_true]
     |ok x=>
      simp only[v31 h.i r8,v29 h.d,v30 h.i r8 (qQ h.p aX).1,γ,beq_self_eq_true,ι,cond_false]
      by_cases hh:rS s.aF p=[]
      ·rw[if_pos hh,hh];rfl
      ·have:(((rS s.aF p).length:Int)==0)=false:=by
        have:=ζx.2 hh;simp;omega
       rw[if_neg hh,this];rfl
   ·cases hr:cT s.aC.ae p with
    |false=>rfl
    |true=>
     simp only[ι,cond_true,cond_false,atP h.p,γ];cases e2:pf s.aC p a with
     |error x=>simp only[mf (adt e2),ν,cond_true]
     |ok x=>rfl
   ·cases hr:cT s.aC.ae p with
    |false=>rfl
    |true=>
     have aX:=(nk h.p.ord).1 hr;simp only[ι,cond_true,cond_false,v183 h.m ha,γ];cases e2:kK s.aL a with
     |error x=>simp only[mf (Iv e2),ν,cond_true]
     |ok x=>
      simp only[adn h.d (qQ h.p aX).2.1,γ,beq_self_eq_true,ι,cond_false];cases e3:ng s.aV p x with
      |error y=>simp only[mf (QR e3),ν,cond_true]
      |ok y=>
       obtain⟨l,v⟩:=y;obtain⟨i,h2,_,rfl,_⟩:=HZ e3;have:=(Nf h2).1;simp only[beq_self_eq_true,ι,cond_false,qW (x:=(i:Int)) (by omega) (by omega)]
   ·cases hr:cT s.aC.ae p with
    |false=>rfl
    |true=>
     simp only[ι,cond_true,cond_false]
     by_cases h8:a<8
     ·simp only[decide_eq_true h8,ι,cond_false,eo (x:=a) (by omega) (by omega),v232 h.d,atQ h.d,γ];cases e2:l8 s.aV p a with
      |error x=>
       cases e3:eM s.aV p a with
       |some w=>unfold l8 at e2;rw[e3] at e2;cases e2
       |none=>unfold l8 at e2;rw[e3] at e2;cases e2;rfl
      |ok x=>
       obtain⟨w,e3,_⟩:=VH e2;rw[e3];rfl
     ·have:eM s.aV p a=none:=aal h.d (by omega);unfold l8;simp only[decide_eq_false h8,ν,cond_true,this]
   ·cases hr:cT s.aC.ae p with
    |false=>rfl
    |true=>
     have aX:=(nk h.p.ord).1 hr;simp only[ι,cond_true,cond_false]
     by_cases h8:a<8
     ·simp only[decide_eq_true h8,ι,cond_false,eo (x:=a) (by omega) (by omega),v232 h.d,atS h.d (qQ h.p aX).2.1,γ];cases e2:mN s.aV p a with
      |error x=>
       cases e3:eM s.aV p a with
       |some w=>simp only[mf (VW e2),ν,ι,cond_false,cond_true]
       |none=>unfold mN at e2;rw[e3] at e2;cases e2;rfl
      |ok x=>
       obtain⟨l,v⟩:=x;obtain⟨w,e3,e4⟩:=VX e2;obtain⟨i,h2,_,rfl,_⟩:=HZ e4;have:=(Nf h2).1;simp only[e3,beq_self_eq_true,ι,cond_false,qW (x:=(i:Int)) (by omega) (by omega)]
     ·have:eM s.aV p a=none:=aal h.d (by omega);unfold mN;simp only[decide_eq_false h8,ν,cond_true,this]
   ·cases hr:cT s.aC.ae p with
    |false=>rfl
    |true=>
     simp only[ι,cond_true,cond_false,atT h.m ha,γ];cases e2:og s.aL a with
     |error x=>simp only[mf (Va e2),ν,cond_true]
     |ok x=>rfl
   ·cases hr:cT s.aC.ae p with
    |false=>rfl
    |true=>
     simp only[ι,cond_true,cond_false,atU h.m ha,γ];cases e2:oV s.aL a with
     |error x=>simp only[mf (aat e2),ν,cond_true]
     |ok x=>
      simp only[atV h.d,v193 h.m ha,γ,beq_self_eq_true,ι,cond_false]
      by_cases hh:tt s.aV x=0
      ·rw[if_pos hh,hh];simp only[show(((0:Nat):Int)==0)=true from rfl,ι,cond_false];cases e3:pb s.aL a with
       |error y=>simp only[mf (adf e3),ν,cond_true]
       |ok y=>rfl
      ·have:((tt s.aV x:Int)==0)=false:=by simp;omega
       rw[if_neg hh,this];rfl
   ·simp only[v183 h.m ha,γ];cases e2:kK s.aL a with
    |error x=>simp only[mf (Iv e2),ν,cond_true]
    |ok x=>rfl
   ·cases hr:cT s.aC.ae p with
    |false=>rfl
    |true=>
     simp only[ι,cond_true,cond_false,v194 h.i r8 ha,γ];cases e2:oZ s.aF a p with
     |error x=>simp only[mf (abu e2),ν,cond_true]
     |ok x=>rfl
   ·cases hr:cT s.aC.ae p with
    |false=>rfl
    |true=>
     simp only[ι,cond_true,cond_false,v196 h.i r8 ha,γ];cases e2:lP s.aF a with
     |error x=>simp only[mf (HK e2),ν,cond_true]
     |ok x=>
      obtain⟨h2,h3⟩:=A6 e2;simp only[atW h.i r8 ha h2 h3,γ,beq_self_eq_true,ι,cond_false]
      by_cases hh:x=p
      ·rw[if_pos hh,hh];simp
      ·have:(x==p)=false:=by simpa using hh
       rw[if_neg hh,this];rfl
   ·simp only[v196 h.i r8 ha,γ];cases e2:lP s.aF a with
    |error x=>simp only[mf (HK e2),ν,cond_true]
    |ok x=>rfl
   ·cases hr:cT s.aC.ae p with
    |false=>rfl
    |true=>
     simp only[ι,cond_true,cond_false];cases se:cT s.aC.ae a with
     |false=>rfl
     |true=>
      have aX:=(nk h.p.ord).1 se;unfold sO;simp only[atX h.i r8 (qQ h.p aX).1,γ,ι,cond_true,cond_false]
      by_cases hh:(fe s.aF a).length=4
      ·rw[if_pos hh,hh];rfl
      ·have:((fe s.aF a).length==4)=false:=by simpa using hh
       rw[if_neg hh,this];rfl
   ·cases hr:cT s.aC.ae p with
    |false=>rfl
    |true=>
     have aX:=(nk h.p.ord).1 hr;unfold sJ;simp only[v198 h.i r8 (qQ h.p aX).1,γ,ι,cond_true,cond_false];cases fe s.aF p<;>rfl
  ·rw[T.aR,decide_eq_true U,cond_true,T.aR,decide_eq_false F5,if_neg λk=>F5 k.2];rfl
 ·rw[T.aR,decide_eq_false U,if_neg λk=>U k.1];rfl
theorem v68 {s:bo} (h:im s):MU ab s=some s:=by
 show(ED ab s).val=_;unfold ED;have U:=h.p.len;have h2:=h.d.len;have h3:=h.m.len;have h4:=h.i.len;have h5:=h.lb;have hL:Lo ab s.aF.au s.aC.aQ s.aL.bE s.aC.ae s.aV s.aL.ae s.aF.aA (s.aF.au.length:Int) 0 []=some (false,(s.aF.au.length:Int),s.aF.au):=Mj h.i h5 λa=>rfl;simp only[T.bh,T.cE,T.aM,l6 (b:=32) (l:=s.aC.ae) (by omega),l6 (b:=24) (l:=s.aV) (by omega),l6 (b:=16) (l:=s.aL.ae) (by omega),l6 (b:=16) (l:=s.aF.aA) (by omega),γ,hL]
theorem amA {s:bo} (h:im s):Uf s where
 p:=WW h.p
 d:=by have:=h.d.len;unfold maxLen;omega
 i:=⟨λz hz=>(h.i.name z hz).1,by have:=h.i.len;unfold maxLen;omega,by have:=h.lb;unfold maxLen;omega⟩
theorem f11 {s:bo} (h:im s):FU ab s=some 0:=by
 rw[v11 (amA h) (v48 (WT h.m))];have:=(VC (aog h)).2 h;unfold Ma at this;rw[this];rfl
theorem v19 {s:bo} (h:im s) {c:bR} (hc:fZ c):FP ab s c=some ((jh s c).1,(jh s c).2,0):=by
 show(Eo ab s c).val=_;unfold Eo;simp only[T.bh,T.aR,T.aM,f11 h,v68 h,v67 h hc,γ];rfl
theorem aja {s:bo} (h:im s) (c:bR):((jh s c).2.db≠0/\(jh s c).1=s)\/((jh s c).2.db=0/\Step s (aI c.fArgs 0) (aI c.fArgs 1) (aI c.fArgs 2) c.bP (jh s c).1 (jh s c).2.dI/\(c.bP≠9->c.bP≠12->fg s.aC.ae (aI c.fArgs 0))):=by
 unfold jh;cases e:ry s c with
 |error x=>exact .inl ⟨V' (Vz e),rfl⟩
 |ok r=>exact .inr ⟨rfl,ahx h e⟩
noncomputable def EA (sh:Sh) (a b:ax):T (Bool):=
 .bf (a.cV !=0) (
  .ok (decide (a.cV<b.cN)))<|
 .ok false
noncomputable def wk (sh:Sh) (a b:ax):Option (Bool):=sh.s _ (EA sh a b).val
theorem atb:R2 KK (J9 shut) 38 42 42 [4] (EA shut) (b5 KK 4):=by intro R a b k;kernel_rfl
noncomputable def aiz (sh:Sh):bO SS:=eH KK 38 42 42 (wk sh) (b5 KK 4)
noncomputable def Ki (sh:Sh):ay SS:=cq (aiz sh) (J9 sh)
theorem Uv:an (Ki shut) μ:=eS Ut (an.all Ut rfl) rfl rfl atb
noncomputable def EI (sh:Sh) (d:ax):T (Bool):=
 .bf (d.b9==0) (
  .bf (decide (d.eU>=0)) (
   .bf (decide (d.eU<8)) (
    .bf (decide (d.cN>=1)) (
     .bf (d.cV==0) (
      .bf (ir d.dd (cF.mk 0 0)) (
       .ok true)<|
      .bf (!d.cV==0) (
       .ok (decide (d.cV>=d.cN)))<|
      .ok false)<|
     .bf (!d.cV==0) (
      .ok (decide (d.cV>=d.cN)))<|
     .ok false)<|
    .ok false)<|
   .ok false)<|
  .ok false)<|
 .bf (decide (d.b9>=d.cN)) (
  .bf (d.cV==0) (
   .bf (decide (d.eU>=0)) (
    .bf (decide (d.eU<8)) (
     .bf (decide (d.cN>=1)) (
      .bf (d.cV==0) (
       .bf (ir d.dd (cF.mk 0 0)) (
        .ok true)<|
       .bf (!d.cV==0) (
        .ok (decide (d.cV>=d.cN)))<|
       .ok false)<|
      .bf (!d.cV==0) (
       .ok (decide (d.cV>=d.cN)))<|
      .ok false)<|
     .ok false)<|
    .ok false)<|
   .ok false)<|
  .bf (decide (d.eU>=0)) (
   .bf (decide (d.eU<8)) (
    .bf (decide (d.cN>=1)) (
     .bf (decide (d.b9<=d.cV)) (
      .bf (d.cV==0) (
       .bf (ir d.dd (cF.mk 0 0)) (
        .ok true)<|
       .bf (!d.cV==0) (
        .ok (decide (d.cV>=d.cN)))<|
       .ok false)<|
      .bf (!d.cV==0) (
       .ok (decide (d.cV>=d.cN)))<|
      .ok false)<|
     .ok false)<|
    .ok false)<|
   .ok false)<|
  .ok false)<|
 .bf (decide (d.eU>=0)) (
  .bf (decide (d.eU<8)) (
   .bf (decide (d.cN>=1)) (
    .ok false)<|
   .ok false)<|
  .ok false)<|
 .ok false
noncomputable def MZ (sh:Sh) (d:ax):Option (Bool):=sh.s _ (EI sh d).val
theorem atl:R1 KK (Ki shut) 49 42 [4] (EI shut) (b5 KK 4):=by intro R d k;kernel_rfl
noncomputable def aiJ (sh:Sh):bO SS:=fS KK 49 42 (MZ sh) (b5 KK 4)
noncomputable def Kr (sh:Sh):ay SS:=cq (aiJ sh) (Ki sh)
theorem UB:an (Kr shut) μ:=gm Uv (an.all Uv rfl) rfl rfl atl
noncomputable def EJ (sh:Sh) (r:cF):T (Bool):=
 .bf (ir r (cF.mk 363 0)) (
  .ok true)<|
 .ok (ir r (cF.mk 364 0))
noncomputable def M0 (sh:Sh) (r:cF):Option (Bool):=sh.s _ (EJ sh r).val
theorem atm:R1 KK (Kr shut) 52 40 [4] (EJ shut) (b5 KK 4):=by intro R r k;kernel_rfl
noncomputable def aiK (sh:Sh):bO SS:=fS KK 52 40 (M0 sh) (b5 KK 4)
noncomputable def Ks (sh:Sh):ay SS:=cq (aiK sh) (Kr sh)
theorem UC:an (Ks shut) μ:=gm UB (an.all UB rfl) rfl rfl atm
noncomputable def Ew (sh:Sh) (s:bo) (d:ax):T (bo×Bool):=
 .bd (FP sh s d.ed) λz0=>
  .bf (d.cV==0) (
   .ok (z0.fst,(z0.snd.fst.db==0)))<|
  .bd (M0 sh d.dd) λy1=>
   .bf (y1) (
    .bf (z0.snd.fst.db==0) (
     .bd (nC sh z0.fst s) λz2=>
      .ok (s,!z2))<|
    .ok (s,false))<|
   .ok (z0.fst,(ir z0.snd.fst d.dd))
noncomputable def pO (sh:Sh) (s:bo) (d:ax):Option (bo×Bool):=sh.s _ (Ew sh s d).val
theorem as5:R2 KK (Ks shut) 27 60 42 [60,4] (Ew shut) (dE KK 60 4):=by intro R s d k;kernel_rfl
noncomputable def ait (sh:Sh):bO SS:=eH KK 27 60 42 (pO sh) (dE KK 60 4)
noncomputable def vx (sh:Sh):ay SS:=cq (ait sh) (Ks sh)
theorem CP:an (vx shut) μ:=eS UC (an.all UC rfl) rfl rfl as5
noncomputable def Ga (p0:List ax) (p1:Int):AS SS:=⟨[(0,(vd 22 p0)),(1,(vc 0)),(7,(vl p0)),(8,(vi p1))],[(some (.bI 88 [] [(.one (.bp 1 0))])),(bX 84 [(.v (.func (.func 49) (.mk []) (.mk [])))])],2,none,false,[],[]⟩
noncomputable def ab8 (p0:List ax):AS SS:=Ga p0 0
noncomputable def ajn (p0:List ax) (a0:Int):AS SS:= { Ga p0 a0 with env:=[(4,(vi a0))] }
noncomputable def ajo (p0:List ax) (a0:Bool) (a1:Int):AS SS:=xe [(9,(vb a0))] (Ga p0 a1)
noncomputable def Dp (sh:Sh) (p0:List ax) (p1:Int) (z0:ax) (a:Unit):T (Unit ⊕ Int ⊕ (Bool×Int)):=
 .bd (MZ sh z0) λy1=>
  .bf (!y1) (
   .ok (.inr (.inl p1)))<|
  .ok (.inl ())
noncomputable def B0 (sh:Sh) (p0:List ax) (p1:Int) (a:Unit):T (Int ⊕ (Bool×Int)):=
 .ok (.inr ((decide (p1<(↑p0.length:Int))),p1))
noncomputable def KL (sh:Sh) (p0:List ax):Option (Int ⊕ (Bool×Int)):=cS sh (Dp sh p0) (B0 sh p0) p0 ()
noncomputable def afQ {R:Type} (k:AX->AS SS->Option R) (p0:List ax) (x:Int ⊕ (Bool×Int)):Option R:=(λx=>ζ8 (λv=>k .ret (ajn p0 v)) (λv=>k (.exit 0) (ajo p0 v.1 v.2)) x) x
noncomputable def PY:bH SS:=bT 3 (λst=>((dB st 0 88).bind λ_=>Pb st 1 49).bind λ_=>(bB 22 (aZ st 0 0)).bind λp0=>some p0) (λp=>ab8 p) (λp=>KL shut p) (λk p=>afQ k p)
theorem ap':aG KK μ ⟨ζs,ar 123⟩ (bQ (a_ ζs) 3) PY:=
 aG.c6 (π:=List ax) (σ:=Unit) (an.all CP rfl) (ao.nil) rfl 60 (λp i a=>Ga p i) (λp=>p) (λp=>()) (St:=λp=>Dp shut p) (F:=λp=>B0 shut p) (λp=>rfl)
  (λm p i a k=>by kernel_rfl) (by rintro p (x|x)<;>exact⟨_,_,λ_=>rfl⟩) (λp N C A O w a hr=>dQ hr (t:=22) (sl:=0) rfl λv h=>h)
noncomputable def Gb (p0:List ax) (p1 p2:Int) (p3:List Int) (p4 p5 p6 p7 p8 p9:Int):AS SS:=⟨[(0,(vd 22 p0)),(1,(vc 0)),(7,(vl p0)),(8,(vi p9))],[(some (.bI 88 [] [(.one (.bp 1 0))])),(bX 84 [(.bI 2)]),(some (.bI 50 [] [(.one (.bp 3 0))])),(bX 42 [(li p1),(lu p2),(.cd .u64 4 p3),(li p4),(lu p5),(li p6),(li p7),(li p8)])],4,none,false,[],[]⟩
noncomputable def ab9 (p0:List ax) (p1 p2:Int) (p3:List Int) (p4 p5 p6 p7 p8:Int):AS SS:=Gb p0 p1 p2 p3 p4 p5 p6 p7 p8 0
noncomputable def ajp (p0:List ax) (p1 p2:Int) (p3:List Int) (p4 p5 p6 p7 p8 a0:Int):AS SS:= { Gb p0 p1 p2 p3 p4 p5 p6 p7 p8 p1 with env:=[(4,(vi a0))] }
noncomputable def ajq (p0:List ax) (p1 p2:Int) (p3:List Int) (p4 p5 p6 p7 p8:Int) (a0:Bool) (a1:Int):AS SS:= { Gb p0 p1 p2 p3 p4 p5 p6 p7 p8 p1 with env:=[(9,(vb a0)),(0,(vd 22 p0)),(1,(vc 0)),(7,(vl p0)),(8,(vi a1))] }
noncomputable def Dq (sh:Sh) (p0:List ax) (p1 p2:Int) (p3:List Int) (p4 p5 p6 p7 p8 p9:Int) (z0:ax) (a:Unit):T (Unit ⊕ Int ⊕ (Bool×Int)):=
 .bf (z0.eU !=p1) (
  .ok (.inl ()))<|
 .bd (wk sh z0 (ax.mk p1 (bR.mk p2 p3) (cF.mk p4 p5) p6 p7 p8)) λy1=>
  .bf (y1) (
   .ok (.inl ()))<|
  .bd (wk sh (ax.mk p1 (bR.mk p2 p3) (cF.mk p4 p5) p6 p7 p8) z0) λy2=>
   .bf (!y2) (
    .ok (.inr (.inl p9)))<|
   .ok (.inl ())
noncomputable def B1 (sh:Sh) (p0:List ax) (p1 p2:Int) (p3:List Int) (p4 p5 p6 p7 p8 p9:Int) (a:Unit):T (Int ⊕ (Bool×Int)):=
 .ok (.inr ((decide (p9<(↑p0.length:Int))),p9))
noncomputable def C5 (sh:Sh) (p0:List ax) (p1 p2:Int) (p3:List Int) (p4 p5 p6 p7 p8:Int):Option (Int ⊕ (Bool×Int)):=cS sh (Dq sh p0 p1 p2 p3 p4 p5 p6 p7 p8) (B1 sh p0 p1 p2 p3 p4 p5 p6 p7 p8) p0 ()
noncomputable def afR {R:Type} (k:AX->AS SS->Option R) (p0:List ax) (p1 p2:Int) (p3:List Int) (p4 p5 p6 p7 p8:Int) (x:Int ⊕ (Bool×Int)):Option R:=(λx=>ζ8 (λv=>k .ret (ajp p0 p1 p2 p3 p4 p5 p6 p7 p8 v)) (λv=>k (.exit 0) (ajq p0 p1 p2 p3 p4 p5 p6 p7 p8 v.1 v.2)) x) x
noncomputable def PZ:bH SS:=bT 3 (λst=>((dB st 0 88).bind λ_=>dB st 2 50).bind λ_=>(bB 22 (aZ st 0 0)).bind λp0=>(bq (bg st 3 0)).bind λp1=>(bq (bg st 3 1)).bind λp2=>(jy (bg st 3 2)).bind λp3=>(bq (bg st 3 3)).bind λp4=>(bq (bg st 3 4)).bind λp5=>(bq (bg st 3 5)).bind λp6=>(bq (bg st 3 6)).bind λp7=>(bq (bg st 3 7)).bind λp8=>some (p0,p1,p2,p3,p4,p5,p6,p7,p8)) (λp=>ab9 p.1 p.2.1 p.2.2.1 p.2.2.2.1 p.2.2.2.2.1 p.2.2.2.2.2.1 p.2.2.2.2.2.2.1 p.2.2.2.2.2.2.2.1 p.2.2.2.2.2.2.2.2) (λp=>C5 shut p.1 p.2.1 p.2.2.1 p.2.2.2.1 p.2.2.2.2.1 p.2.2.2.2.2.1 p.2.2.2.2.2.2.1 p.2.2.2.2.2.2.2.1 p.2.2.2.2.2.2.2.2) (λk p=>afR k p.1 p.2.1 p.2.2.1 p.2.2.2.1 p.2.2.2.2.1 p.2.2.2.2.2.1 p.2.2.2.2.2.2.1 p.2.2.2.2.2.2.2.1 p.2.2.2.2.2.2.2.2)
theorem aqa:aG KK μ ⟨ζs,ar 123⟩ (bQ (a_ ζs) 3) PZ:=
 aG.c6 (π:=List ax×Int×Int×List Int×Int×Int×Int×Int×Int) (σ:=Unit) (an.all CP rfl) (ao.nil) rfl 60 (λp i a=>Gb p.1 p.2.1 p.2.2.1 p.2.2.2.1 p.2.2.2.2.1 p.2.2.2.2.2.1 p.2.2.2.2.2.2.1 p.2.2.2.2.2.2.2.1 p.2.2.2.2.2.2.2.2 i) (λp=>p.1) (λp=>()) (St:=λp=>Dq shut p.1 p.2.1 p.2.2.1 p.2.2.2.1 p.2.2.2.2.1 p.2.2.2.2.2.1 p.2.2.2.2.2.2.1 p.2.2.2.2.2.2.2.1 p.2.2.2.2.2.2.2.2) (F:=λp=>B1 shut p.1 p.2.1 p.2.2.1 p.2.2.2.1 p.2.2.2.2.1 p.2.2.2.2.2.1 p.2.2.2.2.2.2.1 p.2.2.2.2.2.2.2.1 p.2.2.2.2.2.2.2.2) (λp=>rfl)
  (λm p i a k=>by kernel_rfl) (by rintro p (x|x)<;>exact⟨_,_,λ_=>rfl⟩) (λp N C A O w a hr=>dQ hr (t:=22) (sl:=0) rfl λv h=>h)
noncomputable def NS (p0:List ax) (p1:Int) (p2:List (Int×Int)):AS SS:=⟨[(1,(va 0 0)),(3,(vs (.mp 1))),(19,(vd 22 p0)),(20,(vl p0)),(21,(vi p1))],[(bX 24 [(.aU 22 p0)]),(some (.map .i64 .i64 p2))],0,none,false,[],[]⟩
noncomputable def RP (p0:List ax) (p2:List (Int×Int)):AS SS:=NS p0 0 p2
noncomputable def ake (p0:List ax):AS SS:=⟨[(2,(vi 390))],[],0,none,false,[],[]⟩
noncomputable def akf (p0:List ax) (a0:Bool) (a1:Int) (a2:List (Int×Int)):AS SS:=xe [(22,(vb a0))] (NS p0 a1 a2)
noncomputable def DD (sh:Sh) (p0:List ax) (p1:Int) (z0:ax) (a:(List (Int×Int))):T (((List (Int×Int))) ⊕ Unit ⊕ (Bool×Int×(List (Int×Int)))):=
 .bd (gq p0 none (some p1) none) λz1=>
  .gd (ab9 z1 z0.eU z0.ed.bP z0.ed.fArgs z0.dd.db z0.dd.dI z0.cN z0.b9 z0.cV)<|
   .bd (C5 sh z1 z0.eU z0.ed.bP z0.ed.fArgs z0.dd.db z0.dd.dI z0.cN z0.b9 z0.cV) λx4=> .cs x4 (λy2=>
    .bf (!!decide (y2>=0)) (
     .ok (.inr (.inl ())))<|
    .bf (z0.b9 !=0) (
     .bf (decide ((b6 (dk a z0.b9 (δ.wrap ((b6 a z0.b9).getD 0+1))) z0.b9).getD 0>1)) (
      .ok (.inr (.inl ())))<|
     .ok (.inl (dk a z0.b9 (δ.wrap ((b6 a z0.b9).getD 0+1)))))<|
    .ok (.inl (dk a z0.b9 (δ.wrap ((b6 a z0.b9).getD 0+1))))) λy2=>
    .bf (z0.b9 !=0) (
     .bf (decide ((b6 (dk a z0.b9 (δ.wrap ((b6 a z0.b9).getD 0+1))) z0.b9).getD 0>1)) (
      .ok (.inr (.inl ())))<|
     .ok (.inl (dk a z0.b9 (δ.wrap ((b6 a z0.b9).getD 0+1)))))<|
    .ok (.inl (dk a z0.b9 (δ.wrap ((b6 a z0.b9).getD 0+1))))
noncomputable def Cc (sh:Sh) (p0:List ax) (p1:Int) (a:(List (Int×Int))):T (Unit ⊕ (Bool×Int×(List (Int×Int)))):=
 .ok (.inr ((decide (p1<(↑p0.length:Int))),p1,a))
noncomputable def C' (sh:Sh) (p0:List ax) (p2:List (Int×Int)):Option (Unit ⊕ (Bool×Int×(List (Int×Int)))):=cS sh (DD sh p0) (Cc sh p0) p0 p2
noncomputable def agn {R:Type} (k:AX->AS SS->Option R) (p0:List ax) (x:Unit ⊕ (Bool×Int×(List (Int×Int)))):Option R:=(λx=>ζ8 (λv=>k .ret (ake p0)) (λv=>k (.exit 0) (akf p0 v.1 v.2.1 v.2.2)) x) x
noncomputable def Zo:bH SS:=bT 6 (λst=>(bB 22 (aZ st 19 0)).bind λp0=>(lM st 1).bind λp2=>some (p0,p2)) (λp=>RP p.1 p.2) (λp=>C' shut p.1 p.2) (λk p=>agn k p.1)
noncomputable def aeJ:ay SS:= { (vx shut) with T:=bm ((vx shut).T) 123 ⟨⟨ζs,ar 123⟩,[td (λst=>(dB st 0 88).bind λ_=>Pb st 1 49) PY (PZ)]⟩ }
theorem TK:aJ aeJ μ:=(aJ.b8 (an.all CP rfl) Tryz.func123 rfl bn λc hc=>by cases hc;exact ao.cons (ao.nil) (by kernel_rfl) (aG.alt ap' aqa))
theorem aqz:aG KK μ ⟨ηb,ar 23⟩ (bQ (a_ ηb) 6) Zo:=
 aG.c6 (π:=List ax×(List (Int×Int))) (σ:=(List (Int×Int))) TK (ao.nil) rfl 60 (λp i a=>NS p.1 i a) (λp=>p.1) (λp=>p.2) (St:=λp=>DD shut p.1) (F:=λp=>Cc shut p.1) (λp=>rfl)
  (λm p i a k=>by kernel_rfl) (by rintro p (x|x)<;>exact⟨_,_,λ_=>rfl⟩) (λp N C A O w a hr=>dQ hr (t:=22) (sl:=19) rfl λv h=>h)
noncomputable def TL:ay SS:= { (vx shut) with T:=bm (bm ((vx shut).T) 123 ⟨⟨ζs,ar 123⟩,[td (λst=>(dB st 0 88).bind λ_=>Pb st 1 49) PY (PZ)]⟩) 23 ⟨⟨ηb,ar 23⟩,[Zo]⟩ }
theorem aeK:aJ TL μ:=(aJ.b8 TK Tryz.func23 rfl bn λc hc=>by cases hc;exact ao.cons (ao.nil) (by kernel_rfl) aqz)
noncomputable def Eu (sh:Sh) (h:fA):T (Int):=
 .bf (decide ((↑h.f_.length:Int)>64)) (
  .ok 390)<|
 .gd (ab8 h.f_)<|
  .bd (KL sh h.f_) λx3=> .cs x3 (λy0=>
   .bf (!!decide (y0>=0)) (
    .ok 390)<|
   .gd (RP h.f_ [])<|
    .bd (C' sh h.f_ []) λx5=> .cs x5 (λ_=>
     .ok 390) λy1=>
     .ok 0) λy0=>
   .gd (RP h.f_ [])<|
    .bd (C' sh h.f_ []) λx5=> .cs x5 (λ_=>
     .ok 390) λy1=>
     .ok 0
noncomputable def FQ (sh:Sh) (h:fA):Option (Int):=sh.s _ (Eu sh h).val
theorem as3:R1 KK TL 23 24 [27] (Eu shut) (b5 KK 27):=by intro R h k;kernel_rfl
noncomputable def air (sh:Sh):bO SS:=fS KK 23 24 (FQ sh) (b5 KK 27)
noncomputable def CN (sh:Sh):ay SS:=cq (air sh) (vx sh)
theorem Kd:an (CN shut) μ:=gm CP aeK rfl rfl as3
noncomputable def NX (p0:List Int) (p1:List ax) (p2:List bo) (p3:Int):AS SS:=⟨[(2,(va 0 0)),(6,(vo 1)),(14,(vd 31 p0)),(15,(vl p0)),(16,(vi p3))],[(bX 24 [(.aU 22 p1)]),(rX 60 p2)],0,none,false,[],[]⟩
noncomputable def acx (p0:List Int) (p1:List ax) (p2:List bo):AS SS:=NX p0 p1 p2 0
noncomputable def akB (p0:List Int) (p1:List ax):AS SS:=⟨[(4,(vo 0)),(5,(vb false))],[(rX 60 [])],0,none,false,[],[]⟩
noncomputable def akC (p0:List Int) (p1:List ax) (a0:Bool) (a1:Int) (a2:List bo):AS SS:=xe [(17,(vb a0))] (NX p0 p1 a2 a1)
noncomputable def vH (sh:Sh) (p0:List Int) (p1:List ax) (p3 z0:Int) (a:List bo):T (List bo ⊕ Unit ⊕ (Bool×Int×List bo)):=
 .bd (idx a (δ.wrap ((↑a.length:Int)-1))) λz1=>
  .bd (a[(δ.wrap ((↑a.length:Int)-1)).toNat]?) λz2=>
   .bd (idx p1 z0) λz3=>
    .bd (pO sh z2 z3) λy4=>
     .bf (!y4.2) (
      .ok (.inr (.inl ())))<|
     .bd (nC sh y4.1 z2) λz5=>
      .bf (z5) (
       .ok (.inr (.inl ())))<|
      .bd (app 256 a [y4.1]) λz6=>
       .ok (.inl z6)
noncomputable def xY (sh:Sh) (p0:List Int) (p1:List ax) (p3:Int) (a:List bo):T (Unit ⊕ (Bool×Int×List bo)):=
 .ok (.inr ((decide (p3<(↑p0.length:Int))),p3,a))
noncomputable def Da (sh:Sh) (p0:List Int) (p1:List ax) (p2:List bo):Option (Unit ⊕ (Bool×Int×List bo)):=cS sh (vH sh p0 p1) (xY sh p0 p1) p0 p2
noncomputable def agE {R:Type} (k:AX->AS SS->Option R) (p0:List Int) (p1:List ax) (x:Unit ⊕ (Bool×Int×List bo)):Option R:=(λx=>ζ8 (λv=>k .ret (akB p0 p1)) (λv=>k (.exit 0) (akC p0 p1 v.1 v.2.1 v.2.2)) x) x
noncomputable def Zz:bH SS:=bT 4 (λst=>(bB 31 (aZ st 14 0)).bind λp0=>(bB 22 (bg st 0 0)).bind λp1=>(c9 st 1 60).bind λp2=>some (p0,p1,p2)) (λp=>acx p.1 p.2.1 p.2.2) (λp=>Da shut p.1 p.2.1 p.2.2) (λk p=>agE k p.1 p.2.1)
theorem aqN:aG KK μ ⟨ηc,ar 33⟩ (bQ (a_ ηc) 4) Zz:=
 aG.c6 (π:=List Int×List ax×List bo) (σ:=List bo) (an.all Kd rfl) (ao.nil) rfl 60 (λp i a=>NX p.1 p.2.1 a i) (λp=>p.1) (λp=>p.2.2) (St:=λp=>vH shut p.1 p.2.1) (F:=λp=>xY shut p.1 p.2.1) (λp=>rfl)
  (λm p i a k=>by kernel_rfl) (by rintro p (x|x)<;>exact⟨_,_,λ_=>rfl⟩) (λp N C A O w a hr=>dQ hr (t:=31) (sl:=14) rfl λv h=>h)
noncomputable def TS:ay SS:= { (CN shut) with T:=bm ((CN shut).T) 33 ⟨⟨ηc,ar 33⟩,[Zz]⟩ }
theorem aeR:aJ TS μ:=(aJ.b8 (an.all Kd rfl) Tryz.func33 rfl bn λc hc=>by cases hc;exact ao.cons (ao.nil) (by kernel_rfl) aqN)
noncomputable def vO (sh:Sh) (h:fA) (l:List Int):T (List bo×Bool):=
 .bd (za sh) λz0=>
  .gd (acx l h.f_ [z0])<|
   .bd (Da sh l h.f_ [z0]) λx4=> .cs x4 (λ_=>
    .ok ([],false)) λy1=>
    .ok (y1.2.2,true)
noncomputable def zc (sh:Sh) (h:fA) (l:List Int):Option (List bo×Bool):=sh.s _ (vO sh h l).val
theorem as9:R2 KK TS 33 24 31 [89,4] (vO shut) (dE KK 89 4):=by intro R h l k;kernel_rfl
noncomputable def aiw (sh:Sh):bO SS:=eH KK 33 24 31 (zc sh) (dE KK 89 4)
noncomputable def CQ (sh:Sh):ay SS:=cq (aiw sh) (CN sh)
theorem Kg:an (CQ shut) μ:=eS Kd aeR rfl rfl as9
noncomputable def GB (p0:List Int) (p1:List bo) (p2:Int) (p3:List ax) (p4 p5:Int) (p6:List Int) (p7 p8 p9 de dM nh:Int):AS SS:=⟨[(1,(vd 31 p0)),(2,(vd 89 p1)),(4,(va 0 0)),(7,(va 1 0)),(15,(vi p2)),(16,(vi nh))],[(bX 24 [(.aU 22 p3)]),(bX 42 [(li p4),(lu p5),(.cd .u64 4 p6),(li p7),(lu p8),(li p9),(li de),(li dM)])],0,none,false,[],[]⟩
noncomputable def akD (p0:List Int) (p1:List bo) (p2:Int) (p3:List ax) (p4 p5:Int) (p6:List Int) (p7 p8 p9 de dM a0:Int):AS SS:=⟨[(8,(vi a0)),(9,(vb true))],[],0,none,false,[],[]⟩
noncomputable def akE (p0:List Int) (p1:List bo) (p2:Int) (p3:List ax) (p4 p5:Int) (p6:List Int) (p7 p8 p9 de dM:Int) (a0:Bool) (a1:Int):AS SS:= { GB p0 p1 p2 p3 p4 p5 p6 p7 p8 p9 de dM p2 with env:=[(17,(vb a0)),(1,(vd 31 p0)),(2,(vd 89 p1)),(4,(va 0 0)),(7,(va 1 0)),(15,(vi p2)),(16,(vi a1))] }
noncomputable def pr (sh:Sh) (p0:List Int) (p1:List bo) (p2:Int) (p3:List ax) (p4 p5:Int) (p6:List Int) (p7 p8 p9 de dM a:Int):T (Int ⊕ Int ⊕ (Bool×Int)):=
 .bf (decide (a<p2)) (
  .bf (decide (a>0)) (
   .bd (idx p0 (δ.wrap (a-1))) λz0=>
    .bd (idx p3 z0) λz1=>
     .bf (decide (z1.b9>dM)) (
      .ok (.inl (δ.wrap (a+1))))<|
     .bf (decide (a<(↑p0.length:Int))) (
      .bd (idx p0 a) λz2=>
       .bd (idx p3 z2) λz3=>
        .bf (decide (z3.b9<p9)) (
         .ok (.inl (δ.wrap (a+1))))<|
        .bd (idx p1 a) λz4=>
         .bd (pO sh z4 (ax.mk p4 (bR.mk p5 p6) (cF.mk p7 p8) p9 de dM)) λy5=>
          .bf (y5.2) (
           .bd (idx p1 a) λz6=>
            .bd (nC sh y5.1 z6) λz7=>
             .bf (z7) (
              .ok (.inr (.inl a)))<|
             .ok (.inl (δ.wrap (a+1))))<|
          .ok (.inl (δ.wrap (a+1))))<|
     .bd (idx p1 a) λz2=>
      .bd (pO sh z2 (ax.mk p4 (bR.mk p5 p6) (cF.mk p7 p8) p9 de dM)) λy3=>
       .bf (y3.2) (
        .bd (idx p1 a) λz4=>
         .bd (nC sh y3.1 z4) λz5=>
          .bf (z5) (
           .ok (.inr (.inl a)))<|
          .ok (.inl (δ.wrap (a+1))))<|
       .ok (.inl (δ.wrap (a+1))))<|
  .bf (decide (a<(↑p0.length:Int))) (
   .bd (idx p0 a) λz0=>
    .bd (idx p3 z0) λz1=>
     .bf (decide (z1.b9<p9)) (
      .ok (.inl (δ.wrap (a+1))))<|
     .bd (idx p1 a) λz2=>
      .bd (pO sh z2 (ax.mk p4 (bR.mk p5 p6) (cF.mk p7 p8) p9 de dM)) λy3=>
       .bf (y3.2) (
        .bd (idx p1 a) λz4=>
         .bd (nC sh y3.1 z4) λz5=>
          .bf (z5) (
           .ok (.inr (.inl a)))<|
          .ok (.inl (δ.wrap (a+1))))<|
       .ok (.inl (δ.wrap (a+1))))<|
  .bd (idx p1 a) λz0=>
   .bd (pO sh z0 (ax.mk p4 (bR.mk p5 p6) (cF.mk p7 p8) p9 de dM)) λy1=>
    .bf (y1.2) (
     .bd (idx p1 a) λz2=>
      .bd (nC sh y1.1 z2) λz3=>
       .bf (z3) (
        .ok (.inr (.inl a)))<|
       .ok (.inl (δ.wrap (a+1))))<|
    .ok (.inl (δ.wrap (a+1))))<|
 .ok (.inr (.inr ((decide (a<p2)),a)))
noncomputable def Db (sh:Sh) (p0:List Int) (p1:List bo) (p2:Int) (p3:List ax) (p4 p5:Int) (p6:List Int) (p7 p8 p9 de dM nh:Int):Option (Int ⊕ (Bool×Int)):=cA sh (pr sh p0 p1 p2 p3 p4 p5 p6 p7 p8 p9 de dM) 1000000 nh
noncomputable def agF {R:Type} (k:AX->AS SS->Option R) (p0:List Int) (p1:List bo) (p2:Int) (p3:List ax) (p4 p5:Int) (p6:List Int) (p7 p8 p9 de dM:Int) (x:Int ⊕ (Bool×Int)):Option R:=(λx=>ζ8 (λv=>k .ret (akD p0 p1 p2 p3 p4 p5 p6 p7 p8 p9 de dM v)) (λv=>k (.exit 0) (akE p0 p1 p2 p3 p4 p5 p6 p7 p8 p9 de dM v.1 v.2)) x) x
noncomputable def ZA:bH SS:=bT 3 (λst=>(bB 31 (aZ st 1 0)).bind λp0=>(bB 89 (aZ st 2 0)).bind λp1=>(bq (aZ st 15 0)).bind λp2=>(bB 22 (bg st 0 0)).bind λp3=>(bq (bg st 1 0)).bind λp4=>(bq (bg st 1 1)).bind λp5=>(jy (bg st 1 2)).bind λp6=>(bq (bg st 1 3)).bind λp7=>(bq (bg st 1 4)).bind λp8=>(bq (bg st 1 5)).bind λp9=>(bq (bg st 1 6)).bind λde=>(bq (bg st 1 7)).bind λdM=>(bq (aZ st 16 0)).bind λnh=>some (p0,p1,p2,p3,p4,p5,p6,p7,p8,p9,de,dM,nh)) (λp=>GB p.1 p.2.1 p.2.2.1 p.2.2.2.1 p.2.2.2.2.1 p.2.2.2.2.2.1 p.2.2.2.2.2.2.1 p.2.2.2.2.2.2.2.1 p.2.2.2.2.2.2.2.2.1 p.2.2.2.2.2.2.2.2.2.1 p.2.2.2.2.2.2.2.2.2.2.1 p.2.2.2.2.2.2.2.2.2.2.2.1 p.2.2.2.2.2.2.2.2.2.2.2.2) (λp=>Db shut p.1 p.2.1 p.2.2.1 p.2.2.2.1 p.2.2.2.2.1 p.2.2.2.2.2.1 p.2.2.2.2.2.2.1 p.2.2.2.2.2.2.2.1 p.2.2.2.2.2.2.2.2.1 p.2.2.2.2.2.2.2.2.2.1 p.2.2.2.2.2.2.2.2.2.2.1 p.2.2.2.2.2.2.2.2.2.2.2.1 p.2.2.2.2.2.2.2.2.2.2.2.2) (λk p=>agF k p.1 p.2.1 p.2.2.1 p.2.2.2.1 p.2.2.2.2.1 p.2.2.2.2.2.1 p.2.2.2.2.2.2.1 p.2.2.2.2.2.2.2.1 p.2.2.2.2.2.2.2.2.1 p.2.2.2.2.2.2.2.2.2.1 p.2.2.2.2.2.2.2.2.2.2.1 p.2.2.2.2.2.2.2.2.2.2.2.1)
theorem aqO:aG KK μ ⟨ηd,ar 34⟩ (bQ (a_ ηd) 3) ZA:=
 aG.cA (π:=List Int×List bo×Int×List ax×Int×Int×List Int×Int×Int×Int×Int×Int×Int) (σ:=Int) (an.all Kg rfl) (ao.nil) rfl 60 (λp a=>GB p.1 p.2.1 p.2.2.1 p.2.2.2.1 p.2.2.2.2.1 p.2.2.2.2.2.1 p.2.2.2.2.2.2.1 p.2.2.2.2.2.2.2.1 p.2.2.2.2.2.2.2.2.1 p.2.2.2.2.2.2.2.2.2.1 p.2.2.2.2.2.2.2.2.2.2.1 p.2.2.2.2.2.2.2.2.2.2.2.1 a) (λp=>p.2.2.2.2.2.2.2.2.2.2.2.2) (St:=λp=>pr shut p.1 p.2.1 p.2.2.1 p.2.2.2.1 p.2.2.2.2.1 p.2.2.2.2.2.1 p.2.2.2.2.2.2.1 p.2.2.2.2.2.2.2.1 p.2.2.2.2.2.2.2.2.1 p.2.2.2.2.2.2.2.2.2.1 p.2.2.2.2.2.2.2.2.2.2.1 p.2.2.2.2.2.2.2.2.2.2.2.1) (λp=>1000000) (λp=>rfl)
  (λm p a k=>by kernel_rfl)
noncomputable def TT:ay SS:= { (CQ shut) with T:=bm ((CQ shut).T) 34 ⟨⟨ηd,ar 34⟩,[ZA]⟩ }
theorem aeS:aJ TT μ:=(aJ.b8 (an.all Kg rfl) Tryz.func34 rfl bn λc hc=>by cases hc;exact ao.cons (ao.nil) (by kernel_rfl) aqO)
noncomputable def Ez (sh:Sh) (h:fA) (l:List Int) (s:List bo) (d:ax):T (Int×Bool):=
 .gd (GB l s (δ.wrap ((↑l.length:Int)+1)) h.f_ d.eU d.ed.bP d.ed.fArgs d.dd.db d.dd.dI d.cN d.b9 d.cV 0)<|
  .bd (Db sh l s (δ.wrap ((↑l.length:Int)+1)) h.f_ d.eU d.ed.bP d.ed.fArgs d.dd.db d.dd.dI d.cN d.b9 d.cV 0) λx3=> .cs x3 (λy0=>
   .ok (y0,true)) λy0=>
   .ok (0,false)
noncomputable def MR (sh:Sh) (h:fA) (l:List Int) (s:List bo) (d:ax):Option (Int×Bool):=sh.s _ (Ez sh h l s d).val
theorem as_:R4 KK TT 34 24 31 89 42 [3,4] (Ez shut) (dE KK 3 4):=by intro R h l s d k;kernel_rfl
noncomputable def aix (sh:Sh):bO SS:=Ml KK 34 24 31 89 42 (MR sh) (dE KK 3 4)
noncomputable def CR (sh:Sh):ay SS:=cq (aix sh) (CQ sh)
theorem yc:an (CR shut) μ:=ahL Kg aeS rfl rfl as_
noncomputable def NJ (p0:Int) (p1:List Int) (p2:Int) (p3:List ax) (p4:List Bool) (p5:List Int) (p6:List ai) (p7:List aj) (p8:List aw) (p9:Int) (de:List az) (dM:List aq) (nh:Int):AS SS:=⟨[(2,(va 0 0)),(5,(va 1 0)),(6,(va 2 0)),(8,(vi p0)),(19,(vd 31 p1)),(20,(vl p1)),(21,(vi p2)),(40,(vd 22 p3)),(41,(vl p3)),(42,(vi nh))],[(bX 24 [(.aU 22 p3)]),(bX 75 [(.dW 64 p4)]),(bX 60 [(.cd .i64 16 p5),(.aU 48 p6),(.aU 51 p7),(.aU 52 p8),(lu p9),(.aU 55 de),(.aU 56 dM)])],0,none,false,[],[]⟩
noncomputable def acf (p0:Int) (p1:List Int) (p2:Int) (p3:List ax) (p4:List Bool) (p5:List Int) (p6:List ai) (p7:List aj) (p8:List aw) (p9:Int) (de:List az) (dM:List aq):AS SS:=NJ p0 p1 p2 p3 p4 p5 p6 p7 p8 p9 de dM 0
noncomputable def ajS (p0:Int) (p1:List Int) (p2:Int) (p3:List ax) (p4:List Bool) (p5:List Int) (p6:List ai) (p7:List aj) (p8:List aw) (p9:Int) (de:List az) (dM:List aq):AS SS:=⟨[(4,(vb false))],[],0,none,false,[],[]⟩
noncomputable def ajT (p0:Int) (p1:List Int) (p2:Int) (p3:List ax) (p4:List Bool) (p5:List Int) (p6:List ai) (p7:List aj) (p8:List aw) (p9:Int) (de:List az) (dM:List aq) (a0:Bool) (a1:Int):AS SS:= { NJ p0 p1 p2 p3 p4 p5 p6 p7 p8 p9 de dM p0 with env:=[(43,(vb a0)),(2,(va 0 0)),(5,(va 1 0)),(6,(va 2 0)),(8,(vi p0)),(19,(vd 31 p1)),(20,(vl p1)),(21,(vi p2)),(40,(vd 22 p3)),(41,(vl p3)),(42,(vi a1))] }
noncomputable def Dw (sh:Sh) (p0:Int) (p1:List Int) (p2:Int) (p3:List ax) (p4:List Bool) (p5:List Int) (p6:List ai) (p7:List aj) (p8:List aw) (p9:Int) (de:List az) (dM:List aq) (nh:Int) (z0:ax) (a:Unit):T (Unit ⊕ Unit ⊕ (Bool×Int)):=
 .bd (fq nh 64) λz1=>
  .bf (!iY p4 z1) (
   .bd (idx p3 p0) λz2=>
    .bd (wk sh z0 z2) λy3=>
     .bf (y3) (
      .ok (.inr (.inl ())))<|
     .ok (.inl ()))<|
  .ok (.inl ())
noncomputable def B6 (sh:Sh) (p0:Int) (p1:List Int) (p2:Int) (p3:List ax) (p4:List Bool) (p5:List Int) (p6:List ai) (p7:List aj) (p8:List aw) (p9:Int) (de:List az) (dM:List aq) (nh:Int) (a:Unit):T (Unit ⊕ (Bool×Int)):=
 .ok (.inr ((decide (nh<(↑p3.length:Int))),nh))
noncomputable def KW (sh:Sh) (p0:Int) (p1:List Int) (p2:Int) (p3:List ax) (p4:List Bool) (p5:List Int) (p6:List ai) (p7:List aj) (p8:List aw) (p9:Int) (de:List az) (dM:List aq):Option (Unit ⊕ (Bool×Int)):=cS sh (Dw sh p0 p1 p2 p3 p4 p5 p6 p7 p8 p9 de dM) (B6 sh p0 p1 p2 p3 p4 p5 p6 p7 p8 p9 de dM) p3 ()
noncomputable def af7 {R:Type} (k:AX->AS SS->Option R) (p0:Int) (p1:List Int) (p2:Int) (p3:List ax) (p4:List Bool) (p5:List Int) (p6:List ai) (p7:List aj) (p8:List aw) (p9:Int) (de:List az) (dM:List aq) (x:Unit ⊕ (Bool×Int)):Option R:=(λx=>ζ8 (λv=>k .ret (ajS p0 p1 p2 p3 p4 p5 p6 p7 p8 p9 de dM)) (λv=>k (.exit 2) (ajT p0 p1 p2 p3 p4 p5 p6 p7 p8 p9 de dM v.1 v.2)) x) x
noncomputable def P3:bH SS:=bT 12 (λst=>(bq (aZ st 8 0)).bind λp0=>(bB 31 (aZ st 19 0)).bind λp1=>(bq (aZ st 21 0)).bind λp2=>(bB 22 (aZ st 40 0)).bind λp3=>(yY (bg st 1 0)).bind λp4=>(jy (bg st 2 0)).bind λp5=>(bB 48 (bg st 2 1)).bind λp6=>(bB 51 (bg st 2 2)).bind λp7=>(bB 52 (bg st 2 3)).bind λp8=>(bq (bg st 2 4)).bind λp9=>(bB 55 (bg st 2 5)).bind λde=>(bB 56 (bg st 2 6)).bind λdM=>some (p0,p1,p2,p3,p4,p5,p6,p7,p8,p9,de,dM)) (λp=>acf p.1 p.2.1 p.2.2.1 p.2.2.2.1 p.2.2.2.2.1 p.2.2.2.2.2.1 p.2.2.2.2.2.2.1 p.2.2.2.2.2.2.2.1 p.2.2.2.2.2.2.2.2.1 p.2.2.2.2.2.2.2.2.2.1 p.2.2.2.2.2.2.2.2.2.2.1 p.2.2.2.2.2.2.2.2.2.2.2) (λp=>KW shut p.1 p.2.1 p.2.2.1 p.2.2.2.1 p.2.2.2.2.1 p.2.2.2.2.2.1 p.2.2.2.2.2.2.1 p.2.2.2.2.2.2.2.1 p.2.2.2.2.2.2.2.2.1 p.2.2.2.2.2.2.2.2.2.1 p.2.2.2.2.2.2.2.2.2.2.1 p.2.2.2.2.2.2.2.2.2.2.2) (λk p=>af7 k p.1 p.2.1 p.2.2.1 p.2.2.2.1 p.2.2.2.2.1 p.2.2.2.2.2.1 p.2.2.2.2.2.2.1 p.2.2.2.2.2.2.2.1 p.2.2.2.2.2.2.2.2.1 p.2.2.2.2.2.2.2.2.2.1 p.2.2.2.2.2.2.2.2.2.2.1 p.2.2.2.2.2.2.2.2.2.2.2)
theorem aa9:aG KK μ ⟨ζh,ar 17⟩ (bQ (a_ ζh) 12) P3:=
 aG.c6 (π:=Int×List Int×Int×List ax×List Bool×List Int×List ai×List aj×List aw×Int×List az×List aq) (σ:=Unit) (an.all yc rfl) (ao.nil) rfl 60 (λp i a=>NJ p.1 p.2.1 p.2.2.1 p.2.2.2.1 p.2.2.2.2.1 p.2.2.2.2.2.1 p.2.2.2.2.2.2.1 p.2.2.2.2.2.2.2.1 p.2.2.2.2.2.2.2.2.1 p.2.2.2.2.2.2.2.2.2.1 p.2.2.2.2.2.2.2.2.2.2.1 p.2.2.2.2.2.2.2.2.2.2.2 i) (λp=>p.2.2.2.1) (λp=>()) (St:=λp=>Dw shut p.1 p.2.1 p.2.2.1 p.2.2.2.1 p.2.2.2.2.1 p.2.2.2.2.2.1 p.2.2.2.2.2.2.1 p.2.2.2.2.2.2.2.1 p.2.2.2.2.2.2.2.2.1 p.2.2.2.2.2.2.2.2.2.1 p.2.2.2.2.2.2.2.2.2.2.1 p.2.2.2.2.2.2.2.2.2.2.2) (F:=λp=>B6 shut p.1 p.2.1 p.2.2.1 p.2.2.2.1 p.2.2.2.2.1 p.2.2.2.2.2.1 p.2.2.2.2.2.2.1 p.2.2.2.2.2.2.2.1 p.2.2.2.2.2.2.2.2.1 p.2.2.2.2.2.2.2.2.2.1 p.2.2.2.2.2.2.2.2.2.2.1 p.2.2.2.2.2.2.2.2.2.2.2) (λp=>rfl)
  (λm p i a k=>by kernel_rfl) (by rintro p (x|x)<;>exact⟨_,_,λ_=>rfl⟩) (λp N C A O w a hr=>dQ hr (t:=22) (sl:=40) rfl λv h=>h)
noncomputable def NL (p0:List Int) (p1:List ax) (p2:List Int) (p3:List ai) (p4:List aj) (p5:List aw) (p6:Int) (p7:List az) (p8:List aq) (p9:Int) (de:List Bool):AS SS:=⟨[(2,(va 0 0)),(5,(va 1 0)),(6,(va 2 0)),(19,(vd 31 p0)),(20,(vl p0)),(21,(vi p9))],[(bX 24 [(.aU 22 p1)]),(bX 75 [(.dW 64 de)]),(bX 60 [(.cd .i64 16 p2),(.aU 48 p3),(.aU 51 p4),(.aU 52 p5),(lu p6),(.aU 55 p7),(.aU 56 p8)])],0,none,false,[],[]⟩
noncomputable def ach (p0:List Int) (p1:List ax) (p2:List Int) (p3:List ai) (p4:List aj) (p5:List aw) (p6:Int) (p7:List az) (p8:List aq) (de:List Bool):AS SS:=NL p0 p1 p2 p3 p4 p5 p6 p7 p8 0 de
noncomputable def ajW (p0:List Int) (p1:List ax):AS SS:=⟨[(4,(vb false))],[],0,none,false,[],[]⟩
noncomputable def ajX (p0:List Int) (p1:List ax) (a0:Bool) (a1:Int) (a2:List Bool) (a3:List Int) (a4:List ai) (a5:List aj) (a6:List aw) (a7:Int) (a8:List az) (a9:List aq):AS SS:=xe [(22,(vb a0))] (NL p0 p1 a3 a4 a5 a6 a7 a8 a9 a1 a2)
noncomputable def vD (sh:Sh) (p0:List Int) (p1:List ax) (p9 z0:Int) (a:List Bool×List Int×List ai×List aj×List aw×Int×List az×List aq):T ((List Bool×List Int×List ai×List aj×List aw×Int×List az×List aq) ⊕ Unit ⊕ (Bool×Int×List Bool×List Int×List ai×List aj×List aw×Int×List az×List aq)):=
 .bf (decide (z0<0)) (
  .ok (.inr (.inl ())))<|
 .bf (decide (z0>=(↑p1.length:Int))) (
  .ok (.inr (.inl ())))<|
 .bd (fq z0 64) λz1=>
  .bf (iY a.1 z1) (
   .ok (.inr (.inl ())))<|
  .gd (acf z0 p0 p9 p1 a.1 a.2.1 a.2.2.1 a.2.2.2.1 a.2.2.2.2.1 a.2.2.2.2.2.1 a.2.2.2.2.2.2.1 a.2.2.2.2.2.2.2)<|
   .bd (KW sh z0 p0 p9 p1 a.1 a.2.1 a.2.2.1 a.2.2.2.1 a.2.2.2.2.1 a.2.2.2.2.2.1 a.2.2.2.2.2.2.1 a.2.2.2.2.2.2.2) λx4=> .cs x4 (λ_=>
    .ok (.inr (.inl ()))) λy2=>
    .bd (idx p1 z0) λz3=>
     .bd (pO sh (bo.mk (bS.mk a.2.1 a.2.2.1) a.2.2.2.1 (cp.mk a.2.2.2.2.1 a.2.2.2.2.2.1) (aP.mk a.2.2.2.2.2.2.1 a.2.2.2.2.2.2.2)) z3) λy4=>
      .bf (!y4.2) (
       .ok (.inr (.inl ())))<|
      .bd (fq z0 64) λz5=>
       .bf (a.1.length.beq 64) (
        .ok (.inl ((a.1.set z5 true),y4.1.aC.aQ,y4.1.aC.ae,y4.1.aV,y4.1.aL.ae,y4.1.aL.bE,y4.1.aF.aA,y4.1.aF.au)))<|
       .no
noncomputable def xW (sh:Sh) (p0:List Int) (p1:List ax) (p9:Int) (a:List Bool×List Int×List ai×List aj×List aw×Int×List az×List aq):T (Unit ⊕ (Bool×Int×List Bool×List Int×List ai×List aj×List aw×Int×List az×List aq)):=
 .ok (.inr ((decide (p9<(↑p0.length:Int))),p9,a.1,a.2.1,a.2.2.1,a.2.2.2.1,a.2.2.2.2.1,a.2.2.2.2.2.1,a.2.2.2.2.2.2.1,a.2.2.2.2.2.2.2))
noncomputable def C_ (sh:Sh) (p0:List Int) (p1:List ax) (p2:List Int) (p3:List ai) (p4:List aj) (p5:List aw) (p6:Int) (p7:List az) (p8:List aq) (de:List Bool):Option (Unit ⊕ (Bool×Int×List Bool×List Int×List ai×List aj×List aw×Int×List az×List aq)):=cS sh (vD sh p0 p1) (xW sh p0 p1) p0 (de,p2,p3,p4,p5,p6,p7,p8)
noncomputable def af9 {R:Type} (k:AX->AS SS->Option R) (p0:List Int) (p1:List ax) (x:Unit ⊕ (Bool×Int×List Bool×List Int×List ai×List aj×List aw×Int×List az×List aq)):Option R:=(λx=>ζ8 (λv=>k .ret (ajW p0 p1)) (λv=>k (.exit 0) (ajX p0 p1 v.1 v.2.1 v.2.2.1 v.2.2.2.1 v.2.2.2.2.1 v.2.2.2.2.2.1 v.2.2.2.2.2.2.1 v.2.2.2.2.2.2.2.1 v.2.2.2.2.2.2.2.2.1 v.2.2.2.2.2.2.2.2.2)) x) x
noncomputable def Zf:bH SS:=oQ (λst=>gc (ar 17 7) (om 1 (st)))<|bT 7 (λst=>(bB 31 (aZ st 19 0)).bind λp0=>(bB 22 (bg st 0 0)).bind λp1=>(jy (bg st 2 0)).bind λp2=>(bB 48 (bg st 2 1)).bind λp3=>(bB 51 (bg st 2 2)).bind λp4=>(bB 52 (bg st 2 3)).bind λp5=>(bq (bg st 2 4)).bind λp6=>(bB 55 (bg st 2 5)).bind λp7=>(bB 56 (bg st 2 6)).bind λp8=>(yY (bg st 1 0)).bind λde=>some (p0,p1,p2,p3,p4,p5,p6,p7,p8,de)) (λp=>ach p.1 p.2.1 p.2.2.1 p.2.2.2.1 p.2.2.2.2.1 p.2.2.2.2.2.1 p.2.2.2.2.2.2.1 p.2.2.2.2.2.2.2.1 p.2.2.2.2.2.2.2.2.1 p.2.2.2.2.2.2.2.2.2) (λp=>C_ shut p.1 p.2.1 p.2.2.1 p.2.2.2.1 p.2.2.2.2.1 p.2.2.2.2.2.1 p.2.2.2.2.2.2.1 p.2.2.2.2.2.2.2.1 p.2.2.2.2.2.2.2.2.1 p.2.2.2.2.2.2.2.2.2) (λk p=>af9 k p.1 p.2.1)
theorem aqm:aG KK μ ⟨ζh,ar 17⟩ (bQ (a_ ζh) 7) Zf:=aG.pre (dA.comp (dA.gc (ar 17 7)) (dA.om 1))<|
 aG.c6 (I:=⟨⟨ζh,ar 17⟩,[P3]⟩) (π:=List Int×List ax×List Int×List ai×List aj×List aw×Int×List az×List aq×List Bool) (σ:=List Bool×List Int×List ai×List aj×List aw×Int×List az×List aq) (an.all yc rfl) (ao.cons (ao.nil) (by kernel_rfl) aa9) rfl 60 (λp i a=>NL p.1 p.2.1 a.2.1 a.2.2.1 a.2.2.2.1 a.2.2.2.2.1 a.2.2.2.2.2.1 a.2.2.2.2.2.2.1 a.2.2.2.2.2.2.2 i a.1) (λp=>p.1) (λp=>(p.2.2.2.2.2.2.2.2.2,p.2.2.1,p.2.2.2.1,p.2.2.2.2.1,p.2.2.2.2.2.1,p.2.2.2.2.2.2.1,p.2.2.2.2.2.2.2.1,p.2.2.2.2.2.2.2.2.1)) (St:=λp=>vD shut p.1 p.2.1) (F:=λp=>xW shut p.1 p.2.1) (λp=>rfl)
  (λm p i a k=>by kernel_rfl) (by rintro p (x|x)<;>exact⟨_,_,λ_=>rfl⟩) (λp N C A O w a hr=>dQ hr (t:=31) (sl:=19) rfl λv h=>h)
noncomputable def NK (p0:List ax) (p1:List Bool) (p2:Int):AS SS:=⟨[(5,(va 0 0)),(78,(vd 22 p0)),(79,(vl p0)),(80,(vi p2))],[(bX 75 [(.dW 64 p1)])],0,none,false,[],[]⟩
noncomputable def acg (p0:List ax) (p1:List Bool):AS SS:=NK p0 p1 0
noncomputable def ajU (p0:List ax) (p1:List Bool):AS SS:=⟨[(4,(vb false))],[],0,none,false,[],[]⟩
noncomputable def ajV (p0:List ax) (p1:List Bool) (a0:Bool) (a1:Int):AS SS:=xe [(81,(vb a0))] (NK p0 p1 a1)
noncomputable def Dx (sh:Sh) (p0:List ax) (p1:List Bool) (p2:Int) (z0:ax) (a:Unit):T (Unit ⊕ Unit ⊕ (Bool×Int)):=
 .bf (z0.cV !=0) (
  .bd (fq p2 64) λz1=>
   .bf (!iY p1 z1) (
    .ok (.inr (.inl ())))<|
   .ok (.inl ()))<|
 .ok (.inl ())
noncomputable def B7 (sh:Sh) (p0:List ax) (p1:List Bool) (p2:Int) (a:Unit):T (Unit ⊕ (Bool×Int)):=
 .ok (.inr ((decide (p2<(↑p0.length:Int))),p2))
noncomputable def KX (sh:Sh) (p0:List ax) (p1:List Bool):Option (Unit ⊕ (Bool×Int)):=cS sh (Dx sh p0 p1) (B7 sh p0 p1) p0 ()
noncomputable def af8 {R:Type} (k:AX->AS SS->Option R) (p0:List ax) (p1:List Bool) (x:Unit ⊕ (Bool×Int)):Option R:=(λx=>ζ8 (λv=>k .ret (ajU p0 p1)) (λv=>k (.exit 4) (ajV p0 p1 v.1 v.2)) x) x
noncomputable def Ze:bH SS:=bT 23 (λst=>(bB 22 (aZ st 78 0)).bind λp0=>(yY (bg st 0 0)).bind λp1=>some (p0,p1)) (λp=>acg p.1 p.2) (λp=>KX shut p.1 p.2) (λk p=>af8 k p.1 p.2)
theorem aql:aG KK μ ⟨ζh,ar 17⟩ (bQ (a_ ζh) 23) Ze:=
 aG.c6 (π:=List ax×List Bool) (σ:=Unit) (an.all yc rfl) (ao.nil) rfl 60 (λp i a=>NK p.1 p.2 i) (λp=>p.1) (λp=>()) (St:=λp=>Dx shut p.1 p.2) (F:=λp=>B7 shut p.1 p.2) (λp=>rfl)
  (λm p i a k=>by kernel_rfl) (by rintro p (x|x)<;>exact⟨_,_,λ_=>rfl⟩) (λp N C A O w a hr=>dQ hr (t:=22) (sl:=78) rfl λv h=>h)
noncomputable def TD:ay SS:= { (CR shut) with T:=bm ((CR shut).T) 17 ⟨⟨ζh,ar 17⟩,[P3,Zf,Ze]⟩ }
theorem aeD:aJ TD μ:=(aJ.b8 (an.all yc rfl) Tryz.func17 rfl bn λc hc=>by cases hc;exact ao.cons (ao.cons (ao.cons (ao.nil) (by kernel_rfl) aql) (by kernel_rfl) aqm) (by kernel_rfl) aa9)
noncomputable def vN (sh:Sh) (h:fA) (order:List Int):T (Bool):=
 .bd (FQ sh h) λy0=>
  .bf (y0 !=0) (
   .ok false)<|
  .bd (za sh) λz1=>
   .gd (ach order h.f_ z1.aC.aQ z1.aC.ae z1.aV z1.aL.ae z1.aL.bE z1.aF.aA z1.aF.au [false,false,false,false,false,false,false,false,false,false,false,false,false,false,false,false,false,false,false,false,false,false,false,false,false,false,false,false,false,false,false,false,false,false,false,false,false,false,false,false,false,false,false,false,false,false,false,false,false,false,false,false,false,false,false,false,false,false,false,false,false,false,false,false])<|
    .bd (C_ sh order h.f_ z1.aC.aQ z1.aC.ae z1.aV z1.aL.ae z1.aL.bE z1.aF.aA z1.aF.au [false,false,false,false,false,false,false,false,false,false,false,false,false,false,false,false,false,false,false,false,false,false,false,false,false,false,false,false,false,false,false,false,false,false,false,false,false,false,false,false,false,false,false,false,false,false,false,false,false,false,false,false,false,false,false,false,false,false,false,false,false,false,false,false]) λx5=> .cs x5 (λ_=>
     .ok false) λy2=>
     .gd (acg h.f_ y2.2.2.1)<|
      .bd (KX sh h.f_ y2.2.2.1) λx7=> .cs x7 (λ_=>
       .ok false) λy3=>
       .ok true
noncomputable def tD (sh:Sh) (h:fA) (order:List Int):Option (Bool):=sh.s _ (vN sh h order).val
theorem asS:R2 KK TD 17 24 31 [4] (vN shut) (b5 KK 4):=by intro R h order k;kernel_rfl
noncomputable def aie (sh:Sh):bO SS:=eH KK 17 24 31 (tD sh) (b5 KK 4)
noncomputable def Ur (sh:Sh):ay SS:=cq (aie sh) (CR sh)
theorem afr:an (Ur shut) μ:=eS yc aeD rfl rfl asS
end Go.Proofs.YtoggponeookhbaaGreatDoor
end
section
namespace Go.Vx
open Go.RowKit Go.Dc
section
variable {S:bL} {P:Program}
def Pc (st:AS S) (j t e:Nat):Option (List (Option (List (S.El e)))):=match aH st.h j with
 |some (.dH t' e' cm)=>bif Nat.beq t' t then(match Nat.decEq e' e with| .isTrue p=>some (p▸cm)| .isFalse _=>none) else none
 |_=>none
def Wh (G:ay S) (f:Nat) (p:Rs S->Bool):iM S:=⟨f,λava h k=>kQ G 100 f ava h λr h' dt=>bif p r then k r h' dt else none⟩
theorem alV {G:ay S} (hG:aJ G P) {f:Nat} {p:Rs S->Bool} {R:Type} (ava:List (aD S)) (h:AH S) (k:Rs S->AH S->List Nat->Option R) (z:R) (hz:(Wh G f p).out ava h k=some z): ∃r h' dt,k r h' dt=some z/\ic G.K P f ava h r h' dt:=by
 obtain⟨r,h',dt,U,h2⟩:=EX hG hz;cases hp:p r<;>rw[hp] at U
 ·cases U
 ·exact⟨r,h',dt,U,h2⟩
def RG (G:ay S) (f:Nat) (ava:List (aD S)):Option Int:=kQ G 100 f ava [] λr _ _=>match r with| .ret (.s (.one (.v (.int .i64 x))))=>some x|_=>none
theorem arB {G:ay S} (hG:aJ G P) {f:Nat} {xs:List (aD S)} {x:Int} (hp:xs.all aD.pure=true) (h:RG G f xs=some x):gH G.K P f xs (.ret (.s (.one (.v (.int .i64 x))))):=by
 obtain⟨r,h',dt,U,h2⟩:=EX hG h;split at U
 ·cases U;obtain⟨r',h3,h4⟩:=gH.QK hG.K hp h2 (k:=λr=>some (ULift.up.{0} r).down) (z:= .ret (.s (.one (.v (.int .i64 x))))) rfl;cases h3;exact h4
 ·cases U
theorem an.frz {G:ay S} (h:an G P) (F:List Nat):an { G with F:=F } P:=⟨h.K,⟨h.C.C⟩,h.H,h.D,h.M,h.N⟩
def ao0:Rs S->Bool
 | .ret (.s (.one (.v (.int _ (.ofNat _)))))=>true
 |_=>false
end
end Go.Vx
end
section
namespace Go.Proofs.YtoggponeookhbaaGreatDoor
open Go.RowKit Go.Dc Go.Vx
def noH (f:Nat):iM SS:=⟨f,λ_ _ _=>none⟩
noncomputable def noG (sh:Sh) (l:List Nat):ay SS:=l.foldr (λf G=> { G with H:=noH f::G.H }) (Ur sh)
theorem aai: ∀l:List Nat,an (noG shut l) μ
 |[]=>afr
 |f::l=>an.mS (c:=noH f) (aai l) λ_ _ _ _ h=>by cases h
noncomputable def Jz (sh:Sh):ay SS:=noG sh [95,131,132,133,134,135,136,137]
noncomputable def Fc (f:Nat):iM SS:=Wh G0 f ao0
theorem VK {G:ay SS} (h:an G μ) (hk:G.K=KK) (f:Nat):an { G with H:=Fc f::G.H } μ:=an.mS (c:=Fc f) h λxs hh k z hz=>by
 rw[hk];exact alV (an.all Jv rfl) xs hh k z hz
noncomputable def JA (sh:Sh):ay SS:= { Jz sh with H:=Fc 57::(Jz sh).H }
noncomputable def JB (sh:Sh):ay SS:= { JA sh with H:=Fc 36::(JA sh).H }
theorem afn:an (JB shut) μ:=VK (G:=JA shut) (VK (G:=Jz shut) (aai _) rfl 57) rfl 36
noncomputable def Fv (sh:Sh) (x:Int):Option Int:=sh.s _ (RG G0 139 [KK.bA 35 x])
noncomputable def ahU (sh:Sh):bO SS:=kR KK 139 [35] (λ{R} xs k=>match xs with| .cons x .nil=>(Fv sh x).bind (λr=>k (.ret (.s (KK.bA 3 r)))))
noncomputable def n8 (sh:Sh):ay SS:= { JB sh with C:=ahU sh::(JB sh).C }
theorem JD:an (n8 shut) μ:=an.l_ afn λxs k z hp hz=>Ff eP (λ{R} xs k z h=>by
 match xs,h with
 | .cons x .nil,h=>
  obtain⟨r,U,h2⟩:=bind_some h;have U:shut.s _ (RG G0 139 [KK.bA 35 x])=some r:=U;rw[sP] at U;exact⟨_,h2,arB (an.all Jv rfl) rfl U⟩) xs k z hp hz
noncomputable def NW (p0:List ax) (p1:Int) (p2:List Int):AS SS:=⟨[(1,(va 0 0)),(3,(vo 1)),(7,(vd 22 p0)),(8,(vl p0)),(9,(vi p1))],[(bX 24 [(.aU 22 p0)]),(rX 3 p2)],0,none,false,[],[]⟩
noncomputable def acw (p0:List ax) (p2:List Int):AS SS:=NW p0 0 p2
noncomputable def akA (p0:List ax) (a0:Bool) (a1:Int) (a2:List Int):AS SS:=xe [(10,(vb a0))] (NW p0 a1 a2)
noncomputable def DL (sh:Sh) (p0:List ax) (p1:Int) (z0:ax) (a:List Int):T (List Int ⊕ (Bool×Int×List Int)):=
 .bf (z0.b9 !=0) (
  .bd (app 8 a [p1]) λz1=>
   .ok (.inl z1))<|
 .ok (.inl a)
noncomputable def Cj (sh:Sh) (p0:List ax) (p1:Int) (a:List Int):T ((Bool×Int×List Int)):=
 .ok ((decide (p1<(↑p0.length:Int))),p1,a)
noncomputable def Ln (sh:Sh) (p0:List ax) (p2:List Int):Option ((Bool×Int×List Int)):=cS sh (DL sh p0) (Cj sh p0) p0 p2
noncomputable def agD {R:Type} (k:AX->AS SS->Option R) (p0:List ax) (x:(Bool×Int×List Int)):Option R:=(λv=>k (.exit 0) (akA p0 v.1 v.2.1 v.2.2)) x
noncomputable def AW:bH SS:=bT 4 (λst=>(bB 22 (aZ st 7 0)).bind λp0=>(c9 st 1 3).bind λp2=>some (p0,p2)) (λp=>acw p.1 p.2) (λp=>Ln shut p.1 p.2) (λk p=>agD k p.1)
theorem aqM:aG KK μ ⟨ζE,ar 32⟩ (bQ (a_ ζE) 4) AW:=
 aG.c6 (π:=List ax×List Int) (σ:=List Int) (an.all JD rfl) (ao.nil) rfl 60 (λp i a=>NW p.1 i a) (λp=>p.1) (λp=>p.2) (St:=λp=>DL shut p.1) (F:=λp=>Cj shut p.1) (λp=>rfl)
  (λm p i a k=>by kernel_rfl) (λp x=>⟨_,_,λ_=>rfl⟩) (λp N C A O w a hr=>dQ hr (t:=22) (sl:=7) rfl λv h=>h)
noncomputable def zR (p0:Int) (p1:List Int) (p2:List ax):AS SS:=⟨[(0,(vo 0)),(1,(vi 0)),(2,(vl p1)),(3,(vc 1)),(8,(vi p0)),(9,(vi p0))],[(rX 3 p1),(some (.bI 57 [] [(.one (.bp 2 0))])),(bX 24 [(.aU 22 p2)])],3,none,false,[],[]⟩
noncomputable def alh (p0:Int) (p1:List Int) (p2:List ax) (a0 a1 a2:Int):AS SS:=xe [(34,(vb false)),(33,(vb false)),(21,(vb true)),(32,(vi a0)),(21,(vb true)),(31,(vi a1)),(21,(vb true)),(30,(vs (.fl 3 0 ((δ.wrap (p0-1)).toNat) 0))),(21,(vb true)),(29,(vi (δ.wrap (p0-1)))),(21,(vb true)),(28,(vi p0)),(21,(vb true)),(27,(vo 0)),(21,(vb true)),(26,(vi a2)),(21,(vb true)),(25,(vs (.fl 3 0 p0.toNat 0))),(21,(vb true)),(24,(vi p0)),(21,(vb true)),(23,(vo 0)),(21,(vb true)),(22,(vc 1)),(21,(vb true)),(21,(vb (decide (p0>0)))),(20,(vb (decide (p0>0)))),(19,(vi 0)),(18,(vi p0))] (zR p0 p1 p2)
noncomputable def ali (p0:Int) (p1:List Int) (p2:List ax):AS SS:=xe [(34,(vb false)),(33,(.bD [])),(21,(vb false)),(32,(.bD [])),(21,(vb false)),(31,(.bD [])),(21,(vb false)),(30,(.bD [])),(21,(vb false)),(29,(.bD [])),(21,(vb false)),(28,(.bD [])),(21,(vb false)),(27,(.bD [])),(21,(vb false)),(26,(.bD [])),(21,(vb false)),(25,(.bD [])),(21,(vb false)),(24,(.bD [])),(21,(vb false)),(23,(.bD [])),(21,(vb false)),(22,(.bD [])),(21,(vb false)),(21,(vb (decide (p0>0)))),(20,(vb (decide (p0>0)))),(19,(vi 0)),(18,(vi p0))] (zR p0 p1 p2)
noncomputable def DR (sh:Sh) (p0:Int) (p1:List Int) (p2:List ax) (a:Unit):T (Unit ⊕ (Int×Int×Int) ⊕ Unit):=
 .bf (decide (p0>0)) (
  .bd (idx p1 p0) λz0=>
   .bd (p1[p0.toNat]?) λz1=>
    .bd (idx p1 (δ.wrap (p0-1))) λz2=>
     .bd (p1[(δ.wrap (p0-1)).toNat]?) λz3=>
      .bd (idx p2 z1) λz4=>
       .bd (idx p2 z3) λz5=>
        .bf (z4.b9 !=z4.b9) (
         .bf (z5.b9 !=z5.b9) (
          .ok (.inr (.inl (0,z3,z1))))<|
         .no)<|
        .bf (z5.b9 !=z5.b9) (
         .ok (.inr (.inl (1,z3,z1))))<|
        .bf (decide (z4.b9<z5.b9)) (
         .no)<|
        .bf (decide (z4.b9>z5.b9)) (
         .ok (.inr (.inl (1,z3,z1))))<|
        .ok (.inr (.inl (0,z3,z1))))<|
 .ok (.inr (.inr ()))
noncomputable def Lz (sh:Sh) (p0:Int) (p1:List Int) (p2:List ax):Option ((Int×Int×Int) ⊕ Unit):=cA sh (DR sh p0 p1 p2) 1000000 ()
noncomputable def ag4 {R:Type} (k:AX->AS SS->Option R) (p0:Int) (p1:List Int) (p2:List ax) (x:(Int×Int×Int) ⊕ Unit):Option R:=(λx=>ζ8 (λv=>k (.exit 2) (alh p0 p1 p2 v.1 v.2.1 v.2.2)) (λv=>k (.exit 2) (ali p0 p1 p2)) x) x
noncomputable def HH:bH SS:=bT 5 (λst=>(dB st 1 57).bind λ_=>(bq (aZ st 8 0)).bind λp0=>(c9 st 0 3).bind λp1=>(bB 22 (bg st 2 0)).bind λp2=>some (p0,p1,p2)) (λp=>zR p.1 p.2.1 p.2.2) (λp=>Lz shut p.1 p.2.1 p.2.2) (λk p=>ag4 k p.1 p.2.1 p.2.2)
noncomputable def aeN:ay SS:= { (n8 shut) with T:=bm ((n8 shut).T) 32 ⟨⟨ζE,ar 32⟩,[AW]⟩ }
theorem TN:aJ aeN μ:=(aJ.b8 (an.all JD rfl) Tryz.func32 rfl bn λc hc=>by cases hc;exact ao.cons (ao.nil) (by kernel_rfl) aqM)
theorem abd:aG KK μ ⟨ξk,ar 94⟩ (bQ (a_ ξk) 5) HH:=
 aG.cA (π:=Int×List Int×List ax) (σ:=Unit) TN (ao.nil) rfl 60 (λp a=>zR p.1 p.2.1 p.2.2) (λp=>()) (St:=λp=>DR shut p.1 p.2.1 p.2.2) (λp=>1000000) (λp=>rfl)
  (λm p a k=>by kernel_rfl)
noncomputable def GP (p0:List Int) (p1:List ax) (p2:Int):AS SS:=⟨[(0,(vo 0)),(1,(vi 0)),(2,(vl p0)),(3,(vc 1)),(8,(vi p2))],[(rX 3 p0),(some (.bI 57 [] [(.one (.bp 2 0))])),(bX 24 [(.aU 22 p1)])],3,none,false,[],[]⟩
noncomputable def ale (p0:List Int) (p1:List ax) (a0:Bool) (a1:Int):AS SS:=xe [(14,(vb a0)),(13,(vl p0)),(12,(vi a1))] (GP p0 p1 a1)
noncomputable def yA (sh:Sh) (p0:List Int) (p1:List ax) (a:Int):T (Int ⊕ (Bool×Int)):=
 .bf (decide (a<(↑p0.length:Int))) (
  .gd (zR a p0 p1)<|
   .bd (Lz sh a p0 p1) λx4=> .cs x4 (λy0=>
    .ok (.inl (δ.wrap (a+1)))) λ_=>
    .ok (.inl (δ.wrap (a+1))))<|
 .ok (.inr ((decide (a<(↑p0.length:Int))),a))
noncomputable def Lx (sh:Sh) (p0:List Int) (p1:List ax) (p2:Int):Option ((Bool×Int)):=cA sh (yA sh p0 p1) 1000000 p2
noncomputable def ag2 {R:Type} (k:AX->AS SS->Option R) (p0:List Int) (p1:List ax) (x:(Bool×Int)):Option R:=(λv=>k (.exit 0) (ale p0 p1 v.1 v.2)) x
noncomputable def Qf:bH SS:=bT 2 (λst=>(dB st 1 57).bind λ_=>(c9 st 0 3).bind λp0=>(bB 22 (bg st 2 0)).bind λp1=>(bq (aZ st 8 0)).bind λp2=>some (p0,p1,p2)) (λp=>GP p.1 p.2.1 p.2.2) (λp=>Lx shut p.1 p.2.1 p.2.2) (λk p=>ag2 k p.1 p.2.1)
noncomputable def aeO:ay SS:= { (n8 shut) with T:=bm ((n8 shut).T) 32 ⟨⟨ζE,ar 32⟩,[AW]⟩ }
theorem TO:aJ aeO μ:=TN
theorem aq7:aG KK μ ⟨ξk,ar 94⟩ (bQ (a_ ξk) 2) Qf:=
 aG.cA (I:=⟨⟨ξk,ar 94⟩,[HH]⟩) (π:=List Int×List ax×Int) (σ:=Int) TO (ao.cons (ao.nil) (by kernel_rfl) abd) rfl 60 (λp a=>GP p.1 p.2.1 a) (λp=>p.2.2) (St:=λp=>yA shut p.1 p.2.1) (λp=>1000000) (λp=>rfl)
  (λm p a k=>by kernel_rfl)
noncomputable def GO (p0:Int) (p1:List Int) (p2:List ax):AS SS:=⟨[(0,(vo 0)),(1,(vi 0)),(2,(vl p1)),(3,(vi p0)),(4,(vc 1)),(10,(vb true)),(11,(vb true))],[(rX 3 p1),(some (.bI 57 [] [(.one (.bp 2 0))])),(bX 24 [(.aU 22 p2)])],3,none,false,[],[]⟩
noncomputable def alc (p0:Int) (p1:List Int) (p2:List ax):AS SS:= { GO p0 p1 p2 with env:=[] }
noncomputable def LN (sh:Sh) (p0:Int) (p1:List Int) (p2:List ax) (a:Unit):T (Unit ⊕ Unit):=
 .bf (decide (δ.wrap ((↑p1.length:Int)-0)<=12)) (
  .gd (GP p1 p2 1)<|
   .bd (Lx sh p1 p2 1) λy0=>
    .ok (.inr ()))<|
 .bf (p0==0) (
  .no)<|
 .no
noncomputable def Lw (sh:Sh) (p0:Int) (p1:List Int) (p2:List ax):Option (Unit):=cA sh (LN sh p0 p1 p2) 1000000 ()
noncomputable def ag0 {R:Type} (k:AX->AS SS->Option R) (p0:Int) (p1:List Int) (p2:List ax) (x:Unit):Option R:=(λv=>k .ret (alc p0 p1 p2)) x
noncomputable def ZM:bH SS:=bT 3 (λst=>(dB st 1 57).bind λ_=>(bq (aZ st 3 0)).bind λp0=>(c9 st 0 3).bind λp1=>(bB 22 (bg st 2 0)).bind λp2=>some (p0,p1,p2)) (λp=>GO p.1 p.2.1 p.2.2) (λp=>Lw shut p.1 p.2.1 p.2.2) (λk p=>ag0 k p.1 p.2.1 p.2.2)
noncomputable def aeP:ay SS:= { (n8 shut) with T:=bm (bm ((n8 shut).T) 32 ⟨⟨ζE,ar 32⟩,[AW]⟩) 94 ⟨⟨ξk,ar 94⟩,[HH,Qf]⟩ }
theorem TP:aJ aeP μ:=(aJ.b8 TO ζz rfl bn λc hc=>by cases hc;exact ao.cons (ao.cons (ao.nil) (by kernel_rfl) aq7) (by kernel_rfl) abd)
theorem aq6:aG KK μ ⟨ηe,ar 92⟩ (bQ (a_ ηe) 3) ZM:=
 aG.cA (π:=Int×List Int×List ax) (σ:=Unit) TP (ao.nil) rfl 60 (λp a=>GO p.1 p.2.1 p.2.2) (λp=>()) (St:=λp=>LN shut p.1 p.2.1 p.2.2) (λp=>1000000) (λp=>rfl)
  (λm p a k=>by kernel_rfl)
noncomputable def TQ:ay SS:= { (n8 shut) with T:=bm (bm (bm ((n8 shut).T) 32 ⟨⟨ζE,ar 32⟩,[AW]⟩) 94 ⟨⟨ξk,ar 94⟩,[HH,Qf]⟩) 92 ⟨⟨ηe,ar 92⟩,[ZM]⟩ }
theorem aeQ:aJ TQ μ:=(aJ.b8 TP Tryz.func92 rfl bn λc hc=>by cases hc;exact ao.cons (ao.nil) (by kernel_rfl) aq6)
noncomputable def Ey (sh:Sh) (h:fA):T (List Int):=
 .gd (acw h.f_ [])<|
  .bd (Ln sh h.f_ []) λy0=>
   .bd (Fv sh (ξq.wrap (↑y0.2.2.length:Int))) λz1=>
    .gd (GO z1 y0.2.2 h.f_)<|
     .bd (Lw sh z1 y0.2.2 h.f_) λ_=>
      .ok y0.2.2
noncomputable def FT (sh:Sh) (h:fA):Option (List Int):=sh.s _ (Ey sh h).val
theorem as8:R1 KK TQ 32 24 [31] (Ey shut) (b5 KK 31):=by intro R h k;kernel_rfl
noncomputable def aiv (sh:Sh):bO SS:=fS KK 32 24 (FT sh) (b5 KK 31)
noncomputable def kj (sh:Sh):ay SS:=cq (aiv sh) (n8 sh)
theorem yb:an (kj shut) μ:=gm JD aeQ rfl rfl as8
noncomputable def NA (p0:List Int) (p1:List bo) (p2:List ax) (p3:List (Option (List Int))) (p4:Int):AS SS:=⟨[(1,(va 0 0)),(5,(vd 31 p0)),(6,(vd 89 p1)),(8,(vo 1)),(36,(vd 22 p2)),(37,(vl p2)),(38,(vi p4))],[(bX 24 [(.aU 22 p2)]),(some (.dH 31 3 p3))],0,none,false,[],[]⟩
noncomputable def ab_ (p0:List Int) (p1:List bo) (p2:List ax) (p3:List (Option (List Int))):AS SS:=NA p0 p1 p2 p3 0
noncomputable def ajr (p0:List Int) (p1:List bo) (p2:List ax):AS SS:=⟨[(2,(vo 0)),(3,(vi 391))],[(rX 3 [])],0,none,false,[],[]⟩
noncomputable def ajs (p0:List Int) (p1:List bo) (p2:List ax) (a0:Bool) (a1:Int) (a2:List (Option (List Int))):AS SS:=xe [(39,(vb a0))] (NA p0 p1 p2 a2 a1)
noncomputable def vC (sh:Sh) (p0:List Int) (p1:List bo) (p2:List ax) (p4:Int) (z0:ax) (a:List (Option (List Int))):T (List (Option (List Int)) ⊕ Unit ⊕ (Bool×Int×List (Option (List Int)))):=
 .bf (z0.b9 !=0) (
  .ok (.inl a))<|
 .bf (z0.cV==0) (
  .ok (.inl a))<|
 .bd (MR sh (fA.mk p2) p0 p1 z0) λz1=>
  .bf (!z1.snd) (
   .ok (.inr (.inl ())))<|
  .bd (idx a z1.fst) λz2=>
   .bd (qU a z1.fst.toNat) λz3=>
    .bd (app 8 z3 [p4]) λz4=>
     .bd (idx (a.set z1.fst.toNat none) z1.fst) λz5=>
      .bd (idx (a.set z1.fst.toNat none) (↑z1.fst.toNat:Int)) λz6=>
       .ok (.inl ((a.set z1.fst.toNat none).set z1.fst.toNat (some z4)))
noncomputable def xV (sh:Sh) (p0:List Int) (p1:List bo) (p2:List ax) (p4:Int) (a:List (Option (List Int))):T (Unit ⊕ (Bool×Int×List (Option (List Int)))):=
 .ok (.inr ((decide (p4<(↑p2.length:Int))),p4,a))
noncomputable def C6 (sh:Sh) (p0:List Int) (p1:List bo) (p2:List ax) (p3:List (Option (List Int))):Option (Unit ⊕ (Bool×Int×List (Option (List Int)))):=cS sh (vC sh p0 p1 p2) (xV sh p0 p1 p2) p2 p3
noncomputable def afS {R:Type} (k:AX->AS SS->Option R) (p0:List Int) (p1:List bo) (p2:List ax) (x:Unit ⊕ (Bool×Int×List (Option (List Int)))):Option R:=(λx=>ζ8 (λv=>k .ret (ajr p0 p1 p2)) (λv=>k (.exit 0) (ajs p0 p1 p2 v.1 v.2.1 v.2.2)) x) x
noncomputable def ux:bH SS:=bT 11 (λst=>(bB 31 (aZ st 5 0)).bind λp0=>(bB 89 (aZ st 6 0)).bind λp1=>(bB 22 (aZ st 36 0)).bind λp2=>(Pc st 1 31 3).bind λp3=>some (p0,p1,p2,p3)) (λp=>ab_ p.1 p.2.1 p.2.2.1 p.2.2.2) (λp=>C6 shut p.1 p.2.1 p.2.2.1 p.2.2.2) (λk p=>afS k p.1 p.2.1 p.2.2.1)
theorem aa5:aG KK μ ⟨ξW,ar 12⟩ (bQ (a_ ξW) 11) ux:=
 aG.c6 (π:=List Int×List bo×List ax×List (Option (List Int))) (σ:=List (Option (List Int))) (an.all yb rfl) (ao.nil) rfl 60 (λp i a=>NA p.1 p.2.1 p.2.2.1 a i) (λp=>p.2.2.1) (λp=>p.2.2.2) (St:=λp=>vC shut p.1 p.2.1 p.2.2.1) (F:=λp=>xV shut p.1 p.2.1 p.2.2.1) (λp=>rfl)
  (λm p i a k=>by kernel_rfl) (by rintro p (x|x)<;>exact⟨_,_,λ_=>rfl⟩) (λp N C A O w a hr=>dQ hr (t:=22) (sl:=36) rfl λv h=>h)
noncomputable def zQ (p0 p1 p2:Int) (p3:List Int) (p4:List ax):AS SS:=⟨[(0,(vo 0)),(1,(vi p0)),(2,(vi p1)),(3,(vc 1)),(8,(vi p2)),(9,(vi p2))],[(rX 3 p3),(some (.bI 36 [] [(.one (.bp 2 0))])),(bX 24 [(.aU 22 p4)])],3,none,false,[],[]⟩
noncomputable def alf (p0 p1 p2:Int) (p3:List Int) (p4:List ax) (a0 a1 a2:Int):AS SS:=xe [(34,(vb false)),(33,(vb false)),(21,(vb true)),(32,(vi a0)),(21,(vb true)),(31,(vi a1)),(21,(vb true)),(30,(vs (.fl 3 0 ((δ.wrap (p2-1)).toNat) 0))),(21,(vb true)),(29,(vi (δ.wrap (p2-1)))),(21,(vb true)),(28,(vi p2)),(21,(vb true)),(27,(vo 0)),(21,(vb true)),(26,(vi a2)),(21,(vb true)),(25,(vs (.fl 3 0 p2.toNat 0))),(21,(vb true)),(24,(vi p2)),(21,(vb true)),(23,(vo 0)),(21,(vb true)),(22,(vc 1)),(21,(vb true)),(21,(vb (decide (p2>p0)))),(20,(vb (decide (p2>p0)))),(19,(vi p0)),(18,(vi p2))] (zQ p0 p1 p2 p3 p4)
noncomputable def alg (p0 p1 p2:Int) (p3:List Int) (p4:List ax):AS SS:=xe [(34,(vb false)),(33,(.bD [])),(21,(vb false)),(32,(.bD [])),(21,(vb false)),(31,(.bD [])),(21,(vb false)),(30,(.bD [])),(21,(vb false)),(29,(.bD [])),(21,(vb false)),(28,(.bD [])),(21,(vb false)),(27,(.bD [])),(21,(vb false)),(26,(.bD [])),(21,(vb false)),(25,(.bD [])),(21,(vb false)),(24,(.bD [])),(21,(vb false)),(23,(.bD [])),(21,(vb false)),(22,(.bD [])),(21,(vb false)),(21,(vb (decide (p2>p0)))),(20,(vb (decide (p2>p0)))),(19,(vi p0)),(18,(vi p2))] (zQ p0 p1 p2 p3 p4)
noncomputable def DQ (sh:Sh) (p0 p1 p2:Int) (p3:List Int) (p4:List ax) (a:Unit):T (Unit ⊕ (Int×Int×Int) ⊕ Unit):=
 .bf (decide (p2>p0)) (
  .bd (idx p3 p2) λz0=>
   .bd (p3[p2.toNat]?) λz1=>
    .bd (idx p3 (δ.wrap (p2-1))) λz2=>
     .bd (p3[(δ.wrap (p2-1)).toNat]?) λz3=>
      .bd (idx p4 z1) λz4=>
       .bd (idx p4 z3) λz5=>
        .bf (z4.cN !=z4.cN) (
         .bf (z5.cN !=z5.cN) (
          .ok (.inr (.inl (0,z3,z1))))<|
         .no)<|
        .bf (z5.cN !=z5.cN) (
         .ok (.inr (.inl (1,z3,z1))))<|
        .bf (decide (z4.cN<z5.cN)) (
         .no)<|
        .bf (decide (z4.cN>z5.cN)) (
         .ok (.inr (.inl (1,z3,z1))))<|
        .ok (.inr (.inl (0,z3,z1))))<|
 .ok (.inr (.inr ()))
noncomputable def Ly (sh:Sh) (p0 p1 p2:Int) (p3:List Int) (p4:List ax):Option ((Int×Int×Int) ⊕ Unit):=cA sh (DQ sh p0 p1 p2 p3 p4) 1000000 ()
noncomputable def ag3 {R:Type} (k:AX->AS SS->Option R) (p0 p1 p2:Int) (p3:List Int) (p4:List ax) (x:(Int×Int×Int) ⊕ Unit):Option R:=(λx=>ζ8 (λv=>k (.exit 2) (alf p0 p1 p2 p3 p4 v.1 v.2.1 v.2.2)) (λv=>k (.exit 2) (alg p0 p1 p2 p3 p4)) x) x
noncomputable def uy:bH SS:=bT 5 (λst=>(dB st 1 36).bind λ_=>(bq (aZ st 1 0)).bind λp0=>(bq (aZ st 2 0)).bind λp1=>(bq (aZ st 8 0)).bind λp2=>(c9 st 0 3).bind λp3=>(bB 22 (bg st 2 0)).bind λp4=>some (p0,p1,p2,p3,p4)) (λp=>zQ p.1 p.2.1 p.2.2.1 p.2.2.2.1 p.2.2.2.2) (λp=>Ly shut p.1 p.2.1 p.2.2.1 p.2.2.2.1 p.2.2.2.2) (λk p=>ag3 k p.1 p.2.1 p.2.2.1 p.2.2.2.1 p.2.2.2.2)
noncomputable def adV:ay SS:= { (kj shut) with T:=bm ((kj shut).T) 12 ⟨⟨ξW,ar 12⟩,[ux]⟩ }
theorem S5:aJ adV μ:=(aJ.b8 (an.all yb rfl) η9 rfl bn λc hc=>by cases hc;exact ao.cons (ao.nil) (by kernel_rfl) aa5)
theorem Ig:aG KK μ ⟨ξk,ar 94⟩ (bQ (a_ ξk) 5) uy:=
 aG.cA (π:=Int×Int×Int×List Int×List ax) (σ:=Unit) S5 (ao.nil) rfl 60 (λp a=>zQ p.1 p.2.1 p.2.2.1 p.2.2.2.1 p.2.2.2.2) (λp=>()) (St:=λp=>DQ shut p.1 p.2.1 p.2.2.1 p.2.2.2.1 p.2.2.2.2) (λp=>1000000) (λp=>rfl)
  (λm p a k=>by kernel_rfl)
noncomputable def zP (p0 p1 p2:Int) (p3:List Int) (p4:List ax):AS SS:=⟨[(0,(vo 0)),(1,(vi p0)),(2,(vi p1)),(3,(vc 1)),(8,(vi p2))],[(rX 3 p3),(some (.bI 36 [] [(.one (.bp 2 0))])),(bX 24 [(.aU 22 p4)])],3,none,false,[],[]⟩
noncomputable def ald (p0 p1:Int) (p3:List Int) (p4:List ax) (a0:Bool) (a1:Int):AS SS:= { zP p0 p1 p0 p3 p4 with env:=[(14,(vb a0)),(13,(vi p1)),(12,(vi a1)),(0,(vo 0)),(1,(vi p0)),(2,(vi p1)),(3,(vc 1)),(8,(vi a1))] }
noncomputable def yz (sh:Sh) (p0 p1:Int) (p3:List Int) (p4:List ax) (a:Int):T (Int ⊕ (Bool×Int)):=
 .bf (decide (a<p1)) (
  .gd (zQ p0 p1 a p3 p4)<|
   .bd (Ly sh p0 p1 a p3 p4) λx4=> .cs x4 (λy0=>
    .ok (.inl (δ.wrap (a+1)))) λ_=>
    .ok (.inl (δ.wrap (a+1))))<|
 .ok (.inr ((decide (a<p1)),a))
noncomputable def yh (sh:Sh) (p0 p1 p2:Int) (p3:List Int) (p4:List ax):Option ((Bool×Int)):=cA sh (yz sh p0 p1 p3 p4) 1000000 p2
noncomputable def ag1 {R:Type} (k:AX->AS SS->Option R) (p0 p1:Int) (p3:List Int) (p4:List ax) (x:(Bool×Int)):Option R:=(λv=>k (.exit 0) (ald p0 p1 p3 p4 v.1 v.2)) x
noncomputable def xd:bH SS:=bT 2 (λst=>(dB st 1 36).bind λ_=>(bq (aZ st 1 0)).bind λp0=>(bq (aZ st 2 0)).bind λp1=>(bq (aZ st 8 0)).bind λp2=>(c9 st 0 3).bind λp3=>(bB 22 (bg st 2 0)).bind λp4=>some (p0,p1,p2,p3,p4)) (λp=>zP p.1 p.2.1 p.2.2.1 p.2.2.2.1 p.2.2.2.2) (λp=>yh shut p.1 p.2.1 p.2.2.1 p.2.2.2.1 p.2.2.2.2) (λk p=>ag1 k p.1 p.2.1 p.2.2.2.1 p.2.2.2.2)
noncomputable def adW:ay SS:= { (kj shut) with T:=bm ((kj shut).T) 12 ⟨⟨ξW,ar 12⟩,[ux]⟩ }
theorem S6:aJ adW μ:=S5
theorem Rc:aG KK μ ⟨ξk,ar 94⟩ (bQ (a_ ξk) 2) xd:=
 aG.cA (I:=⟨⟨ξk,ar 94⟩,[uy]⟩) (π:=Int×Int×Int×List Int×List ax) (σ:=Int) S6 (ao.cons (ao.nil) (by kernel_rfl) Ig) rfl 60 (λp a=>zP p.1 p.2.1 a p.2.2.2.1 p.2.2.2.2) (λp=>p.2.2.1) (St:=λp=>yz shut p.1 p.2.1 p.2.2.2.1 p.2.2.2.2) (λp=>1000000) (λp=>rfl)
  (λm p a k=>by kernel_rfl)
noncomputable def GG (p0:List Int) (p1:List ax) (p2 p3:Int):AS SS:=⟨[(0,(vo 0)),(1,(vl p0)),(2,(vc 1)),(6,(vi 20)),(7,(vi p2)),(8,(vi p3))],[(rX 3 p0),(some (.bI 36 [] [(.one (.bp 2 0))])),(bX 24 [(.aU 22 p1)])],3,none,false,[],[]⟩
noncomputable def akL (p0:List Int) (p1:List ax) (a0:Bool) (a1 a2:Int):AS SS:= { GG p0 p1 a1 a1 with env:=[(13,(vb a0)),(12,(vl p0)),(11,(vi a1)),(0,(vo 0)),(1,(vl p0)),(2,(vc 1)),(6,(vi 20)),(7,(vi a2)),(8,(vi a1))] }
noncomputable def DM (sh:Sh) (p0:List Int) (p1:List ax) (a:Int×Int):T ((Int×Int) ⊕ (Bool×Int×Int)):=
 .bf (decide (a.2<=(↑p0.length:Int))) (
  .gd (zP a.1 a.2 (δ.wrap (a.1+1)) p0 p1)<|
   .bd (yh sh a.1 a.2 (δ.wrap (a.1+1)) p0 p1) λy0=>
    .ok (.inl (a.2,(δ.wrap (a.2+20)))))<|
 .ok (.inr ((decide (a.2<=(↑p0.length:Int))),a.2,a.1))
noncomputable def Lp (sh:Sh) (p0:List Int) (p1:List ax) (p2 p3:Int):Option ((Bool×Int×Int)):=cA sh (DM sh p0 p1) 1000000 (p2,p3)
noncomputable def agL {R:Type} (k:AX->AS SS->Option R) (p0:List Int) (p1:List ax) (x:(Bool×Int×Int)):Option R:=(λv=>k (.exit 0) (akL p0 p1 v.1 v.2.1 v.2.2)) x
noncomputable def Qa:bH SS:=bT 3 (λst=>(dB st 1 36).bind λ_=>(c9 st 0 3).bind λp0=>(bB 22 (bg st 2 0)).bind λp1=>(bq (aZ st 7 0)).bind λp2=>(bq (aZ st 8 0)).bind λp3=>some (p0,p1,p2,p3)) (λp=>GG p.1 p.2.1 p.2.2.1 p.2.2.2) (λp=>Lp shut p.1 p.2.1 p.2.2.1 p.2.2.2) (λk p=>agL k p.1 p.2.1)
noncomputable def adX:ay SS:= { (kj shut) with T:=bm (bm ((kj shut).T) 12 ⟨⟨ξW,ar 12⟩,[ux]⟩) 94 ⟨⟨ξk,ar 94⟩,[uy,xd]⟩ }
theorem S8:aJ adX μ:=(aJ.b8 S6 ζz rfl bn λc hc=>by cases hc;exact ao.cons (ao.cons (ao.nil) (by kernel_rfl) Rc) (by kernel_rfl) Ig)
theorem abb:aG KK μ ⟨ζ5,ar 58⟩ (bQ (a_ ζ5) 3) Qa:=
 aG.cA (π:=List Int×List ax×Int×Int) (σ:=Int×Int) S8 (ao.nil) rfl 60 (λp a=>GG p.1 p.2.1 a.1 a.2) (λp=>(p.2.2.1,p.2.2.2)) (St:=λp=>DM shut p.1 p.2.1) (λp=>1000000) (λp=>rfl)
  (λm p a k=>by kernel_rfl)
noncomputable def GF (p0 p1:Int) (p2:List Int) (p3:List ax):AS SS:=⟨[(0,(vo 0)),(1,(vl p2)),(2,(vc 1)),(6,(vi p0)),(7,(vi 0)),(8,(vi p1))],[(rX 3 p2),(some (.bI 36 [] [(.one (.bp 2 0))])),(bX 24 [(.aU 22 p3)])],3,none,false,[],[]⟩
noncomputable def akK (p0 p1:Int) (p2:List Int) (p3:List ax):AS SS:=xe [(35,(vb (decide (p1<=(↑p2.length:Int))))),(34,(vl p2)),(33,(vi p1))] (GF p0 p1 p2 p3)
noncomputable def U4 (sh:Sh) (p0 p1:Int) (p2:List Int) (p3:List ax) (a:Unit):T (Unit ⊕ Unit):=
 .bf (decide (p1<=(↑p2.length:Int))) (
  .no)<|
 .ok (.inr ())
noncomputable def UK (sh:Sh) (p0 p1:Int) (p2:List Int) (p3:List ax):Option (Unit):=cA sh (U4 sh p0 p1 p2 p3) 1000000 ()
noncomputable def agK {R:Type} (k:AX->AS SS->Option R) (p0 p1:Int) (p2:List Int) (p3:List ax) (x:Unit):Option R:=(λv=>k (.exit 4) (akK p0 p1 p2 p3)) x
noncomputable def HF:bH SS:=bT 10 (λst=>(dB st 1 36).bind λ_=>(bq (aZ st 6 0)).bind λp0=>(bq (aZ st 8 0)).bind λp1=>(c9 st 0 3).bind λp2=>(bB 22 (bg st 2 0)).bind λp3=>some (p0,p1,p2,p3)) (λp=>GF p.1 p.2.1 p.2.2.1 p.2.2.2) (λp=>UK shut p.1 p.2.1 p.2.2.1 p.2.2.2) (λk p=>agK k p.1 p.2.1 p.2.2.1 p.2.2.2)
noncomputable def adY:ay SS:= { (kj shut) with T:=bm (bm ((kj shut).T) 12 ⟨⟨ξW,ar 12⟩,[ux]⟩) 94 ⟨⟨ξk,ar 94⟩,[uy,xd]⟩ }
theorem S9:aJ adY μ:=S8
theorem Rb:aG KK μ ⟨ζ5,ar 58⟩ (bQ (a_ ζ5) 10) HF:=
 aG.cA (π:=Int×Int×List Int×List ax) (σ:=Unit) S9 (ao.nil) rfl 60 (λp a=>GF p.1 p.2.1 p.2.2.1 p.2.2.2) (λp=>()) (St:=λp=>U4 shut p.1 p.2.1 p.2.2.1 p.2.2.2) (λp=>1000000) (λp=>rfl)
  (λm p a k=>by kernel_rfl)
noncomputable def GH (p0:List Int) (p1:List ax) (p2:Int):AS SS:=⟨[(0,(vo 0)),(1,(vl p0)),(2,(vc 1)),(6,(vi p2))],[(rX 3 p0),(some (.bI 36 [] [(.one (.bp 2 0))])),(bX 24 [(.aU 22 p1)])],3,none,false,[],[]⟩
noncomputable def akM (p0:List Int) (p1:List ax) (a0:Bool) (a1:Int):AS SS:=xe [(30,(vb a0)),(29,(vl p0)),(28,(vi a1))] (GH p0 p1 a1)
noncomputable def LI (sh:Sh) (p0:List Int) (p1:List ax) (a:Int):T (Int ⊕ (Bool×Int)):=
 .bf (decide (a<(↑p0.length:Int))) (
  .gd (GF a (δ.wrap (2*a)) p0 p1)<|
   .bd (UK sh a (δ.wrap (2*a)) p0 p1) λ_=>
    .bf (decide (δ.wrap (0+a)<(↑p0.length:Int))) (
     .no)<|
    .ok (.inl (δ.wrap (a*2))))<|
 .ok (.inr ((decide (a<(↑p0.length:Int))),a))
noncomputable def Lq (sh:Sh) (p0:List Int) (p1:List ax) (p2:Int):Option ((Bool×Int)):=cA sh (LI sh p0 p1) 1000000 p2
noncomputable def agM {R:Type} (k:AX->AS SS->Option R) (p0:List Int) (p1:List ax) (x:(Bool×Int)):Option R:=(λv=>k (.exit 2) (akM p0 p1 v.1 v.2)) x
noncomputable def Qb:bH SS:=bT 8 (λst=>(dB st 1 36).bind λ_=>(c9 st 0 3).bind λp0=>(bB 22 (bg st 2 0)).bind λp1=>(bq (aZ st 6 0)).bind λp2=>some (p0,p1,p2)) (λp=>GH p.1 p.2.1 p.2.2) (λp=>Lq shut p.1 p.2.1 p.2.2) (λk p=>agM k p.1 p.2.1)
noncomputable def adZ:ay SS:= { (kj shut) with T:=bm (bm ((kj shut).T) 12 ⟨⟨ξW,ar 12⟩,[ux]⟩) 94 ⟨⟨ξk,ar 94⟩,[uy,xd]⟩ }
theorem ad0:aJ adZ μ:=S9
theorem abc:aG KK μ ⟨ζ5,ar 58⟩ (bQ (a_ ζ5) 8) Qb:=
 aG.cA (I:=⟨⟨ζ5,ar 58⟩,[HF]⟩) (π:=List Int×List ax×Int) (σ:=Int) ad0 (ao.cons (ao.nil) (by kernel_rfl) Rb) rfl 60 (λp a=>GH p.1 p.2.1 a) (λp=>p.2.2) (St:=λp=>LI shut p.1 p.2.1) (λp=>1000000) (λp=>rfl)
  (λm p a k=>by kernel_rfl)
noncomputable def Gc (p0:List Int) (p1:List ax) (p2:List (Option (List Int))) (p3:Int) (p4:List Int) (p5:List (Option (List Int))):AS SS:=⟨[(1,(va 0 0)),(5,(vd 31 p0)),(13,(vo 1)),(73,(vo 2)),(74,(vl p2)),(75,(vi p3))],[(bX 24 [(.aU 22 p1)]),(rX 3 p4),(some (.dH 31 3 p5))],0,none,false,[],[]⟩
noncomputable def ajt (p0:List Int) (p1:List ax) (p2:List (Option (List Int))) (a0:Bool) (a1:Int) (a2:List Int) (a3:List (Option (List Int))):AS SS:=xe [(76,(vb a0))] (Gc p0 p1 p2 a1 a2 a3)
noncomputable def yj (sh:Sh) (p0:List Int) (p1:List ax) (p2:List (Option (List Int))) (a:Int×List Int×List (Option (List Int))):T ((Int×List Int×List (Option (List Int))) ⊕ (Bool×Int×List Int×List (Option (List Int)))):=
 .bf (decide (a.1<(↑p2.length:Int))) (
  .bd (idx a.2.2 a.1) λz0=>
   .bd (qU a.2.2 a.1.toNat) λz1=>
    .gd (GG z1 p1 0 20)<|
     .bd (Lp sh z1 p1 0 20) λy2=>
      .gd (zP y2.2.2 ((↑z1.length:Int)) (δ.wrap (y2.2.2+1)) z1 p1)<|
       .bd (yh sh y2.2.2 ((↑z1.length:Int)) (δ.wrap (y2.2.2+1)) z1 p1) λy3=>
        .gd (GH z1 p1 20)<|
         .bd (Lq sh z1 p1 20) λy4=>
          .bd (app 8 a.2.1 z1) λz5=>
           .bf (decide (a.1<(↑p0.length:Int))) (
            .bd (gq p0 (ζY (λx=>x.snd) (some (δ,a.1))) (ζY (λx=>x.snd) (some (δ,δ.wrap (a.1+1)))) (ζY (λx=>x.snd) (some (δ,δ.wrap (a.1+1))))) λz6=>
             .bd (app 8 z5 z6) λz7=>
              .ok (.inl ((δ.wrap (a.1+1)),z7,(a.2.2.set a.1.toNat none))))<|
           .ok (.inl ((δ.wrap (a.1+1)),z5,(a.2.2.set a.1.toNat none))))<|
 .ok (.inr ((decide (a.1<(↑p2.length:Int))),a.1,a.2.1,a.2.2))
noncomputable def KM (sh:Sh) (p0:List Int) (p1:List ax) (p2:List (Option (List Int))) (p3:Int) (p4:List Int) (p5:List (Option (List Int))):Option ((Bool×Int×List Int×List (Option (List Int)))):=cA sh (yj sh p0 p1 p2) 1000000 (p3,p4,p5)
noncomputable def afT {R:Type} (k:AX->AS SS->Option R) (p0:List Int) (p1:List ax) (p2:List (Option (List Int))) (x:(Bool×Int×List Int×List (Option (List Int)))):Option R:=(λv=>k (.exit 2) (ajt p0 p1 p2 v.1 v.2.1 v.2.2.1 v.2.2.2)) x
noncomputable def Y6:bH SS:=bT 21 (λst=>(bB 31 (aZ st 5 0)).bind λp0=>(bB 22 (bg st 0 0)).bind λp1=>(Pc st 2 31 3).bind λp2=>(bq (aZ st 75 0)).bind λp3=>(c9 st 1 3).bind λp4=>(Pc st 2 31 3).bind λp5=>some (p0,p1,p2,p3,p4,p5)) (λp=>Gc p.1 p.2.1 p.2.2.1 p.2.2.2.1 p.2.2.2.2.1 p.2.2.2.2.2) (λp=>KM shut p.1 p.2.1 p.2.2.1 p.2.2.2.1 p.2.2.2.2.1 p.2.2.2.2.2) (λk p=>afT k p.1 p.2.1 p.2.2.1)
noncomputable def ad1:ay SS:= { (kj shut) with T:=bm (bm ((kj shut).T) 94 ⟨⟨ξk,ar 94⟩,[uy,xd]⟩) 58 ⟨⟨ζ5,ar 58⟩,[Qa,HF,Qb]⟩ }
theorem ad2:aJ ad1 μ:=(aJ.b8 (aJ.b8 (an.all yb rfl) ζz rfl bn λc hc=>by cases hc;exact ao.cons (ao.cons (ao.nil) (by kernel_rfl) Rc) (by kernel_rfl) Ig) ηa rfl bn λc hc=>by cases hc;exact ao.cons (ao.cons (ao.cons (ao.nil) (by kernel_rfl) abc) (by kernel_rfl) Rb) (by kernel_rfl) abb)
theorem aqb:aG KK μ ⟨ξW,ar 12⟩ (bQ (a_ ξW) 21) Y6:=
 aG.cA (π:=List Int×List ax×List (Option (List Int))×Int×List Int×List (Option (List Int))) (σ:=Int×List Int×List (Option (List Int))) ad2 (ao.nil) rfl 60 (λp a=>Gc p.1 p.2.1 p.2.2.1 a.1 a.2.1 a.2.2) (λp=>(p.2.2.2.1,p.2.2.2.2.1,p.2.2.2.2.2)) (St:=λp=>yj shut p.1 p.2.1 p.2.2.1) (λp=>1000000) (λp=>rfl)
  (λm p a k=>by kernel_rfl)
noncomputable def S_:ay SS:= { (kj shut) with T:=bm (bm (bm ((kj shut).T) 12 ⟨⟨ξW,ar 12⟩,[ux,Y6]⟩) 94 ⟨⟨ξk,ar 94⟩,[uy,xd]⟩) 58 ⟨⟨ζ5,ar 58⟩,[Qa,HF,Qb]⟩ }
theorem ad3:aJ S_ μ:=(aJ.b8 (aJ.b8 (aJ.b8 (an.all yb rfl) η9 rfl bn λc hc=>by cases hc;exact ao.cons (ao.cons (ao.nil) (by kernel_rfl) aqb) (by kernel_rfl) aa5) ζz rfl bn λc hc=>by cases hc;exact ao.cons (ao.cons (ao.nil) (by kernel_rfl) Rc) (by kernel_rfl) Ig) ηa rfl bn λc hc=>by cases hc;exact ao.cons (ao.cons (ao.cons (ao.nil) (by kernel_rfl) abc) (by kernel_rfl) Rb) (by kernel_rfl) abb)
noncomputable def vM (sh:Sh) (h:fA):T (List Int×Int):=
 .bd (FQ sh h) λz0=>
  .bf (z0 !=0) (
   .ok ([],z0))<|
  .bd (FT sh h) λy1=>
   .bd (zc sh h y1) λz2=>
    .bf (!z2.snd) (
     .ok ([],391))<|
    .bd (nR 24 (δ.wrap ((↑y1.length:Int)+1)) (δ.wrap ((↑y1.length:Int)+1)) (some [])) λz3=>
     .gd (ab_ y1 z2.fst h.f_ z3)<|
      .bd (C6 sh y1 z2.fst h.f_ z3) λx7=> .cs x7 (λ_=>
       .ok ([],391)) λy4=>
       .gd (Gc y1 h.f_ y4.2.2 0 [] y4.2.2)<|
        .bd (KM sh y1 h.f_ y4.2.2 0 [] y4.2.2) λy5=>
         .ok (y5.2.2.1,0)
noncomputable def rE (sh:Sh) (h:fA):Option (List Int×Int):=sh.s _ (vM sh h).val
theorem asx:R1 KK S_ 12 24 [31,27] (vM shut) (dE KK 31 27):=by intro R h k;kernel_rfl
noncomputable def ahT (sh:Sh):bO SS:=fS KK 12 24 (rE sh) (dE KK 31 27)
noncomputable def JJ (sh:Sh):ay SS:=cq (ahT sh) (kj sh)
theorem Ui:an (JJ shut) μ:=gm yb ad3 rfl rfl asx
noncomputable def Eb (sh:Sh) (h:fA):T (bo×Int):=
 .bd (rE sh h) λy0=>
  .bf (y0.2 !=0) (
   .ok (⟨⟨[0,0,0,0,0,0,0,0,0,0,0,0,0,0,0,0],[]⟩,[],⟨[],0⟩,⟨[],[]⟩⟩,y0.2))<|
  .bd (FT sh h) λy1=>
   .bd (zc sh h y1) λz2=>
    .bd (idx z2.fst (δ.wrap ((↑z2.fst.length:Int)-1))) λz3=>
     .ok (z3,0)
noncomputable def FE (sh:Sh) (h:fA):Option (bo×Int):=sh.s _ (Eb sh h).val
theorem asJ:R1 KK (JJ shut) 16 24 [60,27] (Eb shut) (dE KK 60 27):=by intro R h k;kernel_rfl
noncomputable def ah7 (sh:Sh):bO SS:=fS KK 16 24 (FE sh) (dE KK 60 27)
noncomputable def Un (sh:Sh):ay SS:=cq (ah7 sh) (JJ sh)
theorem afo:an (Un shut) μ:=gm Ui (an.all Ui rfl) rfl rfl asJ
end Go.Proofs.YtoggponeookhbaaGreatDoor
end
section
namespace Go.Proofs.YtoggponeookhbaaGreatDoor
open Go.RowKit Go.Dc Go.Vx
section
variable {α σ X:Type}
theorem abP {step:Int->α->σ->Option (σ ⊕ X)} {fin:Int->σ->Option X} {l:List α} {st:Nat->σ} {x:X} (h: ∀(j:Nat) z,l[j]? =some z->step j z (st j)=some (.inl (st (j+1)))) (hf:fin (l.length:Int) (st l.length)=some x):
  ∀(r pre:List α),l=pre++r->cB step fin pre.length r (st pre.length)=some x
 |[],pre,e=>by
  rw[ξe] at e;subst e;exact hf
 |z::r,pre,e=>by
  rw[nV,h pre.length z (by rw[e];simp),γ];have:=abP h hf r (pre++[z]) (by rw[e];simp);rw[show(pre++[z]).length=pre.length+1 by simp] at this;exact this
theorem nU {step:Int->α->σ->Option (σ ⊕ X)} {fin:Int->σ->Option X} {l:List α} {st:Nat->σ} {x:X} (h: ∀(j:Nat) z,l[j]? =some z->step j z (st j)=some (.inl (st (j+1)))) (hf:fin (l.length:Int) (st l.length)=some x):cB step fin 0 l (st 0)=some x:=abP h hf l [] rfl
theorem abO {step:Int->α->σ->Option (σ ⊕ X)} {fin:Int->σ->Option X} {l:List α} {st:Nat->σ} {x:X} {n:Nat} {z0:α} (hn:l[n]? =some z0) (h: ∀(j:Nat) z,j<n->l[j]? =some z->step j z (st j)=some (.inl (st (j+1)))) (hs:step n z0 (st n)=some (.inr x)):
  ∀(r pre:List α),pre.length<=n->l=pre++r->cB step fin pre.length r (st pre.length)=some x
 |[],pre,hp,e=>by
  rw[ξe] at e;subst e;have:=(ζ.1 hn).1;omega
 |z::r,pre,hp,e=>by
  have hz:l[pre.length]? =some z:=by rw[e];simp
  rcases ξu hp with aB|heq
  ·rw[nV,h pre.length z aB hz,γ];have:=abO (fin:=fin) hn h hs r (pre++[z]) (by simp;omega) (by rw[e];simp);rw[show(pre++[z]).length=pre.length+1 by simp] at this;exact this
  ·rw[heq,hn] at hz;cases hz;rw[nV,heq,hs];rfl
theorem Iy {step:Int->α->σ->Option (σ ⊕ X)} {fin:Int->σ->Option X} {l:List α} {st:Nat->σ} {x:X} {n:Nat} {z0:α} (hn:l[n]? =some z0) (h: ∀(j:Nat) z,j<n->l[j]? =some z->step j z (st j)=some (.inl (st (j+1)))) (hs:step n z0 (st n)=some (.inr x)):cB step fin 0 l (st 0)=some x:=abO hn h hs l [] (ξX _) rfl
theorem adA {step:σ->Option (σ ⊕ X)} {st:Nat->σ} {n:Nat} {x:X} (h: ∀j,j<n->step (st j)=some (.inl (st (j+1)))) (hs:step (st n)=some (.inr x)): ∀(m f:Nat),m<=n->n-m<f->dv step f (st m)=some x
 |m,0,_,hf=>by omega
 |m,f+1,hm,hf=>by
  show((step (st m)).bind _)=_;rcases ξu hm with aB|heq
  ·rw[h m aB];exact adA h hs (m+1) f aB (by omega)
  ·rw[heq,hs];rfl
theorem xP {step:σ->Option (σ ⊕ X)} {st:Nat->σ} {n f:Nat} {x:X} (h: ∀j,j<n->step (st j)=some (.inl (st (j+1)))) (hs:step (st n)=some (.inr x)) (hf:n<f):dv step f (st 0)=some x:=adA h hs 0 f (ξX _) hf
end
theorem auo:LP eF:=⟨rfl,λz hz=>by revert z;decide,λz hz=>(by cases hz),λz hz=>(by cases hz)⟩
theorem aoe:im eF:=(VC auo).1 (by decide)
theorem aod {s:bo} (h:im s) {c:bR} (hc:fZ c):im (jh s c).1:=by
 rcases aja h c with⟨_,e⟩|⟨_,gv,hr⟩
 ·rw[e];exact h
 ·exact asj h hc.a hr gv
theorem Mx {s:bo} {c:bR}:(jh s c).2.db≠363/\(jh s c).2.db≠364:=by
 unfold jh;cases e:ry s c with
 |error x=>
  have h:=Vz e;refine⟨?_,?_⟩<;>(intro e1;have e1:x=_:=e1;subst e1;revert h;decide)
 |ok r=>exact⟨by show(0:Int)≠363;decide,by show(0:Int)≠364;decide⟩
section
variable (c:Nat->bR)
def sq:Nat->bo
 |0=>eF
 |i+1=>(jh (sq i) (c i)).1
def dS (i:Nat):cF:=(jh (sq c i) (c i)).2
def ch (i:Nat):Bool:=!decide (sq c (i+1)=sq c i)
def dn (i:Nat) (r:cF):ax:=⟨(i%8:Nat),c i,r,3*(i:Int)+1,bif ch c i then 3*(i:Int)+2 else 0,3*(i:Int)+3⟩
def hD (N:Nat) (r:Nat->cF):List ax:=(ξ4 N).map λi=>dn c i (r i)
def cj (i:Nat):List Int:=((ξ4 i).filter (ch c)).map λ(j:Nat)=>(j:Int)
def bJ (i:Nat):Nat:=((ξ4 i).filter (ch c)).length
def ss (i:Nat):List bo:=eF::((ξ4 i).filter (ch c)).map λj=>sq c (j+1)
end
variable {c:Nat->bR}
theorem R8 (hc: ∀i,fZ (c i)): ∀i,im (sq c i)
 |0=>aoe
 |i+1=>aod (R8 hc i) (hc i)
theorem FX {p:Nat->Bool} (i:Nat):(ξ4 (i+1)).filter p=(ξ4 i).filter p++(if p i then[i] else[]):=by
 rw[ζR,ζ4,ξh,List.filter_nil]
theorem tl (i:Nat):bJ c (i+1)=bJ c i+if ch c i then 1 else 0:=by
 unfold bJ;rw[FX,ο];split<;>simp
theorem mL {i j:Nat} (h:i<=j):bJ c i<=bJ c j:=by
 obtain⟨d,rfl⟩: ∃d,j=i+d:=⟨j-i,by omega⟩;clear h
 induction d with
 |zero=>exact ξ2 _
 |succ d ih=>rw[<-η0,tl];omega
theorem nz (i:Nat):bJ c i<=i:=by
 have:=ξ9 (ch c) (ξ4 i);simpa[bJ] using this
theorem gI (i:Nat):(cj c i).length=bJ c i:=by simp[cj,bJ]
theorem yP (i:Nat):cj c (i+1)=cj c i++if ch c i then[(i:Int)] else[]:=by
 unfold cj;rw[FX,ξx];split<;>rfl
theorem R_ (i:Nat):ss c (i+1)=ss c i++if ch c i then[sq c (i+1)] else[]:=by
 unfold ss;rw[FX,ξx];split<;>rfl
theorem qT (i:Nat):(ss c i).length=bJ c i+1:=by simp[ss,bJ]
theorem R9 {i:Nat} (h:ch c i=false):sq c (i+1)=sq c i:=by
 unfold ch at h;simpa using h
theorem acX {i:Nat} (h:ch c i=true):sq c (i+1)≠sq c i:=by
 unfold ch at h;simpa using h
theorem BG: ∀ {N i:Nat},i<=N->(ss c N)[bJ c i]? =some (sq c i)
 |0,i,h=>by
  obtain rfl:i=0:=by omega
  rfl
 |N+1,i,h=>by
  rw[R_];rcases ξu h with aB|rfl
  ·rw[ξi (by rw[qT];have:=mL (c:=c) (show i<=N by omega);omega)];exact BG (by omega)
  ·rw[tl];cases c8:ch c N with
   |true=>
    rw[if_pos rfl,if_pos rfl,ξ1 (by rw[qT];omega),qT];simp
   |false=>
    simp only[ξ6,if_false,ξe,ζ0];rw[BG (ξ2 N),R9 c8]
theorem Mb: ∀ {N i:Nat},i<N->ch c i=true->(cj c N)[bJ c i]? =some (i:Int)
 |N+1,i,h,hi=>by
  rw[yP];rcases ξu (Nat.lt_succ_iff.1 h) with aB|rfl
  ·rw[ξi (by rw[gI];have:=mL (c:=c) (show i+1<=N by omega);rw[tl,hi] at this;simp at this;omega)];exact Mb aB hi
  ·rw[hi,if_pos rfl,ξ1 (by rw[gI];exact ξ2 _),gI];simp
theorem yO: ∀ {N j:Nat} {z:Int},(cj c N)[j]? =some z-> ∃i:Nat,z=i/\i<N/\ch c i=true/\bJ c i=j
 |0,j,z,h=>by simp[cj] at h
 |N+1,j,z,h=>by
  rw[yP] at h;rcases ζK j (cj c N).length with aB|dp
  ·rw[ξi aB] at h;obtain⟨i,U,h2,h3⟩:=yO h;exact⟨i,U,by omega,h3⟩
  ·rw[ξ1 dp] at h;cases c8:ch c N with
   |true=>
    rw[c8,if_pos rfl] at h;obtain⟨U,h2⟩:=ζ.1 h;simp at U h2;exact⟨N,h2.symm,by omega,c8,by rw[gI] at*;omega⟩
   |false=>rw[c8] at h;simp at h
theorem kD {N:Nat} {r:Nat->cF}:(hD c N r).length=N:=by simp[hD]
theorem F9 {N i:Nat} {r:Nat->cF} (h:i<N):(hD c N r)[i]? =some (dn c i (r i)):=by
 unfold hD;rw[ξl,List.getElem?_range h];rfl
theorem rM {N i:Nat} {r:Nat->cF} {z:ax} (h:(hD c N r)[i]? =some z):i<N/\z=dn c i (r i):=by
 have hi:=(ζ.1 h).1;rw[kD] at hi;rw[F9 hi] at h;exact⟨hi,(Option.some.inj h).symm⟩
theorem kC {N i:Nat} {r:Nat->cF} (h:i<N):idx (hD c N r) (i:Int)=some (dn c i (r i)):=iD (F9 h)
end Go.Proofs.YtoggponeookhbaaGreatDoor
end
section
namespace Go.Proofs.YtoggponeookhbaaGreatDoor
open Go.RowKit Go.Dc Go.Vx
theorem w38 (a b:ax):wk ab a b=some (a.cV !=0&&decide (a.cV<b.cN)):=by
 show(EA ab a b).val=_;unfold EA;simp only[T.aR,T.aM];cases a.cV !=0<;>rfl
theorem w52 (r:cF):M0 ab r=some (ir r ⟨363,0⟩||ir r ⟨364,0⟩):=by
 show(EJ ab r).val=_;unfold EJ;simp only[T.aR,T.aM];cases ir r ⟨363,0⟩<;>rfl
theorem w27 {s:bo} {d:ax} (hs:im s) (hc:fZ d.ed) (ho:d.cV≠0) (U:d.dd.db≠363) (h2:d.dd.db≠364):pO ab s d=some ((jh s d.ed).1,ir (jh s d.ed).2 d.dd):=by
 show(Ew ab s d).val=_;unfold Ew;have e0:(d.cV==0)=false:=by simpa using ho
 have e1:(ir d.dd ⟨363,0⟩||ir d.dd ⟨364,0⟩)=false:=by
  simp[ir,U,h2]
 simp only[T.bh,T.aR,T.aM,v19 hs hc,γ,w52,e0,e1,cond_false]
variable {c:Nat->bR}
theorem pF {i:Nat} {r:cF}:(dn c i r).cV=3*(i:Int)+3:=rfl
theorem tw {i:Nat} {r:cF}:(dn c i r).cN=3*(i:Int)+1:=rfl
theorem mM {i:Nat} {r:cF} (h:ch c i=true):(dn c i r).b9=3*(i:Int)+2:=by
 show(bif ch c i then _ else _)=_;rw[h];rfl
theorem vU {i:Nat} {r:cF} (h:ch c i=false):(dn c i r).b9=0:=by
 show(bif ch c i then _ else _)=_;rw[h];rfl
theorem VU {i j:Nat} {r q:cF}:wk ab (dn c i r) (dn c j q)=some (decide (i<j)):=by
 rw[w38,pF,tw]
 congr 1
 have e:((3*(i:Int)+3) !=0)=true:=by simp;omega
 rw[e,ω]
 by_cases h:i<j
 ·rw[decide_eq_true h,decide_eq_true (by omega)]
 ·rw[decide_eq_false h,decide_eq_false (by omega)]
theorem w49 (i:Nat) (r:cF):MZ ab (dn c i r)=some true:=by
 show(EI ab (dn c i r)).val=some true;unfold EI;have a1:(dn c i r).eU=((i%8:Nat):Int):=rfl;have a2:decide (((i%8:Nat):Int)>=0)=true:=decide_eq_true (by omega);have a3:decide (((i%8:Nat):Int)<8)=true:=decide_eq_true (by omega);have a4:decide (3*(i:Int)+1>=1)=true:=decide_eq_true (by omega);have a5:(3*(i:Int)+3==0)=false:=by simp;omega
 have a6:decide (3*(i:Int)+3>=3*(i:Int)+1)=true:=decide_eq_true (by omega);have z1:(1:Int)<=3*(i:Int)+1:=by omega
 have z2:3*(i:Int)+1<=3*(i:Int)+3:=by omega
 cases h:ch c i with
 |false=>
  simp only[T.aR,T.aM,vU h,a1,a2,a3,tw,pF,a4,a5,a6,cond_true,cond_false,ν,beq_self_eq_true];simp[z1,z2]
 |true=>
  have b1:(3*(i:Int)+2==0)=false:=by simp;omega
  have b2:decide (3*(i:Int)+2>=3*(i:Int)+1)=true:=decide_eq_true (by omega);have b3:decide (3*(i:Int)+2<=3*(i:Int)+3)=true:=decide_eq_true (by omega);simp only[T.aR,T.aM,mM h,a1,a2,a3,tw,pF,a4,a5,a6,b1,b2,b3,cond_true,cond_false,ν];simp[z1,z2]
variable {N:Nat} {r:Nat->cF}
theorem afu (N:Nat) (r:Nat->cF):KL ab (hD c N r)=some (.inr (false,(N:Int))):=by
 show cB (λi z a=>(Dp ab (hD c N r) i z a).val) (λi a=>(B0 ab (hD c N r) i a).val) 0 (hD c N r) ()=_;refine nU (st:=λ_=>()) (λj z hz=>?_) ?_
 ·obtain⟨_,rfl⟩:=rM hz;unfold Dp;simp only[T.bh,T.aR,T.aM,w49,γ,ι,cond_false]
 ·unfold B0;simp only[T.aM,kD];simp
theorem amQ {i:Nat} (h:i<=N):(hD c N r).take i=hD c i r:=by
 unfold hD;rw[<-ζg,List.take_range,Nat.min_eq_left h]
theorem afv {i:Nat} {q:cF}:C5 ab (hD c i r) (dn c i q).eU (dn c i q).ed.bP (dn c i q).ed.fArgs (dn c i q).dd.db (dn c i q).dd.dI (dn c i q).cN (dn c i q).b9 (dn c i q).cV=some (.inr (false,(i:Int))):=by
 unfold C5;show cB (λk z a=>(Dq ab (hD c i r) _ _ _ _ _ _ _ _ k z a).val) (λk a=>(B1 ab (hD c i r) _ _ _ _ _ _ _ _ k a).val) 0 (hD c i r) ()=_;refine nU (st:=λ_=>()) (λj z hz=>?_) ?_
 ·obtain⟨hj,rfl⟩:=rM hz;unfold Dq;have e:(ax.mk (dn c i q).eU (bR.mk (dn c i q).ed.bP (dn c i q).ed.fArgs) (cF.mk (dn c i q).dd.db (dn c i q).dd.dI) (dn c i q).cN (dn c i q).b9 (dn c i q).cV)=dn c i q:=rfl;rw[e];simp only[T.bh,T.aR,T.aM,VU,γ,decide_eq_true hj,cond_true];cases ((dn c j (r j)).eU !=(dn c i q).eU)<;>rfl
 ·unfold B1;simp only[T.aM,kD];simp
def mA (c:Nat->bR) (r:Nat->cF):Nat->List (Int×Int)
 |0=>[]
 |j+1=>dk (mA c r j) (dn c j (r j)).b9 (δ.wrap ((b6 (mA c r j) (dn c j (r j)).b9).getD 0+1))
theorem aab {i:Nat}: ∀ {j:Nat},j<=i->b6 (mA c r j) (3*(i:Int)+2)=none
 |0,_=>rfl
 |j+1,h=>by
  unfold mA;rw[xj,if_neg,aab (by omega)];cases hj:ch c j with
  |true=>rw[mM hj];omega
  |false=>rw[vU hj];omega
theorem BP (hN:N<=12):FQ ab ⟨hD c N r⟩=some 0:=by
 show(Eu ab ⟨hD c N r⟩).val=_;unfold Eu;have e1:decide (((hD c N r).length:Int)>64)=false:=decide_eq_false (by rw[kD];omega);have hL:C' ab (hD c N r) []=some (.inr (false,(N:Int),mA c r N)):=by
  show cB (λi z a=>(DD ab (hD c N r) i z a).val) (λi a=>(Cc ab (hD c N r) i a).val) 0 (hD c N r) (mA c r 0)=_;refine nU (st:=mA c r) (λj z hz=>?_) ?_
  ·obtain⟨hj,rfl⟩:=rM hz;unfold DD;have z_:gq (hD c N r) none (some (j:Int)) none=some (hD c j r):=by
    rw[<-amQ (c:=c) (r:=r) (ζJ hj)];unfold gq;simp only[ξa,ξb];rw[if_pos ⟨by omega,by omega,by rw[kD];omega,by rw[kD];omega,by rw[kD];omega,by simp⟩];simp
   simp only[T.bh,T.cE,T.dU,z_,afv,γ];cases hc:ch c j with
   |false=>
    simp only[T.aR,T.aM,vU hc,bne_self_eq_false,cond_false];rw[show mA c r (j+1)=dk (mA c r j) (dn c j (r j)).b9 (δ.wrap ((b6 (mA c r j) (dn c j (r j)).b9).getD 0+1)) from rfl,vU hc]
   |true=>
    have e2:((3*(j:Int)+2) !=0)=true:=by simp;omega
    rw[show mA c r (j+1)=dk (mA c r j) (dn c j (r j)).b9 (δ.wrap ((b6 (mA c r j) (dn c j (r j)).b9).getD 0+1)) from rfl];simp only[T.aR,T.aM,mM hc,e2,cond_true,xj,if_true,ξb,aab (ξ2 j),ξa];rw[show decide (δ.wrap (0+1)>1)=false from rfl];rfl
  ·unfold Cc;simp only[T.aM,kD];simp
 simp only[T.aR,T.cE,T.bh,T.dU,T.aM,e1,cond_false,afu,hL,γ]
end Go.Proofs.YtoggponeookhbaaGreatDoor
end
section
namespace Go.Proofs.YtoggponeookhbaaGreatDoor
open Go.RowKit Go.Dc Go.Vx
theorem aox:((ξ4 13).all λn=>(Fv ab (ξq.wrap (n:Int))).isSome)=true:=by kernel_rfl
theorem aow {n:Nat} (h:n<=12): ∃v,Fv ab (ξq.wrap (n:Int))=some v:=by
 have:=ξg.1 aox n (by simp;omega);exact Option.isSome_iff_exists.1 this
theorem BQ {σ X:Type} {step:σ->Option (σ ⊕ X)} {a:σ} {x:X} {f:Nat} (h:step a=some (.inr x)) (hf:0<f):dv step f a=some x:=xP (st:=λ_=>a) (n:=0) (λj hj=>by omega) h hf
theorem xS {j:Nat} (h:0<j) (hj:j<=1000000):δ.wrap ((j:Int)-1)=((j-1:Nat):Int):=by
 rw[eo (by omega) (by omega)];omega
theorem pj {j:Nat} (hj:j<=1000000):δ.wrap ((j:Int)+1)=((j+1:Nat):Int):=by
 rw[eo (by omega) (by omega)];omega
theorem apa {l:List Int} {q:List ax} {j:Nat} {x y:Int} {dx dy:ax} (hj:0<j) (qi:j<=1000000) (hx:l[j]? =some x) (hy:l[j-1]? =some y) (U:idx q x=some dx) (h2:idx q y=some dy) (h: ¬dx.b9<dy.b9): ∃v,Lz ab (j:Int) l q=some v:=by
 have hs: ∃v,(DR ab (j:Int) l q ()).val=some (.inr v):=by
  unfold DR;have e1:decide ((j:Int)>0)=true:=decide_eq_true (by omega);have e2:decide (dx.b9<dy.b9)=false:=decide_eq_false h;simp only[T.aR,T.bh,T.aM,e1,e2,cond_true,cond_false,iD hx,η,hx,xS hj qi,iD hy,hy,U,h2,γ,bne_self_eq_false];cases decide (dx.b9>dy.b9)<;>exact⟨_,rfl⟩
 obtain⟨v,hv⟩:=hs;exact⟨v,BQ hv (by decide)⟩
theorem ahe {l:List Int} {q:List ax} (hl:l.length<=1000) (h: ∀j,j+1<l.length-> ∃x y dx dy,l[j+1]? =some x/\l[j]? =some y/\idx q x=some dx/\idx q y=some dy/\ ¬dx.b9<dy.b9): ∃v,Lx ab l q 1=some v:=by
 refine⟨(false,((1+(l.length-1):Nat):Int)),?_⟩;show dv (λa=>(yA ab l q a).val) 1000000 ((1+0:Nat):Int)=_;refine xP (st:=λj=>((1+j:Nat):Int)) (n:=l.length-1) (f:=1000000) (λj hj=>?_) ?_ (by omega)
 ·have e1:decide (((1+j:Nat):Int)<(l.length:Int))=true:=decide_eq_true (by omega);obtain⟨x,y,dx,dy,U,h2,h3,h4,h5⟩:=h j (by omega);obtain⟨v,hv⟩:=apa (l:=l) (q:=q) (j:=1+j) (by omega) (by omega) (by rw[η4];exact U) (by rw[show 1+j-1=j by omega];exact h2) h3 h4 h5;unfold yA;simp only[T.aR,T.bh,T.cE,T.dU,T.aM,e1,cond_true,hv,γ,pj (show 1+j<=1000000 by omega)];rw[show 1+j+1=1+(j+1) by omega];cases v<;>rfl
 ·have e1:decide (((1+(l.length-1):Nat):Int)<(l.length:Int))=false:=decide_eq_false (by omega);unfold yA;simp only[T.aR,T.aM,e1,cond_false]
variable {c:Nat->bR} {N:Nat} {r:Nat->cF}
theorem I0 (hN:N<=12):FT ab ⟨hD c N r⟩=some (cj c N):=by
 show(Ey ab ⟨hD c N r⟩).val=_;unfold Ey;have hL:Ln ab (hD c N r) []=some (false,(N:Int),cj c N):=by
  show cB (λi z a=>(DL ab (hD c N r) i z a).val) (λi a=>(Cj ab (hD c N r) i a).val) 0 (hD c N r) (cj c 0)=_;refine nU (st:=cj c) (λj z hz=>?_) ?_
  ·obtain⟨hj,rfl⟩:=rM hz;unfold DL;rw[yP];cases hc:ch c j with
   |false=>
    have e2:((dn c j (r j)).b9 !=0)=false:=by rw[vU hc];rfl
    simp only[T.aR,T.aM,e2,cond_false];simp
   |true=>
    have e2:((dn c j (r j)).b9 !=0)=true:=by rw[mM hc];simp;omega
    simp only[T.aR,T.bh,T.aM,e2,cond_true];rw[pw (n:=100) (by rw[gI];have:=nz (c:=c) j;simp;omega) (by decide),γ];rfl
  ·unfold Cj;simp only[T.aM,kD];simp
 obtain⟨v,hv⟩:=aow (n:=(cj c N).length) (by rw[gI];have:=nz (c:=c) N;omega);have h92:Lw ab v (cj c N) (hD c N r)=some ():=by
  refine BQ ?_ (by decide);unfold LN;have hl:(cj c N).length<=12:=by rw[gI];have:=nz (c:=c) N;omega
  have e1:decide (δ.wrap (((cj c N).length:Int)-0)<=12)=true:=decide_eq_true (by rw[eo (by omega) (by omega)];omega);obtain⟨u,hu⟩:=ahe (l:=cj c N) (q:=hD c N r) (by omega) λj hj=>by
   have hx:(cj c N)[j+1]? =some (cj c N)[j+1]:=ε hj;have hy:(cj c N)[j]? =some (cj c N)[j]:=ε (by omega);obtain⟨a,ha,mh,N7,ha3⟩:=yO hx;obtain⟨b,hb,cO,cM,zT⟩:=yO hy;refine⟨_,_,dn c a (r a),dn c b (r b),hx,hy,by rw[ha];exact kC mh,by rw[hb];exact kC cO,?_⟩;rw[mM N7,mM cM];have:b<a:=by
    rcases ζK b a with h|h
    ·exact h
    ·have:=mL (c:=c) h;omega
   omega
  simp only[T.aR,T.bh,T.cE,T.aM,e1,cond_true,hu,γ]
 simp only[T.bh,T.cE,T.aM,hL,hv,h92,γ]
def fit (c:Nat->bR) (i:Nat) (q:cF):Bool:=ir (dS c i) q
theorem wo (hc: ∀i,fZ (c i)) {i:Nat} {q:cF} (U:q.db≠363) (h2:q.db≠364):pO ab (sq c i) (dn c i q)=some (sq c (i+1),fit c i q):=by
 rw[w27 (R8 hc i) (hc i) (by rw[pF];omega) U h2];rfl
theorem YY {α:Type} {l:List α} {k:Nat} {z:α} (hl:l.length=k+1) (hk:k<=1000) (hz:l[k]? =some z):idx l (δ.wrap ((l.length:Int)-1))=some z/\l[(δ.wrap ((l.length:Int)-1)).toNat]? =some z:=by
 rw[hl,xS (by omega) (by omega),ξG];exact⟨iD hz,by rw[η];exact hz⟩
def kB (c:Nat->bR) (N:Nat) (r:Nat->cF):Prop:= ∀i,i<N->(r i).db≠363/\(r i).db≠364
def sn (c:Nat->bR) (N j:Nat):List bo:=(ss c N).take (j+1)
theorem acY {i:Nat} (h:i<=N):(ss c N).take (bJ c i+1)=ss c i:=by
 induction N with
 |zero=>
  obtain rfl:i=0:=by omega
  rfl
 |succ N ih=>
  rcases ξu h with aB|rfl
  ·rw[R_,List.take_append_of_le_length (by rw[qT];have:=mL (c:=c) (show i<=N by omega);omega),ih (by omega)]
  ·rw[<-qT,ζj]
theorem KE (hc: ∀i,fZ (c i)) (hN:N<=12) (hg:kB c N r) {j:Nat} {z:Int} (hz:(cj c N)[j]? =some z): ∃i:Nat,z=i/\i<N/\ch c i=true/\bJ c i=j/\(vH ab (cj c N) (hD c N r) j z (sn c N j)).val=bif fit c i (r i) then some (.inl (sn c N (j+1))) else some (.inr (.inl ())):=by
 obtain⟨i,rfl,hi,c8,Og⟩:=yO hz;refine⟨i,rfl,hi,c8,Og,?_⟩;have e0:sn c N j=ss c i:=by unfold sn;rw[<-Og];exact acY (ζJ hi)
 have e1:sn c N (j+1)=ss c (i+1):=by
  unfold sn;rw[<-Og,<-acY (c:=c) (show i+1<=N by omega),tl,c8];rfl
 have aB:=nz (c:=c) i;obtain⟨U,h2⟩:=YY (qT (c:=c) i) (by omega) (BG (ξ2 i));obtain⟨g1,g2⟩:=hg i hi;unfold vH;rw[e0,e1];simp only[T.aR,T.bh,T.aM,U,h2,kC hi,wo hc g1 g2,v12,γ,decide_eq_false (acX c8),cond_false];cases fit c i (r i) with
 |false=>rfl
 |true=>
  simp only[ι,cond_false,cond_true];rw[pw (n:=100) (by rw[qT];simp;omega) (by decide),γ,R_,c8];rfl
theorem asb:sn c N (cj c N).length=ss c N:=by unfold sn;rw[gI,<-qT (c:=c),ζj]
theorem Ss (hc: ∀i,fZ (c i)) (hN:N<=12) (hg:kB c N r) (h: ∀i,i<N->ch c i=true->fit c i (r i)=true):zc ab ⟨hD c N r⟩ (cj c N)=some (ss c N,true):=by
 show(vO ab ⟨hD c N r⟩ (cj c N)).val=_;unfold vO;have hL:Da ab (cj c N) (hD c N r) [eF]=some (.inr (false,((cj c N).length:Int),ss c N)):=by
  show cB (λi z a=>(vH ab (cj c N) (hD c N r) i z a).val) (λi a=>(xY ab (cj c N) (hD c N r) i a).val) 0 (cj c N) (sn c N 0)=_;refine nU (st:=sn c N) (λj z hz=>?_) ?_
  ·obtain⟨i,_,hi,c8,_,e⟩:=KE hc hN hg hz;rw[e,h i hi c8];rfl
  ·unfold xY;rw[asb];simp only[T.aM];simp
 simp only[T.bh,T.cE,T.dU,T.aM,BO,hL,γ]
theorem at1 (hc: ∀i,fZ (c i)) (hN:N<=12) (hg:kB c N r) {k:Nat} (hk:k<N) (mV:ch c k=true) (rY:fit c k (r k)=false) (h: ∀i,i<k->ch c i=true->fit c i (r i)=true):zc ab ⟨hD c N r⟩ (cj c N)=some ([],false):=by
 show(vO ab ⟨hD c N r⟩ (cj c N)).val=_;unfold vO;have hL:Da ab (cj c N) (hD c N r) [eF]=some (.inl ()):=by
  show cB (λi z a=>(vH ab (cj c N) (hD c N r) i z a).val) (λi a=>(xY ab (cj c N) (hD c N r) i a).val) 0 (cj c N) (sn c N 0)=_;refine Iy (st:=sn c N) (n:=bJ c k) (Mb hk mV) (λj z hj hz=>?_) ?_
  ·obtain⟨i,_,hi,c8,e1,e⟩:=KE hc hN hg hz;have:i<k:=by
    rcases ζK i k with h|h
    ·exact h
    ·have:=mL (c:=c) h;omega
   rw[e,h i this c8];rfl
  ·obtain⟨i,e0,hi,c8,e1,e⟩:=KE hc hN hg (Mb hk mV);have:i=k:=by omega
   subst this;rw[e,rY];rfl
 simp only[T.bh,T.cE,T.dU,T.aM,BO,hL,γ]
end Go.Proofs.YtoggponeookhbaaGreatDoor
end
