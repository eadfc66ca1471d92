/- A part of the proof that OrderOne returns true for every input: the machine of values, its soundness, the program as plain functions, the law. Conditions: those of the given rows. -/
import Derived.ControlIn
import Derived.CallsIn
import Derived.WalkKit
import Derived.RangeFuncNested
import Derived.RangeFuncLeaves
import Derived.Laws.Cells
import Derived.Laws.Rows
import Derived.Laws.Tables
import Derived.Deep.MidRow
import Derived.IntWalk
import Derived.Deep.LoopGhost
import Derived.Scope
import Derived.OrdersIn
import Derived.Maps.AppendAt
import Derived.OwnWalk
import Derived.Laws.StructEq
import Derived.Laws.MakeOwn
import Derived.Laws.OwnMore
import Derived.Lib.AppendZerosOnto
import Derived.Lib.Overlaps
import Derived.Laws.Externs
import Derived.Laws.LoneSync
import Derived.Laws.AppendOwn
import Derived.MapKept
import Derived.Laws.BytesString
import Derived.Lib.BufferWrite
set_option linter.unusedVariables false
set_option linter.unusedSimpArgs false
noncomputable section
set_option maxRecDepth 1000000
set_option maxHeartbeats 12000000
open Array renaming getD_eq_getD_getElem?→θ,getElem?_setIfInBounds_ne→ξ,getElem?_eq_getElem→π,all_eq_true_iff_forall_mem→ξa,getElem?_eq_some_iff→ξd,toList_map→ξi,mapM_eq_mapM_toList→ξG,length_toList→ξL,replicate→ζX
open Bool renaming and_eq_true→μ,not_eq_true'→ξq,false_or→ζg,not_true→ζC,false_eq_true→ζE,or_eq_true→ζW,not_false→η1,true_and→η9
open Go.Act renaming eval→ζv,put→ζH
open Go.Addr renaming add→ζ6,add_zero'→ζx
open Go.Builtin renaming firstCells→ξ8,copy_→ξk,zeroCells→ξr,lenOf→ξw,len_→ξN,append_→ζr
open Go.Deferred renaming ofValue→ξW
open Go.Exit renaming inBlock→ζo
open Go.Extern.SlicesOverlaps renaming overlaps→ζO
open Go.Instr renaming indexAt→ξv,sliceAt→ξx,sureAddr→ξA,fill→ζb,sliceBound→ζl,slice→ζy,keyThatStays→ζG,sliceBounds→ζK,loadAt→ζM,buildSlice→ζQ,mapUpdate→ζY,makeFunc→η0,checkKey→η2,fieldAt→η6,extract→η7,storeAt→η8,findNow→ηa,findKey→ηb,lookup→ηg,build→ηh,field→ηi,alloc→ηj,index→ηl,next→ηm
open Go.IntKind renaming i64→ζV
open Go.MapKept renaming run_findKey→ζA,heap_set→ζR
open Go.Op renaming equalIn→ζI,intDiv→ζS,equal→η4,shift→η5
open Go.Oper renaming semAt_eq→ξm,uponIn→ξS
open Go.Region renaming ready→ξD,binds→ζq,wanted→ζB
open Go.Result renaming andThen_ok→ε
open Go.RowKit.Below renaming heap_alloc→ξV
open Go.Sem renaming run_bind→η,run_pure→κ,run→ζp,run_map→ζT
open Go.StepsIn renaming of_steps→ζP,mono→ηc
open Go.Utf8 renaming decode→ζ4
open Go.Value renaming oneCell'→ξl,int→ξs,bool→ξO,slice→ξT,cells→ζh
open Go.World renaming frozen?→ζD,shape?→ηf
open Int renaming natCast_nonneg→ζ7,toNat_natCast→ζL,ofNat→ζZ
open List renaming getElem?_eq_some_iff→ν,mem_cons_self→σ,mem_append→τ,length_append→χ,length_take→ω,getElem?_take→ξ0,mem_cons_of_mem→ξ5,take_of_length_le→ξ6,getElem?_drop→ξ7,getElem?_eq_getElem→ξ9,getElem?_cons_zero→ξc,length_drop→ξf,mem_cons→ξg,getElem?_cons_succ→ξh,mem_append_right→ξj,mem_append_left→ξo,getElem?_map→ξp,map_cons→ξu,length_cons→ξy,eq_nil_of_length_eq_zero→ξz,drop_eq_nil_of_le→ξB,getElem?_append_right→ξF,drop_eq_getElem_cons→ξH,getElem?_append_left→ξI,drop_append→ξK,mem_filter→ξQ,drop_of_length_le→ξR,getElem?_toArray→ξU,map_toArray→ξX,take_append→ξY,mem_of_getElem?→ζ0,range'→ζ1,nil_append→ζ2,mapM_cons→ζ8,replicate→ζ9,take_zero→ζa,any_eq_false→ζc,ext_getElem?→ζd,getElem?_set→ζe,append_assoc→ζf,all_eq_true→ζk,map_nil→ζs,getElem?_append→ζw,replicate_succ→ζz,findIdx?_cons→ζF,flatten_cons→ζJ,mem_map→ζN,headD_cons→ζU,range→η3,length→ηk
open Nat renaming eq_of_beq_eq_true→δ,beq→ζ,le_of_ble_eq_true→ο,blt→ξ2,le_refl→ξ3,lt_of_lt_of_le→ξ4,ble→ξb,mul_le_mul_right→ξn,zero_add→ξt,lt_or_ge→ξC,succ_mul→ξE,blt_eq→ξM,min→ξZ,decEq→ζ3,le_trans→ζ5,le_mul_of_pos_right→ζi,min_eq_right→ζm,add_zero→ζt,min_eq_left→ζu,add_comm→ηd,le_total→ηe
open Option renaming getD_some→υ,map_some→ξ1,map_none→ξe,getD_none→ξJ,none→ζj,map_eq_some_iff→ζn
open Option.some renaming injEq→ι
open Prod.mk renaming injEq→ξP
section
namespace Go.Dc
open Go.RowKit
abbrev Env:=List (Nat×Value)
def Env.get:Env->Nat->Option Value
 |[],_=>none
 |(i,v)::r,j=>bif ζ i j then some v else Env.get r j
structure Has (N:Nat) (E:Env) (ds:List Deferred) (a:Act):Prop where
 size:a.tmps.size=N
 defers:a.defers=ds
 get: ∀i v,E.get i=some v->a.tmps.getD i undef=v
def agree:Env->Env->Prop
 |[],_=>True
 |(i,v)::r,E=>E.get i=some v/\agree r E
theorem ahb {E' E:Env} (h:agree E' E): ∀ {i v},E'.get i=some v->E.get i=some v:=by
 induction E' with
 |nil=>intro i v hv;simp[Env.get] at hv
 |cons p r ih=>
  obtain⟨j,u⟩:=p;obtain⟨U,h2⟩:=h;intro i v hv;simp only[Env.get] at hv;cases hb:ζ j i with
  |true=>
   rw[hb] at hv;simp only[cond_true,ι] at hv;have:=δ hb;subst this;subst hv;exact U
  |false=>rw[hb] at hv;exact ih h2 hv
theorem Has.weaken {N E E' ds a} (h:Has N E ds a) (hE:agree E' E):Has N E' ds a:=⟨h.size,h.defers,λi v hv=>h.get i v (ahb hE hv)⟩
def ev (E:Env):Operand->Option Value
 | .tmp t=>E.get t
 | .const v=>some v
 | .global g=>some (.pointer (some ⟨g,0,none⟩))
 | .func f=>some (.func (.func f) #[] #[])
theorem Has.eval {N E ds a x v} (h:Has N E ds a) (hx:ev E x=some v):a.eval x=v:=by
 cases x with
 |tmp t=>exact h.get t v hx
 |const u=>simpa[ev,ζv] using hx
 |global g=>simpa[ev,ζv] using hx
 |func f=>simpa[ev,ζv] using hx
theorem Has.put {N E ds a d v} (h:Has N E ds a) (hd:ξ2 d N=true):Has N ((d,v)::E) ds (a.put (some d) v):=by
 have Oj:d<a.tmps.size:=by rw[h.size];exact ξM.mp hd
 refine⟨by simp[ζH,h.size],h.defers,λi u hu=>?_⟩;simp only[Env.get] at hu;simp only[ζH];cases hb:ζ d i with
 |true=>
  rw[hb] at hu;have:=δ hb;subst this;simp only[cond_true,ι] at hu;simp[Oj,hu]
 |false=>
  rw[hb] at hu;simp only[cond_false] at hu;have aN:d≠i:=λe=>by subst e;simp at hb
  have:=h.get i u hu;simp only[θ] at this ⊢;rw[ξ aN];exact this
structure TI where
 tag:Nat
 k:Nat:=0
 e:Nat:=0
 fs:List (Nat×Nat):=[]
 size:Nat:=1
 bytes:Nat:=8
 zero:Value:= .bool false
def YW:IntKind->Nat
 | .i8=>0| .i16=>1| .i32=>2| .i64=>3| .u8=>4| .u16=>5| .u32=>6| .u64=>7
def noKind:Nat->IntKind
 |0=> .i8|1=> .i16|2=> .i32|3=> .i64|4=> .u8|5=> .u16|6=> .u32|_=> .u64
theorem aoX (k:IntKind):noKind (YW k)=k:=by cases k<;>rfl
def nW:TypeDesc->Nat×Nat×Nat×List (Nat×Nat)
 | .bool=>(1,0,0,[])
 | .int k=>(2,YW k,0,[])
 | .string=>(3,0,0,[])
 | .pointer e=>(4,0,e,[])
 | .slice e=>(5,0,e,[])
 | .array n e=>(6,n,e,[])
 | .map k e=>(7,k,e,[])
 | .struct fs=>(8,0,0,fs.toList.map λf=>(f.type,f.offset))
 | .func _ _ _=>(9,0,0,[])
 | .interface _=>(10,0,0,[])
 |_=>(0,0,0,[])
abbrev dP:=List (Nat×TI)
def dP.get:dP->Nat->Option TI
 |[],_=>none
 |(i,v)::r,j=>bif ζ i j then some v else dP.get r j
def TI.fits (P:Program) (t:Nat) (i:TI):Prop:=
 (P.underlying t).map nW=some (i.tag,i.k,i.e,i.fs)/\(P.info? t).map (λx=>(x.size,x.bytes,x.zero))=some (i.size,i.bytes,some i.zero)
def dP.ok (P:Program):dP->Prop
 |[]=>True
 |(t,i)::r=>i.fits P t/\dP.ok P r
theorem dP.ok.fits {P:Program} {Θ:dP} (h:Θ.ok P): ∀ {t i},Θ.get t=some i->i.fits P t:=by
 induction Θ with
 |nil=>intro t i hi;simp[dP.get] at hi
 |cons p r ih=>
  obtain⟨j,u⟩:=p;obtain⟨U,h2⟩:=h;intro t i hi;simp only[dP.get] at hi;cases hb:ζ j t with
  |true=>
   rw[hb] at hi;have:=δ hb;subst this;simp only[cond_true,ι] at hi;subst hi;exact U
  |false=>rw[hb] at hi;exact ih h2 hi
section
variable {P:Program} {t:Nat} {i:TI}
theorem TI.fits.desc (h:i.fits P t): ∃d,P.underlying t=some d/\nW d=(i.tag,i.k,i.e,i.fs):=by
 obtain⟨U,_⟩:=h;cases hu:P.underlying t with
 |none=>rw[hu] at U;cases U
 |some d=>rw[hu] at U;exact⟨d,rfl,by simpa using U⟩
theorem TI.fits.info (h:i.fits P t): ∃x,P.info? t=some x/\x.size=i.size/\x.bytes=i.bytes/\x.zero=some i.zero:=by
 obtain⟨_,h2⟩:=h;cases hu:P.info? t with
 |none=>rw[hu] at h2;cases h2
 |some x=>rw[hu] at h2;simp only[ξ1,ι,ξP] at h2;exact⟨x,rfl,h2.1,h2.2.1,h2.2.2⟩
theorem TI.fits.bool (h:i.fits P t) (ht:i.tag=1):P.underlying t=some .bool:=by
 obtain⟨d,hd,hs⟩:=h.desc;rw[hd];cases d<;>simp[nW,ht] at hs<;>try rfl
 all_goals omega
theorem TI.fits.int (h:i.fits P t) (ht:i.tag=2):P.underlying t=some (.int (noKind i.k)):=by
 obtain⟨d,hd,hs⟩:=h.desc;rw[hd];cases d<;>simp[nW,ht] at hs<;>try omega
 rw[<-hs.1,aoX]
theorem TI.fits.string (h:i.fits P t) (ht:i.tag=3):P.underlying t=some .string:=by
 obtain⟨d,hd,hs⟩:=h.desc;rw[hd];cases d<;>simp[nW,ht] at hs<;>try rfl
 all_goals omega
theorem TI.fits.pointer (h:i.fits P t) (ht:i.tag=4):P.underlying t=some (.pointer i.e):=by
 obtain⟨d,hd,hs⟩:=h.desc;rw[hd];cases d<;>simp[nW,ht] at hs<;>try omega
 rw[hs.2.1]
theorem TI.fits.slice (h:i.fits P t) (ht:i.tag=5):P.underlying t=some (.slice i.e):=by
 obtain⟨d,hd,hs⟩:=h.desc;rw[hd];cases d<;>simp[nW,ht] at hs<;>try omega
 rw[hs.2.1]
theorem TI.fits.array (h:i.fits P t) (ht:i.tag=6):P.underlying t=some (.array i.k i.e):=by
 obtain⟨d,hd,hs⟩:=h.desc;rw[hd];cases d<;>simp[nW,ht] at hs<;>try omega
 rw[hs.1,hs.2.1]
theorem TI.fits.map (h:i.fits P t) (ht:i.tag=7):P.underlying t=some (.map i.k i.e):=by
 obtain⟨d,hd,hs⟩:=h.desc;rw[hd];cases d<;>simp[nW,ht] at hs<;>try omega
 rw[hs.1,hs.2.1]
theorem TI.fits.struct (h:i.fits P t) (ht:i.tag=8): ∃fs,P.underlying t=some (.struct fs)/\fs.toList.map (λf=>(f.type,f.offset))=i.fs:=by
 obtain⟨d,hd,hs⟩:=h.desc;rw[hd];cases d<;>simp[nW,ht] at hs<;>try omega
 exact⟨_,rfl,hs.2.2⟩
end
def MH (op:BinOp) (k:IntKind) (a b:Int):Option Value:=
 match op with
 | .add=>some (.int k (k.wrap (a+b)))
 | .sub=>some (.int k (k.wrap (a-b)))
 | .mul=>some (.int k (k.wrap (a*b)))
 | .and=>some (.int k (bits .and k a b))
 | .or=>some (.int k (bits .or k a b))
 | .xor=>some (.int k (bits .xor k a b))
 | .andNot=>some (.int k (bits .andNot k a b))
 | .eql=>some (.bool (a==b))
 | .neq=>some (.bool (a !=b))
 | .lss=>some (.bool (decide (a<b)))
 | .leq=>some (.bool (decide (a<=b)))
 | .gtr=>some (.bool (decide (a>b)))
 | .geq=>some (.bool (decide (a>=b)))
 |_=>none
def sameKind:IntKind->IntKind->Bool
 | .i8,.i8| .i16,.i16| .i32,.i32| .i64,.i64| .u8,.u8| .u16,.u16| .u32,.u32| .u64,.u64=>true
 |_,_=>false
theorem iI {a b:IntKind} (h:sameKind a b=true):a=b:=by cases a<;>cases b<;>first|rfl|(simp[sameKind] at h)
def wb (Θ:dP) (op:BinOp) (t:TypeId) (x y:Value):Option Value:=
 match x,y with
 | .int k a,.int k' b=>bif sameKind k k' then MH op k a b else none
 | .bool a,.bool b=>
  match Θ.get t with
  |some i=>bif ζ i.tag 1 then(match op with| .eql=>some (.bool (a==b))| .neq=>some (.bool (!(a==b)))|_=>none) else none
  |none=>none
 | .string a,.string b=>match op with| .eql=>some (.bool (a.toList==b.toList))| .neq=>some (.bool (!(a.toList==b.toList)))|_=>none
 | .slice a _ _,.slice none _ _=>
  match Θ.get t with
  |some i=>bif ζ i.tag 5 then(match op with| .eql=>some (.bool a.isNone)| .neq=>some (.bool (!a.isNone))|_=>none) else none
  |none=>none
 | .pointer a,.pointer none=>
  match Θ.get t with
  |some i=>bif ζ i.tag 4 then(match op with| .eql=>some (.bool a.isNone)| .neq=>some (.bool (!a.isNone))|_=>none) else none
  |none=>none
 |_,_=>none
def au6:Operand->Bool
 | .const (.int _ n)=>n==0
 |_=>true
def Fq (op:BinOp) (x:Value) (y:Operand):Option Value:=
 match x,y with
 | .int k a,.const (.int k' b)=>
  match op with
  | .quo=>bif sameKind k k'&&!(b==0) then some (.int k (k.wrap (a.tdiv b))) else none
  | .rem=>bif sameKind k k'&&!(b==0) then some (.int k (a.tmod b)) else none
  | .shl=>bif !(decide (b<0)) then some (.int k (k.wrap (a*2^(min b.toNat k.bits)))) else none
  | .shr=>bif !(decide (b<0)) then some (.int k (a.fdiv (2^(min b.toNat k.bits)))) else none
  |_=>none
 |_,_=>none
def ML (op:UnOp) (x:Value):Option Value:=
 match op,x with
 | .not,.bool b=>some (.bool (!b))
 | .neg,.int k n=>some (.int k (k.wrap (0-n)))
 |_,_=>none
def MJ (Θ:dP) (src dst:TypeId) (x:Value):Option Value:=
 match Θ.get src,Θ.get dst with
 |some i,some j=>
  match x with
  | .int _ n=>bif ζ j.tag 2 then some (.int (noKind j.k) ((noKind j.k).wrap n)) else none
  | .string s=>bif ζ i.tag 3&&ζ j.tag 3 then some (.string s) else none
  |_=>none
 |_,_=>none
def MK (Θ:dP) (t:TypeId) (x:Value):Option Value:=
 match Θ.get t with
 |some i=>
  match x with
  | .slice _ n _=>bif ζ i.tag 5 then some (.int .i64 n) else none
  | .string s=>bif ζ i.tag 3 then some (.int .i64 s.size) else none
  |_=>none
 |none=>none
def Wb (x y:Value):Option Value:=
 match x,y with
 | .int k a,.int k' b=>bif sameKind k k' then some (.int k (if b<a then b else a)) else none
 |_,_=>none
def Wa (x y:Value):Option Value:=
 match x,y with
 | .int k a,.int k' b=>bif sameKind k k' then some (.int k (if b>a then b else a)) else none
 |_,_=>none
def l5 (E:Env):List Operand->Option (List Value)
 |[]=>some []
 |x::r=>match ev E x,l5 E r with|some v,some vs=>some (v::vs)|_,_=>none
def rH (fs:List (Nat×Nat)) (Θ:dP) (E:Env):List (Nat×Operand)->Array Value->Option (Array Value)
 |[],cs=>some cs
 |(i,x)::r,cs=>
  match fs[i]?,ev E x with
  |some (t,off),some v=>
   match Θ.get t with
   |some ti=>
    bif ζ v.cells.size ti.size&&ξb (off+v.cells.size) cs.size then rH fs Θ E r (v.cells.zipIdx.foldl (λcs (c,j)=>cs.setIfInBounds (off+j) c) cs)
    else none
   |none=>none
  |_,_=>none
def MI (Θ:dP) (E:Env) (c:Callee) (args:List Operand) (ts:List TypeId):Option Value:=
 match c with
 | .builtin b=>
  match b with
  | .len=>match args,ts with|[x],[t]=>(match ev E x with|some v=>MK Θ t v|none=>none)|_,_=>none
  | .min=>match args with|[x,y]=>(match ev E x,ev E y with|some u,some v=>Wb u v|_,_=>none)|_=>none
  | .max=>match args with|[x,y]=>(match ev E x,ev E y with|some u,some v=>Wa u v|_,_=>none)|_=>none
  | .cap=>
   match args,ts with
   |[x],[t]=>
    match Θ.get t,ev E x with
    |some i,some (.slice _ _ c)=>bif ζ i.tag 5 then some (.int .i64 c) else none
    |_,_=>none
   |_,_=>none
  |_=>none
 |_=>none
def ou (Θ:dP) (E:Env) (op:Op):Option Value:=
 match op with
 | .move x| .assign x=>ev E x
 | .pick c a b=>match ev E c with|some (.bool t)=>(match t with|true=>ev E a|false=>ev E b)|_=>none
 | .binOp o t x y _=>
  match ev E x,ev E y with
  |some u,some v=>
   match Fq o u y with
   |some z=>some z
   |none=>wb Θ o t u v
  |_,_=>none
 | .unOp o _ x=>match ev E x with|some v=>ML o v|none=>none
 | .convert s d x=>match ev E x with|some v=>MJ Θ s d v|none=>none
 | .extract x i=>match ev E x with|some (.tuple vs)=>vs[i]? |_=>none
 | .makeFunc fn first ahz=>match l5 E first.toList,l5 E ahz.toList with|some f,some c=>some (.func fn f.toArray c.toArray)|_,_=>none
 | .field t x f=>
  match Θ.get t,ev E x with
  |some i,some (.agg cs)=>
   bif ζ i.tag 8 then
    match i.fs[f]? with
    |some (ft,off)=>
     match Θ.get ft with
     |some j=>bif ζ j.tag 8||ζ j.tag 6 then some (.agg (cs.extract off (off+j.size))) else cs[off]?
     |none=>none
    |none=>none
   else none
  |_,_=>none
 | .fieldAddr t x f=>
  match Θ.get t,ev E x with
  |some i,some (.pointer (some a))=>
   bif ζ i.tag 8 then
    match i.fs[f]? with
    |some (ft,off)=>
     match Θ.get ft with
     |some j=>bif ζ j.size 0 then none else some (.pointer (some (a.add off)))
     |none=>none
    |none=>none
   else none
  |_,_=>none
 | .build t parts=>
  match Θ.get t with
  |some i=>bif ζ i.tag 8 then(match rH i.fs Θ E parts.toList i.zero.cells with|some cs=>some (.agg cs)|none=>none) else none
  |none=>none
 | .nilCheck x=>match ev E x with|some (.pointer (some a))=>some (.pointer (some a))|some (.func (.func f) u v)=>some (.func (.func f) u v)|_=>none
 | .call c=>MI Θ E c.callee c.args.toList c.argTypes.toList
 |_=>none
section
variable {P:Program} {Θ:dP} {N:Nat} {E:Env} {ds:List Deferred} {a:Act} {w:World}
theorem arG {op:BinOp} {k:IntKind} {x y:Int} {v:Value} {t:TypeId} {ox oy:Operand} (h:MH op k x y=some v):
  (do eqGuard op t ox oy (.int k x) (.int k y);binOp op t (.int k x) (.int k y):Sem Value).run P w= .ok v w:=by
 cases op<;>simp[MH] at h<;>subst h<;>simp[go_sem]
 all_goals simp[Op.intArith]
theorem MF {t:TypeId} {x y:Value} {r:Bool} (h: ∀d,(ζI (d+1) t x y).run P w= .ok r w):(η4 t x y).run P w= .ok r w:=h 9999
theorem alL {t:TypeId} {x y:Bool} (h:P.underlying t=some .bool):(η4 t (.bool x) (.bool y)).run P w= .ok (x==y) w:=
 MF λd=>by simp[ζI,run_underlying h]
theorem alN {t e:TypeId} {A:Option Addr} {n c m d:Nat} (h:P.underlying t=some (.slice e)):(η4 t (.slice A n c) (.slice none m d)).run P w= .ok A.isNone w:=
 MF λd=>by cases A<;>simp[ζI,run_underlying h]
theorem alM {t e:TypeId} {A:Option Addr} (h:P.underlying t=some (.pointer e)):(η4 t (.pointer A) (.pointer none)).run P w= .ok A.isNone w:=
 MF λd=>by cases A<;>simp[ζI,run_underlying h]
theorem abX (aO:Θ.ok P) {op:BinOp} {x y v:Value} {t:TypeId} {ox oy:Operand} (h:wb Θ op t x y=some v):
  (do eqGuard op t ox oy x y;binOp op t x y:Sem Value).run P w= .ok v w:=by
 unfold wb at h;split at h
 ·rename_i k a k' b;cases hk:sameKind k k' with
  |true=>rw[hk] at h;have:=iI hk;subst this;exact arG h
  |false=>rw[hk] at h;cases h
 ·rename_i a b;cases hi:Θ.get t with
  |none=>rw[hi] at h;cases h
  |some i=>
   rw[hi] at h;simp only at h;cases hb:ζ i.tag 1 with
   |false=>rw[hb] at h;cases h
   |true=>
    rw[hb] at h;have hu:=(aO.fits hi).bool (δ hb);cases op<;>simp at h<;>subst h<;>simp[go_sem,binOp,alL hu]
 ·rename_i a b;cases op<;>simp at h<;>subst h<;>simp[binOp,Op.stringOp,eqGuard_at_string]
 ·rename_i A n c m d;cases hi:Θ.get t with
  |none=>rw[hi] at h;cases h
  |some i=>
   rw[hi] at h;simp only at h;cases hb:ζ i.tag 5 with
   |false=>rw[hb] at h;cases h
   |true=>
    rw[hb] at h;have hu:=(aO.fits hi).slice (δ hb);cases op<;>simp at h<;>subst h<;>simp[go_sem,binOp,alN hu]
 ·rename_i A;cases hi:Θ.get t with
  |none=>rw[hi] at h;cases h
  |some i=>
   rw[hi] at h;simp only at h;cases hb:ζ i.tag 4 with
   |false=>rw[hb] at h;cases h
   |true=>
    rw[hb] at h;have hu:=(aO.fits hi).pointer (δ hb);cases op<;>simp at h<;>subst h<;>simp[go_sem,binOp,alM hu]
 ·cases h
theorem arJ {op:BinOp} {x v:Value} {t:TypeId} {ox oy:Operand} {y:Value} (hy:ev E oy=some y) (h:Fq op x oy=some v):
  (do eqGuard op t ox oy x y;binOp op t x y:Sem Value).run P w= .ok v w:=by
 unfold Fq at h;split at h
 ·rename_i k a k' b;simp only[ev,ι] at hy;subst hy;cases op<;>simp at h
  ·cases hk:sameKind k k'<;>rw[hk] at h
   ·cases h
   ·have:=iI hk;subst this;cases hb:(b==0)<;>rw[hb] at h
    ·simp at h;subst h;have:b≠0:=by simpa using hb
     simp[go_sem,ζS,this]
    ·cases h
  ·cases hk:sameKind k k'<;>rw[hk] at h
   ·cases h
   ·have:=iI hk;subst this;cases hb:(b==0)<;>rw[hb] at h
    ·simp at h;subst h;have:b≠0:=by simpa using hb
     simp[go_sem,ζS,this]
    ·cases h
  ·cases hb:decide (b<0)<;>rw[hb] at h
   ·simp at h;subst h;have: ¬b<0:=by simpa using hb
    simp[go_sem,η5,this]
   ·cases h
  ·cases hb:decide (b<0)<;>rw[hb] at h
   ·simp at h;subst h;have: ¬b<0:=by simpa using hb
    simp[go_sem,η5,this]
   ·cases h
 ·cases h
theorem arL {op:UnOp} {x v:Value} (h:ML op x=some v):(Op.unary op x).run P w= .ok v w:=by
 unfold ML at h;split at h<;>simp at h<;>subst h<;>simp[Op.unary,Op.intArith]
theorem arI (aO:Θ.ok P) {s d:TypeId} {x v:Value} (h:MJ Θ s d x=some v):(convert s d x).run P w= .ok v w:=by
 unfold MJ at h;split at h
 ·rename_i i j hi hj;split at h
  ·rename_i k n;cases hb:ζ j.tag 2<;>rw[hb] at h
   ·cases h
   ·simp at h;subst h;have hd:=(aO.fits hj).int (δ hb);obtain⟨u,hs,_⟩:=(aO.fits hi).desc;simp[convert,run_underlying hd,run_underlying hs,Conv.intToInt]
  ·rename_i s;cases hb:ζ i.tag 3<;>rw[hb] at h
   ·cases h
   ·cases fH:ζ j.tag 3<;>rw[fH] at h
    ·cases h
    ·simp at h;subst h;have hd:=(aO.fits hj).string (δ fH);have hs:=(aO.fits hi).string (δ hb);simp[convert,run_underlying hd,run_underlying hs]
  ·cases h
 ·cases h
theorem arK (aO:Θ.ok P) {t ty:TypeId} {x v:Value} (h:MK Θ t x=some v):(ξN #[t] ty #[x]).run P w= .ok v w:=by
 unfold MK at h;split at h
 ·rename_i i hi;split at h
  ·rename_i A n c;cases hb:ζ i.tag 5<;>rw[hb] at h
   ·cases h
   ·simp at h;subst h;have hd:=(aO.fits hi).slice (δ hb);simp[ξN,run_underlying hd,goInt]
  ·rename_i s;cases hb:ζ i.tag 3<;>rw[hb] at h
   ·cases h
   ·simp at h;subst h;have hd:=(aO.fits hi).string (δ hb);simp[ξN,run_underlying hd,goInt]
  ·cases h
 ·cases h
theorem yF (h:Has N E ds a): ∀ {l:List Operand} {vs:List Value},l5 E l=some vs->l.map a.eval=vs:=by
 intro l
 induction l with
 |nil=>intro vs hv;simp[l5] at hv;subst hv;rfl
 |cons x r ih=>
  intro vs hv;simp only[l5] at hv;split at hv
  ·rename_i v us hx hr;simp at hv;subst hv;simp[h.eval hx,ih hr]
  ·cases hv
theorem gf {t:TypeId} {i:TI} (h:i.fits P t):(sizeOf t).run P w= .ok i.size w:=by
 obtain⟨x,hx,hs,_⟩:=h.info;simp[sizeOf,typeInfo,hx,hs]
theorem PO {t:TypeId} {i:TI} (h:i.fits P t):(isAgg t).run P w= .ok (ζ i.tag 8||ζ i.tag 6) w:=by
 obtain⟨d,hd,hs⟩:=h.desc;simp only[isAgg,η,run_underlying hd,ε];cases d<;>simp[nW] at hs<;>rw[<-hs.1]<;>rfl
theorem vf {t:TypeId} {i:TI} (h:i.fits P t):(zeroValue t).run P w= .ok i.zero w:=by
 obtain⟨x,hx,_,_,hz⟩:=h.info;simp[zeroValue,typeInfo,hx,hz]
theorem apN {t off:Nat} {i:TI} {cs:Array Value} {v:Value} (h:i.fits P t)
  (hv:(bif ζ i.tag 8||ζ i.tag 6 then some (.agg (cs.extract off (off+i.size))) else cs[off]?)=some v):(part t cs off).run P w= .ok v w:=by
 simp only[part,η,PO h,ε];cases hb:(ζ i.tag 8||ζ i.tag 6)<;>rw[hb] at hv
 ·simp only[cond_false] at hv;simp[hv]
 ·simp only[cond_true,ι] at hv;simp[gf h,hv]
theorem Nh {fs:Array Field} {l:List (Nat×Nat)} (hl:fs.toList.map (λf=>(f.type,f.offset))=l) {f t off:Nat} (h:l[f]? =some (t,off)):
  ∃g,fs[f]? =some g/\g.type=t/\g.offset=off:=by
 subst hl;rw[ξp] at h;cases hg:fs.toList[f]? with
 |none=>rw[hg] at h;cases h
 |some g=>
  rw[hg] at h;simp at h;exact⟨g,by simpa using hg,h.1,h.2⟩
theorem alX (aO:Θ.ok P) {fs:Array Field} {l:List (Nat×Nat)} (hl:fs.toList.map (λf=>(f.type,f.offset))=l) (h:Has N E ds a) {places:Array (Nat×Nat)}
  (hp: ∀(f t off:Nat) (i:TI),l[f]? =some (t,off)->Θ.get t=some i->places[f]? =some (off,i.size)):
  ∀ {ps:List (Nat×Operand)} {cs cD:Array Value},rH l Θ E ps cs=some cD->ζb (places[·]?) cs (ps.map λp=>(p.1,a.eval p.2))=some cD:=by
 intro ps
 induction ps with
 |nil=>intro cs cD hc;simpa[rH,ζb] using hc
 |cons p r ih=>
  obtain⟨f,x⟩:=p;intro cs cD hc;simp only[rH] at hc;split at hc
  ·rename_i t off v hf hx;cases hi:Θ.get t with
   |none=>rw[hi] at hc;cases hc
   |some i=>
    rw[hi] at hc;simp only at hc;cases hb:(ζ v.cells.size i.size&&ξb (off+v.cells.size) cs.size)<;>rw[hb] at hc
    ·cases hc
    ·simp only[μ] at hb;have U:=δ hb.1;have h2:=ο hb.2;simp only[ξu,ζb,hp f t off i hf hi,h.eval hx];rw[if_neg (by simp only[U,ne_eq,not_true_eq_false,decide_false,ζg,decide_eq_true_eq];rw[U] at h2;omega)];exact ih hc
  ·cases hc
theorem aoF (aO:Θ.ok P): ∀(fs:List Field),(∀f∈fs,∃i:TI,i.fits P f.type)-> ∃ps:List (Nat×Nat),(fs.mapM (λf=>do pure (f.offset,<-sizeOf f.type):Field->Sem (Nat×Nat))).run P w= .ok ps w/\
  ∀(k:Nat) (f:Field) (i:TI),fs[k]? =some f->i.fits P f.type->ps[k]? =some (f.offset,i.size):=by
 intro fs
 induction fs with
 |nil=>intro _;exact⟨[],by simp,λk f i h=>by simp at h⟩
 |cons f r ih=>
  intro hf;obtain⟨ps,U,h2⟩:=ih λg hg=>hf g (ξ5 _ hg);obtain⟨i,hi⟩:=hf f σ;refine⟨(f.offset,i.size)::ps,?_,?_⟩
  ·simp only[ζ8,η,gf hi,ε,κ,U]
  ·intro k g j hk hj;cases k with
   |zero=>
    simp only[ξc,ι] at hk ⊢;subst hk;obtain⟨x,hx,hs,_⟩:=hi.info;obtain⟨y,hy,qz,_⟩:=hj.info;rw[hx] at hy;cases hy;rw[<-hs,<-qz]
   |succ k=>simpa using h2 k g j (by simpa using hk) hj
def zf (Θ:dP):List (Nat×Nat)->Bool
 |[]=>true
 |(t,_)::r=>(Θ.get t).isSome&&zf Θ r
theorem alU (aO:Θ.ok P): ∀(fs:List Field),zf Θ (fs.map λf=>(f.type,f.offset))=true-> ∀f∈fs,∃i:TI,i.fits P f.type:=by
 intro fs
 induction fs with
 |nil=>intro _ f hf;cases hf
 |cons g r ih=>
  intro h f hf;simp only[ξu,zf,μ] at h;rcases ξg.1 hf with rfl|hf
  ·obtain⟨i,hi⟩:=Option.isSome_iff_exists.1 h.1;exact⟨i,aO.fits hi⟩
  ·exact ih h.2 f hf
theorem run_build (aO:Θ.ok P) (h:Has N E ds a) {t:TypeId} {i:TI} {ps:Array (Nat×Operand)} {cs:Array Value} (hi:Θ.get t=some i) (ht:i.tag=8) (cY:zf Θ i.fs=true)
  (hc:rH i.fs Θ E ps.toList i.zero.cells=some cs):(ηh t (ps.map λ(k,x)=>(k,a.eval x))).run P w= .ok (.agg cs) w:=by
 obtain⟨fs,hu,hl⟩:=(aO.fits hi).struct ht;obtain⟨pl,U,h2⟩:=aoF (P:=P) (w:=w) aO fs.toList (alU aO _ (by rw[hl];exact cY));simp only[ηh,η,vf (aO.fits hi),ε,run_underlying hu];rw[ξG];simp only[ζT,U];have hf:=alX (places:=pl.toArray) aO hl h (λf t off j hf hj=>by
  obtain⟨g,hg,rfl,rfl⟩:=Nh hl hf;have:=h2 f g j (by simpa using hg) (aO.fits hj);simpa using this) hc
 simp only[ε];rw[ξi];have wJ:ζb (λx=>pl.toArray[x]?) i.zero.cells (ps.toList.map λx=>(x.1,a.eval x.2))=some cs:=hf;rw[wJ];rfl
theorem abY (aO:Θ.ok P) {t f ft off:Nat} {i j:TI} {cs:Array Value} {v:Value} (hi:Θ.get t=some i) (ht:i.tag=8) (hf:i.fs[f]? =some (ft,off)) (hj:Θ.get ft=some j)
  (hv:(bif ζ j.tag 8||ζ j.tag 6 then some (.agg (cs.extract off (off+j.size))) else cs[off]?)=some v):(ηi t (.agg cs) f).run P w= .ok v w:=by
 obtain⟨fs,hu,hl⟩:=(aO.fits hi).struct ht;obtain⟨g,hg,rfl,rfl⟩:=Nh hl hf;simp[ηi,run_underlying hu,hg,asAgg,apN (aO.fits hj) hv]
theorem abZ (aO:Θ.ok P) {t f ft off:Nat} {i j:TI} {A:Addr} (hi:Θ.get t=some i) (ht:i.tag=8) (hf:i.fs[f]? =some (ft,off)) (hj:Θ.get ft=some j)
  (hz:j.size≠0):(η6 t (.pointer (some A)) f).run P w= .ok (.pointer (some (A.add off))) w:=by
 obtain⟨fs,hu,hl⟩:=(aO.fits hi).struct ht;obtain⟨g,hg,rfl,rfl⟩:=Nh hl hf;simp[η6,run_underlying hu,hg,ξA,fieldPlace,gf (aO.fits hj),hz]
theorem kd {α:Type} {x:Array α} {l:List α} (h:x.toList=l):x=l.toArray:=by rw[<-h]
theorem arH (aO:Θ.ok P) (h:Has N E ds a) {c:Call} {ty:TypeId} {v:Value} (hv:MI Θ E c.callee c.args.toList c.argTypes.toList=some v):
  (do let d<-resolve a.eval c ty;invoke d.target d.args:Sem Next).run P w= .ok (.value v) w:=by
 obtain⟨c_,args,ts⟩:=c;simp only at hv;unfold MI at hv;split at hv
 ·split at hv
  ·split at hv
   ·rename_i x t hx ht;have e1:=kd hx;have e2:=kd ht;subst e1;subst e2;split at hv
    ·rename_i u hu;simp[resolve,invoke,builtin,h.eval hu,arK aO hv]
    ·cases hv
   ·cases hv
  ·split at hv
   ·rename_i x y hx;have e1:=kd hx;subst e1;split at hv
    ·rename_i u z hu hz;unfold Wb at hv;split at hv
     ·rename_i k m k' n;cases hk:sameKind k k'<;>rw[hk] at hv
      ·cases hv
      ·simp only[cond_true,ι] at hv;subst hv;simp[resolve,invoke,builtin,h.eval hu,h.eval hz,Builtin.min_,Builtin.min2]
     ·cases hv
    ·cases hv
   ·cases hv
  ·split at hv
   ·rename_i x y hx;have e1:=kd hx;subst e1;split at hv
    ·rename_i u z hu hz;unfold Wa at hv;split at hv
     ·rename_i k m k' n;cases hk:sameKind k k'<;>rw[hk] at hv
      ·cases hv
      ·simp only[cond_true,ι] at hv;subst hv;simp[resolve,invoke,builtin,h.eval hu,h.eval hz,Builtin.max_,Builtin.max2]
     ·cases hv
    ·cases hv
   ·cases hv
  ·split at hv
   ·rename_i x t hx ht;have e1:=kd hx;have e2:=kd ht;subst e1;subst e2;split at hv
    ·rename_i i A n c hi hu;cases ht:ζ i.tag 5<;>rw[ht] at hv
     ·cases hv
     ·simp only[cond_true,ι] at hv;subst hv;simp[resolve,invoke,builtin,h.eval hu,Builtin.cap_,run_underlying ((aO.fits hi).slice (δ ht)),goInt]
    ·cases hv
   ·cases hv
  ·cases hv
 ·cases hv
def nD (Θ:dP):Op->Bool
 | .build t _=>match Θ.get t with|some i=>zf Θ i.fs|none=>false
 |_=>true
theorem IC (aO:Θ.ok P) (h:Has N E ds a) {o:Oper} {v:Value} (hg:nD Θ o.op=true) (hv:ou Θ E o.op=some v):(execOp a.eval o).run P w= .ok (.value v) w:=by
 unfold ou at hv;unfold execOp;split at hv
 ·rename_i x ah;rw[ah];simp[h.eval hv]
 ·rename_i x ah;rw[ah];simp[h.eval hv]
 ·rename_i c x y ah;rw[ah];split at hv
  ·rename_i t hc;cases t
   ·simp[h.eval hc,h.eval hv,asBool]
   ·simp[h.eval hc,h.eval hv,asBool]
  ·cases hv
 ·rename_i b t x y _ ah;rw[ah];split at hv
  ·rename_i u v' hx hy;simp only[h.eval hx,h.eval hy];cases hd:Fq b u y with
   |some z=>
    rw[hd] at hv;simp only[ι] at hv;subst hv;have:=arJ (P:=P) (w:=w) (t:=t) (ox:=x) hy hd;simp only[η] at this ⊢;rw[this];rfl
   |none=>
    rw[hd] at hv;have:=abX (P:=P) (w:=w) (ox:=x) (oy:=y) aO hv;simp only[η] at this ⊢;rw[this];rfl
  ·cases hv
 ·rename_i b t x ah;rw[ah];split at hv
  ·rename_i u hx;simp[h.eval hx,arL hv]
  ·cases hv
 ·rename_i s d x ah;rw[ah];split at hv
  ·rename_i u hx;simp[h.eval hx,arI aO hv]
  ·cases hv
 ·rename_i x i ah;rw[ah];split at hv
  ·rename_i vs hx;simp[h.eval hx,η7,hv]
  ·cases hv
 ·rename_i fn f c ah;rw[ah];split at hv
  ·rename_i u z hf hc;simp only[ι] at hv;subst hv;have e1:f.map a.eval=u.toArray:=by rw[<-yF h hf,<-ξi]
   have e2:c.map a.eval=z.toArray:=by rw[<-yF h hc,<-ξi]
   simp[η0,e1,e2]
  ·cases hv
 ·rename_i t x f ah;rw[ah];split at hv
  ·rename_i i cs hi hx;cases ht:ζ i.tag 8<;>rw[ht] at hv
   ·cases hv
   ·simp only[cond_true] at hv;split at hv
    ·rename_i ft off hf;split at hv
     ·rename_i j hj;simp[h.eval hx,abY aO hi (δ ht) hf hj hv]
     ·cases hv
    ·cases hv
  ·cases hv
 ·rename_i t x f ah;rw[ah];split at hv
  ·rename_i i A hi hx;cases ht:ζ i.tag 8<;>rw[ht] at hv
   ·cases hv
   ·simp only[cond_true] at hv;split at hv
    ·rename_i ft off hf;split at hv
     ·rename_i j hj;cases hz:ζ j.size 0<;>rw[hz] at hv
      ·simp only[cond_false,ι] at hv;subst hv;simp[h.eval hx,abZ aO hi (δ ht) hf hj (by intro e;rw[e] at hz;cases hz)]
      ·cases hv
     ·cases hv
    ·cases hv
  ·cases hv
 ·rename_i t ps ah;rw[ah] at hg;rw[ah];split at hv
  ·rename_i i hi;simp only[nD,hi] at hg;cases ht:ζ i.tag 8<;>rw[ht] at hv
   ·cases hv
   ·simp only[cond_true] at hv;split at hv
    ·rename_i cs hc;simp only[ι] at hv;subst hv;have:=run_build (P:=P) (w:=w) aO h hi (δ ht) hg hc;simp only[η,this];rfl
    ·cases hv
  ·cases hv
 ·rename_i x ah;rw[ah];split at hv
  ·rename_i A hx;simp only[ι] at hv;subst hv;simp[h.eval hx]
  ·rename_i f u z hx;simp only[ι] at hv;subst hv;simp[h.eval hx]
  ·cases hv
 ·rename_i c ah;rw[ah];have:=arH (P:=P) (w:=w) (ty:=o.type) aO h hv;simp only[η] at this ⊢;exact this
 ·cases hv
end
def fw (r:Option Nat):Fence:= { fn:=λ_=>True,depth:=none,alive:=false,round:=r }
theorem al7:fw none=Fence.wide:=rfl
def want (N:Nat) (ops:Array Oper) (E:Env) (g:Option (Nat×Bool)):Option Bool:=
 match g with
 |none=>some true
 |some (j,b)=>
  match ops[j]? with
  |some o=>
   match o.dst with
   |some d=>
    bif ξ2 d N then
     match E.get d with
     |some (.bool c)=>some (match c,b with|true,true=>true|false,false=>true|_,_=>false)
     |some (.tuple _)=>some false
     |_=>none
    else none
   |none=>none
  |none=>none
theorem l3 {N:Nat} {ops:Array Oper} {E:Env} {ds:List Deferred} {a:Act} {o:Oper} {b:Bool} (h:Has N E ds a) (hw:want N ops E o.guard=some b):
  ζB o (yielded ops a.tmps)=b:=by
 unfold want at hw;unfold ζB;split at hw
 ·rename_i hg;rw[hg];simpa using hw
 ·rename_i j c hg;rw[hg];simp only;split at hw
  ·rename_i p hp;split at hw
   ·rename_i d hd;cases hN:ξ2 d N<;>rw[hN] at hw
    ·cases hw
    ·simp only[cond_true] at hw;split at hw
     ·rename_i z hz;have aB:d<a.tmps.size:=by rw[h.size];exact ξM.mp hN
      have:=h.get d _ hz;rw[θ,π aB] at this;simp only[υ] at this;simp only[ι] at hw;subst hw;simp[yielded,hp,hd,aB,this];cases z<;>cases c<;>rfl
     ·rename_i z hz;have aB:d<a.tmps.size:=by rw[h.size];exact ξM.mp hN
      have:=h.get d _ hz;rw[θ,π aB] at this;simp only[υ] at this;simp only[ι] at hw;subst hw;simp[yielded,hp,hd,aB,this]
     ·cases hw
   ·cases hw
  ·cases hw
section
variable (P:Program) (r:Option Nat) (N:Nat)
def WO (ops:Array Oper) (Q:Exit->Act->World->Prop) (l:List Nat) (E:Env) (ds:List Deferred) (w:World):Prop:=
 ∀a,Has N E ds a->wpOpsIn (fw r) 0 P ops Q l a w
def WC (c:Code) (Q:Exit->Act->World->Prop) (E:Env) (ds:List Deferred) (w:World):Prop:=
 ∀a,Has N E ds a->c.wpIn (fw r) 0 P Q a w
def WQ (Q:Exit->Act->World->Prop) (e:Exit) (E:Env) (ds:List Deferred) (w:World):Prop:=
 ∀a,Has N E ds a->Q e a w
end
section
variable {P:Program} {r:Option Nat} {N:Nat} {Θ:dP} {ops:Array Oper} {Q:Exit->Act->World->Prop} {l:List Nat} {E E':Env} {ds:List Deferred} {w:World} {c x y:Code} {id:Nat}
theorem aS (h:WC P r N x (Exit.then (y.wpIn (fw r) 0 P Q) Q) E ds w):WC P r N (.seq x y) Q E ds w:=λa ha=>wpIn_seq (h a ha)
theorem u6 (h:WC P r N x (ζo id Q) E ds w):WC P r N (.block id x) Q E ds w:=λa ha=>wpIn_block (h a ha)
theorem gW (h:WQ N Q .normal E ds w):WC P r N .skip Q E ds w:=λa ha=>wpIn_skip (h a ha)
theorem Sv (h:WQ N Q (.exit id) E ds w):WC P r N (.exit id) Q E ds w:=λa ha=>wpIn_exit (h a ha)
theorem fz (h:WQ N Q .ret E ds w):WC P r N .ret Q E ds w:=λa ha=>wpIn_ret (h a ha)
theorem xO {o:Operand} (ho:ev E o=some (.bool true)) (h:WC P r N x Q E ds w):WC P r N (.cond o x y) Q E ds w:=λa ha=>wpIn_cond_true (ha.eval ho) (h a ha)
theorem sT {o:Operand} (ho:ev E o=some (.bool false)) (h:WC P r N y Q E ds w):WC P r N (.cond o x y) Q E ds w:=λa ha=>wpIn_cond_false (ha.eval ho) (h a ha)
theorem bl {ops:Array Oper} (hl:η3 ops.size=l) (h:WO P r N ops Q l E ds w):WC P r N (.region id ops false) Q E ds w:=
 λa ha=>wpIn_region (by rw[hl];exact h a ha)
theorem bc (h:WQ N Q .normal E ds w):WO P r N ops Q [] E ds w:=λa ha=>h a ha
theorem aT (h:WC P r N y Q E ds w):WQ N (Exit.then (y.wpIn (fw r) 0 P Q) Q) .normal E ds w:=λa ha=>h a ha
def wc (N:Nat) (Θ:dP) (ops:Array Oper):List Nat->Env->Option Env
 |[],E=>some E
 |i::l,E=>
  match ops[i]? with
  |some o=>
   match o.dst with
   |some d=>
    bif ξ2 d N then
     match want N ops E o.guard with
     |some true=>bif nD Θ o.op then(match ou Θ E o.op with|some v=>wc N Θ ops l ((d,v)::E)|none=>none) else none
     |some false=>wc N Θ ops l ((d,undef)::E)
     |none=>none
    else none
   |none=>none
  |none=>none
theorem ar6 {a:Act} {o:Oper} {v:Value} (aO:Θ.ok P) (h:Has N E ds a) (hg:nD Θ o.op=true) (hv:ou Θ E o.op=some v):(o.semAt (fw r).round a.eval).run P w= .ok (.value v) w:=by
 rw[ξm]
 ·exact IC aO h hg hv
 ·intro c hc;rw[hc] at hv;simp[ou] at hv
theorem ar5 (aO:Θ.ok P): ∀ {m:List Nat} {E E1:Env},wc N Θ ops m E=some E1-> ∀a,Has N E ds a->(∀a',Has N E1 ds a'->wpOpsIn (fw r) 0 P ops Q l a' w)->wpOpsIn (fw r) 0 P ops Q (m++l) a w:=by
 intro m
 induction m with
 |nil=>intro E E1 he a ha h;simp only[wc,ι] at he;subst he;exact h a ha
 |cons i m ih=>
  intro E E1 he a ha h;simp only[wc] at he;split at he
  ·rename_i o ho;split at he
   ·rename_i d hd;cases hN:ξ2 d N<;>rw[hN] at he
    ·cases he
    ·simp only[cond_true] at he;simp only[List.cons_append,wpOpsIn,ho];split at he
     ·rename_i hw;rw[if_pos (l3 ha hw)];cases hg:nD Θ o.op<;>rw[hg] at he
      ·cases he
      ·simp only[cond_true] at he;split at he
       ·rename_i v hv;refine⟨λ_ _=>trivial,?_⟩;rw[ar6 aO ha hg hv];simp only[ξS,hd];exact ih he _ (ha.put hN) h
       ·cases he
     ·rename_i hw;rw[if_neg (by rw[l3 ha hw];simp)];refine⟨λ_ _=>trivial,?_⟩;rw[hd];exact ih he _ (ha.put hN) h
     ·cases he
   ·cases he
  ·cases he
theorem aK (aO:Θ.ok P) (m:List Nat) {E1:Env} (E':Env) (he:wc N Θ ops m E=some E1) (hE:agree E' E1) (h:WO P r N ops Q l E' ds w):WO P r N ops Q (m++l) E ds w:=
 λa ha=>ar5 aO he a ha λa' ee=>h a' (ee.weaken hE)
theorem gE {i d:Nat} {o:Oper} {v:Value} {w':World} (ho:ops[i]? =some o) (hw:want N ops E o.guard=some true) (hd:o.dst=some d) (hN:ξ2 d N=true)
  (hc: ∀c,o.op≠ .defer c) (aX: ∀a,Has N E ds a->(execOp a.eval o).run P w= .ok (.value v) w') (h:WO P r N ops Q l ((d,v)::E) ds w'):WO P r N ops Q (i::l) E ds w:=by
 intro a ha;simp only[wpOpsIn,ho];rw[if_pos (l3 ha hw)];refine⟨λ_ _=>trivial,?_⟩;rw[ξm _ _ _ hc,aX a ha];simp only[ξS,hd];exact h _ (ha.put hN)
theorem auc {i:Nat} {o:Oper} {w':World} (ho:ops[i]? =some o) (hw:want N ops E o.guard=some true) (hd:o.dst=none)
  (hc: ∀c,o.op≠ .defer c) (aX: ∀a,Has N E ds a->(execOp a.eval o).run P w= .ok .skip w') (h:WO P r N ops Q l E ds w'):WO P r N ops Q (i::l) E ds w:=by
 intro a ha;simp only[wpOpsIn,ho];rw[if_pos (l3 ha hw)];refine⟨λ_ _=>trivial,?_⟩;rw[ξm _ _ _ hc,aX a ha];simp only[ξS,hd,ζH];exact h _ ha
theorem SC {i d f:Nat} {o:Oper} {args:Array Value} {w':World} {R:Ending->World->Prop} (ho:ops[i]? =some o) (hw:want N ops E o.guard=some true) (hd:o.dst=some d) (hN:ξ2 d N=true)
  (hc: ∀c,o.op≠ .defer c) (aX: ∀a,Has N E ds a->(execOp a.eval o).run P w= .ok (.enter f args) w') (iv:Calls P f args w' R)
  (h: ∀e cU,R e cU-> ∃v,e= .returned v/\WO P r N ops Q l ((d,v)::E) ds cU):WO P r N ops Q (i::l) E ds w:=by
 intro a ha;simp only[wpOpsIn,ho];rw[if_pos (l3 ha hw)];refine⟨λ_ _=>trivial,?_⟩;rw[ξm _ _ _ hc,aX a ha];simp only[ξS];refine⟨λh=>by simp[fw] at h,?_⟩;refine⟨trivial,λcs _=>?_⟩;obtain⟨e,cU,fr,hr,hs,hf,hl⟩:=iv cs;obtain⟨v,rfl,hk⟩:=h e cU hr;refine⟨.returned v,cU,fr,?_,?_,hf,hl⟩
 ·simp only[hd];exact hk _ (ha.put hN)
 ·have:=(comesIn_wide (P:=P) (m:=lone (Frame.enter P f args .normal) cs w') (m':=lone fr cs cU) (e:= .returned v)).2 hs;refine ηc (λm _=>?_) (ζP hs);intro g _;exact⟨λh=>by simp[fw] at h,Or.inl trivial,λ_ _=>trivial,λ_ h=>by simp[fw] at h⟩
end
structure Tr (O:List Nat) (w:World) (O':List Nat) (w':World):Prop where
 os:w'.os=w.os
 tape:w'.tape=w.tape
 output:w'.output=w.output
 size:w.heap.size<=w'.heap.size
 keep: ∀k,k<w.heap.size->k∉O->k∉O'/\w'.heap[k]? =w.heap[k]?
theorem Tr.refl (O:List Nat) (w:World):Tr O w O w:=⟨rfl,rfl,rfl,ξ3 _,λ_ _ h=>⟨h,rfl⟩⟩
theorem Tr.trans {O O' yi:List Nat} {w w' cU:World} (h:Tr O w O' w') (k:Tr O' w' yi cU):Tr O w yi cU:=
 ⟨k.os.trans h.os,k.tape.trans h.tape,k.output.trans h.output,ζ5 h.size k.size,λi hi ho=>
  let⟨U,h2⟩:=h.keep i hi ho
  let⟨k1,k2⟩:=k.keep i (ξ4 hi h.size) U
  ⟨k1,k2.trans h2⟩⟩
theorem Tr.less {O O':List Nat} {w:World} (h: ∀k,k∈O'->k∈O):Tr O w O' w:=⟨rfl,rfl,rfl,ξ3 _,λk _ ho=>⟨λh'=>ho (h k h'),rfl⟩⟩
def Sub (O O':List Nat):Prop:= ∀k,k∈O->k∈O'
theorem Sub.refl (O:List Nat):Sub O O:=λ_ h=>h
theorem Sub.trans {A B C:List Nat} (h:Sub A B) (k:Sub B C):Sub A C:=λx hx=>k x (h x hx)
theorem Sub.cons {O O':List Nat} (h:Sub O O') (b:Nat):Sub O (b::O'):=λk hk=>ξ5 _ (h k hk)
theorem lS {b:Nat} {O:List Nat} (h:b∈O): ∀k,k∈[b]->k∈O:=λk hk=>by simp at hk;subst hk;exact h
def OB (O:List Nat) (w:World):Prop:= ∀k,k∈O->k<w.heap.size
structure Fr (S:List Nat) (w w':World):Prop where
 os:w'.os=w.os
 tape:w'.tape=w.tape
 output:w'.output=w.output
 size:w.heap.size<=w'.heap.size
 block: ∀k,k<w.heap.size->k∉S->w'.heap[k]? =w.heap[k]?
theorem Fr.refl (S:List Nat) (w:World):Fr S w w:=⟨rfl,rfl,rfl,ξ3 _,λ_ _ _=>rfl⟩
theorem Fr.trans {S:List Nat} {w w' cU:World} (h:Fr S w w') (k:Fr S w' cU):Fr S w cU:=
 ⟨k.os.trans h.os,k.tape.trans h.tape,k.output.trans h.output,ζ5 h.size k.size,λi hi ho=>(k.block i (ξ4 hi h.size) ho).trans (h.block i hi ho)⟩
theorem Fr.more {S S':List Nat} {w w':World} (h:Fr S w w') (hs: ∀k,k∈S->k∈S'):Fr S' w w':=⟨h.os,h.tape,h.output,h.size,λi hi ho=>h.block i hi λh'=>ho (hs i h')⟩
theorem Fr.tr {S O:List Nat} {w w':World} (h:Fr S w w') (hs: ∀k,k∈S->k∈O):Tr O w O w':=⟨h.os,h.tape,h.output,h.size,λi hi ho=>⟨ho,h.block i hi λh'=>ho (hs i h')⟩⟩
theorem Fr.gj {O:List Nat} {w w':World} (h:Fr [] w w'):Tr O w O w':=h.tr λ_ hk=>by cases hk
theorem Fr.ob {S O:List Nat} {w w':World} (h:Fr S w w') (hO:OB O w):OB O w':=λk hk=>ξ4 (hO k hk) h.size
theorem Fr.below {w w':World} (h:Fr [] w w'):Below w.heap.size w w':=⟨h.os,h.tape,h.output,h.size,λk hk=>h.block k hk (by simp)⟩
theorem Fr.drew (S:List Nat) (w:World):Fr S w w.drew:=⟨rfl,rfl,rfl,ξ3 _,λ_ _ _=>rfl⟩
def ck (w:World) (b t:Nat) (cs:List Value):Prop:=w.heap[b]? =some (.cells cs.toArray t (0,0))
theorem ck.lt {w:World} {b t:Nat} {cs:List Value} (h:ck w b t cs):b<w.heap.size:=by
 rcases ξC b w.heap.size with aB|dp
 ·exact aB
 ·unfold ck at h;rw[Array.getElem?_eq_none dp] at h;cases h
theorem ck.fr {S:List Nat} {w w':World} {b t:Nat} {cs:List Value} (h:ck w b t cs) (hf:Fr S w w') (hb:b∉S):ck w' b t cs:=(hf.block b h.lt hb).trans h
theorem ck.c7 {w w':World} {b t:Nat} {cs:List Value} (h:ck w b t cs) (hf:Fr [] w w'):ck w' b t cs:=h.fr hf (by simp)
theorem ck.cell {w:World} {b t:Nat} {cs:List Value} (h:ck w b t cs) (j:Nat):w.cell? ⟨b,j,none⟩=cs[j]? :=by
 rw[cell_of_row w b j cs.toArray t (0,0) h];simp
structure rj (O:List Nat) (w:World) (b t:Nat) (cs:List Value) (w':World):Prop where
 cf:ck w' b t cs
 fr:Fr [] w w'
 tr:Tr O w (b::O) w'
 ob:OB (b::O) w'
 ge:w.heap.size<=b
theorem qF {O:List Nat} {w:World} (hO:OB O w) (t:Nat) (cs:List Value):rj O w w.heap.size t cs (w.alloc (.cells cs.toArray t)):=
 ⟨heap_alloc_new _ _,⟨rfl,rfl,rfl,by simp,λk hk _=>ξV _ _ _ hk⟩,
  ⟨rfl,rfl,rfl,by simp,λk hk ho=>⟨by simp;exact⟨by omega,ho⟩,ξV _ _ _ hk⟩⟩,
  λk hk=>by simp at hk ⊢;rcases hk with rfl|hk;omega;have:=hO k hk;omega,ξ3 _⟩
structure Ty (α:Type) where
 agg:Bool
 n:Nat
 rep:List Nat->World->List Value->α->Prop
 tr: ∀ {O w O' w' cs x},Tr O w O' w'->rep O w cs x->rep O' w' cs x
 len: ∀ {O w cs x},rep O w cs x->cs.length=n
 one: ∀ {O w cs x},rep O w cs x-> ∀u∈cs,u.oneCell'=true
 jS:agg=false->n=1
def Ty.mk' {α:Type} (T:Ty α) (cs:List Value):Value:=bif T.agg then .agg cs.toArray else cs.headD undef
def Ty.is {α:Type} (T:Ty α) (O:List Nat) (w:World) (v:Value) (x:α):Prop:= ∃cs,T.rep O w cs x/\v=T.mk' cs
theorem Ty.is.tr {α:Type} {T:Ty α} {O O':List Nat} {w w':World} {v:Value} {x:α} (h:T.is O w v x) (ht:Tr O w O' w'):T.is O' w' v x:=
 let⟨cs,hr,hv⟩:=h;⟨cs,T.tr ht hr,hv⟩
theorem Ty.cells {α:Type} {T:Ty α} {O:List Nat} {w:World} {cs:List Value} {x:α} (h:T.rep O w cs x):(T.mk' cs).cells.toList=cs:=by
 unfold Ty.mk';cases ha:T.agg with
 |true=>simp[ζh]
 |false=>
  have hl:=T.len h;rw[T.jS ha] at hl
  match cs,hl with
  |[c],_=>
   have:=T.one h c (by simp);simp only[cond_false,ζU];cases c<;>simp[ζh,ξl] at this ⊢
def Ty.int (k:IntKind):Ty Int where
 agg:=false
 n:=1
 rep _ _ cs x:=cs=[.int k x]
 tr _ h:=h
 len h:=by subst h;rfl
 one h u hu:=by subst h;simp at hu;subst hu;rfl
 jS _:=rfl
def Ty.bool:Ty Bool where
 agg:=false
 n:=1
 rep _ _ cs x:=cs=[.bool x]
 tr _ h:=h
 len h:=by subst h;rfl
 one h u hu:=by subst h;simp at hu;subst hu;rfl
 jS _:=rfl
def Ty.str:Ty ByteArray where
 agg:=false
 n:=1
 rep _ _ cs x:=cs=[.string x]
 tr _ h:=h
 len h:=by subst h;rfl
 one h u hu:=by subst h;simp at hu;subst hu;rfl
 jS _:=rfl
theorem fk {k:IntKind} {O:List Nat} {w:World} {v:Value} {x:Int}:(Ty.int k).is O w v x↔v= .int k x:=
 ⟨λ⟨cs,h,hv⟩=>by subst h;exact hv,λh=>⟨_,rfl,h⟩⟩
theorem pA {O:List Nat} {w:World} {v:Value} {x:Bool}:Ty.bool.is O w v x↔v= .bool x:=
 ⟨λ⟨cs,h,hv⟩=>by subst h;exact hv,λh=>⟨_,rfl,h⟩⟩
def Ty.pair {α β:Type} (A:Ty α) (B:Ty β):Ty (α×β) where
 agg:=true
 n:=A.n+B.n
 rep O w cs x:= ∃c1 c2,cs=c1++c2/\A.rep O w c1 x.1/\B.rep O w c2 x.2
 tr ht:=λ⟨c1,c2,h,U,h2⟩=>⟨c1,c2,h,A.tr ht U,B.tr ht h2⟩
 len:=λ⟨c1,c2,h,U,h2⟩=>by subst h;rw[χ,A.len U,B.len h2]
 one:=λ⟨c1,c2,h,U,h2⟩ u hu=>by
  subst h;rcases τ.1 hu with hu|hu
  ·exact A.one U u hu
  ·exact B.one h2 u hu
 jS h:=by cases h
def Ty.single {α:Type} (A:Ty α):Ty α where
 agg:=true
 n:=A.n
 rep:=A.rep
 tr:=A.tr
 len:=A.len
 one:=A.one
 jS h:=by cases h
def Ty.jM {α β:Type} (T:Ty α) (f:β->α):Ty β where
 agg:=T.agg
 n:=T.n
 rep O w cs x:=T.rep O w cs (f x)
 tr:=T.tr
 len:=T.len
 one:=T.one
 jS:=T.jS
def fP (w:World) (ad:Addr) (cs:List Value):Prop:= ∀j u,cs[j]? =some u->w.cell? (ad.add j)=some u
theorem mI (a:Addr) (n:Nat):(a.add n).block=a.block:=by unfold ζ6;split<;>rfl
theorem add_add (a:Addr) (i j:Nat):(a.add i).add j=a.add (i+j):=by
 unfold ζ6
 by_cases hi:i=0<;>by_cases hj:j=0<;>simp[hi,hj,Nat.add_assoc]
theorem ahA {w w':World} {p:Addr} (h:w'.heap[p.block]? =w.heap[p.block]?):w'.cell? p=w.cell? p:=World.cell?_of_block (w:=w) h
theorem fP.keep {w w':World} {ad:Addr} {cs:List Value} (h:fP w ad cs) (hk:w'.heap[ad.block]? =w.heap[ad.block]?):fP w' ad cs:=
 λj u hu=>(ahA (by rw[mI];exact hk)).trans (h j u hu)
def sW (w:World) (ad:Addr) (cs:List Value):Prop:=fP w ad cs/\ ∀j,j<cs.length->w.frozen? (ad.add j)=false
theorem sW.keep {w w':World} {ad:Addr} {cs:List Value} (h:sW w ad cs) (hk:w'.heap[ad.block]? =w.heap[ad.block]?):sW w' ad cs:=
 ⟨h.1.keep hk,λj hj=>(World.frozen?_of_block (w:=w) (by rw[mI];exact hk)).trans (h.2 j hj)⟩
def Ty.ptr {α:Type} (T:Ty α):Ty α where
 agg:=false
 n:=1
 rep O w cs x:= ∃ad es,cs=[.pointer (some ad)]/\ad.block<w.heap.size/\ad.block∉O/\T.rep O w es x/\sW w ad es
 tr ht:=λ⟨ad,es,h,hb,ho,hr,hc⟩=>
  let⟨k1,k2⟩:=ht.keep ad.block hb ho
  ⟨ad,es,h,ξ4 hb ht.size,k1,T.tr ht hr,hc.keep k2⟩
 len:=λ⟨_,_,h,_⟩=>by subst h;rfl
 one:=λ⟨_,_,h,_⟩ u hu=>by subst h;simp at hu;subst hu;rfl
 jS _:=rfl
def Ty.slice {α:Type} (T:Ty α):Ty (List α) where
 agg:=false
 n:=1
 rep O w cs xs:= ∃A c,cs=[.slice A xs.length c]/\(xs.length<=c/\c<=maxLen)/\
  ∀k x,xs[k]? =some x-> ∃ad es,A=some ad/\ad.block<w.heap.size/\ad.block∉O/\T.rep O w es x/\sW w (ad.add (k*T.n)) es
 tr ht:=λ⟨A,c,h,hc,hx⟩=>⟨A,c,h,hc,λk x hk=>by
  obtain⟨ad,es,hA,hb,ho,hr,he⟩:=hx k x hk;obtain⟨k1,k2⟩:=ht.keep ad.block hb ho;exact⟨ad,es,hA,ξ4 hb ht.size,k1,T.tr ht hr,he.keep (by rw[mI];exact k2)⟩⟩
 len:=λ⟨_,_,h,_⟩=>by subst h;rfl
 one:=λ⟨_,_,h,_⟩ u hu=>by subst h;simp at hu;subst hu;rfl
 jS _:=rfl
theorem iJ {α:Type} {T:Ty α} {O:List Nat} {w:World} {v:Value} {xs:List α} (h:T.slice.is O w v xs): ∃A c,v= .slice A xs.length c/\xs.length<=c/\c<=maxLen:=by
 obtain⟨cs,⟨A,c,hc,hl,_⟩,hv⟩:=h;subst hc;exact⟨A,c,hv,hl⟩
theorem lX {α:Type} (T:Ty α) (O:List Nat) (w:World):T.slice.is O w (.slice none 0 0) []:=
 ⟨_,⟨none,0,rfl,⟨ξ3 _,by unfold maxLen;omega⟩,λk x h=>by simp at h⟩,rfl⟩
theorem asa {α:Type} {T:Ty α} {O:List Nat} {w:World} {A:Option Addr} {n c lo hi m:Nat} {xs:List α} (h:T.slice.is O w (.slice A n c) xs) (U:lo<=hi) (h2:hi<=n) (h3:hi<=m) (h4:m<=c):
  T.slice.is O w (.slice (if m=lo then A else A.map (·.add (lo*T.n))) (hi-lo) (m-lo)) ((xs.take hi).drop lo):=by
 obtain⟨cs,⟨A',c',hc,hl,hx⟩,hv⟩:=h;subst hc;have hv:ξT A n c= .slice A' xs.length c':=hv;injection hv with e1 e2 e3;subst e1;subst e2;subst e3;have hlen:((xs.take hi).drop lo).length=hi-lo:=by rw[ξf,ω];omega
 refine⟨_,⟨_,m-lo,by rw[hlen],⟨by rw[hlen];omega,by omega⟩,λk x hk=>?_⟩,rfl⟩;have Ak:k<hi-lo:=by
  have:=(ν.1 hk).1;omega
 rw[ξ7,ξ0] at hk;rw[if_pos (by omega)] at hk;obtain⟨ad,es,hA,hb,ho,hr,he⟩:=hx (lo+k) x hk;subst hA;rw[if_neg (by omega)];refine⟨ad.add (lo*T.n),es,rfl,by rw[mI];exact hb,by rw[mI];exact ho,hr,?_⟩;rw[add_add,<-Nat.add_mul];exact he
theorem RX {α:Type} {T:Ty α} {O:List Nat} {w:World} {A:Option Addr} {n c k:Nat} {xs:List α} {x:α} (h:T.slice.is O w (.slice A n c) xs) (hk:xs[k]? =some x):
  ∃ad,A=some ad/\T.ptr.is O w (.pointer (some (ad.add (k*T.n)))) x:=by
 obtain⟨cs,⟨A',c',hc,hl,hx⟩,hv⟩:=h;subst hc;have hv:ξT A n c= .slice A' xs.length c':=hv;injection hv with e1 e2 e3;subst e1;subst e2;subst e3;obtain⟨ad,es,hA,hb,ho,hr,he⟩:=hx k x hk;exact⟨ad,hA,_,⟨_,es,rfl,by rw[mI];exact hb,by rw[mI];exact ho,hr,he⟩,rfl⟩
theorem RV {α:Type} {T:Ty α} {O:List Nat} {w:World} {cs:List Value} {x:α} (ha:T.agg=false) (h:T.rep O w cs x): ∃s,cs=[s]/\T.is O w s x:=by
 have hl:=T.len h;rw[T.jS ha] at hl
 match cs,hl with
 |[c],_=>exact⟨c,rfl,[c],h,by simp[Ty.mk',ha]⟩
theorem uN {α:Type} {T:Ty α} {O:List Nat} {w:World} {s:Value} {x:α} (ha:T.agg=false) (h:T.is O w s x):T.rep O w [s] x:=by
 obtain⟨cs,hr,hs⟩:=h;have hl:=T.len hr;rw[T.jS ha] at hl
 match cs,hl with
 |[c],_=>
  simp only[Ty.mk',ha,cond_false,ζU] at hs;subst hs;exact hr
def xJ {α:Type} (A:Ty α) (O:List Nat) (w:World) (v:Value) (r:α):Prop:=A.is O w v r
def rt2 {α β:Type} (A:Ty α) (B:Ty β) (O:List Nat) (w:World) (v:Value) (r:α×β):Prop:= ∃a b,v= .tuple #[a,b]/\A.is O w a r.1/\B.is O w b r.2
def rt3 {α β γ:Type} (A:Ty α) (B:Ty β) (C:Ty γ) (O:List Nat) (w:World) (v:Value) (r:α×β×γ):Prop:=
 ∃a b c,v= .tuple #[a,b,c]/\A.is O w a r.1/\B.is O w b r.2.1/\C.is O w c r.2.2
def ll {β:Type} (R:List Nat->World->Value->β->Prop) (O:List Nat) (w:World) (r:β) (e:Ending) (w':World):Prop:= ∃v,e= .returned v/\R O w' v r/\Fr [] w w'
def idx {α:Type} (xs:List α) (i:Int):Option α:=if 0<=i then xs[i.toNat]? else none
theorem so {α:Type} {xs:List α} {i:Int} {x:α} (h:idx xs i=some x):0<=i/\xs[i.toNat]? =some x:=by
 unfold idx at h;split at h
 ·exact⟨by assumption,h⟩
 ·cases h
def uW (k:IntKind) (x y:Int):Option Int:=if y<0 then none else some (k.wrap (x*2^(min y.toNat k.bits)))
def RT (k:IntKind) (x y:Int):Option Int:=if y<0 then none else some (x.fdiv (2^(min y.toNat k.bits)))
def Q_ (k:IntKind) (x y:Int):Option Int:=if y=0 then none else some (k.wrap (x.tdiv y))
def uI (x y:Int):Option Int:=if y=0 then none else some (x.tmod y)
theorem oq {α:Type} {c:Bool} {a b r:α} (h:(bif c then a else b)=r):(c=true/\a=r)\/(c=false/\b=r):=by
 cases c
 ·exact .inr ⟨rfl,h⟩
 ·exact .inl ⟨rfl,h⟩
theorem bind_some {α β:Type} {x:Option α} {f:α->Option β} {r:β} (h:x.bind f=some r): ∃y,x=some y/\f y=some r:=Option.bind_eq_some_iff.1 h
theorem u9 {j n:Nat} (h:j<n) (hn:n<=maxLen):ζV.wrap ((j:Int)+1)=((j+1:Nat):Int):=by
 unfold maxLen at hn;rw[IntWalk.i64_in]
 ·omega
 ·omega
theorem drop_cons {α:Type} {l:List α} {j:Nat} {x:α} {r:List α} (h:l.drop j=x::r):j<l.length/\l[j]? =some x/\l.drop (j+1)=r:=by
 have aB:j<l.length:=by
  rcases ξC j l.length with U|U
  ·exact U
  ·rw[ξB U] at h;cases h
 rw[ξH aB] at h;injection h with U h2;exact⟨aB,by rw[ξ9 aB,U],h2⟩
theorem drop_nil {α:Type} {l:List α} {j:Nat} (h:l.drop j=[]):l.length<=j:=by
 rcases ξC j l.length with U|U
 ·rw[ξH U] at h;cases h
 ·exact U
theorem Fr.own {w0 w w':World} {b:Nat} (hF:Fr [] w0 w) (h:Fr [b] w w') (hb:w0.heap.size<=b):Fr [] w0 w':=
 ⟨h.os.trans hF.os,h.tape.trans hF.tape,h.output.trans hF.output,ζ5 hF.size h.size,λk hk _=>
  (h.block k (ξ4 hk hF.size) (by simp;omega)).trans (hF.block k hk (by simp))⟩
def TI.isAgg (i:TI):Bool:=ζ i.tag 8||ζ i.tag 6
def valOf (agg:Bool) (cs:List Value):Value:=bif agg then .agg cs.toArray else cs.headD undef
theorem uS {P:Program} {w:World} {t:Nat} {i:TI} {ad:Addr} {cs:List Value} (h:i.fits P t) (hl:cs.length=i.size) (hc:fP w ad cs) (U:i.isAgg=false->i.size=1):
  (ζM t (.pointer (some ad))).run P w= .ok (valOf i.isAgg cs) w:=by
 simp only[ζM,ξA,η,κ,ε,loadVar,PO h];cases ha:i.isAgg with
 |true=>
  have ee:(ζ i.tag 8||ζ i.tag 6)=true:=ha;rw[ee];simp only[if_true,η,gf h,ε];have:=run_loadCells_list (P:=P) w ad cs hc;rw[hl] at this;rw[this];rfl
 |false=>
  have ee:(ζ i.tag 8||ζ i.tag 6)=false:=ha;rw[ee];rw[U ha] at hl
  match cs,hl with
  |[c],_=>
   have:=hc 0 c rfl;simp[load,ζp,ζx] at this ⊢;rw[this];rfl
def putAt (cs:List Value) (off:Nat) (vs:List Value):List Value:=cs.take off++vs++cs.drop (off+vs.length)
theorem qS {w:World} {b t:Nat} {fM new:Array Value} (h:w.heap[b]? =some (.cells fM t (0,0))):Fr [b] w (w.setRow b new):=
 ⟨rfl,rfl,rfl,by simp,λk _ hk=>by
  simp only[World.setRow,Array.getElem?_modify];rw[if_neg (by simp at hk;omega)]⟩
theorem ab2 {P:Program} {w:World} {t b tb off:Nat} {i:TI} {v:Value} {cs:List Value} (h:i.fits P t) (hb:ck w b tb cs) (hv:v.cells.size=i.size) (U: ∀u∈v.cells.toList,u.oneCell'=true)
  (hl:off+i.size<=cs.length): ∃w',(η8 t (.pointer (some ⟨b,off,none⟩)) v).run P w= .ok () w'/\ck w' b tb (putAt cs off v.cells.toList)/\Fr [b] w w':=by
 have hs:=run_storeCells_at (P:=P) b off tb v.cells.toList 0 cs.toArray w hb (by simp;omega) U;refine⟨w.setRow b (putAt cs off v.cells.toList).toArray,?_,?_,qS hb⟩
 ·simp only[η8,ξA,η,κ,ε,storeVar,gf h,hv,ne_eq,not_true_eq_false,if_false];simpa[putAt] using hs
 ·unfold ck;rw[setRow_heap w b _ _ _ _ hb]
section
variable {P:Program} {r:Option Nat} {N:Nat} {Θ:dP} {ops:Array Oper} {Q:Exit->Act->World->Prop} {l:List Nat} {E:Env} {ds:List Deferred} {w:World} {i d:Nat} {o:Oper} {O:List Nat}
theorem BR (aO:Θ.ok P) (ho:ops[i]? =some o) (hw:want N ops E o.guard=some true) (hd:o.dst=some d) (hN:ξ2 d N=true) {t:Nat} {ti:TI} (ah:o.op= .alloc t) (ht:Θ.get t=some ti)
  (zs:List Value) (hz:ti.zero.cells.toList=zs) (hO:OB O w) (h: ∀b w',rj O w b t zs w'->WO P r N ops Q l ((d,.pointer (some ⟨b,0,none⟩))::E) ds w'):WO P r N ops Q (i::l) E ds w:=by
 refine gE ho hw hd hN (by rw[ah];simp) (λa _=>?_) (h w.heap.size _ (qF hO t zs));simp only[execOp,ah,ηj,η,vf (aO.fits ht),ε];subst hz;rfl
theorem u7 (ho:ops[i]? =some o) (hw:want N ops E o.guard=some true) (hd:o.dst=some d) (hN:ξ2 d N=true) {t:Nat} {x:Operand} (ah:o.op= .box t x)
  {v:Value} (hx:ev E x=some v) (cs:List Value) (hz:v.cells.toList=cs) (hO:OB O w) (h: ∀b w',rj O w b t cs w'->WO P r N ops Q l ((d,.pointer (some ⟨b,0,none⟩))::E) ds w'):WO P r N ops Q (i::l) E ds w:=by
 refine gE ho hw hd hN (by rw[ah];simp) (λa ha=>?_) (h w.heap.size _ (qF hO t cs));simp only[execOp,ah,Instr.box,η,ha.eval hx];subst hz;rfl
theorem fX (aO:Θ.ok P) (ho:ops[i]? =some o) (hw:want N ops E o.guard=some true) (hd:o.dst=some d) (hN:ξ2 d N=true) {t b tb off:Nat} {x:Operand} {ti:TI} (ah:o.op= .load t x) (ht:Θ.get t=some ti)
  (hx:ev E x=some (.pointer (some ⟨b,off,none⟩))) {cs:List Value} (hb:ck w b tb cs) (us:List Value) (hu:(cs.drop off).take ti.size=us) (hl:us.length=ti.size) (U:ti.isAgg=true\/ti.size=1)
  (v:Value) (hv:valOf ti.isAgg us=v) (h:WO P r N ops Q l ((d,v)::E) ds w):WO P r N ops Q (i::l) E ds w:=by
 subst hv;refine gE ho hw hd hN (by rw[ah];simp) (λa ha=>?_) h;have hc:fP w ⟨b,off,none⟩ us:=λj u hj=>by
  have:(⟨b,off,none⟩:Addr).add j=⟨b,off+j,none⟩:=by unfold ζ6;split<;>simp_all
  rw[this,hb.cell];subst hu;have aB:j<ti.size:=by have:=(ν.1 hj).1;omega
  rw[ξ0,if_pos aB,ξ7] at hj;exact hj
 simp only[execOp,ah,η,ha.eval hx,uS (aO.fits ht) hl hc (λe=>by rcases U with U|U;rw[e] at U;cases U;exact U)];rfl
theorem iK (aO:Θ.ok P) (ho:ops[i]? =some o) (hw:want N ops E o.guard=some true) (hd:o.dst=none) {t b tb off:Nat} {x y:Operand} {ti:TI} (ah:o.op= .store t x y) (ht:Θ.get t=some ti)
  (hx:ev E x=some (.pointer (some ⟨b,off,none⟩))) {v:Value} (hy:ev E y=some v) {cs:List Value} (hb:ck w b tb cs) (vs:List Value) (fc:v.cells.toList=vs) (hn:vs.length=ti.size)
  (U: ∀u∈vs,u.oneCell'=true) (hl:ξb (off+ti.size) cs.length=true) (cD:List Value) (fi:putAt cs off vs=cD)
  (h: ∀w',ck w' b tb cD->Fr [b] w w'->WO P r N ops Q l E ds w'):WO P r N ops Q (i::l) E ds w:=by
 subst fc;subst fi;obtain⟨w',hr,fH,hf⟩:=ab2 (P:=P) (v:=v) (off:=off) (aO.fits ht) hb (by simpa using hn) U (ο hl);refine auc ho hw hd (by rw[ah];simp) (λa ha=>?_) (h w' fH hf);simp only[execOp,ah,ha.eval hx,ha.eval hy,η,hr];rfl
theorem auk (aO:Θ.ok P) (ho:ops[i]? =some o) (hw:want N ops E o.guard=some true) (hd:o.dst=some d) (hN:ξ2 d N=true) {t:Nat} {x:Operand} {ti:TI} (ah:o.op= .load t x) (ht:Θ.get t=some ti)
  {p:Value} (hx:ev E x=some p) {α:Type} {T:Ty α} {y:α} (hp:T.ptr.is O w p y) (hn:T.n=ti.size) (ha:T.agg=ti.isAgg)
  (h: ∀v,T.is O w v y->WO P r N ops Q l ((d,v)::E) ds w):WO P r N ops Q (i::l) E ds w:=by
 obtain⟨cs,⟨ad,es,hc,_,_,hr,he⟩,hv⟩:=hp;subst hc;have hv:p= .pointer (some ad):=hv;subst hv;refine gE ho hw hd hN (by rw[ah];simp) (λa OI=>?_) (h (valOf ti.isAgg es) ⟨es,hr,by rw[<-ha];rfl⟩);simp only[execOp,ah,η,OI.eval hx,uS (aO.fits ht) ((T.len hr).trans hn) he.1 (λe=>by rw[<-hn];exact T.jS (by rw[ha];exact e))];rfl
theorem SD (aO:Θ.ok P) (ho:ops[i]? =some o) (hw:want N ops E o.guard=some true) (hd:o.dst=some d) (hN:ξ2 d N=true) {t:Nat} {x y:Operand} {ti te:TI} (ah:o.op= .indexAddr t x y) (ht:Θ.get t=some ti)
  (h5:ti.tag=5) (ct:Θ.get ti.e=some te) {v:Value} (hx:ev E x=some v) {k:IntKind} {j:Int} (hy:ev E y=some (.int k j)) {α:Type} {T:Ty α} {xs:List α} {z:α} {O1:List Nat} {w1:World} (hv:T.slice.is O1 w1 v xs) (hn:T.n=te.size)
  (h0:0<=j) (hj:xs[j.toNat]? =some z) (h: ∀p,T.ptr.is O1 w1 p z->WO P r N ops Q l ((d,p)::E) ds w):WO P r N ops Q (i::l) E ds w:=by
 obtain⟨A,c,rfl,_,_⟩:=iJ hv;obtain⟨ad,rfl,hp⟩:=RX hv hj;have aB:j.toNat<xs.length:=(ν.1 hj).1;refine gE ho hw hd hN (by rw[ah];simp) (λa ha=>?_) (h _ hp);have hu:=(aO.fits ht).slice h5;simp only[execOp,ah,η,ha.eval hx,ha.eval hy,ξv,asIntOf,κ,ε,run_underlying hu];rw[if_pos ⟨h0,by omega⟩];simp only[η,gf (aO.fits ct),ε,hn];rfl
theorem pg (ho:ops[i]? =some o) (hw:want N ops E o.guard=some true) (hd:o.dst=some d) (hN:ξ2 d N=true) {f:FuncId} {args:Array Operand} {ts:Array TypeId} (ah:o.op= .call { callee:= .value (.func f),args:=args,argTypes:=ts })
  (hf: ∀(vs:Array Value) (u:World),(callFunc f vs).run P u= .ok (.enter f vs) u)
  {vs:List Value} (fc:l5 E args.toList=some vs) {R:Ending->World->Prop} (iv:Calls P f vs.toArray w R)
  (h: ∀e w',R e w'-> ∃v,e= .returned v/\WO P r N ops Q l ((d,v)::E) ds w'):WO P r N ops Q (i::l) E ds w:=by
 refine SC ho hw hd hN (by rw[ah];simp) (λa ha=>?_) iv h;have e1:args.map a.eval=vs.toArray:=by rw[<-yF ha fc,<-ξi]
 simp only[execOp,ah,η,resolve,ζv,ξW,κ,ε,invoke,e1];simpa using hf vs.toArray w
end
section
variable {P:Program} {r:Option Nat} {N:Nat} {Q:Exit->Act->World->Prop} {E:Env} {ds:List Deferred} {w:World}
theorem aoC {F:Fence} {n:Nat} {a:Act} {c:Code} (I:Nat->Act->World->Prop) (m:Nat) (Py:I m a w)
  (round: ∀m a w,I m a w->c.wpIn F n P (Exit.then (λa' w'=> ∃k,k<m/\I k a' w') Q) a w):(Code.loop c).wpIn F n P Q a w:=by
 refine wpIn_loop (λa w=> ∃m,I m a w) (λa w=>leastOf (λm=>I m a w)) ⟨m,Py⟩ ?_;intro a w hI;refine wpIn_mono (round _ a w (leastOf_spec hI).1) ?_;intro e a' w' hq;cases e with
 |normal=>
  obtain⟨n',aB,zA⟩:=hq;exact show(∃n,I n a' w')/\leastOf (λn=>I n a' w')<leastOf (λn=>I n a w) from⟨⟨n',zA⟩,Nat.lt_of_le_of_lt ((leastOf_spec ⟨n',zA⟩).2 n' zA) aB⟩
 |exit id=>exact hq
 |goto l=>exact hq
 |ret=>exact hq
 |panic ch=>exact hq
 |outgrown=>exact hq
def Next (N:Nat) (I:Nat->Env->World->Prop) (m:Nat) (ds:List Deferred) (a:Act) (w:World):Prop:= ∃k,k<m/\ ∃E',Has N E' ds a/\I k E' w
theorem Sw {c:Code} (I:Nat->Env->World->Prop) (m:Nat) (E':Env) (hE:agree E' E) (Py:I m E' w)
  (round: ∀m E w,I m E w->WC P r N c (Exit.then (Next N I m ds) Q) E ds w):WC P r N (.loop c) Q E ds w:=by
 intro a ha;refine aoC (λm a w=> ∃E',Has N E' ds a/\I m E' w) m ⟨E',ha.weaken hE,Py⟩ ?_;rintro m a w ⟨E1,hE1,hI⟩;exact round m E1 w hI a hE1
theorem I6 {I:Nat->Env->World->Prop} {m:Nat} (k:Nat) (E':Env) (hk:k<m) (hE:agree E' E) (hI:I k E' w):WQ N (Exit.then (Next N I m ds) Q) .normal E ds w:=
 λa ha=>⟨k,hk,E',ha.weaken hE,hI⟩
def sL (E:Env):List ResultVar->Option (List Value)
 |[]=>some []
 | .tmp t::l=>match E.get t,sL E l with|some v,some vs=>some (v::vs)|_,_=>none
 | .cell _ _::_=>none
def nm:List Value->Value
 |[v]=>v
 |vs=> .tuple vs.toArray
theorem abF {fn:Func} {a:Act} {vs:List Value} (h:Has N E ds a) (hr:sL E fn.results.toList=some vs):(results fn a.tmps).run P w= .ok (nm vs) w:=by
 have key: ∀(F:ResultVar->Sem Value) (_: ∀t,F (.tmp t)=pure (a.tmps.getD t undef)) (l:List ResultVar) (vs:List Value),sL E l=some vs->(l.mapM F).run P w= .ok vs w:=by
  intro F hF l
  induction l with
  |nil=>intro vs hv;simp[sL] at hv;subst hv;simp
  |cons x l ih=>
   intro vs hv;cases x with
   |tmp t=>
    simp only[sL] at hv;split at hv
    ·rename_i v us hx hl;simp only[ι] at hv;subst hv;simp only[ζ8,hF,η,κ,ε,ih us hl,h.get t v hx]
    ·cases hv
   |cell b t=>simp[sL] at hv
 unfold results;rw[ξG];simp only[η,ζT];rw[key _ (λt=>rfl) _ _ hr];simp only[ε,κ]
 congr 1
 match vs with
 |[]=>rfl
 |[v]=>rfl
 |v::u::vs=>simp[nm]
theorem iL {fn:Func} {R:Ending->World->Prop} {vs:List Value} (hr:sL E fn.results.toList=some vs) (h:R (.returned (nm vs)) w):WQ N (bodyPostM (fw none) 0 P fn R) .ret E [] w:=by
 intro a ha;show LeavesInM (fw none) 0 P fn a.tmps R a.defers .returning w;rw[ha.defers];exact⟨_,abF ha hr,h⟩
theorem auq {fn:Func} {R:Ending->World->Prop} {vs:List Value} (hr:sL E fn.results.toList=some vs) (h:R (.returned (nm vs)) w):WQ N (bodyPostM (fw none) 0 P fn R) .normal E [] w:=by
 intro a ha;show LeavesInM (fw none) 0 P fn a.tmps R a.defers .returning w;rw[ha.defers];exact⟨_,abF ha hr,h⟩
def yH:Nat->List Value->Env
 |_,[]=>[]
 |i,v::l=>(i,v)::yH (i+1) l
theorem ahj: ∀(l:List Value) (i j:Nat) (v:Value),(yH i l).get j=some v->i<=j/\l[j-i]? =some v:=by
 intro l
 induction l with
 |nil=>intro i j v h;simp[yH,Env.get] at h
 |cons u l ih=>
  intro i j v h;simp only[yH,Env.get] at h;cases hb:ζ i j with
  |true=>
   rw[hb] at h;have:=δ hb;subst this;simp only[cond_true,ι] at h;subst h;simp
  |false=>
   rw[hb] at h;obtain⟨U,h2⟩:=ih (i+1) j v h;have e:j-i=(j-(i+1))+1:=by omega
   refine⟨by omega,?_⟩;rw[e,ξh];exact h2
theorem lC {f:FuncId} {fn:Func} {c:Code} {args:List Value} {R:Ending->World->Prop} (hf:P.funcs[f]? =some fn) (hb:fn.body=some c) (hN:fn.ntmps=N) (hl:ξb args.length N=true)
  (h:WC P none N c (bodyPostM (fw none) 0 P fn R) (yH 0 args) [] w):Calls P f args.toArray w R:=by
 refine(callsIn_wide (n:=0)).1 (callsIn_of_wp_marks hf hb trivial (h _ ⟨?_,rfl,?_⟩))
 ·have:=ο hl;simp[hN];omega
 ·intro i v hi;obtain⟨_,h2⟩:=ahj args 0 i v hi;simp only[Nat.sub_zero] at h2;have aB:=(ν.1 h2).1;have ano:i<args.toArray.size:=by simpa using aB
  rw[θ,Array.getElem?_append_left ano];simp[h2]
theorem BV {id:Nat} (h:WQ N Q .normal E ds w):WQ N (ζo id Q) .normal E ds w:=h
theorem SE {id:Nat} (h:WQ N Q .normal E ds w):WQ N (ζo id Q) (.exit id) E ds w:=λa ha=>by
 show if id=id then Q .normal a w else Q (.exit id) a w;rw[if_pos rfl];exact h a ha
theorem I5 {id:Nat} (h:WQ N Q .ret E ds w):WQ N (ζo id Q) .ret E ds w:=h
theorem jW {K:Act->World->Prop} (h:WQ N Q .ret E ds w):WQ N (Exit.then K Q) .ret E ds w:=h
theorem xR {K:Act->World->Prop} {id:Nat} (h:WQ N Q (.exit id) E ds w):WQ N (Exit.then K Q) (.exit id) E ds w:=h
theorem jV {x y:Code} {o:Operand} {b:Bool} (ho:ev E o=some (.bool b)) (hb:b=true) (h:WC P r N x Q E ds w):WC P r N (.cond o x y) Q E ds w:=by subst hb;exact xO ho h
theorem ke {x y:Code} {o:Operand} {b:Bool} (ho:ev E o=some (.bool b)) (hb:b=false) (h:WC P r N y Q E ds w):WC P r N (.cond o x y) Q E ds w:=by subst hb;exact sT ho h
theorem I4 {ops:Array Oper} {l:List Nat} {i d:Nat} {o:Oper} (ho:ops[i]? =some o) (hw:want N ops E o.guard=some true) (hd:o.dst=some d) (hN:ξ2 d N=true) {f:FuncId} {args:Array Operand} {ts:Array TypeId} (ah:o.op= .call { callee:= .value (.func f),args:=args,argTypes:=ts })
  (hf: ∀(vs:Array Value) (u:World),(callFunc f vs).run P u= .ok (.enter f vs) u)
  {vs:List Value} (fc:l5 E args.toList=some vs) {β:Type} {R:List Nat->World->Value->β->Prop} {O:List Nat} {y:β} (iv:Calls P f vs.toArray w (ll R O w y))
  (h: ∀v w',R O w' v y->Fr [] w w'->WO P r N ops Q l ((d,v)::E) ds w'):WO P r N ops Q (i::l) E ds w:=
 pg ho hw hd hN ah hf fc iv λ_ _ ⟨v,he,hr,bY⟩=>⟨v,he,h v _ hr bY⟩
end
structure SP where
 p:World->Value->Prop
 st: ∀ {w w' v},Fr [] w w'->p w v->p w' v
def SP.eq (v:Value):SP:=⟨λ_ u=>u=v,λ_ h=>h⟩
def rows (a:Act):Env->Prop
 |[]=>True
 |(i,v)::r=>a.tmps.getD i undef=v/\rows a r
theorem cJ {a:Act}: ∀ {E:Env},rows a E-> ∀i v,E.get i=some v->a.tmps.getD i undef=v
 |[],_,i,v,h=>by simp[Env.get] at h
 |(j,u)::r,hr,i,v,h=>by
  simp only[Env.get] at h;cases hb:ζ j i with
  |true=>
   rw[hb] at h;have:=δ hb;subst this;simp only[cond_true,ι] at h;subst h;exact hr.1
  |false=>rw[hb] at h;exact cJ hr.2 i v h
def d_ (o:Oper):List Nat:=(o.after.toList.filter (ζq .any)).map (·.on)
structure dz where
 d:Nat
 tv:List Nat
 base:List Nat
def mJ (i:Nat):List Nat->Bool
 |[]=>true
 |j::l=>ξ2 j i&&mJ i l
def IK (l:List Nat):List Nat->Bool
 |[]=>true
 |j::r=>l.contains j&&IK l r
def E5 (ops:Array Oper) (i s:Nat):List dz->Nat->Bool
 |[],_=>true
 |p::r,k=>(!(ζ p.d s)||ζ k i||((ops[k]?).map (λo=>(d_ o).contains i)).getD false)&&E5 ops i s r (k+1)
def yJ (ops:Array Oper) (i:Nat) (all:List dz):List Nat->Bool
 |[]=>true
 |s::r=>E5 ops i s all 0&&yJ ops i all r
def xy (N:Nat) (ops:Array Oper) (all:List dz):List dz->Nat->Bool
 |[],_=>true
 |p::r,i=>
  (match ops[i]? with
   |some o=>(match o.dst with|some d=>ζ d p.d|none=>false)&&mJ i (d_ o)&&IK (d_ o) p.tv
   |none=>false)&&ξ2 p.d N&&yJ ops i all p.base&&!(r.any λq=>ζ q.d p.d)&&xy N ops all r (i+1)
section
variable {P:Program} {r:Option Nat} {N:Nat} {ops:Array Oper} {Q:Exit->Act->World->Prop} {ds:List Deferred}
def iq (P:Program) (r:Option Nat) (ops:Array Oper) (Q:Exit->Act->World->Prop) (i d:Nat) (a:Act) (w:World) (post:Value->World->Prop):Prop:=
 ∀K:Act->World->Prop,(∀v w',post v w'->K (a.put (some d) v) w')->wpOpIn (fw r) 0 P ops Q i K a w
theorem sB {all:List dz}: ∀ {l:List dz} {k:Nat},xy N ops all l k=true-> ∀j p,l[j]? =some p->
  (∃o,ops[k+j]? =some o/\o.dst=some p.d/\(∀x∈d_ o,x<k+j)/\(∀x∈p.tv,x∈d_ o))/\p.d<N/\yJ ops (k+j) all p.base=true/\ ∀j' p',j<j'->l[j']? =some p'->p'.d≠p.d:=by
 intro l
 induction l with
 |nil=>intro k h j p hp;simp at hp
 |cons q l ih=>
  intro k h j p hp;simp only[xy,μ] at h;obtain⟨⟨⟨⟨U,h2⟩,h3⟩,h4⟩,h5⟩:=h;cases j with
  |zero=>
   simp only[ξc,ι] at hp;subst hp;refine⟨?_,ξM.mp h2,h3,?_⟩
   ·split at U
    ·rename_i o ho;simp only[μ] at U;obtain⟨⟨h6,h7⟩,h8⟩:=U;refine⟨o,ho,?_,?_,?_⟩
     ·split at h6
      ·rename_i d hd;rw[hd,δ h6]
      ·cases h6
     ·have: ∀l:List Nat,mJ k l=true-> ∀x∈l,x<k:=by
       intro l
       induction l with
       |nil=>intro _ x hx;cases hx
       |cons y l ih=>
        intro hl x hx;simp only[mJ,μ] at hl;rcases ξg.1 hx with rfl|hx
        ·exact ξM.mp hl.1
        ·exact ih hl.2 x hx
      exact this _ h7
     ·have: ∀(m l:List Nat),IK m l=true-> ∀x∈l,x∈m:=by
       intro m l
       induction l with
       |nil=>intro _ x hx;cases hx
       |cons y l ih=>
        intro hl x hx;simp only[IK,μ] at hl;rcases ξg.1 hx with rfl|hx
        ·simpa using hl.1
        ·exact ih hl.2 x hx
      exact this _ _ h8
    ·cases U
   ·intro j' p' hj cH e;cases j' with
    |zero=>omega
    |succ j'=>
     simp only[ξh] at cH;have hm:=ζ0 cH;have W6:(l.any λq'=>ζ q'.d q.d)=false:=by simpa using h4
     rw[ζc] at W6;have:=W6 p' hm;rw[e] at this;simp at this
  |succ j=>
   simp only[ξh] at hp;obtain⟨⟨o,ho,a1,a2,a3⟩,b,c,d⟩:=ih h5 j p hp;have e:k+1+j=k+(j+1):=by omega
   rw[e] at ho a2 c;refine⟨⟨o,ho,a1,a2,a3⟩,b,c,?_⟩;intro j' p' hj cH;cases j' with
   |zero=>omega
   |succ j'=>exact d j' p' (by omega) (by simpa using cH)
theorem Vq {i:Nat} {all:List dz}: ∀ {l:List Nat},yJ ops i all l=true-> ∀s∈l,∀k p,all[k]? =some p->p.d=s->k=i\/ ∃o,ops[k]? =some o/\i∈d_ o:=by
 have key: ∀(s:Nat) (l:List dz) (m:Nat),E5 ops i s l m=true-> ∀k p,l[k]? =some p->p.d=s->m+k=i\/ ∃o,ops[m+k]? =some o/\i∈d_ o:=by
  intro s l
  induction l with
  |nil=>intro m _ k p hp;simp at hp
  |cons q l ih=>
   intro m h k p hp hs;simp only[E5,μ] at h;cases k with
   |zero=>
    simp only[ξc,ι] at hp;subst hp;have U:=h.1;simp only[ζW,ξq] at U;rcases U with(U|U)|U
    ·rw[hs] at U;rw[Nat.beq_refl] at U;cases U
    ·exact .inl (by have:=δ U;omega)
    ·right;cases ho:ops[m]? with
     |none=>rw[ho] at U;simp at U
     |some o=>
      rw[ho] at U;simp only[ξ1,υ] at U;exact⟨o,rfl,by simpa using U⟩
   |succ k=>
    have:=ih (m+1) h.2 k p (by simpa using hp) hs;have e:m+1+k=m+(k+1):=by omega
    rwa [e] at this
 intro l
 induction l with
 |nil=>intro _ s hs;cases hs
 |cons x l ih=>
  intro h s hs k p hp hd;simp only[yJ,μ] at h;rcases ξg.1 hs with rfl|hs
  ·simpa using key _ all 0 h.1 k p hp hd
  ·exact ih h.2 s hs k p hp hd
def gN (listed:Array Bool):Nat->Nat
 |0=>0
 |n+1=>gN listed n+(if listed.getD n true=false then 1 else 0)
theorem Qi {listed:Array Bool} {i:Nat} (hi:i<listed.size) (hl:listed.getD i true=false): ∀n,gN (listed.setIfInBounds i true) n+(if i<n then 1 else 0)=gN listed n:=by
 intro n
 induction n with
 |zero=>simp[gN]
 |succ n ih=>
  simp only[gN]
  by_cases cY:i=n
  ·subst cY;have e:(listed.setIfInBounds i true).getD i true=true:=by simp[θ,hi]
   rw[e,hl];have: ¬i<i:=by omega
   simp only[this,if_false] at ih;simp;omega
  ·have e:(listed.setIfInBounds i true).getD n true=listed.getD n true:=by
    simp only[θ,ξ cY]
   rw[e]
   by_cases h2:i<n
   ·simp only[h2,if_true] at ih;simp only[show i<n+1 by omega,if_true];omega
   ·simp only[h2,if_false] at ih;simp only[show ¬i<n+1 by omega,if_false];omega
theorem xf {listed:Array Bool}: ∀n,gN listed n=0-> ∀i,i<n->listed.getD i true=true:=by
 intro n
 induction n with
 |zero=>intro _ i hi;omega
 |succ n ih=>
  intro h i hi;simp only[gN] at h;rcases ξC i n with U|U
  ·exact ih (by omega) i U
  ·have:i=n:=by omega
   subst this;cases hb:listed.getD i true with
   |true=>rfl
   |false=>rw[hb] at h;simp at h
theorem A4 {listed:Array Bool}: ∀n,gN listed n≠0-> ∃i,i<n/\listed.getD i true=false/\ ∀j,j<i->listed.getD j true=true:=by
 intro n
 induction n with
 |zero=>intro h;exact absurd rfl h
 |succ n ih=>
  intro h
  by_cases h0:gN listed n=0
  ·simp only[gN,h0,ξt] at h;have hb:listed.getD n true=false:=by
    cases hb:listed.getD n true with
    |true=>rw[hb] at h;simp at h
    |false=>rfl
   exact⟨n,by omega,hb,λj hj=>xf n h0 j hj⟩
  ·obtain⟨i,U,h2,h3⟩:=ih h0;exact⟨i,by omega,h2,h3⟩
theorem oR {o:Oper} {x:Nat}:x∈d_ o↔ ∃e∈o.after,ζq .any e=true/\e.on=x:=by
 simp[d_,and_assoc]
def yG (bb:List dz) (Φ:List SP) (k:Nat) (F:Nat->dz->SP->Prop):Prop:=
 match bb,Φ with
 |p::ps,φ::I_=>F k p φ/\yG ps I_ (k+1) F
 |_,_=>True
theorem Vg: ∀ {bb:List dz} {Φ:List SP} {k:Nat} {F:Nat->dz->SP->Prop},yG bb Φ k F-> ∀(i:Nat) (p:dz) (φ:SP),bb[i]? =some p->Φ[i]? =some φ->F (k+i) p φ
 |[],_,_,_,_,i,p,φ,hp,_=>by simp at hp
 |_::_,[],_,_,_,i,p,φ,_,gV=>by simp at gV
 |q::qs,ψ::I',k,F,h,i,p,φ,hp,gV=>by
  cases i with
  |zero=>
   simp only[ξc,ι] at hp gV;subst hp;subst gV;exact h.1
  |succ i=>
   have:=Vg h.2 i p φ (by simpa using hp) (by simpa using gV);have e:k+1+i=k+(i+1):=by omega
   rwa [e] at this
theorem Vf {bb:List dz} {Φ:List SP} {F:Nat->dz->SP->Prop} (h:yG bb Φ 0 F) (i:Nat) (p:dz) (φ:SP) (hp:bb[i]? =some p) (gV:Φ[i]? =some φ):F i p φ:=by
 have:=Vg h i p φ hp gV
 rwa [ξt] at this
theorem L1 {k:Nat}: ∀ {l:List Nat},mJ k l=true-> ∀x∈l,x<k
 |[],_,x,hx=>by cases hx
 |y::l,hl,x,hx=>by
  simp only[mJ,μ] at hl;rcases ξg.1 hx with rfl|hx
  ·exact ξM.mp hl.1
  ·exact L1 hl.2 x hx
def LX (l:List Nat):List Nat->List Nat
 |[]=>l
 |x::xs=>LX (bif l.contains x then l else x::l) xs
theorem U': ∀(xs l:List Nat) (x:Nat),x∈LX l xs->x∈l\/x∈xs
 |[],l,x,h=> .inl h
 |y::ys,l,x,h=>by
  rcases U' ys _ x h with h|h
  ·cases hc:l.contains y with
   |true=>rw[hc] at h;exact .inl h
   |false=>
    rw[hc] at h;rcases ξg.1 h with e|h
    ·exact .inr (by rw[e];exact σ)
    ·exact .inl h
  ·exact .inr (ξ5 _ h)
def tg (ops:Array Oper):Nat->List Nat->List Nat
 |0,l=>l
 |n+1,l=>tg ops n (LX l (l.map λi=>match ops[i]? with|some o=>d_ o|none=>[]).flatten)
theorem th {listed:Array Bool} (bN: ∀(k:Nat) (o:Oper),ops[k]? =some o->listed.getD k true=true-> ∀x∈d_ o,listed.getD x true=true): ∀(n:Nat) (l:List Nat),(∀i∈l,listed.getD i true=true)-> ∀i∈tg ops n l,listed.getD i true=true
 |0,l,h,i,hi=>h i hi
 |n+1,l,h,i,hi=>th bN n _ (λj hj=>by
  rcases U' _ _ _ hj with hj|hj
  ·exact h j hj
  ·obtain⟨m,hm,OP⟩:=List.mem_flatten.1 hj;obtain⟨k,hk,rfl⟩:=ζN.1 hm;split at OP
   ·rename_i o ho;exact bN k o ho (h k hk) j OP
   ·cases OP) i hi
def BJ (ops:Array Oper) (m:Nat):Bool:=(η3 ops.size).all λi=>ξ2 i m||match ops[i]? with|some o=>((η3 i).all λj=>(tg ops 12 (d_ o)).contains j)&&mJ i (d_ o)|none=>false
theorem IS {m:Nat} (h:BJ ops m=true) (i:Nat) (hi:m<=i) (hn:i<ops.size): ∃o,ops[i]? =some o/\(∀j,j<i->j∈tg ops 12 (d_ o))/\ ∀j∈d_ o,j<i:=by
 have:=ζk.1 h i (by simpa using hn);simp only[ζW] at this;rcases this with U|U
 ·have:=ξM.mp U;omega
 ·rw[π hn] at U;simp only[μ,ζk,List.mem_range,List.contains_iff_mem] at U;exact⟨_,π hn,λj hj=>U.1 j hj,L1 U.2⟩
theorem wpOpIn_mono {K K':Act->World->Prop} {i:Nat} {a:Act} {w:World} (h: ∀a w,K a w->K' a w) (hh:wpOpIn (fw r) 0 P ops Q i K a w):wpOpIn (fw r) 0 P ops Q i K' a w:=by
 unfold wpOpIn at*
 split
 ·rename_i ho;rw[ho] at hh;exact h _ _ hh
 ·rename_i o ho;rw[ho] at hh;simp only at hh;split
  ·rename_i hw;rw[if_pos hw] at hh;exact Oper.wpIn_mono h hh
  ·rename_i hw;rw[if_neg hw] at hh;exact⟨hh.1,h _ _ hh.2⟩
theorem IU {m:Nat} (lL:BJ ops m=true): ∀(c i:Nat) (listed:Array Bool) (a:Act) (w:World),m<=i->i+c=ops.size->listed.size=ops.size->(∀k,k<i->listed.getD k true=true)->(∀k,i<=k->k<ops.size->listed.getD k true=false)->(∀(k:Nat) (o:Oper),ops[k]? =some o->listed.getD k true=true-> ∀x∈d_ o,listed.getD x true=true)->
  wpOpsIn (fw r) 0 P ops Q (ζ1 i c) a w->wpAnyIn (fw r) 0 P .any ops Q c listed a w:=by
 intro c
 induction c with
 |zero=>
  intro i listed a w hm hi hs U h2 _ h;refine⟨?_,h⟩;unfold ξD;rw[List.filter_eq_nil_iff];intro k hk;have:=U k (by simp at hk;omega);simp[this]
 |succ c ih=>
  intro i listed a w hm hi hs U h2 bN h;have cY:i<ops.size:=by omega
  obtain⟨o,ho,eX,XE⟩:=IS lL i hm cY;have ud: ∀k∈ξD .any ops listed,k=i:=by
   intro k hk;unfold ξD at hk;rw[ξQ] at hk;obtain⟨lK,eY⟩:=hk;have qn:k<ops.size:=by simpa using lK
   rcases Nat.lt_trichotomy k i with aB|rfl|Ah
   ·have:=U k aB;rw[this] at eY;simp at eY
   ·rfl
   ·exfalso;obtain⟨o',eA,amU,am1⟩:=IS lL k (by omega) qn;rw[eA] at eY;simp only[μ,ξq,ξ1,υ,ξa] at eY;have h4:=h2 i (ξ3 _) cY;have h5:=th bN 12 (d_ o') (λx hx=>by
     obtain⟨e,he,ji,At⟩:=oR.1 hx;have h3:=eY.2 e he;rw[ji] at h3;simp only[ζC,ζg] at h3;have YC:=am1 x hx;have bz:e.on<listed.size:=by omega
     rw[<-At];simp only[θ,π bz,υ] at h3 ⊢;exact h3) i (amU i Ah)
    rw[h5] at h4;cases h4
  refine⟨λnK=>?_,λk hk=>?_⟩
  ·exfalso;have:i∈ξD .any ops listed:=by
    unfold ξD;rw[ξQ];refine⟨by simpa using cY,?_⟩;rw[h2 i (ξ3 _) cY,ho];simp only[η1,η9,ξ1,υ,ξa];intro e he;cases ji:ζq .any e with
    |false=>simp
    |true=>
     by_cases aB:e.on<i
     ·have:=U e.on aB;have bz:e.on<listed.size:=by omega
      simp only[θ,π bz,υ] at this ⊢;simp[this]
     ·exact absurd (XE _ (oR.2 ⟨e,he,ji,rfl⟩)) aB
   rw[nK] at this;cases this
  ·have:=ud k hk;subst this;rw[show ζ1 k (c+1)=k::ζ1 (k+1) c from rfl,wpOpsIn_cons] at h;refine wpOpIn_mono (λa w hw=>ih (k+1) _ a w (by omega) (by omega) (by simpa using hs) (λj hj=>?_) (λj hj qi=>?_) (λj o2 O9 hj x hx=>?_) hw) h
   ·by_cases e:j=k
    ·subst e;simp[θ,show j<listed.size by omega]
    ·have:=U j (by omega);simp only[θ,ξ (show k≠j by omega)] at this ⊢;exact this
   ·have:=h2 j (by omega) qi;simp only[θ,ξ (show k≠j by omega)] at this ⊢;exact this
   ·have oN:listed.getD x true=true:=by
     by_cases e:j=k
     ·subst e;rw[ho] at O9;cases O9;exact U x (XE x hx)
     ·refine bN j o2 O9 ?_ x hx;simp only[θ,ξ (show k≠j from λh=>e h.symm)] at hj ⊢;exact hj
    by_cases e:x=k
    ·subst e;simp[θ,show x<listed.size by omega]
    ·simp only[θ,ξ (show k≠x from λh=>e h.symm)] at oN ⊢;exact oN
theorem I1 {id:Nat} {E:Env} {w:World} (hm:P.follows .mixedOrders=true) (bb:List dz) (Φ:List SP) (hlen:ξb bb.length ops.size=true) (qA:BJ ops bb.length=true) (Hn:Φ.length=bb.length) (lL:xy N ops bb bb 0=true)
  (ug:yG bb Φ 0 λi p φ=> ∀a w',Fr [] w w'->a.tmps.size=N->a.defers=ds->(∀s,p.base.contains s=true-> ∀v,E.get s=some v->a.tmps.getD s undef=v)->
   (∀(j:Nat),p.tv.contains j=true-> ∀(q:dz) (ψ:SP),bb[j]? =some q->Φ[j]? =some ψ->ψ.p w' (a.tmps.getD q.d undef))->iq P r ops Q i p.d a w' (λv cU=>φ.p cU v/\Fr [] w' cU))
  (p_: ∀a w',Fr [] w w'->a.tmps.size=N->a.defers=ds->(∀s v,E.get s=some v->(bb.any λp=>ζ p.d s)=false->a.tmps.getD s undef=v)->
   (∀(i:Nat) (p:dz) (φ:SP),bb[i]? =some p->Φ[i]? =some φ->φ.p w' (a.tmps.getD p.d undef))->wpOpsIn (fw r) 0 P ops Q (ζ1 bb.length (ops.size-bb.length)) a w'):
  WC P r N (.region id ops true) Q E ds w:=by
 have hle:=ο hlen;intro a ha;refine wpIn_region_draw λt=>?_;simp only[Region.schedule,hm,Bool.true_or,if_true];refine wpAnyIn_sound ops.size t _ a _ ?_;have key: ∀(fuel:Nat) (listed:Array Bool) (a:Act) (w':World),listed.size=ops.size->gN listed bb.length+(ops.size-bb.length)=fuel->(∀k,bb.length<=k->k<ops.size->listed.getD k true=false)->Fr [] w w'->a.tmps.size=N->a.defers=ds->
   (∀(k:Nat) (o:Oper),ops[k]? =some o->listed.getD k true=true-> ∀x∈d_ o,listed.getD x true=true)->
   (∀s v,E.get s=some v->(∀(k:Nat) (p:dz),bb[k]? =some p->p.d=s->listed.getD k true=false)->a.tmps.getD s undef=v)->
   (∀(i:Nat) (p:dz) (φ:SP),bb[i]? =some p->Φ[i]? =some φ->listed.getD i true=true->φ.p w' (a.tmps.getD p.d undef))->
   wpAnyIn (fw r) 0 P .any ops Q fuel listed a w':=by
  intro fuel
  induction fuel with
  |zero=>
   intro listed a w' hs hl ht hF hN hd bN hb hr;have h0:gN listed bb.length=0:=by omega
   have eX:=xf _ h0;have hc:ops.size-bb.length=0:=by omega
   refine IU qA 0 bb.length listed a w' (ξ3 _) (by omega) hs (λk hk=>eX k hk) ht bN ?_;have nH:=p_ a w' hF hN hd (λs v hv aN=>hb s v hv λk p hp e=>by
    rw[ζc] at aN;have:=aN p (ζ0 hp);rw[e] at this;simp at this) λi p φ hp gV=>hr i p φ hp gV (eX i (ν.1 hp).1)
   rw[hc] at nH;exact nH
  |succ fuel ih=>
   intro listed a w' hs hl ht hF hN hd bN hb hr
   by_cases h0:gN listed bb.length=0
   ·have eX:=xf _ h0;refine IU qA (fuel+1) bb.length listed a w' (ξ3 _) (by omega) hs (λk hk=>eX k hk) ht bN ?_;have nH:=p_ a w' hF hN hd (λs v hv aN=>hb s v hv λk p hp e=>by
     rw[ζc] at aN;have:=aN p (ζ0 hp);rw[e] at this;simp at this) λi p φ hp gV=>hr i p φ hp gV (eX i (ν.1 hp).1)
    rw[show ops.size-bb.length=fuel+1 by omega] at nH;exact nH
   refine⟨λud=>?_,λi hi=>?_⟩
   ·exfalso;obtain⟨i,U,h2,h3⟩:=A4 bb.length h0;have qf:i<bb.length:=U;obtain⟨⟨o,ho,_,lI,_⟩,_⟩:=sB lL i bb[i] (ξ9 qf);simp only[ξt] at ho lI;have:i∈ξD .any ops listed:=by
     unfold ξD;rw[ξQ];refine⟨by simp;omega,?_⟩;rw[h2,ho];simp only[η1,η9,ξ1,υ,ξa];intro e he;cases ji:ζq .any e with
     |false=>simp
     |true=>
      have aB:=lI e.on (oR.2 ⟨e,he,ji,rfl⟩);have:=h3 e.on aB;have bz:e.on<listed.size:=by omega
      simp only[θ,π bz,υ] at this ⊢;simp[this]
    rw[ud] at this;cases this
   ·unfold ξD at hi;rw[ξQ] at hi;obtain⟨Ai,iw⟩:=hi;have cY:i<ops.size:=by simpa using Ai
    have qf:i<bb.length:=by
     rcases ξC i bb.length with h|dp
     ·exact h
     ·exfalso;obtain⟨o,ho,eX,N_⟩:=IS qA i dp cY;rw[ho] at iw;simp only[μ,ξq,ξ1,υ,ξa] at iw;obtain⟨k,U,h2,_⟩:=A4 bb.length h0;have h5:=th bN 12 (d_ o) (λx hx=>by
       obtain⟨e,he,ji,At⟩:=oR.1 hx;have h3:=iw.2 e he;rw[ji] at h3;simp only[ζC,ζg] at h3;have YC:=N_ x hx;have bz:e.on<listed.size:=by omega
       rw[<-At];simp only[θ,π bz,υ] at h3 ⊢;exact h3) k (eX k (by omega))
      rw[h5] at h2;cases h2
    have ON:i<Φ.length:=by omega
    have hp:=ξ9 qf;have gV:=ξ9 ON;obtain⟨⟨o,ho,qa,lI,Oo⟩,Om,zU,_⟩:=sB lL i bb[i] hp;simp only[ξt] at ho lI zU;rw[ho] at iw;simp only[μ,ξq,ξ1,υ,ξa] at iw;obtain⟨gT,qx⟩:=iw;have rQ: ∀x∈d_ o,listed.getD x true=true:=by
     intro x hx;obtain⟨e,he,ji,rfl⟩:=oR.1 hx;have U:=qx e he;rw[ji] at U;simp only[ζC,ζg] at U;have aB:=lI e.on hx;have bz:e.on<listed.size:=by omega
     simp only[θ,π bz,υ] at U ⊢;exact U
    refine Vf ug i _ _ hp gV a w' hF hN hd ?_ ?_ _ ?_
    ·intro s Pg v hv;have qz:s∈bb[i].base:=by simpa using Pg
     refine hb s v hv λk p mZ aY=>?_;rcases Vq zU s qz k p mZ aY with rfl|⟨o',eA,OL⟩
     ·exact gT
     ·cases hk:listed.getD k true with
      |false=>rfl
      |true=>rw[bN k o' eA hk i OL] at gT;cases gT
    ·intro j qh q ψ hq hJ;have hj:j∈bb[i].tv:=by simpa using qh
     exact hr j q ψ hq hJ (rQ j (Oo j hj))
    ·rintro v cU ⟨hv,bY⟩;have On:bb[i].d<a.tmps.size:=by rw[hN];exact Om
     have mu:i<listed.size:=by omega
     have ga: ∀k,(listed.setIfInBounds i true).getD k true=true↔k=i\/listed.getD k true=true:=by
      intro k
      by_cases hk:i=k
      ·subst hk;simp[θ,mu]
      ·simp only[θ,ξ hk];constructor
       ·exact λh=> .inr h
       ·rintro (h|h)
        ·exact absurd h.symm hk
        ·exact h
     have fJ: ∀s,s≠bb[i].d->(a.put (some bb[i].d) v).tmps.getD s undef=a.tmps.getD s undef:=by
      intro s qz;simp only[ζH,θ,ξ (Ne.symm qz)]
     have fL:(a.put (some bb[i].d) v).tmps.getD bb[i].d undef=v:=by
      simp[ζH,θ,On]
     have qp:=Qi mu gT bb.length;simp only[qf,if_true] at qp;refine ih _ _ cU (by simpa using hs) (by omega) (λk hk eY=>by
      have:=ht k hk eY;simp only[θ,ξ (show i≠k by omega)] at this ⊢;exact this) (hF.trans bY) (by simp[ζH,hN]) hd ?_ ?_ ?_
     ·intro k o' eA hk x hx;rw[ga] at hk ⊢;right;rcases hk with rfl|hk
      ·rw[ho] at eA;cases eA;exact rQ x hx
      ·exact bN k o' eA hk x hx
     ·intro s u hu aN;have U:s≠bb[i].d:=λe=>by
       have:=aN i _ hp e.symm;have h2:=(ga i).2 (.inl rfl);rw[h2] at this;cases this
      rw[fJ s U];refine hb s u hu λk p mZ aY=>?_;have:=aN k p mZ aY;cases hk:listed.getD k true with
      |false=>rfl
      |true=>rw[(ga k).2 (.inr hk)] at this;cases this
     ·intro j q ψ hq hJ hj;rw[ga] at hj
      by_cases nI:j=i
      ·subst nI;rw[hp] at hq;rw[gV] at hJ;cases hq;cases hJ;rw[fL];exact hv
      ·have OS:listed.getD j true=true:=hj.resolve_left nI;have aN:q.d≠bb[i].d:=by
        rcases ξC i j with aB|dp
        ·exact(sB lL i _ hp).2.2.2 j q aB hq
        ·exact λe=>(sB lL j q hq).2.2.2 i _ (by omega) hp e.symm
       rw[fJ _ aN];exact ψ.st bY (hr j q ψ hq hJ OS)
 refine key ops.size _ a _ (by simp) ?_ (λk _ hk=>by simp[θ,hk]) (Fr.drew [] w) ha.size ha.defers ?_ ?_ ?_
 ·have: ∀n,n<=ops.size->gN (ζX ops.size false) n=n:=by
   intro n
   induction n with
   |zero=>intro _;rfl
   |succ n ih=>
    intro hn;simp only[gN,ih (by omega)];have:(ζX ops.size false).getD n true=false:=by simp[θ,show n<ops.size by omega]
    simp[this]
  rw[this _ hle];omega
 ·intro k o ho hk;have aB:=(ξd.1 ho).1;simp[θ,aB] at hk
 ·intro s v hv _;exact ha.get s v hv
 ·intro i p φ hp _ hi;have aB:i<ops.size:=by have:=(ν.1 hp).1;omega
  simp[θ,aB] at hi
theorem uB {i d:Nat} {o:Oper} {a:Act} {w w':World} {v:Value} {b:Bool} {post:Value->World->Prop} (ho:ops[i]? =some o) (hw:ζB o (yielded ops a.tmps)=b) (hd:o.dst=some d)
  (aX:if b=true then(∀c,o.op≠ .defer c)/\(execOp a.eval o).run P w= .ok (.value v) w' else v=undef/\w'=w) (hp:post v w'):iq P r ops Q i d a w post:=by
 intro K hK;simp only[wpOpIn,ho];cases b with
 |true=>
  simp only[if_true] at aX;rw[if_pos hw];refine⟨λ_ _=>trivial,?_⟩;rw[ξm _ _ _ aX.1,aX.2];simp only[ξS,hd];exact hK v w' hp
 |false=>
  obtain⟨rfl,rfl⟩:=(show v=undef/\w'=w by simpa using aX);rw[if_neg (by rw[hw];simp)];refine⟨λ_ _=>trivial,?_⟩;rw[hd];exact hK _ _ hp
variable {Θ:dP}
theorem eu (aO:Θ.ok P) {E:Env} {i d:Nat} {o:Oper} {a:Act} {w:World} {v:Value} (ha:Has N E ds a) (ho:ops[i]? =some o) (hw:want N ops E o.guard=some true) (hd:o.dst=some d) (hg:nD Θ o.op=true)
  (hv:ou Θ E o.op=some v):iq P r ops Q i d a w (λu w'=>u=v/\Fr [] w w'):=
 uB ho (l3 ha hw) hd (by
  simp only[if_true];exact⟨λc hc=>by rw[hc] at hv;simp[ou] at hv,IC aO ha hg hv⟩) ⟨rfl,Fr.refl _ _⟩
theorem xv (aO:Θ.ok P) {E:Env} {i d:Nat} {o:Oper} {a:Act} {w:World} (ha:Has N E ds a) (ho:ops[i]? =some o) (hw:want N ops E o.guard=some true) (hd:o.dst=some d) {t b tb off:Nat} {x:Operand} {ti:TI} (ah:o.op= .load t x) (ht:Θ.get t=some ti)
  (hx:ev E x=some (.pointer (some ⟨b,off,none⟩))) {cs:List Value} (hb:ck w b tb cs) (us:List Value) (hu:(cs.drop off).take ti.size=us) (hl:us.length=ti.size) (U:ti.isAgg=true\/ti.size=1)
  (v:Value) (hv:valOf ti.isAgg us=v):iq P r ops Q i d a w (λu w'=>u=v/\Fr [] w w'):=by
 subst hv;have hc:fP w ⟨b,off,none⟩ us:=λj u hj=>by
  have:(⟨b,off,none⟩:Addr).add j=⟨b,off+j,none⟩:=by unfold ζ6;split<;>simp_all
  rw[this,hb.cell];subst hu;have aB:j<ti.size:=by have:=(ν.1 hj).1;omega
  rw[ξ0,if_pos aB,ξ7] at hj;exact hj
 refine uB ho (l3 ha hw) hd (v:=valOf ti.isAgg us) (w':=w) ?_ ⟨rfl,Fr.refl _ _⟩;simp only[if_true];refine⟨by rw[ah];simp,?_⟩;simp only[execOp,ah,η,ha.eval hx,uS (aO.fits ht) hl hc (λe=>by rcases U with U|U;rw[e] at U;cases U;exact U)];rfl
theorem apm {E:Env} {i d:Nat} {o:Oper} {a:Act} {w:World} (ha:Has N E ds a) (ho:ops[i]? =some o) (hw:want N ops E o.guard=some true) (hd:o.dst=some d) {f:FuncId} {args:Array Operand} {ts:Array TypeId} (ah:o.op= .call { callee:= .value (.func f),args:=args,argTypes:=ts })
  (hf: ∀(vs:Array Value) (u:World),(callFunc f vs).run P u= .ok (.enter f vs) u)
  {vs:List Value} (fc:l5 E args.toList=some vs) {β:Type} {R:List Nat->World->Value->β->Prop} {O:List Nat} {y:β} (iv:Calls P f vs.toArray w (ll R O w y)):
  iq P r ops Q i d a w (λu w'=>R O w' u y/\Fr [] w w'):=by
 intro K hK;simp only[wpOpIn,ho];rw[if_pos (l3 ha hw)];refine⟨λ_ _=>trivial,?_⟩;have e1:args.map a.eval=vs.toArray:=by rw[<-yF ha fc,<-ξi]
 have aX:(execOp a.eval o).run P w= .ok (.enter f vs.toArray) w:=by
  simp only[execOp,ah,η,resolve,ζv,ξW,κ,ε,invoke,e1];simpa using hf vs.toArray w
 rw[ξm _ _ _ (by rw[ah];simp),aX];simp only[ξS];refine⟨λh=>by simp[fw] at h,trivial,λcs _=>?_⟩;obtain⟨e,cU,fr,⟨v,rfl,hr,bY⟩,hs,wJ,hl⟩:=iv cs;refine⟨.returned v,cU,fr,?_,?_,wJ,hl⟩
 ·simp only[hd];exact hK v cU ⟨hr,bY⟩
 ·refine ηc (λm _=>?_) (ζP hs);intro g _;exact⟨λh=>by simp[fw] at h,Or.inl trivial,λ_ _=>trivial,λ_ h=>by simp[fw] at h⟩
theorem iq.weaken {i d:Nat} {a:Act} {w:World} {p q:Value->World->Prop} (h:iq P r ops Q i d a w p) (hpq: ∀v w',p v w'->q v w'):iq P r ops Q i d a w q:=
 λK hK=>h K λv w' hp=>hK v w' (hpq v w' hp)
end
def cz {α:Type} (T:Ty α) (O:List Nat) (w:World):List Value->List α->Prop
 |cs,[]=>cs=[]
 |cs,x::xs=> ∃c r,cs=c++r/\T.rep O w c x/\cz T O w r xs
section
variable {α:Type} {T:Ty α} {O O':List Nat} {w w':World}
theorem cz.tr (ht:Tr O w O' w'): ∀ {xs:List α} {cs:List Value},cz T O w cs xs->cz T O' w' cs xs
 |[],_,h=>h
 |_::_,_,⟨c,r,h,U,h2⟩=>⟨c,r,h,T.tr ht U,cz.tr ht h2⟩
theorem cz.len: ∀ {xs:List α} {cs:List Value},cz T O w cs xs->cs.length=xs.length*T.n
 |[],_,h=>by rw[show _=[] from h];simp
 |_::xs,_,⟨c,r,h,U,h2⟩=>by subst h;rw[χ,T.len U,cz.len h2,ξy,ξE];omega
theorem cz.one: ∀ {xs:List α} {cs:List Value},cz T O w cs xs-> ∀u∈cs,u.oneCell'=true
 |[],_,h,u,hu=>by rw[show _=[] from h] at hu;cases hu
 |_::xs,_,⟨c,r,h,U,h2⟩,u,hu=>by
  subst h;rcases τ.1 hu with hu|hu
  ·exact T.one U u hu
  ·exact cz.one h2 u hu
theorem cz.app: ∀ {xs ys:List α} {cs ds:List Value},cz T O w cs xs->cz T O w ds ys->cz T O w (cs++ds) (xs++ys)
 |[],_,_,_,h,k=>by rw[show _=[] from h];exact k
 |_::xs,_,_,_,⟨c,r,h,U,h2⟩,k=>by subst h;exact⟨c,r++_,by simp,U,cz.app h2 k⟩
theorem cz.at_: ∀ {xs:List α} {cs:List Value} {k:Nat} {x:α},cz T O w cs xs->xs[k]? =some x->T.rep O w ((cs.drop (k*T.n)).take T.n) x
 |[],_,_,_,_,hk=>by simp at hk
 |y::xs,_,0,x,⟨c,r,h,U,h2⟩,hk=>by
  subst h;simp at hk;subst hk;simp[<-T.len U];exact U
 |y::xs,_,k+1,x,⟨c,r,h,U,h2⟩,hk=>by
  subst h;have ih:=cz.at_ h2 (by simpa using hk);have e:(k+1)*T.n=c.length+k*T.n:=by rw[T.len U,ξE];omega
  rw[e,<-List.drop_drop,List.drop_left];exact ih
theorem BE {ad:Addr} {n c:Nat} {xs:List α} (h:T.slice.is O w (.slice (some ad) n c) xs):n=xs.length/\ ∃cs,cz T O w cs xs/\fP w ad cs:=by
 obtain⟨cs,⟨A,c',hc,hl,hx⟩,hv⟩:=h;subst hc;have hv:ξT (some ad) n c= .slice A xs.length c':=hv;injection hv with e1 e2 e3;subst e1;subst e2;subst e3;refine⟨rfl,?_⟩;clear hl;have key: ∀(ys:List α) (off:Nat),(∀k x,ys[k]? =some x-> ∃es,T.rep O w es x/\fP w (ad.add ((off+k)*T.n)) es)-> ∃cs,cz T O w cs ys/\fP w (ad.add (off*T.n)) cs:=by
  intro ys
  induction ys with
  |nil=>intro off _;exact⟨[],rfl,λj u hu=>by simp at hu⟩
  |cons y ys ih=>
   intro off hk;obtain⟨es,hr,he⟩:=hk 0 y rfl;obtain⟨cs,Oa,j5⟩:=ih (off+1) (λk x hx=>by
    obtain⟨es,U,h2⟩:=hk (k+1) x (by simpa using hx)
    exact⟨es,U,by have e:off+1+k=off+(k+1):=by omega
                  rw[e];exact h2⟩)
   refine⟨es++cs,⟨es,cs,rfl,hr,Oa⟩,λj u hu=>?_⟩;have hlen:=T.len hr
   by_cases hj:j<T.n
   ·rw[ξI (by omega)] at hu;have:=he j u hu;simpa using this
   ·rw[ξF (by omega)] at hu;have:=j5 _ u hu;rw[add_add] at this ⊢;have e:(off+1)*T.n+(j-es.length)=off*T.n+j:=by rw[ξE];omega
    rwa [e] at this
 have:=key xs 0 (λk x hk=>by
  obtain⟨EY,es,hA,_,_,hr,he⟩:=hx k x hk;cases hA;exact⟨es,hr,by simpa using he.1⟩)
 simpa[ζx] using this
theorem atH {g t:Nat} {cur:Array Value} {p:Addr} (hh:w.heap[g]? =some (.cells cur t (0,0))) (hp:p.block=g):w.frozen? p=false:=by
 simp[ζD,hp,hh]
theorem RY {g cap t:Nat} {cur:Array Value} {xs:List α} {cs:List Value} (hh:w.heap[g]? =some (.cells cur t (0,0))) (ho:g∉O) (hr:cz T O w cs xs) (hc:cur.toList.take cs.length=cs) (zX:xs.length<=cap) (hm:cap<=maxLen):
  T.slice.is O w (.slice (some ⟨g,0,none⟩) xs.length cap) xs:=by
 have hg:g<w.heap.size:=(ξd.1 hh).1;refine⟨_,⟨_,cap,rfl,⟨zX,hm⟩,λk x hk=>⟨_,_,rfl,hg,ho,cz.at_ hr hk,λj u hu=>?_,λj hj=>atH hh (by rw[mI,mI])⟩⟩,rfl⟩;have hlen:=cz.len hr;have mn:k<xs.length:=(ν.1 hk).1;have hj:j<T.n:=by
  have:=(ν.1 hu).1;rw[ω] at this;omega
 rw[ξ0,if_pos hj,ξ7] at hu;rw[add_add];have e:(⟨g,0,none⟩:Addr).add (k*T.n+j)=⟨g,k*T.n+j,none⟩:=by unfold ζ6;split<;>simp_all
 rw[e,cell_of_row w g _ cur t (0,0) hh];rw[<-hc,ξ0] at hu;split at hu
 ·simpa using hu
 ·cases hu
end
structure Own {α:Type} (T:Ty α) (e B:Nat) (O:List Nat) (w:World) (v:Value) (xs:List α):Prop where
 ex: ∃cs,w.ownsRow B e T.n v xs.length cs/\cz T O w cs xs
 mem: ∀g,v.ownBlock=some g->g∈O
section
variable {α:Type} {T:Ty α} {e B:Nat} {O O':List Nat} {w w':World} {v:Value} {xs ys:List α}
theorem Own.oT:Own T e B O w (.slice none 0 0) []:=⟨⟨[],World.ownsRow_nil w B e T.n,rfl⟩,λg h=>by cases h⟩
theorem Own.lt (h:Own T e B O w v xs): ∀g,v.ownBlock=some g->B<=g/\g<w.heap.size:=by
 obtain⟨cs,U,_⟩:=h.ex;exact U.lt
theorem Own.form (h:Own T e B O w v xs): ∃A c,v= .slice A xs.length c/\xs.length<=c/\c<=maxLen:=by
 obtain⟨cs,⟨_,U⟩,_⟩:=h.ex;rcases U with⟨rfl,h2⟩|⟨g,cap,cur,rfl,_,_,h3,h4,_⟩
 ·exact⟨none,0,by rw[h2],by omega,by unfold maxLen;omega⟩
 ·exact⟨_,cap,rfl,h3,h4⟩
theorem Own.keep (h:Own T e B O w v xs) (ht:Tr O w O' w') (hk: ∀g,v.ownBlock=some g->w'.heap[g]? =w.heap[g]? /\g∈O'):Own T e B O' w' v xs:=by
 obtain⟨cs,⟨h0,U⟩,h2⟩:=h.ex;refine⟨⟨cs,⟨h0,?_⟩,h2.tr ht⟩,λg hg=>(hk g hg).2⟩;rcases U with U|⟨g,cap,cur,hv,hg,hh,r⟩
 ·exact .inl U
 ·refine .inr ⟨g,cap,cur,hv,hg,?_,r⟩;have:=(hk g (by rw[hv];rfl)).1;rw[this];exact hh
theorem Own.c7 (h:Own T e B O w v xs) (hf:Fr [] w w'):Own T e B O w' v xs:=h.keep hf.gj λg hg=>⟨hf.block g (h.lt g hg).2 (by simp),h.mem g hg⟩
theorem Own.new {b t:Nat} {cs:List Value} (h:Own T e B O w v xs) (hn:rj O w b t cs w'):Own T e B (b::O) w' v xs:=
 h.keep hn.tr λg hg=>⟨hn.fr.block g (h.lt g hg).2 (by simp),ξ5 _ (h.mem g hg)⟩
theorem Own.st {b:Nat} (h:Own T e B O w v xs) (hf:Fr [b] w w') (hi:b∈O) (aN:v.ownBlock≠some b):Own T e B O w' v xs:=
 h.keep (hf.tr (lS hi)) λg hg=>⟨hf.block g (h.lt g hg).2 (by simp;rintro rfl;exact aN hg),h.mem g hg⟩
theorem Own.aac {b t:Nat} {cs:List Value} (h:Own T e B O w v xs) (hn:rj O w b t cs w'):v.ownBlock≠some b:=λhe=>by have:=(h.lt b he).2;have:=hn.ge;omega
theorem Own.share (h:Own T e B O w v xs) (hs:Sub O' O) (hn: ∀g,v.ownBlock=some g->g∉O'):T.slice.is O' w v xs:=by
 obtain⟨cs,⟨h0,U⟩,h2⟩:=h.ex;rcases U with⟨rfl,hl⟩|⟨g,cap,cur,rfl,hg,hh,h3,h4,h5,h6⟩
 ·have:xs=[]:=ξz hl;subst this;exact lX _ _ _
 ·exact RY hh (hn g rfl) (h2.tr (Tr.less hs)) (by rw[cz.len h2];exact h6) h3 h4
end
theorem zp {w w':World} {v:Value} (h:w.grownBy w' v.ownBlock): ∀k,k<w.heap.size->v.ownBlock≠some k->w'.heap[k]? =w.heap[k]? :=λk hk aN=>h.block k hk λe=>aN e.symm
section
variable {P:Program} {r:Option Nat} {N:Nat} {Θ:dP} {ops:Array Oper} {Q:Exit->Act->World->Prop} {l:List Nat} {E:Env} {ds:List Deferred} {w:World} {i d:Nat} {o:Oper} {O:List Nat}
structure fO {α:Type} (T:Ty α) (e B:Nat) (O:List Nat) (w:World) (v:Value) (zs:List α) (O':List Nat) (w':World) (v':Value):Prop where
 own:Own T e B O' w' v' zs
 tr:Tr O w O' w'
 ob:OB O' w'
 sub:Sub O O'
 fr: ∀k,k<w.heap.size->v.ownBlock≠some k->w'.heap[k]? =w.heap[k]?
 ne: ∀b,b<w.heap.size->v.ownBlock≠some b->v'.ownBlock≠some b
theorem fO.cf {α:Type} {T:Ty α} {e B:Nat} {O':List Nat} {w':World} {v v':Value} {zs:List α} (h:fO T e B O w v zs O' w' v') {b t:Nat} {cs:List Value} (hb:ck w b t cs) (hn:v.ownBlock≠some b):ck w' b t cs:=
 (h.fr b hb.lt hn).trans hb
theorem fO.other {α β:Type} {T:Ty α} {S:Ty β} {e B e2:Nat} {O':List Nat} {w':World} {v v' u:Value} {zs:List α} {ys:List β} (h:fO T e B O w v zs O' w' v') (hu:Own S e2 B O w u ys)
  (hn: ∀g,u.ownBlock=some g->v.ownBlock≠some g):Own S e2 B O' w' u ys:=
 hu.keep h.tr λg hg=>⟨h.fr g (hu.lt g hg).2 (hn g hg),h.sub g (hu.mem g hg)⟩
theorem fO.c7 {α:Type} {T:Ty α} {e:Nat} {w0:World} {O':List Nat} {w':World} {v v':Value} {zs xs:List α} (h:fO T e w0.heap.size O w v zs O' w' v') (ho:Own T e w0.heap.size O w v xs) (hF:Fr [] w0 w):Fr [] w0 w':=
 ⟨h.tr.os.trans hF.os,h.tr.tape.trans hF.tape,h.tr.output.trans hF.output,ζ5 hF.size h.tr.size,λk hk _=>
  (h.fr k (ξ4 hk hF.size) (λe=>by have:=(ho.lt k e).1;omega)).trans (hF.block k hk (by simp))⟩
theorem RH (aO:Θ.ok P) {t ty:Nat} {ti te:TI} (ht:Θ.get t=some ti) (h5:ti.tag=5) (ct:Θ.get ti.e=some te) {α:Type} {T:Ty α} (hn:T.n=te.size) (m3:0<te.size) (hz:te.zero.cells.size=te.size)
  {B:Nat} {v u:Value} {xs ys:List α} (hB:B<=w.heap.size) (hO:OB O w) (hv:Own T ti.e B O w v xs) (hu:T.slice.is O w u ys) (hlen:(xs.length+ys.length)*te.bytes<=140737488355328) (cO:1<=te.bytes):
  ∃v' w' O',(ζr #[t,t] ty #[v,u]).run P w= .ok v' w'/\fO T ti.e B O w v (xs++ys) O' w' v':=by
 have mv:=aO.fits ct;obtain⟨x,hx,hs,pX,sk⟩:=mv.info;have jI:=(aO.fits ht).slice h5;obtain⟨A,c,rfl,_,_⟩:=iJ hu;obtain⟨cs,gu,fK⟩:=hv.ex;have h63:xs.length+ys.length<=maxLen:=by
  unfold maxLen;have:xs.length+ys.length<=(xs.length+ys.length)*te.bytes:=ζi _ cO;omega
 rcases A with _|ad
 ·
  have nK:ys=[]:=by
   cases ys with
   |nil=>rfl
   |cons y ys=>
    obtain⟨cD,⟨A',c',mi,_,jK⟩,jJ⟩:=hu;subst mi;obtain⟨_,_,hA,_⟩:=jK 0 y rfl;subst hA;have:ξT none (y::ys).length c= .slice (some _) (y::ys).length c':=jJ;injection this with e;cases e
  subst nK;refine⟨v,w,O,?_,⟨by simpa using hv,Tr.refl _ _,hO,Sub.refl _,λ_ _ _=>rfl,λ_ _ h=>h⟩⟩;rcases gu.2 with⟨rfl,hl⟩|⟨g,cap,cur,rfl,_,_,fI,_⟩
  ·simp[ζr,run_underlying jI,sizeOf,typeInfo,hx,ξw,ξ8]
  ·simp[ζr,run_underlying jI,sizeOf,typeInfo,hx,ξw,ξ8,fI,storeCells]
 ·obtain⟨_,us,jk,mT⟩:=BE hu;obtain⟨v',w',aX,h2,h3,_,F8⟩:=run_append_own_at (P:=P) w B t ty ti.e x te.zero T.n te.bytes jI hx sk (hs.trans hn.symm) pX (hz.trans hn.symm) (by omega) v xs.length cs gu ad ys.length c us (cz.len jk) mT (cz.one jk) h63 hlen hB;have X7:(xs++ys).length=xs.length+ys.length:=χ;have aB:=h2.lt;have auM:=gu.lt;rcases F8 with fL|fj
  ·refine⟨v',w',O,aX,⟨⟨⟨_,by rw[X7];exact h2,?_⟩,λg hg=>hv.mem g (by rw[<-fL];exact hg)⟩,?_,λk hk=>ξ4 (hO k hk) h3.size,Sub.refl _,zp h3,λb _ hb=>by rw[fL];exact hb⟩⟩
   ·have eK:Tr O w O w':=⟨h3.os,h3.tape,h3.output,h3.size,λk hk ho=>⟨ho,zp h3 k hk λe=>ho (hv.mem k e)⟩⟩;exact(fK.tr eK).app (jk.tr eK)
   ·exact⟨h3.os,h3.tape,h3.output,h3.size,λk hk ho=>⟨ho,zp h3 k hk λe=>ho (hv.mem k e)⟩⟩
  ·have bz:=(aB _ fj).2;have eK:Tr O w (w.heap.size::O) w':=⟨h3.os,h3.tape,h3.output,h3.size,λk hk ho=>⟨by simp;exact⟨by omega,ho⟩,zp h3 k hk λe=>ho (hv.mem k e)⟩⟩;refine⟨v',w',w.heap.size::O,aX,⟨⟨⟨_,by rw[X7];exact h2,?_⟩,λg hg=>by rw[fj] at hg;cases hg;exact σ⟩,eK,?_,Sub.cons (Sub.refl _) _,zp h3,λb hb _=>by rw[fj];simp;omega⟩⟩
   ·exact(fK.tr eK).app (jk.tr eK)
   ·intro k hk;rcases ξg.1 hk with rfl|hk
    ·exact bz
    ·exact ξ4 (hO k hk) h3.size
theorem adD (aO:Θ.ok P) (ho:ops[i]? =some o) (hw:want N ops E o.guard=some true) (hd:o.dst=some d) (hN:ξ2 d N=true) {t:Nat} {x y:Operand} {ti te:TI}
  (ah:o.op= .call { callee:= .builtin .append,args:= #[x,y],argTypes:= #[t,t] }) (ht:Θ.get t=some ti) (h5:ti.tag=5) (ct:Θ.get ti.e=some te) {α:Type} {T:Ty α} (hn:T.n=te.size) (m3:0<te.size) (hz:te.zero.cells.size=te.size) (cO:1<=te.bytes)
  {B:Nat} {v u:Value} {xs ys:List α} (hx:ev E x=some v) (hy:ev E y=some u) (hB:B<=w.heap.size) (hO:OB O w) (hv:Own T ti.e B O w v xs) (hu:T.slice.is O w u ys) (hlen:(xs.length+ys.length)*te.bytes<=140737488355328)
  (h: ∀v' w' O',fO T ti.e B O w v (xs++ys) O' w' v'->WO P r N ops Q l ((d,v')::E) ds w'):WO P r N ops Q (i::l) E ds w:=by
 obtain⟨v',w',O',aX,jB⟩:=RH (P:=P) (ty:=o.type) aO ht h5 ct hn m3 hz hB hO hv hu hlen cO;refine gE ho hw hd hN (by rw[ah];simp) (λa ha=>?_) (h v' w' O' jB);simp only[execOp,ah,η,resolve,κ,ε,invoke,builtin,ξX,ξu,ζs,ha.eval hx,ha.eval hy,aX]
theorem arV {k k':IntKind} {x y z:Int} {t:TypeId} {ox oy:Operand} (h:uW k x y=some z):(do eqGuard .shl t ox oy (.int k x) (.int k' y);binOp .shl t (.int k x) (.int k' y):Sem Value).run P w= .ok (.int k z) w:=by
 unfold uW at h;split at h
 ·cases h
 ·rename_i hy;cases h;simp[go_sem,η5,hy]
theorem arW {k k':IntKind} {x y z:Int} {t:TypeId} {ox oy:Operand} (h:RT k x y=some z):(do eqGuard .shr t ox oy (.int k x) (.int k' y);binOp .shr t (.int k x) (.int k' y):Sem Value).run P w= .ok (.int k z) w:=by
 unfold RT at h;split at h
 ·cases h
 ·rename_i hy;cases h;simp[go_sem,η5,hy]
theorem arQ {k:IntKind} {x y z:Int} {t:TypeId} {ox oy:Operand} (h:Q_ k x y=some z):(do eqGuard .quo t ox oy (.int k x) (.int k y);binOp .quo t (.int k x) (.int k y):Sem Value).run P w= .ok (.int k z) w:=by
 unfold Q_ at h;split at h
 ·cases h
 ·rename_i hy;cases h;simp[go_sem,ζS,hy]
theorem arR {k:IntKind} {x y z:Int} {t:TypeId} {ox oy:Operand} (h:uI x y=some z):(do eqGuard .rem t ox oy (.int k x) (.int k y);binOp .rem t (.int k x) (.int k y):Sem Value).run P w= .ok (.int k z) w:=by
 unfold uI at h;split at h
 ·cases h
 ·rename_i hy;cases h;simp[go_sem,ζS,hy]
end
section
variable {P:Program} {r:Option Nat} {N:Nat} {Θ:dP} {ops:Array Oper} {Q:Exit->Act->World->Prop} {l:List Nat} {E:Env} {ds:List Deferred} {w:World} {i d:Nat} {o:Oper} {O:List Nat}
theorem abV {a:Act} {x:Operand} {args:Array Operand} {ts:Array TypeId} {g:FuncId} {first cap:Array Value} {vs:List Value} (ha:Has N E ds a) (ah:o.op= .call { callee:= .value x,args:=args,argTypes:=ts })
  (hx:ev E x=some (.func (.func g) first cap)) (fc:l5 E args.toList=some vs) (he: ∀(vs:Array Value) (u:World),(callFunc g vs).run P u= .ok (.enter g vs) u):
  (execOp a.eval o).run P w= .ok (.enter g (first.toList++vs++cap.toList).toArray) w:=by
 have e1:args.map a.eval=vs.toArray:=by rw[<-yF ha fc,<-ξi]
 simp only[execOp,ah,η,resolve,ha.eval hx,ξW,κ,ε,invoke,e1];rw[he];simp
theorem adF (ho:ops[i]? =some o) (hw:want N ops E o.guard=some true) (hd:o.dst=some d) (hN:ξ2 d N=true) {x:Operand} {args:Array Operand} {ts:Array TypeId} (ah:o.op= .call { callee:= .value x,args:=args,argTypes:=ts })
  {g:FuncId} {first cap vs:List Value} (hx:ev E x=some (.func (.func g) first.toArray cap.toArray)) (fc:l5 E args.toList=some vs) (he: ∀(vs:Array Value) (u:World),(callFunc g vs).run P u= .ok (.enter g vs) u)
  {β:Type} {R:List Nat->World->Value->β->Prop} {y:β} (iv:Calls P g (first++vs++cap).toArray w (ll R O w y)) (h: ∀v w',R O w' v y->Fr [] w w'->WO P r N ops Q l ((d,v)::E) ds w'):WO P r N ops Q (i::l) E ds w:=
 SC ho hw hd hN (by rw[ah];simp) (λa ha=>by simpa using abV (w:=w) ha ah hx fc he) iv λ_ _ ⟨v,tU,hr,bY⟩=>⟨v,tU,h v _ hr bY⟩
theorem aro {α:Type} {T:Ty α} {v:Value} {x:α} (h:T.is O w v x):T.rep O w v.cells.toList x:=by
 obtain⟨cs,hr,rfl⟩:=h;rw[Ty.cells hr];exact hr
def wX:Nat->List Value->List (Nat×Value)
 |_,[]=>[]
 |k,v::r=>(k,v)::wX (k+1) r
def qJ (E:Env):Nat->List (Nat×Operand)->Option (List Value)
 |_,[]=>some []
 |k,(j,x)::r=>bif ζ j k then(match ev E x,qJ E (k+1) r with|some v,some vs=>some (v::vs)|_,_=>none) else none
theorem apO {a:Act} (h:Has N E ds a): ∀ {ps:List (Nat×Operand)} {k:Nat} {vs:List Value},qJ E k ps=some vs->ps.map (λp=>(p.1,a.eval p.2))=wX k vs:=by
 intro ps
 induction ps with
 |nil=>intro k vs hv;simp[qJ] at hv;subst hv;rfl
 |cons p r ih=>
  obtain⟨j,x⟩:=p;intro k vs hv;simp only[qJ] at hv;cases hb:ζ j k with
  |false=>rw[hb] at hv;cases hv
  |true=>
   rw[hb] at hv;simp only[cond_true] at hv;split at hv
   ·rename_i v us hx hr;simp only[ι] at hv;subst hv;have:=δ hb;subst this;simp[wX,h.eval hx,ih hr]
   ·cases hv
theorem Nc: ∀(c:List Value) (k off:Nat) (cs:Array Value),off+k+c.length<=cs.size->((c.zipIdx k).foldl (λcs p=>cs.setIfInBounds (off+p.2) p.1) cs).toList=putAt cs.toList (off+k) c:=by
 intro c
 induction c with
 |nil=>intro k off cs _;simp[putAt]
 |cons x c ih=>
  intro k off cs h;simp only[List.zipIdx_cons,List.foldl_cons];rw[ih (k+1) off _ (by simp at h ⊢;omega)];simp only[Array.toList_setIfInBounds,putAt];have aB:off+k<cs.toList.length:=by simp at h ⊢;omega
  apply ζd;intro j;simp only[ζw,ξ0,ξ7,ζe,χ,ω,List.length_set,ξy,List.getElem?_cons];have hm:min (off+k) cs.toList.length=off+k:=by omega
  have tZ:min (off+(k+1)) cs.toList.length=off+k+1:=by omega
  rw[hm,tZ]
  by_cases U:j<off+k
  ·have h2:j<off+k+1:=by omega
   have h3:j<off+k+1+c.length:=by omega
   have h4:j<off+k+(c.length+1):=by omega
   have h5: ¬off+k=j:=by omega
   have h6:j<off+(k+1):=by omega
   simp[U,h2,h3,h4,h5,h6]
  ·by_cases h2:j=off+k
   ·subst h2;have h3:off+k<off+k+1+c.length:=by omega
    have h6:off+k<off+(k+1):=by omega
    simp at aB;simp[h3,h6,aB]
   ·have e1: ¬j<off+k+1:=by omega
    have e2:j-(off+k)≠0:=by omega
    have e3:j-(off+k)-1=j-(off+k+1):=by omega
    by_cases h3:j<off+k+1+c.length
    ·have h4:j<off+k+(c.length+1):=by omega
     simp[U,e1,h3,h4,e2,e3]
    ·have h4: ¬j<off+k+(c.length+1):=by omega
     have h5: ¬off+k=off+(k+1)+c.length+(j-(off+k+1+c.length)):=by omega
     have h6:off+(k+1)+c.length+(j-(off+k+1+c.length))=j:=by omega
     have h7:off+k+(c.length+1)+(j-(off+k+(c.length+1)))=j:=by omega
     have h8: ¬off+k=j:=by omega
     simp only[h6,h7];simp[U,e1,h3,h4,h8]
theorem alW {size:Nat}: ∀(vs:List Value) (k:Nat) (cs:Array Value),(∀v∈vs,v.cells.size=size)->cs.size=(k+vs.length)*size->
  ∃cD,ζb (λi=>some (i*size,size)) cs (wX k vs)=some cD/\cD.toList=cs.toList.take (k*size)++(vs.map λv=>v.cells.toList).flatten:=by
 intro vs
 induction vs with
 |nil=>intro k cs _ hs;exact⟨cs,rfl,by simp at hs;rw[ξ6 (by simp;omega)];simp⟩
 |cons v vs ih=>
  intro k cs hv hs;have fc:=hv v (by simp);have hbound:k*size+v.cells.size<=cs.size:=by
   rw[hs,fc,ξy,<-ξE];exact ξn _ (by omega)
  have rU:=Nc v.cells.toList 0 (k*size) cs (by simp;omega);have am5:(v.cells.zipIdx.foldl (λcs (c,j)=>cs.setIfInBounds (k*size+j) c) cs)=((v.cells.toList.zipIdx 0).foldl (λcs p=>cs.setIfInBounds (k*size+p.2) p.1) cs):=by
   rw[<-Array.foldl_toList,Array.toList_zipIdx]
  have bz:((v.cells.toList.zipIdx 0).foldl (λcs p=>cs.setIfInBounds (k*size+p.2) p.1) cs).size=cs.size:=by
   have:=congrArg ηk rU;simp only[ξL,putAt,χ,ω,ξf] at this;omega
  obtain⟨cD,U,h2⟩:=ih (k+1) ((v.cells.toList.zipIdx 0).foldl (λcs p=>cs.setIfInBounds (k*size+p.2) p.1) cs) (λu hu=>hv u (by simp[hu])) (by
   rw[bz,hs,ξy]
   congr 1
   omega)
  refine⟨cD,?_,?_⟩
  ·simp only[wX,ζb];rw[if_neg (by simp[fc];omega),am5];exact U
  ·rw[h2,rU];simp only[putAt,ζt,ξu,ζJ];have e:(k+1)*size=(cs.toList.take (k*size)++v.cells.toList).length:=by
    simp only[χ,ω,ξL,ξE];omega
   rw[e,List.take_left];simp
def s7 {α:Type} (T:Ty α) (O:List Nat) (w:World):List Value->List α->Prop
 |[],[]=>True
 |v::vs,x::xs=>T.is O w v x/\s7 T O w vs xs
 |_,_=>False
theorem s7.rep {α:Type} {T:Ty α}: ∀ {vs:List Value} {xs:List α},s7 T O w vs xs->cz T O w (vs.map λv=>v.cells.toList).flatten xs/\vs.length=xs.length/\ ∀v∈vs,v.cells.size=T.n
 |[],[],_=>⟨rfl,rfl,λv h=>by cases h⟩
 |v::vs,x::xs,⟨U,h2⟩=>by
  obtain⟨k1,k2,k3⟩:=s7.rep h2;have hr:=aro U;refine⟨⟨_,_,by simp,hr,k1⟩,by simp[k2],λu hu=>?_⟩;rcases ξg.1 hu with rfl|hu
  ·simpa using T.len hr
  ·exact k3 u hu
def mz (vs:List Value):List Value:=(vs.map λv=>v.cells.toList).flatten
theorem RI (aO:Θ.ok P) {a:Act} (ha:Has N E ds a) {t n:Nat} {ti te:TI} (ht:Θ.get t=some ti) (h5:ti.tag=5) (ct:Θ.get ti.e=some te) (hz:te.zero.cells.size=te.size)
  {ps:Array (Nat×Operand)} {vs:List Value} (qy:qJ E 0 ps.toList=some vs) (hc: ∀v∈vs,v.cells.size=te.size) (hlen:vs.length=n) (Hj:n*te.size<=16777216):
  (ζQ t n (ps.map λ(i,x)=>(i,a.eval x))).run P w= .ok (.slice (some ⟨w.heap.size,0,none⟩) n n) (w.alloc (.cells (mz vs).toArray ti.e)):=by
 have mv:=aO.fits ct;obtain⟨cD,U,h2⟩:=alW (size:=te.size) vs 0 ((Array.range (n*te.size)).map ((if n*te.size=0 then #[] else te.zero.cells)[· %(if n*te.size=0 then #[] else te.zero.cells).size]!)) (λv hv=>hc v hv) (by simp[hlen]);have anB:(ps.map λ(i,x)=>(i,a.eval x)).toList=wX 0 vs:=by
  rw[ξi];exact apO ha qy
 have nL: ¬n*te.size>2^24:=by omega
 have e2:cD=(mz vs).toArray:=by
  apply Array.toList_inj.1;rw[h2];simp[mz]
 subst e2;simp only[ζQ,η,run_underlying ((aO.fits ht).slice h5),ε,gf mv];rw[if_neg nL];rw[anB]
 by_cases h0:n*te.size=0
 ·rw[if_pos h0] at U;rw[if_pos h0];simp only[η,κ,ε];rw[U];rfl
 ·rw[if_neg h0] at U;rw[if_neg h0];simp only[η,vf mv,κ,ε];rw[U];rfl
structure Lit {α:Type} (T:Ty α) (e:Nat) (O:List Nat) (w:World) (b n:Nat) (xs:List α) (w':World):Prop where
 new: ∃cs,rj O w b e cs w'/\cz T (b::O) w' cs xs/\cs.length=n*T.n
 len:xs.length=n
 le:n<=maxLen
theorem Lit.fr {α:Type} {T:Ty α} {e b n:Nat} {w':World} {xs:List α} (h:Lit T e O w b n xs w'):Fr [] w w':=let⟨_,h,_⟩:=h.new;h.fr
theorem Lit.data {α:Type} {T:Ty α} {e b n:Nat} {w':World} {xs:List α} (h:Lit T e O w b n xs w') (hO:OB O w):T.slice.is O w' (.slice (some ⟨b,0,none⟩) n n) xs:=by
 obtain⟨cs,hn,hr,hl⟩:=h.new;have:=RY (cap:=n) (O:=O) hn.cf (λho=>by have:=hO _ ho;have:=hn.ge;omega) (hr.tr (Tr.less λk hk=>ξ5 _ hk)) (by simp) (by rw[h.len];exact ξ3 _) h.le
 rwa [h.len] at this
theorem Lit.own {α:Type} {T:Ty α} {e b n B:Nat} {w':World} {xs:List α} (h:Lit T e O w b n xs w') (hB:B<=w.heap.size):Own T e B (b::O) w' (.slice (some ⟨b,0,none⟩) n n) xs:=by
 obtain⟨cs,hn,hr,hl⟩:=h.new;refine⟨⟨cs,⟨by rw[hl,h.len],.inr ⟨b,n,cs.toArray,by rw[h.len],ζ5 hB hn.ge,hn.cf,by rw[h.len];exact ξ3 _,h.le,by simp[hl],by rw[h.len,<-hl];simp⟩⟩,hr⟩,λg hg=>?_⟩;cases hg;exact σ
theorem ZP (hO:OB O w) {α:Type} {T:Ty α} {vs:List Value} {xs:List α} {n:Nat} (fc:s7 T O w vs xs) (hlen:vs.length=n) (hm:n<=maxLen) (e:Nat):Lit T e O w w.heap.size n xs (w.alloc (.cells (mz vs).toArray e)):=by
 obtain⟨hr,hl,_⟩:=fc.rep;have hn:=qF hO e (mz vs);exact⟨⟨_,hn,hr.tr hn.tr,by rw[show(mz vs).length=_ from hr.len,<-hl,hlen]⟩,by omega,hm⟩
theorem adG (aO:Θ.ok P) (ho:ops[i]? =some o) (hw:want N ops E o.guard=some true) (hd:o.dst=some d) (hN:ξ2 d N=true) {t n:Nat} {ti te:TI} {ps:Array (Nat×Operand)} (ah:o.op= .buildSlice t n ps) (ht:Θ.get t=some ti) (h5:ti.tag=5) (ct:Θ.get ti.e=some te)
  {α:Type} {T:Ty α} (hn:T.n=te.size) (hz:te.zero.cells.size=te.size) {vs:List Value} (qy:qJ E 0 ps.toList=some vs) {xs:List α} (fc:s7 T O w vs xs) (hlen:vs.length=n) (Hj:ξb (n*te.size) 16777216=true) (hm:ξb n 16777216=true) (hO:OB O w)
  (h: ∀b w',Lit T ti.e O w b n xs w'->WO P r N ops Q l ((d,.slice (some ⟨b,0,none⟩) n n)::E) ds w'):WO P r N ops Q (i::l) E ds w:=by
 have tZ:n<=maxLen:=by have:=ο hm;unfold maxLen;omega
 refine gE ho hw hd hN (by rw[ah];simp) (λa ha=>?_) (h w.heap.size _ (ZP hO fc hlen tZ ti.e));simp only[execOp,ah,η];rw[RI aO ha ht h5 ct hz qy (λv hv=>(fc.rep.2.2 v hv).trans hn) hlen (ο Hj)];rfl
theorem apq (aO:Θ.ok P) {a:Act} (ha:Has N E ds a) (ho:ops[i]? =some o) (hw:want N ops E o.guard=some true) (hd:o.dst=some d) {t n:Nat} {ti te:TI} {ps:Array (Nat×Operand)} (ah:o.op= .buildSlice t n ps) (ht:Θ.get t=some ti) (h5:ti.tag=5) (ct:Θ.get ti.e=some te)
  {α:Type} {T:Ty α} (hn:T.n=te.size) (hz:te.zero.cells.size=te.size) {vs:List Value} (qy:qJ E 0 ps.toList=some vs) {xs:List α} (fc:s7 T O w vs xs) (hlen:vs.length=n) (Hj:ξb (n*te.size) 16777216=true) (hm:ξb n 16777216=true) (hO:OB O w):
  iq P r ops Q i d a w (λu w'=>T.slice.is O w' u xs/\Fr [] w w'):=by
 have tZ:n<=maxLen:=by have:=ο hm;unfold maxLen;omega
 have X8:=ZP hO fc hlen tZ ti.e;refine uB ho (l3 ha hw) hd (b:=true) (v:= .slice (some ⟨w.heap.size,0,none⟩) n n) (w':=w.alloc (.cells (mz vs).toArray ti.e)) ?_ ⟨X8.data hO,X8.fr⟩;simp only[if_true];refine⟨by rw[ah];simp,?_⟩;simp only[execOp,ah,η];rw[RI aO ha ht h5 ct hz qy (λv hv=>(fc.rep.2.2 v hv).trans hn) hlen (ο Hj)];rfl
def Bt (Θ:dP) (w:World) (E:Env):List ResultVar->List Value->Prop
 |[],vs=>vs=[]
 | .tmp t::l,vs=> ∃v us,vs=v::us/\E.get t=some v/\Bt Θ w E l us
 | .cell a t::l,vs=> ∃v us,vs=v::us/\(∃b tb cs ti,E.get a=some (.pointer (some ⟨b,0,none⟩))/\ck w b tb cs/\Θ.get t=some ti/\cs.length=ti.size/\(ti.isAgg=true\/ti.size=1)/\valOf ti.isAgg cs=v)/\Bt Θ w E l us
theorem arS {fn:Func} {a:Act} {vs:List Value} (aO:Θ.ok P) (h:Has N E ds a) (hr:Bt Θ w E fn.results.toList vs):(results fn a.tmps).run P w= .ok (nm vs) w:=by
 have key: ∀(F:ResultVar->Sem Value) (_: ∀t,F (.tmp t)=pure (a.tmps.getD t undef)) (_: ∀b t,F (.cell b t)=do loadVar t (<-asAddr (a.tmps.getD b undef))) (l:List ResultVar) (vs:List Value),Bt Θ w E l vs->(l.mapM F).run P w= .ok vs w:=by
  intro F hF rN l
  induction l with
  |nil=>intro vs hv;rw[show vs=[] from hv];simp
  |cons x l ih=>
   intro vs hv;cases x with
   |tmp t=>
    obtain⟨v,us,rfl,hx,hl⟩:=hv;simp only[ζ8,hF,η,κ,ε,ih us hl,h.get t v hx]
   |cell c t=>
    obtain⟨v,us,rfl,⟨b,tb,cs,ti,hx,hb,ht,hlen,kF,hv⟩,hl⟩:=hv;have hc:fP w ⟨b,0,none⟩ cs:=λj u hj=>by
     have:(⟨b,0,none⟩:Addr).add j=⟨b,j,none⟩:=by unfold ζ6;split<;>simp_all
     rw[this,hb.cell];exact hj
    have aX:=uS (P:=P) (aO.fits ht) hlen hc (λe=>by rcases kF with kF|kF;rw[e] at kF;cases kF;exact kF);simp only[ζM,ξA,η,κ,ε] at aX;simp only[ζ8,rN,η,h.get c _ hx,asAddr,κ,ε,aX,hv,ih us hl]
 unfold results;rw[ξG];simp only[η,ζT];rw[key _ (λt=>rfl) (λb t=>rfl) _ _ hr];simp only[ε,κ]
 congr 1
 match vs with
 |[]=>rfl
 |[v]=>rfl
 |v::u::vs=>simp[nm]
theorem sV {fn:Func} {R:Ending->World->Prop} {vs:List Value} (aO:Θ.ok P) (hr:Bt Θ w E fn.results.toList vs) (h:R (.returned (nm vs)) w):WQ N (bodyPostM (fw none) 0 P fn R) .ret E [] w:=by
 intro a ha;show LeavesInM (fw none) 0 P fn a.tmps R a.defers .returning w;rw[ha.defers];exact⟨_,arS aO ha hr,h⟩
end
def app {α:Type} (bytes:Nat) (xs ys:List α):Option (List α):=if(xs.length+ys.length)*bytes<=140737488355328 then some (xs++ys) else none
theorem E4 {α:Type} {bytes:Nat} {xs ys zs:List α} (h:app bytes xs ys=some zs):(xs.length+ys.length)*bytes<=140737488355328/\zs=xs++ys:=by
 unfold app at h;split at h
 ·cases h;exact⟨by assumption,rfl⟩
 ·cases h
section
variable {P:Program} {r:Option Nat} {N:Nat} {Θ:dP} {ops:Array Oper} {Q:Exit->Act->World->Prop} {l:List Nat} {E:Env} {ds:List Deferred} {w:World} {i d:Nat} {o:Oper} {O:List Nat}
theorem adC (aO:Θ.ok P) (ho:ops[i]? =some o) (hw:want N ops E o.guard=some true) (hd:o.dst=some d) (hN:ξ2 d N=true) {t:Nat} {x y:Operand} {ti te:TI}
  (ah:o.op= .call { callee:= .builtin .append,args:= #[x,y],argTypes:= #[t,t] }) (ht:Θ.get t=some ti) (h5:ti.tag=5) (ct:Θ.get ti.e=some te) {α:Type} {T:Ty α} (hn:T.n=te.size) (m3:ξ2 0 te.size=true) (hz:te.zero.cells.size=te.size) (cO:ξb 1 te.bytes=true)
  {w0:World} {v u:Value} {xs ys zs:List α} (hx:ev E x=some v) (hy:ev E y=some u) (hF:Fr [] w0 w) (hO:OB O w) (hv:Own T ti.e w0.heap.size O w v xs) (hu:T.slice.is O w u ys) (hlen:app te.bytes xs ys=some zs)
  (h: ∀v' w' O',fO T ti.e w0.heap.size O w v zs O' w' v'->WO P r N ops Q l ((d,v')::E) ds w'):WO P r N ops Q (i::l) E ds w:=by
 obtain⟨hle,rfl⟩:=E4 hlen;exact adD aO ho hw hd hN ah ht h5 ct hn (ο m3) hz (ο cO) hx hy hF.size hO hv hu hle h
end
def Dj (u v:Value):Prop:= ∀g,u.ownBlock=some g->v.ownBlock≠some g
theorem ai' (v:Value):Dj v (.slice none 0 0):=λg _ h=>by cases h
theorem aoW (b:Nat):(ξT none 0 0).ownBlock≠some b:=λh=>by cases h
structure Bk (n0:Nat) (O:List Nat) (w w':World):Prop where
 os:w'.os=w.os
 tape:w'.tape=w.tape
 output:w'.output=w.output
 size:w.heap.size<=w'.heap.size
 keep: ∀k,k<w.heap.size->w'.heap[k]? =w.heap[k]? \/(k∈O/\n0<=k/\ ∃o:Obj,w.heap[k]? =some o/\o.isCells=false)
theorem Bk.tr {n0:Nat} {O:List Nat} {w w':World} (h:Bk n0 O w w'):Tr O w O w':=⟨h.os,h.tape,h.output,h.size,λk hk ho=>⟨ho,by
 rcases h.keep k hk with U|⟨h2,_⟩
 ·exact U
 ·exact absurd h2 ho⟩⟩
theorem Bk.ob {n0:Nat} {O:List Nat} {w w':World} (h:Bk n0 O w w') (hO:OB O w):OB O w':=λk hk=>ξ4 (hO k hk) h.size
theorem Vt {n0 l:Nat} {O:List Nat} {w:World} {o:Obj} (o':Obj) (hl:w.heap[l]? =some o) (ho:o.isCells=false) (hO:l∈O) (hn:n0<=l):Bk n0 O w (w.putObj l o'):=
 ⟨rfl,rfl,rfl,by simp,λk hk=>by
  by_cases e:k=l
  ·subst e;exact .inr ⟨hO,hn,o,hl,ho⟩
  ·exact .inl (World.putObj_heap_other e)⟩
def Rec (w:World) (l:Nat) (o:Obj):Prop:=w.heap[l]? =some o/\o.isCells=false
section
variable {w w':World} {l:Nat} {o:Obj} {O:List Nat}
theorem Rec.lt (h:Rec w l o):l<w.heap.size:=(ξd.1 h.1).1
end
def mark (D:Nat):Deferred:= { target:= .collected D,args:= #[] }
def gq {α:Type} (xs:List α) (lo hi mx:Option Int):Option (List α):=
 if 0<=lo.getD 0/\lo.getD 0<=hi.getD (xs.length:Int)/\hi.getD (xs.length:Int)<=xs.length/\hi.getD (xs.length:Int)<=mx.getD (xs.length:Int)/\mx.getD (xs.length:Int)<=xs.length/\(mx.isSome=true->hi.isSome=true) then
  some ((xs.take (hi.getD (xs.length:Int)).toNat).drop (lo.getD 0).toNat) else none
def pL (E:Env):Option Operand->Option (Option (IntKind×Int))
 |none=>some none
 |some x=>match ev E x with|some (.int k i)=>some (some (k,i))|_=>none
def lO (p:IntKind×Int):Value:= .int p.1 p.2
theorem we {N:Nat} {E:Env} {ds:List Deferred} {a:Act} (h:Has N E ds a) {x:Option Operand} {p:Option (IntKind×Int)} (hx:pL E x=some p):x.map a.eval=p.map lO:=by
 cases x with
 |none=>simp[pL] at hx;subst hx;rfl
 |some x=>
  simp only[pL] at hx;split at hx
  ·rename_i k i hi;simp only[ι] at hx;subst hx;simp[h.eval hi,lO]
  ·cases hx
theorem arD {P:Program} {w:World} {k:IntKind} {i:Int} {y:Nat} {code:BoundsCode} (h0:0<=i) (U:i<=y):(ζl (.int k i) y code).run P w= .ok i.toNat w:=by
 simp[ζl,asIntOf,h0,U]
section
variable {P:Program} {r:Option Nat} {N:Nat} {Θ:dP} {ops:Array Oper} {Q:Exit->Act->World->Prop} {l:List Nat} {E:Env} {ds:List Deferred} {w:World} {i d:Nat} {o:Oper} {O:List Nat}
theorem xK {b:Bool} {n c:Nat} {lo hi mx:Option (IntKind×Int)} (fI:n<=c) (h0:0<=(lo.map (·.2)).getD (0:Int)) (U:(lo.map (·.2)).getD (0:Int)<=(hi.map (·.2)).getD (n:Int)) (h2:(hi.map (·.2)).getD (n:Int)<=(mx.map (·.2)).getD (c:Int)) (h3:(mx.map (·.2)).getD (c:Int)<=(c:Int)) (h4:mx.isSome=true->hi.isSome=true):
  (ζK b n c (lo.map lO) (hi.map lO) (mx.map lO)).run P w= .ok (((lo.map (·.2)).getD (0:Int)).toNat,((hi.map (·.2)).getD (n:Int)).toNat,((mx.map (·.2)).getD (c:Int)).toNat) w:=by
 have hb: ∀(k:IntKind) (i:Int) (y:Nat) (code:BoundsCode),0<=i->i<=y->(ζl (.int k i) y code).run P w= .ok i.toNat w:=λk i y code=>arD;unfold ζK;rcases mx with _|⟨km,m⟩<;>rcases hi with _|⟨kh,h⟩<;>rcases lo with _|⟨kl,l⟩<;>simp only[ξe,ξ1,ξJ,υ,Option.isSome_none,Option.isSome_some,lO,ζE] at* <;>
  simp only[η,κ,ε]
 ·simp
 ·rw[hb _ _ _ _ h0 (by omega)];simp
 ·rw[hb _ _ _ _ (by omega) (by omega)];simp
 ·rw[hb _ _ _ _ (by omega) (by omega)];simp only[ε];rw[hb _ _ _ _ h0 (by omega)];simp
 ·simp at h4
 ·simp at h4
 ·rw[hb _ _ _ _ (by omega) (by omega)];simp only[ε];rw[hb _ _ _ _ (by omega) (by omega)];simp
 ·rw[hb _ _ _ _ (by omega) (by omega)];simp only[ε];rw[hb _ _ _ _ (by omega) (by omega)];simp only[ε];rw[hb _ _ _ _ h0 (by omega)];simp
theorem IB (aO:Θ.ok P) {t:Nat} {ti te:TI} (ht:Θ.get t=some ti) (h5:ti.tag=5) (ct:Θ.get ti.e=some te) {α:Type} {T:Ty α} (hn:T.n=te.size) {v:Value} {xs ys:List α} {O1:List Nat} {w1:World} (hv:T.slice.is O1 w1 v xs) {lo hi mx:Option (IntKind×Int)}
  (hc:gq xs (lo.map (·.2)) (hi.map (·.2)) (mx.map (·.2))=some ys): ∃v',(ξx t v (lo.map lO) (hi.map lO) (mx.map lO)).run P w= .ok v' w/\T.slice.is O1 w1 v' ys:=by
 obtain⟨A,c,rfl,hl,hm⟩:=iJ hv;unfold gq at hc;split at hc
 ·rename_i pZ;obtain⟨h0,U,h2,h3,h4,F8⟩:=pZ;simp only[ι] at hc;have hu:=(aO.fits ht).slice h5;have hb:=xK (P:=P) (w:=w) (b:=true) (n:=xs.length) (c:=c) (lo:=lo) (hi:=hi) (mx:=mx) hl h0 U (by cases mx<;>simp_all<;>omega) (by cases mx<;>simp_all<;>omega) (by cases mx<;>cases hi<;>simp_all);refine⟨.slice (if((mx.map (·.2)).getD (c:Int)).toNat=((lo.map (·.2)).getD (0:Int)).toNat then A else A.map (·.add (((lo.map (·.2)).getD (0:Int)).toNat*T.n))) (((hi.map (·.2)).getD (xs.length:Int)).toNat-((lo.map (·.2)).getD (0:Int)).toNat) (((mx.map (·.2)).getD (c:Int)).toNat-((lo.map (·.2)).getD (0:Int)).toNat),?_,?_⟩
  ·simp only[ξx,η,run_underlying hu,ε,ζy,hb,gf (aO.fits ct),κ,hn]
  ·subst hc;exact asa hv (by omega) (by omega) (by cases mx<;>simp_all<;>omega) (by cases mx<;>simp_all<;>omega)
 ·cases hc
theorem auh (aO:Θ.ok P) (ho:ops[i]? =some o) (hw:want N ops E o.guard=some true) (hd:o.dst=some d) (hN:ξ2 d N=true) {t:Nat} {x:Operand} {lo hi mx:Option Operand} {ti te:TI} (ah:o.op= .slice t x lo hi mx) (ht:Θ.get t=some ti)
  (h5:ti.tag=5) (ct:Θ.get ti.e=some te) {v:Value} (hx:ev E x=some v) {l' h' m':Option (IntKind×Int)} (qq:pL E lo=some l') (qe:pL E hi=some h') (Aq:pL E mx=some m') {α:Type} {T:Ty α} {xs ys:List α} (hn:T.n=te.size) {O1:List Nat} {w1:World} (hv:T.slice.is O1 w1 v xs)
  (hc:gq xs (l'.map (·.2)) (h'.map (·.2)) (m'.map (·.2))=some ys) (h: ∀v',T.slice.is O1 w1 v' ys->WO P r N ops Q l ((d,v')::E) ds w):WO P r N ops Q (i::l) E ds w:=by
 obtain⟨v',aX,jJ⟩:=IB (w:=w) aO ht h5 ct hn hv hc;refine gE ho hw hd hN (by rw[ah];simp) (λa ha=>?_) (h v' jJ);simp only[execOp,ah,η,ha.eval hx,we ha qq,we ha qe,we ha Aq,aX];rfl
theorem BT {E:Env} {a:Act} {w:World} {m c:Nat} (hN:a.tmps.size=N) (hd:a.defers=ds) (hr:rows a E) (hl:ζ1 m c=l) (h:WO P r N ops Q l E ds w):wpOpsIn (fw r) 0 P ops Q (ζ1 m c) a w:=by
 rw[hl];exact h a ⟨hN,hd,cJ hr⟩
theorem Se {w w':World} {b:Nat} (hf:Fr [] w w') (hb:w.heap.size<=b):Tr O w (b::O) w':=⟨hf.os,hf.tape,hf.output,hf.size,λk hk ho=>⟨by simp;exact⟨by omega,ho⟩,hf.block k hk (by simp)⟩⟩
end
def nR {α:Type} (bytes:Nat) (l c:Int) (z:α):Option (List α):=if 0<=l/\l<=c/\(bytes:Int)*c<=281474976710656/\c<=281474976710656 then some (ζ9 l.toNat z) else none
theorem Z_ {z:Array Value}: ∀(n k j:Nat),j<k*n->z.size=n->(madeCells z (k*n)).toList[j]? =z.toList[j%n]? :=by
 intro n k j hj hz;have hn:0<n:=by
  rcases Nat.eq_zero_or_pos n with h|h
  ·subst h;simp at hj
  ·exact h
 have hm:j%n<z.size:=by rw[hz];exact Nat.mod_lt _ hn
 have e:z[j%n]? =some z[j%n]:=π hm;have e2:z[j%n]! =z[j%n]:=getElem!_pos z (j%n) hm;simp[madeCells,hj,hz,e,e2]
theorem al2 {cs:List Value} {n:Nat} (hl:cs.length=n): ∀(k j:Nat),j<k*n->((ζ9 k cs).flatten)[j]? =cs[j%n]? :=by
 intro k
 induction k with
 |zero=>intro j hj;simp at hj
 |succ k ih=>
  intro j hj;simp only[ζz,ζJ];rw[ξE] at hj
  by_cases h:j<n
  ·rw[ξI (by omega),Nat.mod_eq_of_lt h]
  ·rw[ξF (by omega),hl,ih (j-n) (by omega),Nat.mod_eq_sub_mod (by omega:n<=j)]
theorem arp {α:Type} {T:Ty α} {O:List Nat} {w:World} {cs:List Value} {z:α} (h:T.rep O w cs z): ∀k,cz T O w (ζ9 k cs).flatten (ζ9 k z):=by
 intro k
 induction k with
 |zero=>rfl
 |succ k ih=>exact⟨cs,_,by simp[ζz],h,ih⟩
section
variable {P:Program} {r:Option Nat} {N:Nat} {Θ:dP} {ops:Array Oper} {Q:Exit->Act->World->Prop} {l:List Nat} {E:Env} {ds:List Deferred} {w:World} {i d:Nat} {o:Oper} {O:List Nat}
def ez {α:Type} (xs ys:List α):List α:=ys.take xs.length++xs.drop ys.length
theorem cz.take {α:Type} {T:Ty α}: ∀ {xs:List α} {cs:List Value} (k:Nat),cz T O w cs xs->cz T O w (cs.take (k*T.n)) (xs.take k)
 |[],_,k,h=>by rw[show _=[] from h];simp[cz]
 |x::xs,_,0,_=>by simp[cz]
 |x::xs,_,k+1,⟨c,r,h,U,h2⟩=>by
  subst h;refine⟨c,r.take (k*T.n),?_,U,cz.take k h2⟩;have:=T.len U;rw[ξE,ηd,ξY,ξ6 (by omega)]
  congr 2
  omega
theorem cz.drop {α:Type} {T:Ty α}: ∀ {xs:List α} {cs:List Value} (k:Nat),cz T O w cs xs->cz T O w (cs.drop (k*T.n)) (xs.drop k)
 |[],_,k,h=>by rw[show _=[] from h];simp[cz]
 |x::xs,_,0,h=>by simpa using h
 |x::xs,_,k+1,⟨c,r,h,U,h2⟩=>by
  subst h;have:=T.len U;rw[ξE,ηd,ξK,ξR (by omega),ζ2];have e:T.n+k*T.n-c.length=k*T.n:=by omega
  rw[e];exact cz.drop k h2
theorem wrote {α:Type} {T:Ty α} {e B g cap n:Nat} {w:World} {cur new:Array Value} {cs:List Value} {zs:List α} (hO:OB O w) (hg:g∈O) (hB:B<=g) (hh:w.heap[g]? =some (.cells cur e (0,0))) (hs:new.size=cur.size) (zX:cur.size=cap*T.n) (mR:cap<=maxLen) (hn:zs.length=n) (fI:n<=cap)
  (hr: ∀w',Tr O w O w'->cz T O w' cs zs) (ht:new.toList.take (n*T.n)=cs):fO T e B O w (.slice (some ⟨g,0,none⟩) n cap) zs O (w.setRow g new) (.slice (some ⟨g,0,none⟩) n cap):=by
 have hf:=qS (new:=new) hh;have eK:=hf.tr (lS hg);have hh':(w.setRow g new).heap[g]? =some (.cells new e (0,0)):=setRow_heap w g _ _ _ _ hh;have m5:=hr _ eK;subst hn;exact⟨⟨⟨cs,⟨m5.len,.inr ⟨g,cap,new,rfl,hB,hh',fI,mR,by rw[hs,zX],ht⟩⟩,m5⟩,λk hk=>by cases hk;exact hg⟩,eK,hf.ob hO,Sub.refl _,
  λk hk aN=>hf.block k hk (by simp;rintro rfl;exact aN rfl),λ_ _ h=>h⟩
def Src {α:Type} (T:Ty α) (O:List Nat) (w:World) (u:Value) (ys:List α):Prop:=(∃c,u= .slice none 0 c/\ys=[])\/ ∃ad c us,u= .slice (some ad) ys.length c/\cz T O w us ys/\fP w ad us
theorem Src.ao9 {α:Type} {T:Ty α} {O:List Nat} {w:World} {u:Value} {ys:List α} (hu:T.slice.is O w u ys):Src T O w u ys:=by
 obtain⟨A,c,rfl,hyc,_⟩:=iJ hu;rcases A with _|ad
 ·have nK:ys=[]:=by
   cases ys with
   |nil=>rfl
   |cons y ys=>
    obtain⟨cD,⟨A',c',mi,_,jK⟩,jJ⟩:=hu;subst mi;obtain⟨_,_,hA,_⟩:=jK 0 y rfl;subst hA;have:ξT none (y::ys).length c= .slice (some _) (y::ys).length c':=jJ;injection this with e;cases e
  subst nK;exact .inl ⟨c,rfl,rfl⟩
 ·obtain⟨_,us,jk,mT⟩:=BE hu;exact .inr ⟨ad,c,us,rfl,jk,mT⟩
theorem abS (aO:Θ.ok P) {t t' ty:Nat} {ti te:TI} (ht:Θ.get t=some ti) (h5:ti.tag=5) (ct:Θ.get ti.e=some te) {α:Type} {T:Ty α} (hn:T.n=te.size) {B:Nat} {v u:Value} {xs ys:List α} (hO:OB O w) (hv:Own T ti.e B O w v xs) (hu:Src T O w u ys):
  ∃w',(ξk #[t,t'] ty #[v,u]).run P w= .ok (goInt (ξZ ys.length xs.length)) w'/\fO T ti.e B O w v (ez xs ys) O w' v:=by
 have mv:=aO.fits ct;have jI:=(aO.fits ht).slice h5;obtain⟨cs,⟨bN,U⟩,fK⟩:=hv.ex;have auE: ∀k:Nat,goInt k= .int .i64 k:=λ_=>rfl;rcases U with⟨rfl,hl⟩|⟨g,cap,cur,rfl,hB,hh,h3,h4,F8,h6⟩
 ·
  have:xs=[]:=ξz hl;subst this;refine⟨w,?_,⟨by simpa[ez] using hv,Tr.refl _ _,hO,Sub.refl _,λ_ _ _=>rfl,λ_ _ h=>h⟩⟩;rcases hu with⟨c,rfl,rfl⟩|⟨ad,c,us,rfl,_,_⟩
  ·simp[ξk,run_underlying jI,ξw,ξ8,gf mv]
  ·have oI:(loadCells ad 0).run P w= .ok #[] w:=by simpa using run_loadCells_list (P:=P) w ad [] (by simp)
   simp[ξk,run_underlying jI,ξw,ξ8,gf mv,oI]
 ·rcases hu with⟨c,rfl,rfl⟩|⟨ad,c,us,rfl,jk,mT⟩
  ·skip
   refine⟨w,?_,⟨by simpa[ez] using hv,Tr.refl _ _,hO,Sub.refl _,λ_ _ _=>rfl,λ_ _ h=>h⟩⟩;simp[ξk,run_underlying jI,ξw,ξ8,gf mv,storeCells]
  ·obtain⟨m,hm⟩: ∃m,m=ξZ ys.length xs.length:=⟨_,rfl⟩;have hmy:m<=ys.length:=by rw[hm];exact Nat.min_le_left _ _
   have Aq:m<=xs.length:=by rw[hm];exact Nat.min_le_right _ _
   have pY: ∀j v,(us.take (m*T.n))[j]? =some v->w.cell? (ad.add j)=some v:=λj v hj=>by
    rw[ξ0] at hj;split at hj
    ·exact mT j v hj
    ·cases hj
   have j_:us.length=ys.length*T.n:=jk.len;have hmn:m*T.n<=ys.length*T.n:=ξn _ hmy;have auR:m*T.n<=xs.length*T.n:=ξn _ Aq;have auC:xs.length*T.n<=cap*T.n:=ξn _ h3;have iB:(us.take (m*T.n)).length=m*T.n:=by rw[ω];omega
   have nJ:=run_loadCells_list (P:=P) w ad _ pY;rw[iB] at nJ;have wR:=run_storeCells_at P g 0 ti.e (us.take (m*T.n)) 0 cur w hh (by rw[iB];omega) (λu hu=>jk.one u (List.mem_of_mem_take hu));rw[iB] at wR;refine⟨w.setRow g (cur.toList.take (0+0)++us.take (m*T.n)++cur.toList.drop (0+0+m*T.n)).toArray,?_,wrote (cs:=us.take (m*T.n)++cs.drop (m*T.n)) hO (hv.mem g rfl) hB hh ?_ (by rw[F8]) h4 ?_ h3 ?_ ?_⟩
   ·have Ap:ξZ ys.length xs.length=m:=hm.symm;simp only[ξk,η,ξU,ξc,ξh,run_underlying jI,ε,ξw,κ,Ap,gf mv,ξ8];rw[<-hn,nJ];simp only[ε,wR,η,κ]
   ·simp only[List.size_toArray,χ,ω,ξf,ξL];omega
   ·simp only[ez,χ,ω,ξf];omega
   ·intro w' eK;have e1:ys.take xs.length=ys.take m:=by
     rw[hm];rcases ηe ys.length xs.length with h|h
     ·rw[ξ6 h,show ξZ ys.length xs.length=ys.length from ζu h,ξ6 (ξ3 _)]
     ·rw[show ξZ ys.length xs.length=xs.length from ζm h]
    have e2:xs.drop ys.length=xs.drop m:=by
     rw[hm];rcases ηe ys.length xs.length with h|h
     ·rw[show ξZ ys.length xs.length=ys.length from ζu h]
     ·rw[ξR h,ξR (by rw[show ξZ ys.length xs.length=xs.length from ζm h];exact ξ3 _)]
    unfold ez;rw[e1,e2];exact(cz.app (jk.take m) (fK.drop m)).tr eK
   ·simp only[ζt,ζa,ζ2,ξt];rw[ξY,iB,ξ6 (by rw[iB];omega)]
    congr 1
    rw[<-h6,List.drop_take]
theorem arF (aO:Θ.ok P) {t t' ty:Nat} {ti te:TI} (ht:Θ.get t=some ti) (h5:ti.tag=5) (ct:Θ.get ti.e=some te) {α:Type} {T:Ty α} (hn:T.n=te.size) {B:Nat} {v u:Value} {xs ys:List α} (hO:OB O w) (hv:Own T ti.e B O w v xs) (hu:T.slice.is O w u ys):
 ∃w',(ξk #[t,t'] ty #[v,u]).run P w= .ok (goInt (ξZ ys.length xs.length)) w'/\fO T ti.e B O w v (ez xs ys) O w' v:=abS aO ht h5 ct hn hO hv (.ao9 hu)
theorem aoG {α:Type} (f:α->Value) (L:List α) (j:Nat) (x:α) (hj:j<L.length):putAt (L.map f) j [f x]=(L.set j x).map f:=by
 unfold putAt;apply ζd;intro k;simp only[ζw,χ,ω,List.length_map,ξ0,ξp,ξ7,ξy,List.length_nil,ζe]
 by_cases U:k<j
 ·have h2:k<min j L.length:=by omega
  have h3: ¬j=k:=by omega
  have h4:k<min j L.length+1:=by omega
  simp[U,h2,h3,h4]
 ·by_cases h2:k=j
  ·subst h2;have h5: ¬k<min k L.length:=by omega
   have h4:k<min k L.length+1:=by omega
   have h6:k-min k L.length=0:=by omega
   simp[U,h5,h4,h6,hj]
  ·have h5: ¬k<min j L.length+1:=by omega
   have h3: ¬j=k:=by omega
   have h6:j+1+(k-(min j L.length+1))=k:=by omega
   simp[h5,h3,h6]
end
theorem II {α:Type} {T:Ty α} {O:List Nat} {w:World} {n c:Nat} {xs:List α} (h:T.slice.is O w (.slice none n c) xs):xs=[]:=by
 cases xs with
 |nil=>rfl
 |cons y ys=>
  obtain⟨cD,⟨A',c',mi,_,jK⟩,jJ⟩:=h;subst mi;obtain⟨_,_,hA,_⟩:=jK 0 y rfl;subst hA;have:ξT none n c= .slice (some _) (y::ys).length c':=jJ;injection this with e;cases e
def m7 {α:Type} (bytes:Nat) (xs:List α) (j:Int) (ys:List α):Option (List α):=
 if 0<=j/\j<=xs.length/\(xs.length+ys.length)*bytes<=1099511627776 then some (xs.take j.toNat++ys++xs.drop j.toNat) else none
theorem YJ {α:Type} {bytes:Nat} {xs ys zs:List α} {j:Int} (h:m7 bytes xs j ys=some zs):0<=j/\j<=xs.length/\(xs.length+ys.length)*bytes<=1099511627776/\zs=xs.take j.toNat++ys++xs.drop j.toNat:=by
 unfold m7 at h;split at h
 ·rename_i hc;cases h;exact⟨hc.1,hc.2.1,hc.2.2,rfl⟩
 ·cases h
def ig {α:Type} (T:Ty α) (e B:Nat) (O:List Nat) (w:World) (v:Value) (zs:List α) (en:Ending) (w':World):Prop:= ∃v' O',en= .returned v'/\fO T e B O w v zs O' w' v'
section
variable {P:Program} {r:Option Nat} {N:Nat} {ops:Array Oper} {Q:Exit->Act->World->Prop} {l:List Nat} {E:Env} {ds:List Deferred} {w:World} {i d:Nat} {o:Oper} {O:List Nat}
theorem adI (ho:ops[i]? =some o) (hw:want N ops E o.guard=some true) (hd:o.dst=some d) (hN:ξ2 d N=true) {f:FuncId} {args:Array Operand} {ts:Array TypeId} (ah:o.op= .call { callee:= .value (.func f),args:=args,argTypes:=ts })
  (hf: ∀(vs:Array Value) (u:World),(callFunc f vs).run P u= .ok (.enter f vs) u) {vs:List Value} (fc:l5 E args.toList=some vs) {α:Type} {T:Ty α} {e B:Nat} {v:Value} {zs:List α} (iv:Calls P f vs.toArray w (ig T e B O w v zs))
  (h: ∀v' w' O',fO T e B O w v zs O' w' v'->WO P r N ops Q l ((d,v')::E) ds w'):WO P r N ops Q (i::l) E ds w:=
 pg ho hw hd hN ah hf fc iv λ_ _ ⟨v',O',he,ha⟩=>⟨v',he,h v' _ O' ha⟩
end
def Plain (w:World) (u:Value):Prop:= ∀ad n c,u= .slice (some ad) n c->ad.spot=none/\ ∃cur t,w.heap[ad.block]? =some (.cells cur t (0,0))
theorem Own.plain {α:Type} {T:Ty α} {e B:Nat} {O:List Nat} {w:World} {v:Value} {xs:List α} (h:Own T e B O w v xs):Plain w v:=by
 intro ad n c hv;obtain⟨cs,⟨_,U⟩,_⟩:=h.ex;rcases U with⟨U,_⟩|⟨g,cap,cur,U,_,hh,_⟩
 ·rw[hv] at U;cases U
 ·rw[hv] at U;cases U;exact⟨rfl,cur,e,hh⟩
theorem jf (g i j:Nat):(⟨g,i,none⟩:Addr).add j=⟨g,i+j,none⟩:=by unfold ζ6;split<;>simp_all
section
variable {P:Program} {r:Option Nat} {N:Nat} {Θ:dP} {ops:Array Oper} {Q:Exit->Act->World->Prop} {l:List Nat} {E:Env} {ds:List Deferred} {w:World} {i d:Nat} {o:Oper} {O:List Nat}
theorem abU (aO:Θ.ok P) {t:Nat} {ti te:TI} (ht:Θ.get t=some ti) (h5:ti.tag=5) (ct:Θ.get ti.e=some te) {A:Option Addr} {n c lo:Nat} {k:IntKind} (fI:n<=c) (qq:lo<=n):
  (ξx t (.slice A n c) (some (.int k lo)) none none).run P w= .ok (.slice (if c=lo then A else A.map (·.add (lo*te.size))) (n-lo) (c-lo)) w:=by
 have hu:=(aO.fits ht).slice h5;have hb:=xK (P:=P) (w:=w) (b:=true) (n:=n) (c:=c) (lo:=some (k,(lo:Int))) (hi:=none) (mx:=none) fI (by simp) (by simp;omega) (by simp;omega) (by simp) (by simp);simp only[ξ1,ξe,υ,ξJ,lO,ζL] at hb;simp only[ξx,η,run_underlying hu,ε,ζy,hb,gf (aO.fits ct),κ]
theorem abT (aO:Θ.ok P) {t:Nat} {ti te:TI} (ht:Θ.get t=some ti) (h5:ti.tag=5) (ct:Θ.get ti.e=some te) {ad:Addr} {n c hi:Nat} {k:IntKind} (fI:n<=c) (qe:hi<=c):
  (ξx t (.slice (some ad) n c) none (some (.int k hi)) none).run P w= .ok (.slice (some ad) hi c) w:=by
 have hu:=(aO.fits ht).slice h5;have hb:=xK (P:=P) (w:=w) (b:=true) (n:=n) (c:=c) (lo:=none) (hi:=some (k,(hi:Int))) (mx:=none) fI (by simp) (by simp) (by simp;omega) (by simp) (by simp);simp only[ξ1,ξe,υ,ξJ,lO,ζL] at hb;simp only[ξx,η,run_underlying hu,ε,ζy,hb,gf (aO.fits ct),κ];simp[ζx]
theorem BS (aO:Θ.ok P) (ho:ops[i]? =some o) (hw:want N ops E o.guard=some true) (hd:o.dst=some d) (hN:ξ2 d N=true) {t:Nat} {x y:Operand} {ti te:TI} (ah:o.op= .slice t x (some y) none none) (ht:Θ.get t=some ti)
  (h5:ti.tag=5) (ct:Θ.get ti.e=some te) {A:Option Addr} {n c lo:Nat} {k:IntKind} (hx:ev E x=some (.slice A n c)) (hy:ev E y=some (.int k lo)) (fI:n<=c) (qq:lo<=n)
  (h:WO P r N ops Q l ((d,.slice (if c=lo then A else A.map (·.add (lo*te.size))) (n-lo) (c-lo))::E) ds w):WO P r N ops Q (i::l) E ds w:=by
 refine gE ho hw hd hN (by rw[ah];simp) (λa ha=>?_) h;simp only[execOp,ah,η,ha.eval hx,ξ1,ξe,ha.eval hy,abU aO ht h5 ct fI qq];rfl
theorem Be (aO:Θ.ok P) {a:Act} (ha:Has N E ds a) (ho:ops[i]? =some o) (hw:want N ops E o.guard=some true) (hd:o.dst=some d) {t:Nat} {x y:Operand} {ti te:TI} (ah:o.op= .slice t x (some y) none none) (ht:Θ.get t=some ti)
  (h5:ti.tag=5) (ct:Θ.get ti.e=some te) {A:Option Addr} {n c lo:Nat} {k:IntKind} (hx:ev E x=some (.slice A n c)) (hy:ev E y=some (.int k lo)) (fI:n<=c) (qq:lo<=n):
  iq P r ops Q i d a w (λu w'=>u= .slice (if c=lo then A else A.map (·.add (lo*te.size))) (n-lo) (c-lo)/\Fr [] w w'):=by
 refine uB ho (l3 ha hw) hd (b:=true) (v:= .slice (if c=lo then A else A.map (·.add (lo*te.size))) (n-lo) (c-lo)) (w':=w) ?_ ⟨rfl,Fr.refl _ _⟩;simp only[if_true];refine⟨by rw[ah];simp,?_⟩;simp only[execOp,ah,η,ha.eval hx,ξ1,ξe,ha.eval hy,abU aO ht h5 ct fI qq];rfl
theorem SB (aO:Θ.ok P) (ho:ops[i]? =some o) (hw:want N ops E o.guard=some true) (hd:o.dst=some d) (hN:ξ2 d N=true) {t:Nat} {x y:Operand} {ti te:TI} (ah:o.op= .slice t x none (some y) none) (ht:Θ.get t=some ti)
  (h5:ti.tag=5) (ct:Θ.get ti.e=some te) {ad:Addr} {n c hi:Nat} {k:IntKind} (hx:ev E x=some (.slice (some ad) n c)) (hy:ev E y=some (.int k hi)) (fI:n<=c) (qe:hi<=c)
  (h:WO P r N ops Q l ((d,.slice (some ad) hi c)::E) ds w):WO P r N ops Q (i::l) E ds w:=by
 refine gE ho hw hd hN (by rw[ah];simp) (λa ha=>?_) h;simp only[execOp,ah,η,ha.eval hx,ξ1,ξe,ha.eval hy,abT aO ht h5 ct fI qe];rfl
theorem SA (aO:Θ.ok P) (ho:ops[i]? =some o) (hw:want N ops E o.guard=some true) (hd:o.dst=some d) (hN:ξ2 d N=true) {t t':Nat} {x y:Operand} {ti te:TI}
  (ah:o.op= .call { callee:= .builtin .copy,args:= #[x,y],argTypes:= #[t,t'] }) (ht:Θ.get t=some ti) (h5:ti.tag=5) (ct:Θ.get ti.e=some te) {g of dn dc sn sc e:Nat} {ad:Addr} {cur:Array Value} {us:List Value}
  (hx:ev E x=some (.slice (some ⟨g,of,none⟩) dn dc)) (hy:ev E y=some (.slice (some ad) sn sc)) (hg:w.heap[g]? =some (.cells cur e (0,0))) (fp:fP w ad us) (j_:us.length=sn*te.size) (U: ∀u∈us,u.oneCell'=true) (hle:sn<=dn) (G6:of+us.length<=cur.size)
  (h: ∀z,WO P r N ops Q l ((d,z)::E) ds (w.setRow g (cur.toList.take of++us++cur.toList.drop (of+us.length)).toArray)):WO P r N ops Q (i::l) E ds w:=by
 have jI:=(aO.fits ht).slice h5;refine gE ho hw hd hN (by rw[ah];simp) (λa ha=>?_) (h (goInt sn));have nJ:=run_loadCells_list (P:=P) w ad us fp;rw[j_] at nJ;have wR:=run_storeCells_at P g of e us 0 cur w hg (by omega) U;have Ap:ξZ sn dn=sn:=ζu hle;have aX:(ξk #[t,t'] o.type #[.slice (some ⟨g,of,none⟩) dn dc,.slice (some ad) sn sc]).run P w= .ok (goInt sn) (w.setRow g (cur.toList.take of++us++cur.toList.drop (of+us.length)).toArray):=by
  simp only[ξk,η,ξU,ξc,ξh,run_underlying jI,ε,ξw,κ,Ap,gf (aO.fits ct),ξ8];rw[nJ];simp only[ε,wR,η,κ,ζt]
 simp only[execOp,ah,η,resolve,κ,ε,invoke,builtin,ξX,ξu,ζs,ha.eval hx,ha.eval hy,aX]
theorem aug (aO:Θ.ok P) (ho:ops[i]? =some o) (hw:want N ops E o.guard=some true) (hd:o.dst=some d) (hN:ξ2 d N=true) {t t':Nat} {x y:Operand} {ti te:TI}
  (ah:o.op= .call { callee:= .builtin .copy,args:= #[x,y],argTypes:= #[t,t'] }) (ht:Θ.get t=some ti) (h5:ti.tag=5) (ct:Θ.get ti.e=some te) {g of dn dc sn sc e:Nat} {ad:Addr} {cur:Array Value} {us:List Value}
  (hx:ev E x=some (.slice (some ⟨g,of,none⟩) dn dc)) (hy:ev E y=some (.slice (some ad) sn sc)) (hg:w.heap[g]? =some (.cells cur e (0,0))) (fp:fP w ad us) (j_:us.length=dn*te.size) (U: ∀u∈us,u.oneCell'=true) (hle:dn<=sn) (G6:of+us.length<=cur.size)
  (h: ∀z,WO P r N ops Q l ((d,z)::E) ds (w.setRow g (cur.toList.take of++us++cur.toList.drop (of+us.length)).toArray)):WO P r N ops Q (i::l) E ds w:=by
 have jI:=(aO.fits ht).slice h5;refine gE ho hw hd hN (by rw[ah];simp) (λa ha=>?_) (h (goInt dn));have nJ:=run_loadCells_list (P:=P) w ad us fp;rw[j_] at nJ;have wR:=run_storeCells_at P g of e us 0 cur w hg (by omega) U;have Ap:ξZ sn dn=dn:=ζm hle;have aX:(ξk #[t,t'] o.type #[.slice (some ⟨g,of,none⟩) dn dc,.slice (some ad) sn sc]).run P w= .ok (goInt dn) (w.setRow g (cur.toList.take of++us++cur.toList.drop (of+us.length)).toArray):=by
  simp only[ξk,η,ξU,ξc,ξh,run_underlying jI,ε,ξw,κ,Ap,gf (aO.fits ct),ξ8];rw[nJ];simp only[ε,wR,η,κ,ζt]
 simp only[execOp,ah,η,resolve,κ,ε,invoke,builtin,ξX,ξu,ζs,ha.eval hx,ha.eval hy,aX]
theorem aue (aO:Θ.ok P) (ho:ops[i]? =some o) (hw:want N ops E o.guard=some true) (hd:o.dst=some d) (hN:ξ2 d N=true) {t tn:Nat} {x y:Operand} {ti te tj:TI}
  (ah:o.op= .call { callee:= .builtin .append,args:= #[x,y],argTypes:= #[t,tn] }) (ht:Θ.get t=some ti) (h5:ti.tag=5) (ct:Θ.get ti.e=some te) (htn:Θ.get tn=some tj) (h2:tj.tag=2) (m3:ξ2 0 te.size=true) {ad:Addr} {n c k:Nat} {kq:IntKind} {us:List Value}
  (hx:ev E x=some (.slice (some ad) n c)) (hy:ev E y=some (.int kq k)) (fp:fP w ad us) (j_:us.length=n*te.size) (h0:0<k) (hc:c<n+k) (am2:(n+k)*te.bytes<=140737488355328) (cO:ξb 1 te.bytes=true)
  (h:WO P r N ops Q l ((d,.slice (some ⟨w.heap.size,0,none⟩) (n+k) (grownCap w (n+k) c ti.e))::E) ds (w.drew.alloc (.cells (us.toArray++ξr te.zero.cells k++ξr te.zero.cells (grownCap w (n+k) c ti.e-(n+k))) ti.e))):WO P r N ops Q (i::l) E ds w:=by
 obtain⟨x',jK,hs,pX,sk⟩:=(aO.fits ct).info;have auV:0<te.size:=ξM.mp m3;have amW:=ο cO;have Yg:n+k<=(n+k)*te.bytes:=ζi _ amW;have hkb:k*te.bytes<=(n+k)*te.bytes:=ξn _ (by omega);have hold:(ξ8 x'.size n (.slice (some ad) n c)).run P w.drew= .ok us.toArray w.drew:=by
  rw[hs];have:=run_loadCells_list (P:=P) w.drew ad us fp;rw[j_] at this;simpa[ξ8] using this
 have aX:=Lib.run_append_grow_zeros (P:=P) (ty:=o.type) w t tn ti.e x' te.zero kq (noKind tj.k) ((aO.fits ht).slice h5) ((aO.fits htn).int h2) jK sk (some ad) n c us hold k h0 (by omega) hc (by omega) (by rw[pX];omega) (by rw[pX];exact growslice_fits hc am2);refine gE ho hw hd hN (by rw[ah];simp) (λa ha=>?_) h;simp only[execOp,ah,η,resolve,κ,ε,invoke,builtin,ξX,ξu,ζs,ha.eval hx,ha.eval hy,aX]
theorem aul (aO:Θ.ok P) (ho:ops[i]? =some o) (hw:want N ops E o.guard=some true) (hd:o.dst=some d) (hN:ξ2 d N=true) {f t tb:Nat} {ti te:TI} {fn:Func} {x y:Operand} {ts:Array TypeId} (ah:o.op= .call { callee:= .value (.func f),args:= #[x,y],argTypes:=ts })
  (hf:P.funcs[f]? =some fn) (anr:(fn.name== "runtime.NumGoroutine")=false) (hb:fn.body.isNone=true) (hn:Extern.findNext fn=none) (he:Extern.find fn=some (ζO #[t,t] #[tb]))
  (ht:Θ.get t=some ti) (h5:ti.tag=5) (ct:Θ.get ti.e=some te) {ad:Addr} {g of la ca lb cb e:Nat} {cur E7:Array Value} {e':Nat} (hx:ev E x=some (.slice (some ad) la ca)) (hy:ev E y=some (.slice (some ⟨g,of,none⟩) lb cb)) (aN:ad.block≠g)
  (ha:w.heap[ad.block]? =some (.cells E7 e' (0,0))) (hg:w.heap[g]? =some (.cells cur e (0,0))) (hk:cur.size≠0)
  (h:WO P r N ops Q l ((d,.bool false)::E) ds w):WO P r N ops Q (i::l) E ds w:=by
 refine gE ho hw hd hN (by rw[ah];simp) (λa hA=>?_) h;have hsa:w.shape? ad.block=some (e',E7.size):=by simp[ηf,ha]
 have hsb:w.shape? g=some (e,cur.size):=by simp[ηf,hg]
 have hfa:w.frozen? ad=false:=by simp[ζD,ha]
 have hfe:w.frozen? { block:=ad.block,off:=E7.size }=false:=by simp[ζD,ha]
 have aX:=Lib.run_overlaps_apart (P:=P) w t tb ti.e ((aO.fits ht).slice h5) te.size (λw=>gf (aO.fits ct)) ad ⟨g,of,none⟩ la ca lb cb aN e' e E7.size cur.size hsa hsb hk hfa hfe;have iv:(callFunc f #[.slice (some ad) la ca,.slice (some ⟨g,of,none⟩) lb cb]).run P w= .ok (.value (.bool false)) w:=by
  rw[run_callFunc_extern hf anr hb hn he,aX];rfl
 have e1:(#[x,y]:Array Operand).map a.eval= #[.slice (some ad) la ca,.slice (some ⟨g,of,none⟩) lb cb]:=by simp[hA.eval hx,hA.eval hy]
 simp only[execOp,ah,η,resolve,ζv,ξW,κ,ε,invoke];rw[show(#[x,y]:Array Operand).map (ζv a)=_ from e1];simpa using iv
theorem arA {cs:List Value} {z:Array Value} (a b:Nat) {s:Nat} (hz:z.size=s): ∃Z,(cs.toArray++ξr z a++ξr z b).toList=cs++Z/\Z.length=(a+b)*s:=by
 refine⟨(ξr z a).toList++(ξr z b).toList,by simp,?_⟩;simp only[χ,ξL,size_zeroCells,hz,Nat.add_mul]
theorem SF {α:Type} {T:Ty α} {e B g cap n0:Nat} {w':World} {new:Array Value} {cs:List Value} {zs:List α} (hO:OB O w) (hg:g∈O) (hB:B<=g) (hf:Fr [g] w w') (hh:w'.heap[g]? =some (.cells new e (0,0))) (hs:new.size=cap*T.n) (mR:cap<=maxLen) (fI:zs.length<=cap)
  (hr:cz T O w' cs zs) (ht:new.toList.take (zs.length*T.n)=cs):fO T e B O w (.slice (some ⟨g,0,none⟩) n0 cap) zs O w' (.slice (some ⟨g,0,none⟩) zs.length cap):=
 ⟨⟨⟨cs,⟨hr.len,.inr ⟨g,cap,new,rfl,hB,hh,fI,mR,hs,ht⟩⟩,hr⟩,λk hk=>by cases hk;exact hg⟩,hf.tr (lS hg),hf.ob hO,Sub.refl _,
   λk hk aN=>hf.block k hk (by simp;rintro rfl;exact aN rfl),λ_ _ h=>h⟩
theorem WZ {α:Type} {T:Ty α} {e B G cap:Nat} {w':World} {v:Value} {new:Array Value} {cs:List Value} {zs:List α} (hO:OB O w) (hG:w.heap.size<=G) (hB:B<=w.heap.size) (hf:Fr [] w w') (hh:w'.heap[G]? =some (.cells new e (0,0))) (hs:new.size=cap*T.n) (mR:cap<=maxLen) (fI:zs.length<=cap)
  (hr:cz T (G::O) w' cs zs) (ht:new.toList.take (zs.length*T.n)=cs):fO T e B O w v zs (G::O) w' (.slice (some ⟨G,0,none⟩) zs.length cap):=by
 have zz:=(ξd.1 hh).1;refine⟨⟨⟨cs,⟨hr.len,.inr ⟨G,cap,new,rfl,by omega,hh,fI,mR,hs,ht⟩⟩,hr⟩,λk hk=>by cases hk;exact σ⟩,Se hf hG,λk hk=>?_,Sub.cons (Sub.refl _) _,
  λk hk _=>hf.block k hk (by simp),λb hb _ he=>by cases he;exact absurd hb (by show ¬G<w.heap.size;omega)⟩
 rcases ξg.1 hk with rfl|hk
 ·exact zz
 ·exact ξ4 (hO k hk) hf.size
end
def yW (kk kv:IntKind) (es:Array MapEntry) (m:List (Int×Int)):Prop:=es.toList.map (λe=>(e.key,e.val))=m.map λp=>(ξs kk p.1,ξs kv p.2)
def oc (kk kv:IntKind) (w:World) (b:Nat) (m:List (Int×Int)):Prop:= ∃es c,w.heap[b]? =some (.map es c)/\yW kk kv es m
theorem oc.lt {kk kv:IntKind} {w:World} {b:Nat} {m:List (Int×Int)} (h:oc kk kv w b m):b<w.heap.size:=by
 obtain⟨es,c,h,_⟩:=h;exact(ξd.1 h).1
theorem oc.of_heap {kk kv:IntKind} {w w':World} {b:Nat} {m:List (Int×Int)} (h:oc kk kv w b m) (e:w'.heap[b]? =w.heap[b]?):oc kk kv w' b m:=by
 obtain⟨es,c,U,h2⟩:=h;exact⟨es,c,e.trans U,h2⟩
def b6 (m:List (Int×Int)) (k:Int):Option Int:=(m.find? λp=>k==p.1).map (·.2)
def dk (m:List (Int×Int)) (k v:Int):List (Int×Int):=match m.findIdx? (λp=>k==p.1) with|some i=>m.set i (k,v)|none=>m++[(k,v)]
theorem M9 {kk kv:IntKind} {k:Int}: ∀ {es:List MapEntry} {m:List (Int×Int)} (i:Nat),es.map (λe=>(e.key,e.val))=m.map (λp=>(ξs kk p.1,ξs kv p.2))->
  ηa (.int kk) (.int kk k) es i=some (match m.findIdx? (λp=>k==p.1) with|some j=>(es[j]?).map (λe=>(i+j,e.val))|none=>none)
 |[],[],i,_=>rfl
 |[],_::_,_,h=>by cases h
 |_::_,[],_,h=>by cases h
 |e::es,p::m,i,h=>by
  simp only[ξu,List.cons.injEq,ξP] at h;obtain⟨⟨U,h2⟩,h3⟩:=h;simp only[ηa,U,Instr.sameNow,if_true,ζF];cases hk:k==p.1 with
  |true=>simp
  |false=>
   simp only[ζE,if_false];rw[M9 (i+1) h3];cases m.findIdx? (λp=>k==p.1) with
   |none=>rfl
   |some j=>simp;congr 2;funext e;simp;omega
theorem yW.at {kk kv:IntKind} {es:Array MapEntry} {m:List (Int×Int)} (h:yW kk kv es m) {j:Nat} {p:Int×Int} (hj:m[j]? =some p): ∃e,es.toList[j]? =some e/\e.key= .int kk p.1/\e.val= .int kv p.2:=by
 have:=congrArg (·[j]?) h;simp only[ξp,hj,ξ1] at this;obtain⟨e,he,h2⟩:=ζn.1 this;simp only[ξP] at h2;exact⟨e,he,h2.1,h2.2⟩
theorem Wn {α:Type} (l:List α) (p:α->Bool):match l.findIdx? p with|some j=> ∃d,l[j]? =some d/\l.find? p=some d|none=>l.find? p=none:=by
 induction l with
 |nil=>rfl
 |cons z r ih=>
  rw[ζF,List.find?_cons];cases h:p z with
  |true=>exact⟨z,rfl,rfl⟩
  |false=>
   cases h2:r.findIdx? p with
   |none=>rw[h2] at ih;simpa using ih
   |some j=>rw[h2] at ih;obtain⟨d,h3,h4⟩:=ih;exact⟨d,by simpa using h3,by simpa using h4⟩
section
variable {P:Program} {r:Option Nat} {N:Nat} {Θ:dP} {ops:Array Oper} {Q:Exit->Act->World->Prop} {l:List Nat} {E:Env} {ds:List Deferred} {w:World} {i d:Nat} {o:Oper} {O:List Nat}
theorem abR {kt:TypeId} {kk:IntKind} {k:Int} {em:Bool} (hd:P.underlying kt=some (.int kk)):(η2 em 10000 kt (.int kk k)).run P w= .ok () w:=by
 unfold η2;simp[run_underlying hd]
theorem arP (aO:Θ.ok P) {t:Nat} {ti tk te:TI} (ht:Θ.get t=some ti) (h7:ti.tag=7) (uh:Θ.get ti.k=some tk) (h2:tk.tag=2) (ct:Θ.get ti.e=some te) {kk kv:IntKind} (hk:noKind tk.k=kk) (hz:te.zero= .int kv 0) {b:Nat} {m:List (Int×Int)} (hm:oc kk kv w b m) (k:Int) (ok:Bool):
  (ηg t (.map (some b)) (.int kk k) ok).run P w= .ok (bif ok then .tuple #[.int kv ((b6 m k).getD 0),.bool (b6 m k).isSome] else .int kv ((b6 m k).getD 0)) w:=by
 obtain⟨es,c,hh,he⟩:=hm;have hu:=(aO.fits ht).map h7;have ui:=(aO.fits uh).int h2;rw[hk] at ui;have hf:=M9 (k:=k) 0 he;have O_:(getObj b).run P w= .ok (.map es c) w:=by simp[getObj,ζp,hh]
 have OC:(ηb ti.k (.int kk k) es.toList).run P w= .ok (match m.findIdx? (λp=>k==p.1) with|some j=>(es.toList[j]?).map (λe=>(0+j,e.val))|none=>none) w:=ζA ui hf;have oH:=Wn m (λp=>k==p.1);simp only[ηg,η,run_underlying hu,ε,O_,κ,abR ui,OC];unfold b6;cases hi:m.findIdx? (λp=>k==p.1) with
 |none=>
  rw[hi] at oH;simp only at oH;rw[oH];simp only[η,vf (aO.fits ct),ε,κ,hz];cases ok<;>rfl
 |some j=>
  rw[hi] at oH;simp only at oH;obtain⟨p,hp,OD⟩:=oH;obtain⟨e,tV,_,Oq⟩:=he.at hp;rw[OD];simp only[tV,ξ1,κ,ε,Oq];cases ok<;>rfl
structure LB (O:List Nat) (w:World) (b:Nat) (w':World):Prop where
 heap:w'.heap[b]? =some (.map #[] 0)
 fr:Fr [] w w'
 tr:Tr O w (b::O) w'
 ob:OB (b::O) w'
 ge:w.heap.size<=b
theorem LB.is {b:Nat} {w':World} (h:LB O w b w') (kk kv:IntKind):oc kk kv w' b []:=⟨#[],0,h.heap,rfl⟩
theorem arU (aO:Θ.ok P) {t:Nat} {ti tk:TI} (ht:Θ.get t=some ti) (h7:ti.tag=7) (uh:Θ.get ti.k=some tk) (h2:tk.tag=2) {kk kv:IntKind} (hk:noKind tk.k=kk) {b:Nat} {m:List (Int×Int)} (hm:oc kk kv w b m) (k v:Int):
  ∃w',(ζY t (.map (some b)) (.int kk k) (.int kv v)).run P w= .ok () w'/\oc kk kv w' b (dk m k v)/\Fr [b] w w':=by
 have aB:=hm.lt;obtain⟨es,c,hh,he⟩:=hm;have hu:=(aO.fits ht).map h7;have ui:=(aO.fits uh).int h2;rw[hk] at ui;have hf:=M9 (k:=k) 0 he;have O_:(getObj b).run P w= .ok (.map es c) w:=by simp[getObj,ζp,hh]
 have ga: ∀wa c',(setObj b (.map wa c')).run P w= .ok () { w with heap:=w.heap.setIfInBounds b (.map wa c') }:=λwa c'=>by simp[setObj,ζp,hh]
 have bY: ∀wa c',Fr [b] w { w with heap:=w.heap.setIfInBounds b (.map wa c') }:=λwa c'=>⟨rfl,rfl,rfl,by simp,λk hk aN=>by
  have qv:b≠k:=λe=>aN (by simp[e]);simp[ξ qv]⟩
 have OC:(ηb ti.k (.int kk k) es.toList).run P w= .ok (match m.findIdx? (λp=>k==p.1) with|some j=>(es.toList[j]?).map (λe=>(0+j,e.val))|none=>none) w:=ζA ui hf;have oH:=Wn m (λp=>k==p.1);unfold dk;simp only[ζY,η,run_underlying hu,ε,O_,κ,abR ui,OC];cases hi:m.findIdx? (λp=>k==p.1) with
 |none=>
  refine⟨_,ga _ _,⟨_,_,(ζR hh).1,?_⟩,bY _ _⟩;unfold yW at he ⊢;simp[he]
 |some j=>
  rw[hi] at oH;simp only at oH;obtain⟨p,hp,OD⟩:=oH;obtain⟨e,tV,Oq,he3⟩:=he.at hp;have jF:k=p.1:=by have:=List.find?_some OD;simpa using this
  have Oy:es[j]? =some e:=by simpa using tV
  have ank: ∀k':Int,(ζG (.int kk k') (.int kk k')).run P w= .ok (.int kk k') w:=λk'=>by
   unfold ζG;rw[if_pos (by simp[Instr.sameBits])];rfl
  simp only[tV,ξ1,ξt,η,Oy,υ,Oq,<-jF,ank,ε];refine⟨_,ga _ _,⟨_,_,(ζR hh).1,?_⟩,bY _ _⟩;unfold yW at he ⊢;apply ζd;intro q;have hq:=congrArg (·[q]?) he;simp only[ξp] at hq ⊢;simp only[Array.toList_modify,List.getElem?_modify,ζe]
  by_cases X1:j=q
  ·subst X1;have iy:j<m.length:=(ν.1 hp).1;simp[tV,iy]
  ·simp[X1];simpa using hq
end
section
variable {P:Program} {r:Option Nat} {N:Nat} {Θ:dP} {ops:Array Oper} {Q:Exit->Act->World->Prop} {l:List Nat} {E:Env} {ds:List Deferred} {w:World} {i d:Nat} {o:Oper} {O:List Nat}
theorem arN (aO:Θ.ok P) {t:Nat} {ti te:TI} (ht:Θ.get t=some ti) (h5:ti.tag=5) (ct:Θ.get ti.e=some te) {k:IntKind} {j:Int} {n c:Nat} {ad:Addr} (h0:0<=j) (hj:j.toNat<n):(ξv t (.slice (some ad) n c) (.int k j)).run P w= .ok (.pointer (some (ad.add (j.toNat*te.size)))) w:=by
 have hu:=(aO.fits ht).slice h5;simp only[ξv,asIntOf,η,κ,ε,run_underlying hu];rw[if_pos ⟨h0,by omega⟩];simp only[η,gf (aO.fits ct),ε,κ]
theorem xQ (aO:Θ.ok P) (ho:ops[i]? =some o) (hw:want N ops E o.guard=some true) (hd:o.dst=some d) (hN:ξ2 d N=true) {t:Nat} {x y:Operand} {ti te:TI} (ah:o.op= .indexAddr t x y) (ht:Θ.get t=some ti) (h5:ti.tag=5) (ct:Θ.get ti.e=some te)
  {k:IntKind} {j:Int} {n c:Nat} {ad:Addr} (hx:ev E x=some (.slice (some ad) n c)) (hy:ev E y=some (.int k j)) (h0:0<=j) (hj:j.toNat<n) (h:WO P r N ops Q l ((d,.pointer (some (ad.add (j.toNat*te.size))))::E) ds w):WO P r N ops Q (i::l) E ds w:=by
 refine gE ho hw hd hN (by rw[ah];simp) (λa ha=>?_) h;simp only[execOp,ah,η,ha.eval hx,ha.eval hy,arN aO ht h5 ct h0 hj];rfl
end
theorem aso (O:List Nat):Sub [] O:=λk hk=>by cases hk
theorem Bb (w:World):OB [] w:=λk hk=>by cases hk
theorem Wx {α:Type} {T:Ty α} {e B:Nat} {O O0:List Nat} {w w0:World} {v:Value} {zs:List α} (h:Own T e w0.heap.size O w v zs) (hS:Sub O0 O) (hF:Fr [] w0 w) (zC:OB O0 w0) (hB:B<=w0.heap.size):ig T e B O0 w0 (.slice none 0 0) zs (.returned v) w:=by
 obtain⟨cs,⟨h0,U⟩,h2⟩:=h.ex;rcases U with⟨rfl,hl⟩|⟨g,cap,cur,rfl,hg,hh,h3,h4,h5,h6⟩
 ·have:zs=[]:=ξz hl;subst this;exact⟨_,O0,rfl,⟨Own.oT,hF.gj,hF.ob zC,Sub.refl _,λk hk _=>hF.block k hk (by simp),λ_ _ h=>h⟩⟩
 ·have j9:Sub (g::O0) O:=λk hk=>by
   rcases ξg.1 hk with rfl|hk
   ·exact h.mem _ rfl
   ·exact hS k hk
  have fK:cz T (g::O0) w cs zs:=h2.tr (Tr.less j9);exact⟨_,g::O0,rfl,WZ zC hg hB hF hh h5 h4 h3 fK (by exact h6)⟩
section
variable {P:Program} {r:Option Nat} {N:Nat} {Θ:dP} {ops:Array Oper} {Q:Exit->Act->World->Prop} {l:List Nat} {E:Env} {ds:List Deferred} {w:World} {i d:Nat} {o:Oper} {O:List Nat}
theorem auf {v:Value} {w':World} (ho:ops[i]? =some o) (hw:want N ops E o.guard=some true) (hd:o.dst=none)
  (hc: ∀c,o.op≠ .defer c) (aX: ∀a,Has N E ds a->(execOp a.eval o).run P w= .ok (.value v) w') (h:WO P r N ops Q l E ds w'):WO P r N ops Q (i::l) E ds w:=by
 intro a ha;simp only[wpOpsIn,ho];rw[if_pos (l3 ha hw)];refine⟨λ_ _=>trivial,?_⟩;rw[ξm _ _ _ hc,aX a ha];simp only[ξS,hd,ζH];exact h _ ha
end
section
variable {P:Program} {r:Option Nat} {N:Nat} {Θ:dP} {ops:Array Oper} {Q:Exit->Act->World->Prop} {l:List Nat} {E:Env} {ds:List Deferred} {w:World} {i d:Nat} {o:Oper}
theorem adH (aO:Θ.ok P) (ho:ops[i]? =some o) (hw:want N ops E o.guard=some true) (hd:o.dst=some d) (hN:ξ2 d N=true) {t:Nat} {x:Operand} {ti:TI} (ah:o.op= .load t x) (ht:Θ.get t=some ti)
  {p:Value} (hx:ev E x=some p) {α:Type} {T:Ty α} {y:α} {O1:List Nat} {w1:World} (hp:T.ptr.is O1 w1 p y) (hF:Fr [] w1 w) (hn:T.n=ti.size) (ha:T.agg=ti.isAgg)
  (h: ∀v,T.is O1 w1 v y->WO P r N ops Q l ((d,v)::E) ds w):WO P r N ops Q (i::l) E ds w:=by
 obtain⟨cs,⟨ad,es,hc,hb,_,hr,he⟩,hv⟩:=hp;subst hc;have hv:p= .pointer (some ad):=hv;subst hv;refine gE ho hw hd hN (by rw[ah];simp) (λa OI=>?_) (h (valOf ti.isAgg es) ⟨es,hr,by rw[<-ha];rfl⟩);simp only[execOp,ah,η,OI.eval hx,uS (aO.fits ht) ((T.len hr).trans hn) (he.1.keep (hF.block _ hb (by simp))) (λe=>by rw[<-hn];exact T.jS (by rw[ha];exact e))];rfl
end
def Ty.Flat {α:Type} (T:Ty α):Prop:= ∀ {O O':List Nat} {w w':World} {cs:List Value} {x:α},T.rep O w cs x->T.rep O' w' cs x
theorem Iu {α:Type} {T:Ty α} (hT:T.Flat) {O O':List Nat} {w w':World}: ∀ {xs:List α} {cs:List Value},cz T O w cs xs->cz T O' w' cs xs
 |[],_,h=>h
 |_::_,_,⟨c,r,h,U,h2⟩=>⟨c,r,h,hT U,Iu hT h2⟩
def uU (x y:ByteArray):Option ByteArray:=if x.size+y.size<=9223372036854775807 then some (x++y) else none
def acU (s:ByteArray) (i:Int):Option Int:=if 0<=i then(s[i.toNat]?).map λb=>(b.toNat:Int) else none
def strOf (xs:List Int):ByteArray:=xs.foldl (λr n=>r.push (UInt8.ofNat n.toNat)) ByteArray.empty
section
variable {P:Program} {r:Option Nat} {N:Nat} {Θ:dP} {ops:Array Oper} {Q:Exit->Act->World->Prop} {l:List Nat} {E:Env} {ds:List Deferred} {w:World} {i d:Nat} {o:Oper} {O:List Nat}
theorem arT {x y z:ByteArray} {t:TypeId} {ox oy:Operand} (h:uU x y=some z):(do eqGuard .add t ox oy (.string x) (.string y);binOp .add t (.string x) (.string y):Sem Value).run P w= .ok (.string z) w:=by
 unfold uU at h;split at h
 ·rename_i hy;cases h;have: ¬(((x.size+y.size:Nat):Int)>ζV.max):=by
   have e:ζV.max=9223372036854775807:=by decide
   rw[e];omega
  simp only[go_sem,Op.stringOp];rw[if_neg this];simp
 ·cases h
end
end Go.Dc
end
section
namespace Go.Vx
open Go.RowKit Go.Dc
structure bL where
 El:Nat->Type
 ty:(t:Nat)->Ty (El t)
inductive LV (S:bL):Type
 |v (u:Value)
 |aU (t:Nat) (x:S.El t)
 |ptr (t:Nat) (x:S.El t) (off:Nat)
 |bp (i off:Nat)
 |jg (i off n j:Nat)
 |own (i:Nat)
 |fl (e i j off:Nat)
 |jZ (i off len:Nat)
 |mp (i:Nat)
 |bI (i:Nat)
 |eL
 |ep (i:Nat)
 |cd (k:IntKind) (n:Nat) (gs:List Int)
 |dW (n:Nat) (bs:List Bool)
inductive aD (S:bL):Type
 |one (l:LV S)
 |agg (ls:List (LV S))
inductive AV (S:bL):Type
 |s (a:aD S)
 |bD (ava:List (aD S))
inductive Ob (S:bL):Type
 |box (t:Nat) (cs:List (LV S))
 |row (e:Nat) (xs:List (S.El e))
 |map (kk kv:IntKind) (m:List (Int×Int))
 |bI (g:Nat) (fs cs:List (aD S))
 |ep (s:ByteArray) (pos:Nat)
 |dH (t e:Nat) (cm:List (Option (List (S.El e))))
abbrev aW (S:bL):=List (Nat×AV S)
abbrev AH (S:bL):=List (Option (Ob S))
abbrev Up (S:bL):=List (Nat×Option (Ob S))
inductive Rs (S:bL):Type
 |ret (a:AV S)
 |bU (u:Value)
structure DS (S:bL) (t:Nat) where
 e:Nat
 to:S.El t->List (S.El e)
 of:List (S.El e)->S.El t
structure Dn (S:bL) (e:Nat) where
 t:Nat
 of:List (S.El e)->S.El t
structure bG (S:bL) where
 Θ:dP
 sl:(t:Nat)->Option (DS S t)
 row:(e:Nat)->Option (Dn S e)
 bA:(t:Nat)->S.El t->aD S
 cls:(t:Nat)->List (LV S)->Option (S.El t)
 eJ:Nat->Option ((t:Nat)×S.El t)
 yX:Nat->List (LV S)->List (LV S)->Option Bool
section
variable {S:bL}
def aW.get:aW S->Nat->Option (AV S)
 |[],_=>none
 |(i,v)::r,j=>bif ζ i j then some v else aW.get r j
def LV.sz:LV S->Nat
 | .cd _ n _=>n
 | .dW n _=>n
 |_=>1
def fW:List (LV S)->Nat
 |[]=>0
 |l::ls=>l.sz+fW ls
def aI (gs:List Int) (j:Nat):Int:=(gs[j]?).getD 0
def iY (bs:List Bool) (j:Nat):Bool:=(bs[j]?).getD false
def gn:List (LV S)->Nat->Nat->Option (List (LV S))
 |[],off,n=>bif ζ n 0&&ζ off 0 then some [] else none
 | .cd k m gs::ls,off,n=>
  bif ξb m off then gn ls (off-m) n
  else bif ζ n 0 then some []
  else bif ζ n 1 then some [.v (.int k (aI gs off))]
  else bif ζ off 0&&ξb m n then(match gn ls 0 (n-m) with|some r=>some (.cd k m gs::r)|none=>none)
  else none
 | .dW m bs::ls,off,n=>
  bif ξb m off then gn ls (off-m) n
  else bif ζ n 0 then some []
  else bif ζ n 1 then some [.v (.bool (iY bs off))]
  else bif ζ off 0&&ξb m n then(match gn ls 0 (n-m) with|some r=>some (.dW m bs::r)|none=>none)
  else none
 |l::ls,off,n=>
  match off with
  |o+1=>gn ls o n
  |0=>match n with
   |0=>some []
   |m+1=>match gn ls 0 m with|some r=>some (l::r)|none=>none
def cL:List (LV S)->Nat->List (LV S)->Option (List (LV S))
 |[],off,ns=>(match ns with|[]=>bif ζ off 0 then some [] else none|_::_=>none)
 | .cd k m gs::ls,off,ns=>
  bif ξb m off then(match cL ls (off-m) ns with|some r=>some (.cd k m gs::r)|none=>none)
  else match ns with
   |[]=>some (.cd k m gs::ls)
   |[.v (.int k' x)]=>bif sameKind k k' then some (.cd k m (gs.set off x)::ls) else none
   | .cd k' m' wx::lj=>bif ζ off 0&&ζ m m' then(match cL ls 0 lj with|some r=>some (.cd k' m' wx::r)|none=>none) else none
   |_=>none
 | .dW m bs::ls,off,ns=>
  bif ξb m off then(match cL ls (off-m) ns with|some r=>some (.dW m bs::r)|none=>none)
  else match ns with
   |[]=>some (.dW m bs::ls)
   |[.v (.bool x)]=>some (.dW m (bs.set off x)::ls)
   | .dW m' bs'::lj=>bif ζ off 0&&ζ m m' then(match cL ls 0 lj with|some r=>some (.dW m' bs'::r)|none=>none) else none
   |_=>none
 |l::ls,off,ns=>
  match off with
  |o+1=>(match cL ls o ns with|some r=>some (l::r)|none=>none)
  |0=>match ns with
   |[]=>some (l::ls)
   |x::lj=>bif ζ x.sz 1 then(match cL ls 0 lj with|some r=>some (x::r)|none=>none)
    else match x with
     | .cd k m gs=>(match cL ls (m-1) lj with
      |some r=>(match gn r (m-1) (fW r-(m-1)) with
       |some rest=>bif ξb 1 m then some (.cd k m gs::rest) else none
       |none=>none)
      |none=>none)
     | .dW m bs=>(match cL ls (m-1) lj with
      |some r=>(match gn r (m-1) (fW r-(m-1)) with
       |some rest=>bif ξb 1 m then some (.dW m bs::rest) else none
       |none=>none)
      |none=>none)
     |_=>none
def oP:List (LV S)->Option (IntKind×List Int)
 | .v (.int k x)::r=>(match r with
  |[]=>some (k,[x])
  |_=>(match oP r with|some (k',xs)=>bif sameKind k k' then some (k,x::xs) else none|none=>none))
 |_=>none
def vS:List (LV S)->Option (List Bool)
 | .v (.bool x)::r=>(match r with
  |[]=>some [x]
  |_=>(match vS r with|some xs=>some (x::xs)|none=>none))
 |_=>none
inductive n5|i (k:IntKind) (gs:List Int)|b (bs:List Bool)
def rq (ls:List (LV S)):Option n5:=
 match ls with
 |[.cd k _ gs]=>some (.i k gs)
 |[.dW _ bs]=>some (.b bs)
 |ls=>match oP ls with|some (k,gs)=>some (.i k gs)|none=>(match vS ls with|some bs=>some (.b bs)|none=>none)
def aD.cells:aD S->List (LV S)
 | .one l=>[l]
 | .agg ls=>ls
def pC (agg:Bool) (ls:List (LV S)):Option (aD S):=
 bif agg then some (.agg ls) else match ls with
  |[l]=>bif ζ l.sz 1 then some (.one l) else none
  |_=>none
def AV.known:AV S->Option Value
 | .s (.one (.v u))=>some u
 |_=>none
def slotsOf:List Operand->List Nat
 |[]=>[]
 | .tmp t::r=>t::slotsOf r
 |_::r=>slotsOf r
def uw (env:aW S):List Nat->Env
 |[]=>[]
 |s::r=>match aW.get env s with
  |some a=>(match a.known with|some u=>(s,u)::uw env r|none=>uw env r)
  |none=>uw env r
variable (K:bG S)
def eR (env:aW S):Operand->Option (AV S)
 | .tmp t=>aW.get env t
 | .const v=>bif v.oneCell' then some (.s (.one (.v v))) else none
 | .global g=>(match K.eJ g with|some ⟨t,x⟩=>some (.s (.one (.ptr t x 0)))|none=>none)
 | .func f=>some (.s (.one (.v (.func (.func f) #[] #[]))))
def l7 (env:aW S):List Operand->Option (List (aD S))
 |[]=>some []
 |x::r=>match eR K env x with|some (.s a)=>(match l7 env r with|some ava=>some (a::ava)|none=>none)|_=>none
def qD (env:aW S) (x:Operand):Option Int:=match eR K env x with|some (.s (.one (.v (.int _ n))))=>some n|_=>none
def cQ (env:aW S) (x:Operand):Option (LV S):=match eR K env x with|some (.s (.one l))=>some l|_=>none
def uC (env:aW S):Option Operand->Option (Option (IntKind×Int))
 |none=>some none
 |some x=>(match eR K env x with|some (.s (.one (.v (.int k n))))=>some (some (k,n))|_=>none)
def LV.refs:LV S->List Nat
 | .bp i _=>[i]
 | .jg i _ _ _=>[i]
 | .own i=>[i]
 | .fl _ i _ _=>[i]
 | .jZ i _ _=>[i]
 | .mp i=>[i]
 | .bI i=>[i]
 | .ep i=>[i]
 |_=>[]
def xE:List (LV S)->List Nat
 |[]=>[]
 |l::r=>l.refs++xE r
def qM:List (aD S)->List Nat
 |[]=>[]
 |a::r=>xE a.cells++qM r
def AV.refs:AV S->List Nat
 | .s a=>xE a.cells
 | .bD ava=>qM ava
def Ob.refs:Ob S->List Nat
 | .box _ cs=>xE cs
 | .bI _ fs cs=>qM fs++qM cs
 |_=>[]
def Rv:aW S->List Nat
 |[]=>[]
 |(_,a)::r=>a.refs++Rv r
def xD:AH S->List Nat
 |[]=>[]
 |some X::r=>X.refs++xD r
 |none::r=>xD r
def fu (i:Nat):List Nat->Bool
 |[]=>false
 |j::r=>bif ζ i j then true else fu i r
def Ob.nt:Ob S->Bool
 | .dH .. =>false
 |_=>true
def xq (g:Nat->Option (Ob S)) (i:Nat):Option (Ob S):=match g i with|some X=>bif X.nt then some X else none|none=>none
def aH (h:AH S) (i:Nat):Option (Ob S):=match h[i]? with|some (some X)=>some X|_=>none
def reach (g:Nat->Option (Ob S)) (nb:Nat):Nat->List Nat->List Nat->List Nat
 |0,_,seen=>seen
 |_+1,[],seen=>seen
 |n+1,i::t,seen=>
  bif ξ2 i nb then reach g nb n t seen
  else bif fu i seen then reach g nb n t seen
  else match g i with|some X=>reach g nb n (X.refs++t) (seen++[i])|none=>reach g nb n t seen
def posOf (i:Nat):List Nat->Nat->Option Nat
 |[],_=>none
 |j::r,n=>bif ζ i j then some n else posOf i r (n+1)
def LV.di (ρ:Nat->Option Nat):LV S->Option (LV S)
 | .bp i o=>(match ρ i with|some j=>some (.bp j o)|none=>none)
 | .jg i o n x=>(match ρ i with|some j=>some (.jg j o n x)|none=>none)
 | .own i=>(match ρ i with|some j=>some (.own j)|none=>none)
 | .fl e i y o=>(match ρ i with|some j=>some (.fl e j y o)|none=>none)
 | .jZ i o n=>(match ρ i with|some j=>some (.jZ j o n)|none=>none)
 | .mp i=>(match ρ i with|some j=>some (.mp j)|none=>none)
 | .bI i=>(match ρ i with|some j=>some (.bI j)|none=>none)
 | .ep i=>(match ρ i with|some j=>some (.ep j)|none=>none)
 |l=>some l
def sK (ρ:Nat->Option Nat):List (LV S)->Option (List (LV S))
 |[]=>some []
 |l::r=>match l.di ρ with|some x=>(match sK ρ r with|some y=>some (x::y)|none=>none)|none=>none
def aD.di (ρ:Nat->Option Nat):aD S->Option (aD S)
 | .one l=>(match l.di ρ with|some x=>some (.one x)|none=>none)
 | .agg ls=>(match sK ρ ls with|some x=>some (.agg x)|none=>none)
def uJ (ρ:Nat->Option Nat):List (aD S)->Option (List (aD S))
 |[]=>some []
 |l::r=>match l.di ρ with|some x=>(match uJ ρ r with|some y=>some (x::y)|none=>none)|none=>none
def AV.di (ρ:Nat->Option Nat):AV S->Option (AV S)
 | .s a=>(match a.di ρ with|some x=>some (.s x)|none=>none)
 | .bD ava=>(match uJ ρ ava with|some x=>some (.bD x)|none=>none)
def Ob.di (ρ:Nat->Option Nat):Ob S->Option (Ob S)
 | .box t cs=>(match sK ρ cs with|some x=>some (.box t x)|none=>none)
 | .bI g fs cs=>(match uJ ρ fs,uJ ρ cs with|some x,some y=>some (.bI g x y)|_,_=>none)
 |X=>some X
def uL (ρ:Nat->Option Nat):Option (Ob S)->Option (Ob S)
 |some X=>X.di ρ
 |none=>none
def xF (ρ:Nat->Option Nat):aW S->aW S
 |[]=>[]
 |(s,a)::r=>match a.di ρ with|some x=>(s,x)::xF ρ r|none=>xF ρ r
def iF (ρ:Nat->Option Nat):AH S->AH S
 |[]=>[]
 |X::r=>uL ρ X::iF ρ r
def iE (env:aW S):List Nat->aW S
 |[]=>[]
 |s::r=>match aW.get env s with|some a=>(s,a)::iE env r|none=>iE env r
def kI (g:Nat->Option (Ob S)):List Nat->AH S
 |[]=>[]
 |i::r=>g i::kI g r
def oD (g:Nat->Option (Ob S)):LV S->Option (LV S×List Nat)
 | .own r=>(match g r with|some (.row e xs)=>(match K.row e with|some I=>some (.aU I.t (I.of xs),[r])|none=>none)|_=>none)
 | .v u=>some (.v u,[])
 | .aU t x=>some (.aU t x,[])
 | .ptr t x o=>some (.ptr t x o,[])
 | .cd k n gs=>some (.cd k n gs,[])
 | .dW n bs=>some (.dW n bs,[])
 |_=>none
def rL (g:Nat->Option (Ob S)):List (LV S)->Option (List (LV S)×List Nat)
 |[]=>some ([],[])
 |l::r=>match oD K g l with|some (l',a)=>(match rL g r with|some (r',b)=>some (l'::r',a++b)|none=>none)|none=>none
def pQ (g:Nat->Option (Ob S)):aD S->Option (aD S×List Nat)
 | .one l=>(match oD K g l with|some (l',a)=>some (.one l',a)|none=>none)
 | .agg ls=>(match rL K g ls with|some (l',a)=>some (.agg l',a)|none=>none)
def oC (g:Nat->Option (Ob S)):List (aD S)->Option (List (aD S)×List Nat)
 |[]=>some ([],[])
 |l::r=>match pQ K g l with|some (l',a)=>(match oC g r with|some (r',b)=>some (l'::r',a++b)|none=>none)|none=>none
def LV.flat:LV S->Bool
 | .v _=>true
 | .cd .. =>true
 | .dW .. =>true
 |_=>false
def aD.flat:aD S->Bool
 | .one l=>l.flat
 | .agg ls=>ls.all LV.flat
def AV.flat:AV S->Bool
 | .s a=>a.flat
 | .bD ava=>ava.all aD.flat
def LV.pure:LV S->Bool
 | .v _=>true
 | .aU _ _=>true
 | .ptr _ _ _=>true
 | .cd .. =>true
 | .dW .. =>true
 |_=>false
def aD.pure:aD S->Bool
 | .one l=>l.pure
 | .agg ls=>ls.all LV.pure
def AV.pure:AV S->Bool
 | .s a=>a.pure
 | .bD ava=>ava.all aD.pure
def jN:List Nat->Up S
 |[]=>[]
 |i::r=>(i,none)::jN r
def TI.lh (i:TI):Bool:=ζ i.tag 8||ζ i.tag 6
def wm (t f:Nat):Option (Nat×Nat×Bool):=
 match K.Θ.get t with
 |some i=>
  bif ζ i.tag 8 then
   match i.fs[f]? with
   |some (ft,off)=>(match K.Θ.get ft with|some j=>some (off,j.size,TI.lh j)|none=>none)
   |none=>none
  else none
 |none=>none
def Qk {R:Type} (g:Nat->Option (Ob S)) (i:TI) (k:aD S->Option R):LV S->Option R
 | .bp b o=>(match g b with
  |some (.box _ cs)=>(match gn cs o i.size with|some ls=>(match pC (TI.lh i) ls with|some a=>k a|none=>none)|none=>none)
  |_=>none)
 | .jg b o n j=>(match g b with
  |some (.box _ cs)=>(match gn cs o n with
   |some ls=>(match rq ls with
    |some (.i kk gs)=>bif ζ i.size 1&&!(TI.lh i) then k (.one (.v (.int kk (aI gs j)))) else none
    |some (.b bs)=>bif ζ i.size 1&&!(TI.lh i) then k (.one (.v (.bool (iY bs j)))) else none
    |none=>none)
   |none=>none)
  |_=>none)
 | .fl e r j o=>(match g r with
  |some (.row e' xs)=>bif ζ e e' then(xs[j]?).bind λz=>(match gn (K.bA e' z).cells o i.size with|some ls=>(match pC (TI.lh i) ls with|some a=>k a|none=>none)|none=>none) else none
  |_=>none)
 | .ptr t x o=>(match gn (K.bA t x).cells o i.size with|some ls=>(match pC (TI.lh i) ls with|some a=>k a|none=>none)|none=>none)
 |_=>none
def FV (env:aW S) (size:Nat):List (Nat×Operand)->List (LV S)->Option (List (LV S))
 |[],cs=>some cs
 |(i,x)::r,cs=>
  match eR K env x with
  |some (.s a)=>bif ζ (fW a.cells) size then(match cL cs (i*size) a.cells with|some cD=>FV env size r cD|none=>none) else none
  |_=>none
def FW (env:aW S) (fs:List (Nat×Nat)):List (Nat×Operand)->List (LV S)->Option (List (LV S))
 |[],cs=>some cs
 |(i,x)::r,cs=>
  match fs[i]? with
  |some (t,off)=>
   (match eR K env x with
   |some (.s a)=>
    (match K.Θ.get t with
    |some ti=>bif ζ (fW a.cells) ti.size then(match cL cs off a.cells with|some cD=>FW env fs r cD|none=>none) else none
    |none=>none)
   |_=>none)
  |none=>none
def LV.Hw:LV S->Bool
 | .bp .. =>true
 | .jg .. =>true
 | .fl .. =>true
 | .ptr .. =>true
 |_=>false
def isNil:Operand->Bool
 | .const (.pointer none)=>true
 |_=>false
def H_ {R:Type} (k:LV S->Option R) (y:Int):Nat->List (LV S)->Option R
 |_,[]=>none
 |n,l::ls=>bif ζ l.sz 1 then(bif y==(n:Int) then k l else H_ k y (n+1) ls) else none
def apb:Op->List Nat
 | .binOp _ _ x y _=>slotsOf [x,y]
 | .unOp _ _ x=>slotsOf [x]
 | .convert _ _ x=>slotsOf [x]
 | .call c=>slotsOf c.args.toList
 |_=>[]
def plain {R:Type} (env:aW S) (op:Op) (k:AV S->Option R):Option R:=
 bif nD K.Θ op then
  match ou K.Θ (uw env (apb op)) op with
  |some v=>bif v.oneCell' then k (.s (.one (.v v))) else none
  |none=>none
 else none
def Fb (t:Nat):List (aD S)->Option (List (S.El t))
 |[]=>some []
 |a::r=>match K.cls t a.cells with|some x=>(match Fb t r with|some xs=>some (x::xs)|none=>none)|none=>none
def Ht:Nat->List (Nat×Operand)->Option (List Operand)
 |_,[]=>some []
 |n,(i,x)::r=>bif ζ i n then(match Ht (n+1) r with|some xs=>some (x::xs)|none=>none) else none
def pB {S:bL} {a b:Nat} (p:a=b) (xs:List (S.El a)):List (S.El b):=p▸xs
def gr (g:Nat->Option (Ob S)) (e:Nat):LV S->Option (List (S.El e))
 | .own r=>(match g r with
  |some (.row e' ys)=>(match ζ3 e' e with| .isTrue p=>some (pB p ys)| .isFalse _=>none)
  |_=>none)
 | .aU t y=>(match K.sl t with
  |some I=>(match ζ3 I.e e with| .isTrue p=>some (pB p (I.to y))| .isFalse _=>none)
  |none=>none)
 | .v (.slice none 0 0)=>some []
 |_=>none
def qL:LV S->List Nat
 | .own r=>[r]
 |_=>[]
structure s' (S:bL) where
 r:Nat
 j:Nat
 t:Nat
 e:Nat
 cm:List (Option (List (S.El e)))
def ac9 (t0 r j:Nat):Option (Ob S)->Option (s' S)
 |some (.dH t e cm)=>bif ζ t0 t then some ⟨r,j,t,e,cm⟩ else none
 |_=>none
def xM (g:Nat->Option (Ob S)):LV S->Option (s' S)
 | .fl t r j 0=>ac9 t r j (g r)
 |_=>none
def qU {α:Type} (cm:List (Option (List α))) (j:Nat):Option (List α):=match cm[j]? with|some z=>z|none=>none
def xw (env:aW S) (x:Operand):Option Nat:=match cQ K env x with|some (.own q)=>some q|_=>none
def iP (s:ByteArray) (lo hi:Option Int):Option ByteArray:=if 0<=lo.getD 0/\lo.getD 0<=hi.getD (s.size:Int)/\hi.getD (s.size:Int)<=s.size then some (s.extract (lo.getD 0).toNat (hi.getD (s.size:Int)).toNat) else none
def fq (j:Int) (n:Nat):Option Nat:=if 0<=j/\j<(n:Int) then some j.toNat else none
end
section
variable {S:bL} (K:bG S) {R:Type} (env:aW S) (g:Nat->Option (Ob S)) (nx:Nat) (k:AV S->Up S->AH S->Option R)
def HV (t:Nat) (x y:Operand):Option R:=
 match K.Θ.get t,cQ K env x,qD K env y with
 |some i,some l,some j=>
  (match l with
  | .aU t' xs=>(match K.sl t' with
   |some I=>(match K.Θ.get i.e with
    |some ie=>bif ζ i.tag 5&&ζ (S.ty I.e).n ie.size then(idx (I.to xs) j).bind λz=>k (.s (.one (.ptr I.e z 0))) [] [] else none
    |none=>none)
   |none=>none)
  | .own r=>(match g r with
   |some (.row e xs)=>(match K.Θ.get i.e with
    |some ie=>bif ζ i.tag 5&&ζ (S.ty e).n ie.size then(idx xs j).bind λ_=>k (.s (.one (.fl e r j.toNat 0))) [] [] else none
    |none=>none)
   |_=>none)
  | .bp b o=>(match K.Θ.get i.e with
   |some ie=>(match y with
    | .const (.int _ (.ofNat m))=>bif ζ i.tag 6&&(ξ2 m i.k&&ξ2 0 ie.size) then k (.s (.one (.bp b (o+m*ie.size)))) [] [] else none
    |_=>bif ζ i.tag 6&&ζ ie.size 1 then(fq j i.k).bind λm=>k (.s (.one (.jg b o i.k m))) [] [] else none)
   |none=>none)
  | .jZ b o n=>(match K.Θ.get i.e with
   |some ie=>bif ζ i.tag 5&&ζ ie.size 1 then(fq j n).bind λm=>k (.s (.one (.jg b o n m))) [] [] else none
   |none=>none)
  |_=>none)
 |_,_,_=>none
def QC (t:Nat) (x y:Operand):Option R:=
 match K.Θ.get t,qD K env y,xw K env x with
 |some i,some j,some r=>(match g r,K.Θ.get i.e with
  |some (.dH t' _ cm),some ie=>bif ζ i.tag 5&&(ζ (S.ty t').n 1&&ζ ie.size 1) then(idx cm j).bind λ_=>k (.s (.one (.fl t' r j.toNat 0))) [] [] else none
  |_,_=>none)
 |_,_,_=>none
def QE (t:Nat) (T:s' S):Option R:=
 match K.Θ.get t with
 |some i=>bif ζ i.tag 5&&ζ i.size 1 then(qU T.cm T.j).bind λxs=>k (.s (.one (.own nx))) [(T.r,some (.dH T.t T.e (T.cm.set T.j none)))] [some (.row T.e xs)] else none
 |none=>none
def QA (t q:Nat) (T:s' S):Option R:=
 match K.Θ.get t,g q with
 |some i,some (.row e xs)=>(match ζ3 e T.e with
  | .isTrue p=>bif ζ i.tag 5&&(ζ i.size 1&&!(ζ q T.r)) then(idx T.cm T.j).bind λ_=>k (.bD []) [(q,none),(T.r,some (.dH T.t T.e (T.cm.set T.j (some (pB p xs)))))] [] else none
  | .isFalse _=>none)
 |_,_=>none
def YM (r:Nat):Bool:=match g r with|some (.dH ..)=>true|_=>false
def ac_ (t:Nat):Bool:=match K.Θ.get t with|some i=>(match K.Θ.get i.e with|some ie=>ζ ie.tag 5|none=>false)|none=>false
def QH (t:Nat) (n c:Operand):Option R:=
 match K.Θ.get t with
 |some i=>(match K.Θ.get i.e with
  |some ie=>(match qD K env n,qD K env c,ie.zero with
   |some n,some c,.slice none 0 0=>bif ζ i.tag 5&&(ζ (S.ty i.e).n 1&&ζ ie.size 1) then(nR ie.bytes n c (some ([]:List (S.El ie.e)))).bind λzs=>k (.s (.one (.own nx))) [] [some (.dH i.e ie.e zs)] else none
   |_,_,_=>none)
  |none=>none)
 |none=>none
def QB (t:Nat) (x y:Operand):Option R:=
 match K.Θ.get t,qD K env y with
 |some i,some j=>
  (match eR K env x with
  |some (.s (.agg ls))=>(match K.Θ.get i.e with
   |some ie=>bif ζ i.tag 6&&(ζ i.k (fW ls)&&(ζ ie.size 1&&!(TI.lh ie))) then
    (match rq ls with
    |some (.i kk gs)=>(fq j i.k).bind λm=>k (.s (.one (.v (.int kk (aI gs m))))) [] []
    |some (.b bs)=>(fq j i.k).bind λm=>k (.s (.one (.v (.bool (iY bs m))))) [] []
    |none=>H_ (λl=>k (.s (.one l)) [] []) j 0 ls) else none
   |none=>none)
  |some (.s (.one (.v (.string s))))=>bif ζ i.tag 3 then(acU s j).bind λz=>k (.s (.one (.v (.int .u8 z)))) [] [] else none
  |_=>none)
 |_,_=>none
def QI (t:Nat) (x:Operand) (lo hi mx:Option Operand):Option R:=
 match K.Θ.get t,cQ K env x with
 |some i,some l=>
  (match l with
  | .aU t' xs=>(match K.sl t' with
   |some I=>(match K.Θ.get i.e with
    |some ie=>(match uC K env lo,uC K env hi,uC K env mx with
     |some a,some b,some c=>bif ζ i.tag 5&&ζ (S.ty I.e).n ie.size then(gq (I.to xs) (a.map (·.2)) (b.map (·.2)) (c.map (·.2))).bind λys=>k (.s (.one (.aU t' (I.of ys)))) [] [] else none
     |_,_,_=>none)
    |none=>none)
   |none=>none)
  | .bp b o=>(match lo,hi,mx,K.Θ.get i.e with
   |none,none,none,some ie=>bif ζ i.tag 6&&(ζ ie.size 1&&ξb i.k 16777216) then k (.s (.one (.jZ b o i.k))) [] [] else none
   |_,_,_,_=>none)
  | .v (.string s)=>(match uC K env lo,uC K env hi,mx with
   |some a,some b,none=>bif ζ i.tag 3 then(iP s (a.map (·.2)) (b.map (·.2))).bind λu=>k (.s (.one (.v (.string u)))) [] [] else none
   |_,_,_=>none)
  |_=>none)
 |_,_=>none
def Qw (t:Nat) (ps:List (Nat×Operand)):Option R:=
 match K.Θ.get t with
 |some i=>
  bif ζ i.tag 8 then(match FW K env i.fs ps (i.zero.cells.toList.map .v) with|some cs=>bif nD K.Θ (.build t ps.toArray)&&i.zero.cells.toList.all ξl then k (.s (.agg cs)) [] [] else none|none=>none)
  else bif ζ i.tag 6 then(match K.Θ.get i.e with
   |some ie=>(match FV K env ie.size ps (i.zero.cells.toList.map .v) with|some cs=>bif i.zero.cells.toList.all ξl then k (.s (.agg cs)) [] [] else none|none=>none)
   |none=>none)
  else none
 |none=>none
def Qx (t n:Nat) (ps:List (Nat×Operand)):Option R:=
 match K.Θ.get t with
 |some i=>(match K.Θ.get i.e,Ht 0 ps with
  |some ie,some xs=>(match l7 K env xs with
   |some ava=>(match oC K g ava with
    |some (lz,rs)=>(match Fb K i.e lz with
     |some ys=>bif ζ i.tag 5&&(ζ ys.length n&&(ζ (S.ty i.e).n ie.size&&(ζ ie.zero.cells.size ie.size&&(ξb (n*ie.size) 16777216&&ξb n 16777216)))) then k (.s (.one (.own nx))) (jN rs) [some (.row i.e ys)] else none
     |none=>none)
    |none=>none)
   |none=>none)
  |_,_=>none)
 |none=>none
def QG (t:Nat) (n c:Operand):Option R:=
 match K.Θ.get t with
 |some i=>(match K.Θ.get i.e with
  |some ie=>(match qD K env n,qD K env c,K.cls i.e (ie.zero.cells.toList.map .v) with
   |some n,some c,some z=>bif ζ i.tag 5&&(ζ (S.ty i.e).n ie.size&&(ζ ie.zero.cells.size ie.size&&ie.zero.cells.toList.all ξl)) then(nR ie.bytes n c z).bind λzs=>k (.s (.one (.own nx))) [] [some (.row i.e zs)] else none
   |_,_,_=>none)
  |none=>none)
 |none=>none
def Qu (ty:Nat) (x y:Operand):Option R:=
 match K.Θ.get ty with
 |some i=>(match K.Θ.get i.e with
  |some ie=>(match cQ K env x,cQ K env y with
   |some lx,some ly=>(match lx with
    | .own r=>(match ly with
     | .own r'=>bif ζ r r' then none else(match gr K g i.e (.own r),gr K g i.e (.own r') with
      |some xs,some ys=>bif ζ i.tag 5&&(ζ (S.ty i.e).n ie.size&&(ζ ie.zero.cells.size ie.size&&(ξ2 0 ie.size&&ξ2 0 ie.bytes))) then(app ie.bytes xs ys).bind λzs=>k (.s (.one (.own nx))) [(r',none),(r,none)] [some (.row i.e zs)] else none
      |_,_=>none)
     |ly=>(match gr K g i.e (.own r),gr K g i.e ly with
      |some xs,some ys=>bif ζ i.tag 5&&(ζ (S.ty i.e).n ie.size&&(ζ ie.zero.cells.size ie.size&&(ξ2 0 ie.size&&ξ2 0 ie.bytes))) then(app ie.bytes xs ys).bind λzs=>k (.s (.one (.own nx))) [(r,none)] [some (.row i.e zs)] else none
      |_,_=>none))
    | .v (.slice none 0 0)=>(match gr K g i.e ly with
      |some ys=>bif ζ i.tag 5&&(ζ (S.ty i.e).n ie.size&&(ζ ie.zero.cells.size ie.size&&(ξ2 0 ie.size&&ξ2 0 ie.bytes))) then(app ie.bytes [] ys).bind λzs=>k (.s (.one (.own nx))) (jN (qL ly)) [some (.row i.e zs)] else none
      |none=>none)
    |_=>none)
   |_,_=>none)
  |none=>none)
 |none=>none
def oO (e:Nat) (kk:IntKind):List (S.El e)->Option (List Int)
 |[]=>some []
 |y::ys=>(match K.bA e y with
  | .one (.v (.int k x))=>bif sameKind kk k then(match oO e kk ys with|some zs=>some (x::zs)|none=>none) else none
  |_=>none)
def IJ (g:Nat->Option (Ob S)) (e:Nat) (kk:IntKind) (n:Nat) (ly:LV S):Option (List Int):=
 match ly with
 | .v (.string s)=>bif sameKind kk .u8&&ξb s.size n then some (s.data.toList.map λb=>(b.toNat:Int)) else none
 |ly=>(match gr K g e ly with|some ys=>oO K e kk ys|none=>none)
def Qz (i ie:TI) (b off n:Nat) (ly:LV S):Option R:=
 match g b with
 |some (.box tb cs)=>(match gn cs off n with
  |some ls=>(match rq ls with
   |some (.i kk gs)=>(match IJ K g i.e kk n ly with
    |some zs=>(match cL cs off [.cd kk n (ez gs zs)] with
     |some cD=>bif ζ i.tag 5&&(ζ (S.ty i.e).n ie.size&&(ζ ie.size 1&&ζ gs.length n)) then k (.s (.one (.v (goInt (ξZ zs.length n))))) [(b,some (.box tb cD))] [] else none
     |none=>none)
    |none=>none)
   |_=>none)
  |none=>none)
 |_=>none
def Qy (ty:Nat) (x y:Operand):Option R:=
 match K.Θ.get ty with
 |some i=>(match K.Θ.get i.e with
  |some ie=>(match cQ K env x,cQ K env y with
   |some (.jZ b off n),some ly=>Qz K g k i ie b off n ly
   |some (.own r),some (.aU t ys)=>(match g r,gr K g i.e (.aU t ys) with
    |some (.row e xs),some ys=>(match ζ3 e i.e with
     | .isTrue p=>bif ζ i.tag 5&&ζ (S.ty i.e).n ie.size then k (.s (.one (.v (goInt (ξZ ys.length (pB p xs).length))))) [(r,some (.row i.e (ez (pB p xs) ys)))] [] else none
     | .isFalse _=>none)
    |_,_=>none)
   |some (.own r),some (.own r')=>bif ζ r r' then none else(match g r,gr K g i.e (.own r') with
    |some (.row e xs),some ys=>(match ζ3 e i.e with
     | .isTrue p=>bif ζ i.tag 5&&ζ (S.ty i.e).n ie.size then k (.s (.one (.v (goInt (ξZ ys.length (pB p xs).length))))) [(r,some (.row i.e (ez (pB p xs) ys)))] [] else none
     | .isFalse _=>none)
    |_,_=>none)
   |_,_=>none)
  |none=>none)
 |none=>none
def QD (ty:Nat) (c:Go.Call) (x:Operand):Option R:=
 match K.Θ.get ty,cQ K env x with
 |some i,some l=>(match l with
  | .aU t xs=>(match K.sl t with|some I=>bif ζ i.tag 5 then k (.s (.one (.v (.int .i64 ((I.to xs).length:Int))))) [] [] else none|none=>none)
  | .own r=>(match g r with|some (.row _ xs)=>bif ζ i.tag 5 then k (.s (.one (.v (.int .i64 (xs.length:Int))))) [] [] else none|some (.dH _ _ cm)=>bif ζ i.tag 5 then k (.s (.one (.v (.int .i64 (cm.length:Int))))) [] [] else none|_=>none)
  | .jZ _ _ n=>bif ζ i.tag 5 then k (.s (.one (.v (.int .i64 (n:Int))))) [] [] else none
  | .mp b=>(match g b with|some (.map _ _ m)=>bif ζ i.tag 7 then k (.s (.one (.v (.int .i64 (m.length:Int))))) [] [] else none|_=>none)
  |_=>plain K env (.call c) λa=>k a [] [])
 |_,_=>none
def Qv (o:BinOp) (t:Nat) (x y:Operand) (t':Nat):Option R:=
 match eR K env x with
 |some (.s (.agg ls))=>(match eR K env y with
  |some (.s (.agg ms))=>(match K.yX t ls ms with
   |some z=>(match o with
    | .eql=>k (.s (.one (.v (.bool z)))) [] []
    | .neq=>k (.s (.one (.v (.bool (!z))))) [] []
    |_=>none)
   |none=>none)
  |_=>none)
 |some (.s (.one l))=>
  bif l.Hw&&isNil y then(match K.Θ.get t with
   |some i=>bif ζ i.tag 4 then(match o with| .eql=>k (.s (.one (.v (.bool false)))) [] []| .neq=>k (.s (.one (.v (.bool true)))) [] []|_=>none) else none
   |none=>none)
  else(match l,cQ K env y,y with
  | .v (.int kx a),some (.v (.int ky b)),.tmp _=>
   (match o with
   | .quo=>bif sameKind kx ky then(Q_ kx a b).bind λz=>k (.s (.one (.v (.int kx z)))) [] [] else none
   | .rem=>bif sameKind kx ky then(uI a b).bind λz=>k (.s (.one (.v (.int kx z)))) [] [] else none
   | .shl=>(uW kx a b).bind λz=>k (.s (.one (.v (.int kx z)))) [] []
   | .shr=>(RT kx a b).bind λz=>k (.s (.one (.v (.int kx z)))) [] []
   |_=>plain K env (.binOp o t x y t') λa=>k a [] [])
  | .v (.string a),some (.v (.string b)),_=>
   (match o with
   | .add=>(uU a b).bind λz=>k (.s (.one (.v (.string z)))) [] []
   |_=>plain K env (.binOp o t x y t') λa=>k a [] [])
  |_,_,_=>plain K env (.binOp o t x y t') λa=>k a [] [])
 |_=>none
def QF (t:Nat) (x y:Operand) (ok:Bool):Option R:=
 match K.Θ.get t,cQ K env x,eR K env y with
 |some i,some (.mp b),some (.s (.one (.v (.int ky j))))=>(match K.Θ.get i.k,K.Θ.get i.e,g b with
  |some ik,some ie,some (.map kk kv m)=>
   bif ζ i.tag 7&&(ζ ik.tag 2&&(sameKind (Dc.noKind ik.k) kk&&(sameKind ky kk&&(match ie.zero with| .int kz 0=>sameKind kz kv|_=>false)))) then
    k (bif ok then .bD [.one (.v (.int kv ((b6 m j).getD 0))),.one (.v (.bool (b6 m j).isSome))] else .s (.one (.v (.int kv ((b6 m j).getD 0))))) [] []
   else none
  |_,_,_=>none)
 |_,_,_=>none
def HX (t:Nat) (x y:Operand):Option R:=
 match K.Θ.get t,cQ K env x,eR K env y with
 |some i,some l,some (.s a)=>
  bif ζ (fW a.cells) i.size then
  (match l with
  | .bp b o=>(match g b with
   |some (.box tb cs)=>(match cL cs o a.cells with
    |some cD=>k (.bD []) [(b,some (.box tb cD))] []
    |none=>none)
   |_=>none)
  | .jg b o m j=>(match g b with
   |some (.box tb cs)=>(match gn cs o m with
    |some ls=>(match rq ls,a with
     |some (.i kk gs),.one (.v (.int k' x))=>(match cL cs o [.cd kk m (gs.set j x)] with|some cD=>bif sameKind kk k'&&ζ gs.length m then k (.bD []) [(b,some (.box tb cD))] [] else none|none=>none)
     |some (.b bs),.one (.v (.bool x))=>(match cL cs o [.dW m (bs.set j x)] with|some cD=>bif ζ bs.length m then k (.bD []) [(b,some (.box tb cD))] [] else none|none=>none)
     |_,_=>none)
    |none=>none)
   |_=>none)
  | .fl e r j o=>(match g r with
   |some (.row e' xs)=>bif ζ e e' then(xs[j]?).bind λz=>(match cL (K.bA e' z).cells o a.cells with
    |some cD=>(match K.cls e' cD with
     |some z'=>bif a.pure then k (.bD []) [(r,some (.row e' (xs.set j z')))] [] else none
     |none=>none)
    |none=>none) else none
   |_=>none)
  |_=>none)
  else none
 |_,_,_=>none
def HW (t:Nat) (x y z:Operand):Option R:=
 match K.Θ.get t,cQ K env x,eR K env y,eR K env z with
 |some i,some (.mp b),some (.s (.one (.v (.int ky j)))),some (.s (.one (.v (.int kz u))))=>(match K.Θ.get i.k,g b with
  |some ik,some (.map kk kv m)=>
   bif ζ i.tag 7&&(ζ ik.tag 2&&(sameKind (Dc.noKind ik.k) kk&&(sameKind ky kk&&sameKind kz kv))) then k (.bD []) [(b,some (.map kk kv (dk m j u)))] [] else none
  |_,_=>none)
 |_,_,_,_=>none
def HU (t t2:Nat) (l:LV S):Option R:=
 match K.Θ.get t,K.Θ.get t2 with
 |some i,some i2=>(match K.Θ.get i.e with
  |some ie=>bif ζ i.tag 5&&(ζ i2.tag 3&&(ζ ie.tag 2&&sameKind (Dc.noKind ie.k) .u8)) then
   (match gr K g i.e l with
   |some ys=>(match oO K i.e .u8 ys with|some zs=>k (.s (.one (.v (.string (strOf zs))))) [] []|none=>none)
   |none=>none) else none
  |none=>none)
 |_,_=>none
def Ba (ty:Nat) (op:Op):Option R:=
 match op with
 | .move x=>(match eR K env x with|some a=>k a [] []|none=>none)
 | .assign x=>
  (match x with
  | .const (.slice none 0 0)=>(match K.Θ.get ty with
   |some i=>bif ζ i.tag 5 then k (.s (.one (.own nx))) [] [some (.row i.e [])] else none
   |none=>none)
  |x=>(match eR K env x with|some a=>k a [] []|none=>none))
 | .extract x i=>(match eR K env x with|some (.bD ava)=>(match ava[i]? with|some a=>k (.s a) [] []|none=>none)|_=>none)
 | .nilCheck x=>
  (match cQ K env x with
  |some (.bp b o)=>k (.s (.one (.bp b o))) [] []
  |some (.jg b o n j)=>k (.s (.one (.jg b o n j))) [] []
  |some (.fl e b j o)=>k (.s (.one (.fl e b j o))) [] []
  |some (.ptr t z o)=>k (.s (.one (.ptr t z o))) [] []
  |_=>none)
 | .pick c a b=>
  (match cQ K env c with
  |some (.v (.bool t))=>bif t then(match eR K env a with|some a=>k a [] []|none=>none) else(match eR K env b with|some b=>k b [] []|none=>none)
  |_=>none)
 | .field t x f=>
  (match eR K env x with
  |some (.s (.agg ls))=>(match wm K t f with
   |some (off,n,ag)=>(match gn ls off n with|some cZ=>(match pC ag cZ with|some a=>k (.s a) [] []|none=>none)|none=>none)
   |none=>none)
  |_=>none)
 | .fieldAddr t x f=>
  (match wm K t f with
  |some (off,n,_)=>bif ζ n 0 then none else(match cQ K env x with
   |some (.bp b o)=>k (.s (.one (.bp b (o+off)))) [] []
   |some (.fl e r j o)=>k (.s (.one (.fl e r j (o+off)))) [] []
   |some (.ptr t' x' o)=>k (.s (.one (.ptr t' x' (o+off)))) [] []
   |_=>none)
  |none=>none)
 | .load t x=>
  (match K.Θ.get t with
  |some i=>(match cQ K env x with|some l=>(match xM g l with|some T=>QE K nx k t T|none=>Qk K g i (λa=>k (.s a) [] []) l)|none=>none)
  |none=>none)
 | .alloc t=>(match K.Θ.get t with|some i=>bif i.zero.cells.toList.all ξl then k (.s (.one (.bp nx 0))) [] [some (.box t (i.zero.cells.toList.map .v))] else none|none=>none)
 | .box t x=>(match eR K env x with|some (.s a)=>k (.s (.one (.bp nx 0))) [] [some (.box t a.cells)]|_=>none)
 | .build t ps=>Qw K env k t ps.toList
 | .makeFunc (.func f) fs cs=>
  (match l7 K env fs.toList,l7 K env cs.toList with
  |some zl,some cD=>k (.s (.one (.bI nx))) [] [some (.bI f zl cD)]
  |_,_=>none)
 | .makeMap t none=>
  (match K.Θ.get t with
  |some i=>(match K.Θ.get i.k,K.Θ.get i.e with
   |some a,some b=>bif ζ i.tag 7&&(ζ a.tag 2&&ζ b.tag 2) then k (.s (.one (.mp nx))) [] [some (.map (Dc.noKind a.k) (Dc.noKind b.k) [])] else none
   |_,_=>none)
  |none=>none)
 | .makeSlice t n c=>bif ac_ K t then QH K env nx k t n c else QG K env nx k t n c
 | .buildSlice t n ps=>Qx K env g nx k t n ps.toList
 | .indexAddr t x y=>(match xw K env x with|some r=>bif YM g r then QC K env g k t x y else HV K env g k t x y|none=>HV K env g k t x y)
 | .index t x y=>QB K env k t x y
 | .slice t x lo hi mx=>QI K env k t x lo hi mx
 | .lookup t x y ok=>QF K env g k t x y ok
 | .binOp o t x y t'=>Qv K env k o t x y t'
 | .makeInterface t x=>
  (match K.Θ.get t,cQ K env x with
  |some i,some (.v u)=>bif ζ i.tag 2 then k (.s (.one (.v (.iface t u)))) [] [] else none
  |_,_=>none)
 | .range t x=>
  (match K.Θ.get t,cQ K env x with
  |some i,some (.v (.string s))=>bif ζ i.tag 3 then k (.s (.one (.ep nx))) [] [some (.ep s 0)] else none
  |_,_=>none)
 | .next x true=>
  (match cQ K env x with
  |some (.ep i)=>(match g i with
   |some (.ep s pos)=>bif decide (pos<s.size) then k (.bD [.one (.v (.bool true)),.one (.v (goInt pos)),.one (.v (.int .i32 (ζ4 s pos).1))]) [(i,some (.ep s (pos+(ζ4 s pos).2)))] []
    else k (.bD [.one (.v (.bool false))]) [] []
   |_=>none)
  |_=>none)
 | .store t x y=>(match cQ K env x with|some l=>(match xM g l,xw K env y with|some T,some q=>QA K g k t q T|_,_=>HX K env g k t x y)|none=>HX K env g k t x y)
 | .mapUpdate t x y z=>HW K env g k t x y z
 | .insert t x y z=>HW K env g k t x y z
 | .call c=>
  (match c.callee with
  | .builtin .len=>(match c.args.toList,c.argTypes.toList with|[x],[ty]=>QD K env g k ty c x|_,_=>none)
  | .builtin .append=>(match c.args.toList,c.argTypes.toList with|[x,y],[ty,jb]=>bif ζ ty jb then Qu K env g nx k ty x y else none|_,_=>none)
  | .builtin .copy=>(match c.args.toList,c.argTypes.toList with|[x,y],[ty,_]=>Qy K env g k ty x y|_,_=>none)
  |_=>plain K env (.call c) λa=>k a [] [])
 | .convert t t2 x=>
  (match cQ K env x with
  |some (.own r)=>HU K g k t t2 (.own r)
  |some (.aU t' d)=>HU K g k t t2 (.aU t' d)
  |_=>plain K env (.convert t t2 x) λa=>k a [] [])
 |op=>plain K env op λa=>k a [] []
end
structure Pl where
 pl:Nat->Option Value
 ls:Option Nat
structure Pl.le (A A':Pl):Prop where
 at_: ∀(i:Nat) (p:Value),A.pl i=some p->A'.pl i=some p
 ls:A'.ls=A.ls
theorem Pl.le.refl (A:Pl):A.le A:=⟨λ_ _ h=>h,rfl⟩
def cG:Value->Option Nat
 | .pointer (some a)=>some a.block
 | .map r=>r
 | .slice (some a) _ _=>some a.block
 |_=>none
theorem lB {v:Value} {g:Nat} (h:v.ownBlock=some g):cG v=some g:=by
 cases v<;>simp only[Value.ownBlock] at h<;>try cases h
 rename_i a n c;cases a<;>simp only[cG] at h ⊢ <;>first|exact h|cases h
section
variable {S:bL}
def LV.rel (A:Pl) (O:List Nat) (w:World):LV S->List Value->Prop
 | .v u,xs=>xs=[u]/\u.oneCell'=true
 | .aU t d,xs=> ∃x,xs=[x]/\(S.ty t).is O w x d/\(S.ty t).agg=false
 | .ptr t d off,xs=> ∃ad,xs=[.pointer (some (ad.add off))]/\(S.ty t).ptr.is O w (.pointer (some ad)) d
 | .bp i off,xs=> ∃b,A.pl i=some (.pointer (some ⟨b,0,none⟩))/\xs=[.pointer (some ⟨b,off,none⟩)]
 | .jg i off n j,xs=> ∃b,A.pl i=some (.pointer (some ⟨b,0,none⟩))/\xs=[.pointer (some ⟨b,off+j,none⟩)]/\j<n
 | .own i,xs=> ∃v,A.pl i=some v/\xs=[v]/\v.oneCell'=true
 | .fl e i j off,xs=> ∃b n c,A.pl i=some (.slice (some ⟨b,0,none⟩) n c)/\xs=[.pointer (some ⟨b,j*(S.ty e).n+off,none⟩)]
 | .jZ i off n,xs=> ∃b,A.pl i=some (.pointer (some ⟨b,0,none⟩))/\xs=[.slice (some ⟨b,off,none⟩) n n]
 | .mp i,xs=> ∃b,A.pl i=some (.map (some b))/\xs=[.map (some b)]
 | .bI i,xs=> ∃f u c,A.pl i=some (.func f u c)/\xs=[.func f u c]
 | .eL,xs=> ∃l,A.ls=some l/\xs=[.func (.yield l) #[] #[]]
 | .ep i,xs=> ∃b,A.pl i=some (.pointer (some ⟨b,0,none⟩))/\xs=[.pointer (some ⟨b,0,none⟩)]
 | .cd k n gs,xs=>gs.length=n/\xs=gs.map (ξs k)
 | .dW n bs,xs=>bs.length=n/\xs=bs.map ξO
def bV (A:Pl) (O:List Nat) (w:World):List (LV S)->List Value->Prop
 |[],xs=>xs=[]
 |l::ls,xs=> ∃ys zs,xs=ys++zs/\l.rel A O w ys/\bV A O w ls zs
def aD.rel (A:Pl) (O:List Nat) (w:World):aD S->Value->Prop
 | .one l,x=>l.rel A O w [x]
 | .agg ls,x=> ∃xs,x= .agg xs.toArray/\bV A O w ls xs
def dO (A:Pl) (O:List Nat) (w:World):List (aD S)->List Value->Prop
 |[],xs=>xs=[]
 |l::ls,xs=> ∃y ys,xs=y::ys/\l.rel A O w y/\dO A O w ls ys
def AV.rel (A:Pl) (O:List Nat) (w:World):AV S->Value->Prop
 | .s a,x=>a.rel A O w x
 | .bD ava,x=> ∃xs,x= .tuple xs.toArray/\dO A O w ava xs
variable {A A':Pl} {O O':List Nat} {w w':World}
theorem aoj {α:Type} {T:Ty α} {v:Value} {x:α} (ha:T.agg=false) (h:T.is O w v x):v.oneCell'=true:=T.one (uN ha h) v σ
theorem LV.rel.len {l:LV S} {xs:List Value} (h:l.rel A O w xs):xs.length=l.sz:=by
 cases l with
 |v u=>rw[h.1];rfl
 |aU t d=>obtain⟨x,rfl,_⟩:=h;rfl
 |ptr t d o=>obtain⟨x,rfl,_⟩:=h;rfl
 |bp b o=>obtain⟨m,_,rfl⟩:=h;rfl
 |jg b o n j=>obtain⟨m,_,rfl,_⟩:=h;rfl
 |own r=>obtain⟨m,_,rfl,_⟩:=h;rfl
 |fl e r j o=>obtain⟨_,_,_,_,rfl⟩:=h;rfl
 |jZ b o n=>obtain⟨m,_,rfl⟩:=h;rfl
 |mp b=>obtain⟨m,_,rfl⟩:=h;rfl
 |bI b=>obtain⟨_,_,_,_,rfl⟩:=h;rfl
 |eL=>obtain⟨m,_,rfl⟩:=h;rfl
 |ep b=>obtain⟨m,_,rfl⟩:=h;rfl
 |cd k n gs=>obtain⟨U,rfl⟩:=h;simp[LV.sz,U]
 |dW n gs=>obtain⟨U,rfl⟩:=h;simp[LV.sz,U]
theorem LV.rel.one {l:LV S} {xs:List Value} (h:l.rel A O w xs): ∀u∈xs,u.oneCell'=true:=by
 intro u hu;cases l with
 |v x=>obtain⟨rfl,U⟩:=h;simp at hu;subst hu;exact U
 |aU t d=>obtain⟨x,rfl,U,h2⟩:=h;simp at hu;subst hu;exact aoj h2 U
 |ptr t d o=>obtain⟨x,rfl,_⟩:=h;simp at hu;subst hu;rfl
 |bp b o=>obtain⟨m,_,rfl⟩:=h;simp at hu;subst hu;rfl
 |jg b o n j=>obtain⟨m,_,rfl,_⟩:=h;simp at hu;subst hu;rfl
 |own r=>obtain⟨m,_,rfl,U⟩:=h;simp at hu;subst hu;exact U
 |fl e r j o=>obtain⟨_,_,_,_,rfl⟩:=h;simp at hu;subst hu;rfl
 |jZ b o n=>obtain⟨m,_,rfl⟩:=h;simp at hu;subst hu;rfl
 |mp b=>obtain⟨m,_,rfl⟩:=h;simp at hu;subst hu;rfl
 |bI b=>obtain⟨_,_,_,_,rfl⟩:=h;simp at hu;subst hu;rfl
 |eL=>obtain⟨m,_,rfl⟩:=h;simp at hu;subst hu;rfl
 |ep b=>obtain⟨m,_,rfl⟩:=h;simp at hu;subst hu;rfl
 |cd k n gs=>obtain⟨_,rfl⟩:=h;obtain⟨x,_,rfl⟩:=ζN.1 hu;rfl
 |dW n gs=>obtain⟨_,rfl⟩:=h;obtain⟨x,_,rfl⟩:=ζN.1 hu;rfl
theorem LV.rel.tr {l:LV S} {xs:List Value} (h:l.rel A O w xs) (ht:Tr O w O' w') (hA:A.le A'):l.rel A' O' w' xs:=by
 cases l with
 |v u=>exact h
 |aU t d=>obtain⟨x,U,h2,h3⟩:=h;exact⟨x,U,h2.tr ht,h3⟩
 |ptr t d o=>obtain⟨x,U,h2⟩:=h;exact⟨x,U,Ty.is.tr h2 ht⟩
 |bp b o=>obtain⟨m,U,h2⟩:=h;exact⟨m,hA.at_ _ _ U,h2⟩
 |jg b o n j=>obtain⟨m,U,h2⟩:=h;exact⟨m,hA.at_ _ _ U,h2⟩
 |own r=>obtain⟨m,U,h2⟩:=h;exact⟨m,hA.at_ _ _ U,h2⟩
 |fl e r j o=>obtain⟨b,n,c,U,h2⟩:=h;exact⟨b,n,c,hA.at_ _ _ U,h2⟩
 |jZ b o n=>obtain⟨m,U,h2⟩:=h;exact⟨m,hA.at_ _ _ U,h2⟩
 |mp b=>obtain⟨m,U,h2⟩:=h;exact⟨m,hA.at_ _ _ U,h2⟩
 |bI b=>obtain⟨f,u,c,U,h2⟩:=h;exact⟨f,u,c,hA.at_ _ _ U,h2⟩
 |eL=>obtain⟨m,U,h2⟩:=h;exact⟨m,hA.ls.trans U,h2⟩
 |ep b=>obtain⟨m,U,h2⟩:=h;exact⟨m,hA.at_ _ _ U,h2⟩
 |cd k n gs=>exact h
 |dW n gs=>exact h
theorem qN (ht:Tr O w O' w') (hA:A.le A'): ∀ {ls:List (LV S)} {xs:List Value},bV A O w ls xs->bV A' O' w' ls xs
 |[],_,h=>h
 |_::_,_,⟨y,ys,h,U,h2⟩=>⟨y,ys,h,U.tr ht hA,qN ht hA h2⟩
theorem lV: ∀ {ls:List (LV S)} {xs:List Value},bV A O w ls xs->xs.length=fW ls
 |[],_,h=>by rw[show _=[] from h];rfl
 |_::_,_,⟨y,ys,h,U,h2⟩=>by rw[h,χ,U.len,lV h2];rfl
theorem abz: ∀ {ls:List (LV S)} {xs:List Value},bV A O w ls xs-> ∀u∈xs,u.oneCell'=true
 |[],_,h,u,hu=>by rw[show _=[] from h] at hu;cases hu
 |_::_,_,⟨y,ys,h,U,h2⟩,u,hu=>by
  subst h;rcases τ.1 hu with hu|hu
  ·exact U.one u hu
  ·exact abz h2 u hu
theorem abw: ∀ {l1 l2:List (LV S)} {x1 x2:List Value},bV A O w l1 x1->bV A O w l2 x2->bV A O w (l1++l2) (x1++x2)
 |[],_,_,_,h,k=>by rw[show _=[] from h];exact k
 |_::_,_,_,_,⟨y,ys,h,U,h2⟩,k=>by subst h;exact⟨y,_,by rw[ζf],U,abw h2 k⟩
theorem aD.rel.tr {a:aD S} {x:Value} (h:a.rel A O w x) (ht:Tr O w O' w') (hA:A.le A'):a.rel A' O' w' x:=by
 cases a with
 |one l=>exact LV.rel.tr h ht hA
 |agg ls=>obtain⟨xs,U,h2⟩:=h;exact⟨xs,U,qN ht hA h2⟩
theorem uH (ht:Tr O w O' w') (hA:A.le A'): ∀ {ls:List (aD S)} {xs:List Value},dO A O w ls xs->dO A' O' w' ls xs
 |[],_,h=>h
 |_::_,_,⟨y,ys,h,U,h2⟩=>⟨y,ys,h,U.tr ht hA,uH ht hA h2⟩
theorem abv: ∀ {ls:List (aD S)} {xs:List Value} {k:Nat} {l:aD S},dO A O w ls xs->ls[k]? =some l-> ∃x,xs[k]? =some x/\l.rel A O w x
 |[],_,_,_,_,hk=>by simp at hk
 |_::_,_,0,l,⟨y,ys,h,U,h2⟩,hk=>by
  simp at hk;subst hk;subst h;exact⟨y,rfl,U⟩
 |_::ls,_,k+1,l,⟨y,ys,h,U,h2⟩,hk=>by
  subst h;simpa using abv (k:=k) h2 (by simpa using hk)
theorem Is: ∀ {ls:List (aD S)} {xs:List Value},dO A O w ls xs->xs.length=ls.length
 |[],_,h=>by rw[show _=[] from h];rfl
 |_::_,_,⟨y,ys,h,U,h2⟩=>by rw[h,ξy,Is h2];rfl
theorem Rw: ∀ {l1 l2:List (aD S)} {x1 x2:List Value},dO A O w l1 x1->dO A O w l2 x2->dO A O w (l1++l2) (x1++x2)
 |[],_,_,_,h,k=>by rw[show _=[] from h];exact k
 |_::_,_,_,_,⟨y,ys,h,U,h2⟩,k=>by subst h;exact⟨y,_,rfl,U,Rw h2 k⟩
theorem AV.rel.tr {a:AV S} {x:Value} (h:a.rel A O w x) (ht:Tr O w O' w') (hA:A.le A'):a.rel A' O' w' x:=by
 cases a with
 |s l=>exact aD.rel.tr h ht hA
 |bD ls=>obtain⟨xs,U,h2⟩:=h;exact⟨xs,U,uH ht hA h2⟩
theorem aD.rel.cells {a:aD S} {x:Value} (h:a.rel A O w x):bV A O w a.cells x.cells.toList:=by
 cases a with
 |one l=>
  have U:=LV.rel.one h x σ;have:x.cells.toList=[x]:=by cases x<;>simp[ζh,ξl] at U ⊢
  rw[this];exact⟨[x],[],rfl,h,rfl⟩
 |agg ls=>
  obtain⟨xs,rfl,h2⟩:=h;simpa[ζh,aD.cells] using h2
theorem aav {x:Value} (U:x.oneCell'=true):x.cells.toList=[x]:=by cases x<;>simp[ζh,ξl] at U ⊢
def fC (A:Pl) (O:List Nat) (w:World):Ob S->Value->Prop
 | .box t cs,p=> ∃b vs,p= .pointer (some ⟨b,0,none⟩)/\ck w b t vs/\bV A O w cs vs
 | .row e xs,p=>Dc.Own (S.ty e) e 0 O w p xs
 | .map kk kv m,p=> ∃b,p= .map (some b)/\oc kk kv w b m
 | .bI f fs cs,p=> ∃us vs:List Value,p= .func (.func f) us.toArray vs.toArray/\dO A O w fs us/\dO A O w cs vs
 | .ep s pos,p=> ∃b,p= .pointer (some ⟨b,0,none⟩)/\w.heap[b]? =some (.stringIter s pos)
 | .dH t e cm,p=> ∃b c cur,p= .slice (some ⟨b,0,none⟩) cm.length c/\w.heap[b]? =some (.cells cur t (0,0))/\cm.length<=c/\c<=maxLen/\cur.size=c/\(S.ty t).n=1/\
  (∀u∈cur.toList,u.oneCell'=true)/\(∀(j:Nat) (u:Value) (xs:List (S.El e)),cur[j]? =some u->cm[j]? =some (some xs)->Dc.Own (S.ty e) e 0 O w u xs/\u.ownBlock≠some b)/\
  ∀(i j:Nat) (u v:Value) (xs ys:List (S.El e)) (d:Nat),i≠j->cur[i]? =some u->cur[j]? =some v->cm[i]? =some (some xs)->cm[j]? =some (some ys)->u.ownBlock=some d->v.ownBlock≠some d
def lN (w:World):Ob S->Value->Nat->Prop
 | .dH _ e cm,p,d=> ∃(b c t':Nat) (cur:Array Value) (j:Nat) (u:Value) (xs:List (S.El e)),p= .slice (some ⟨b,0,none⟩) cm.length c/\w.heap[b]? =some (.cells cur t' (0,0))/\cur[j]? =some u/\cm[j]? =some (some xs)/\u.ownBlock=some d
 |_,_,_=>False
def dJ (w:World) (X:Ob S) (p:Value) (b:Nat):Prop:=cG p=some b\/lN w X p b
theorem iR {w:World} {X:Ob S} {p:Value} {b:Nat} (hX:X.nt=true) (h:dJ w X p b):cG p=some b:=by
 rcases h with h|h
 ·exact h
 ·cases X with
  |dH t e cm=>cases hX
  |_=>cases h
theorem fC.an9 {X:Ob S} {p:Value} {d:Nat} (h:fC A O w X p) (hi:lN w X p d):d∈O/\cG p≠some d:=by
 cases X with
 |dH t e cm=>
  obtain⟨b,c,cur,rfl,hb,_,_,_,_,_,U,_⟩:=h;obtain⟨b',c',t',rB,j,u,xs,e1,e2,e3,e4,e5⟩:=hi;cases e1;rw[hb] at e2;cases e2;obtain⟨h2,h3⟩:=U j u xs e3 e4;exact⟨h2.mem d e5,λhd=>h3 (by cases hd;exact e5)⟩
 |_=>cases hi
theorem an_ {w w':World} {X:Ob S} {p:Value} {d:Nat} (hk: ∀b,cG p=some b->w'.heap[b]? =w.heap[b]?) (h:lN w' X p d):lN w X p d:=by
 cases X with
 |dH t e cm=>
  obtain⟨b,c,t',cur,j,u,xs,e1,e2,e3⟩:=h;subst e1;exact⟨b,c,t',cur,j,u,xs,rfl,(hk b rfl).symm.trans e2,e3⟩
 |_=>cases h
theorem rI {w w':World} {X:Ob S} {p:Value} {d:Nat} (hk: ∀b,cG p=some b->w'.heap[b]? =w.heap[b]?) (h:dJ w' X p d):dJ w X p d:=h.imp id (an_ hk)
structure cv (A:Pl) (O:List Nat) (w:World) (g:Nat->Option (Ob S)):Prop where
 al: ∀(i:Nat) (X:Ob S),g i=some X-> ∃p,A.pl i=some p/\fC A O w X p/\ ∀b,cG p=some b->b∈O
 lE: ∀(i j:Nat) (X Y:Ob S) (p q:Value) (b:Nat),i≠j->g i=some X->g j=some Y->A.pl i=some p->A.pl j=some q->dJ w X p b-> ¬dJ w Y q b
theorem cv.dj {g:Nat->Option (Ob S)} (h:cv A O w g) (i j:Nat) (X Y:Ob S) (p q:Value) (b:Nat) (cC:i≠j) (U:g i=some X) (h2:g j=some Y) (h3:A.pl i=some p) (h4:A.pl j=some q) (h5:cG p=some b):cG q≠some b:=λh6=>h.lE i j X Y p q b cC U h2 h3 h4 (.inl h5) (.inl h6)
theorem cv.lF {g:Nat->Option (Ob S)} (h:cv A O w g) {i:Nat} {X:Ob S} {p:Value} {b:Nat} (hi:g i=some X) (hp:A.pl i=some p) (hb:dJ w X p b):b∈O:=by
 obtain⟨p',cH,hR,hm⟩:=h.al i X hi;rw[hp] at cH;cases cH;rcases hb with hb|hb
 ·exact hm b hb
 ·exact(hR.an9 hb).1
theorem cv.less {g g':Nat->Option (Ob S)} (h:cv A O w g) (hs: ∀i X,g' i=some X->g i=some X):cv A O w g':=
 ⟨λi X k=>h.al i X (hs i X k),λi j X Y p q b k0 k1 k2=>h.lE i j X Y p q b k0 (hs _ _ k1) (hs _ _ k2)⟩
theorem cv.HN {g:Nat->Option (Ob S)} (hn: ∀i X,g i=some X->X.nt=true) (al: ∀(i:Nat) (X:Ob S),g i=some X-> ∃p,A.pl i=some p/\fC A O w X p/\ ∀b,cG p=some b->b∈O)
  (dj: ∀(i j:Nat) (X Y:Ob S) (p q:Value) (b:Nat),i≠j->g i=some X->g j=some Y->A.pl i=some p->A.pl j=some q->cG p=some b->cG q≠some b):cv A O w g:=
 ⟨al,λi j X Y p q b cC U h2 h3 h4 h5 h6=>dj i j X Y p q b cC U h2 h3 h4 (iR (hn i X U) h5) (iR (hn j Y h2) h6)⟩
theorem fC.keep {X:Ob S} {p:Value} (h:fC A O w X p) (ht:Tr O w O' w') (hA:A.le A') (qj: ∀b,dJ w X p b->w'.heap[b]? =w.heap[b]? /\b∈O'):fC A' O' w' X p:=by
 have hk: ∀b,cG p=some b->w'.heap[b]? =w.heap[b]? /\b∈O':=λb hb=>qj b (.inl hb);cases X with
 |box t cs=>
  obtain⟨b,vs,rfl,U,h2⟩:=h;exact⟨b,vs,rfl,(hk b rfl).1.trans U,qN ht hA h2⟩
 |row e xs=>exact Dc.Own.keep h ht λg hg=>hk g (lB hg)
 |map kk kv m=>obtain⟨b,rfl,U⟩:=h;exact⟨b,rfl,U.of_heap (hk b rfl).1⟩
 |bI f fs cs=>obtain⟨us,vs,U,h2,h3⟩:=h;exact⟨us,vs,U,uH ht hA h2,uH ht hA h3⟩
 |ep s pos=>obtain⟨b,rfl,U⟩:=h;exact⟨b,rfl,(hk b rfl).1.trans U⟩
 |dH t e cm=>
  obtain⟨b,c,cur,rfl,hb,k1,k2,k3,k4,k5,k6,k7⟩:=h;exact⟨b,c,cur,rfl,(hk b rfl).1.trans hb,k1,k2,k3,k4,k5,λj u xs hj hx=>⟨Dc.Own.keep (k6 j u xs hj hx).1 ht λg hg=>qj g (.inr ⟨b,c,t,cur,j,u,xs,rfl,hb,hj,hx,hg⟩),(k6 j u xs hj hx).2⟩,k7⟩
def cK (g:Nat->Option (Ob S)):Up S->Nat->Option (Ob S)
 |[],i=>g i
 |(j,X)::r,i=>cK (λi=>bif ζ j i then X else g i) r i
def news:Nat->AH S->Up S
 |_,[]=>[]
 |n,X::r=>(n,X)::news (n+1) r
structure sZ (A:Pl) (O:List Nat) (w:World) (g:Nat->Option (Ob S)) (ef:Up S) (A':Pl) (O':List Nat) (w':World):Prop where
 le:A.le A'
 tr:Tr O w O' w'
 ob:OB O' w'
 keep: ∀b,b∈O->(∀i X p,(i,X)∈ef->A.pl i=some p->cG p≠some b)->w'.heap[b]? =w.heap[b]? /\b∈O'
 al: ∀i X,(i,some X)∈ef-> ∃p,A'.pl i=some p/\fC A' O' w' X p/\ ∀b,cG p=some b->b∈O'/\(w.heap.size<=b\/ ∃j Y q,(j,Y)∈ef/\A.pl j=some q/\cG q=some b)
 dj: ∀i j X Y p q b,i≠j->(i,some X)∈ef->(j,some Y)∈ef->A'.pl i=some p->A'.pl j=some q->cG p=some b->cG q≠some b
 nd: ∀i X Y,(i,X)∈ef->(i,Y)∈ef->X=Y
 lv: ∀i X p,(i,X)∈ef->A.pl i=some p-> ∃Z,g i=some Z
 pl: ∀i,A'.pl i=A.pl i\/(A.pl i=ζj/\ ∃X,(i,X)∈ef)
structure cW (A:Pl) (O:List Nat) (w:World) (g:Nat->Option (Ob S)) (ef:Up S) (A':Pl) (O':List Nat) (w':World):Prop where
 le:A.le A'
 tr:Tr O w O' w'
 ob:OB O' w'
 keep: ∀b,b∈O->(∀i X p,(i,X)∈ef->A.pl i=some p->cG p≠some b)->w'.heap[b]? =w.heap[b]? /\b∈O'
 al: ∀i X,(i,some X)∈ef-> ∃p,A'.pl i=some p/\fC A' O' w' X p/\ ∀b,dJ w' X p b->b∈O'/\(w.heap.size<=b\/ ∃j Y q Z,(j,Y)∈ef/\g j=some Z/\A.pl j=some q/\dJ w Z q b)
 dj: ∀i j X Y p q b,i≠j->(i,some X)∈ef->(j,some Y)∈ef->A'.pl i=some p->A'.pl j=some q->dJ w' X p b-> ¬dJ w' Y q b
 nd: ∀i X Y,(i,X)∈ef->(i,Y)∈ef->X=Y
 lv: ∀i X p,(i,X)∈ef->A.pl i=some p-> ∃Z,g i=some Z
 pl: ∀i,A'.pl i=A.pl i\/(A.pl i=ζj/\ ∃X,(i,X)∈ef)
 nt: ∀i X Z,(i,some X)∈ef->g i=some Z->Z.nt=true->X.nt=true
theorem sZ.up {g:Nat->Option (Ob S)} {ef:Up S} (h:sZ A O w g ef A' O' w') (hn: ∀i X,(i,some X)∈ef->X.nt=true):cW A O w g ef A' O' w' where
 le:=h.le
 tr:=h.tr
 ob:=h.ob
 keep:=h.keep
 al i X hi:=by
  obtain⟨p,U,h2,h3⟩:=h.al i X hi;refine⟨p,U,h2,λb hb=>?_⟩;obtain⟨h4,h5⟩:=h3 b (iR (hn i X hi) hb);refine⟨h4,h5.imp id ?_⟩;rintro ⟨j,Y,q,k1,k2,k3⟩;obtain⟨Z,hZ⟩:=h.lv j Y q k1 k2;exact⟨j,Y,q,Z,k1,hZ,k2,.inl k3⟩
 dj i j X Y p q b h0 U h2 h3 h4 h5 h6:=h.dj i j X Y p q b h0 U h2 h3 h4 (iR (hn i X U) h5) (iR (hn j Y h2) h6)
 nd:=h.nd
 lv:=h.lv
 pl:=h.pl
 nt i X Z U _ _:=hn i X U
theorem gC {i:Nat}: ∀ {ef:Up S} {g:Nat->Option (Ob S)},(∀X,(i,X)∉ef)->cK g ef i=g i
 |[],g,_=>rfl
 |(j,X)::r,g,h=>by
  simp only[cK];rw[gC (λY hY=>h Y (ξ5 _ hY))];have aN:ζ j i=false:=by
   cases hb:ζ j i with
   |false=>rfl
   |true=>exact absurd (σ) (by have:=δ hb;subst this;exact h X)
  rw[aN];rfl
theorem uY {i:Nat} {X:Option (Ob S)}: ∀ {ef:Up S} {g:Nat->Option (Ob S)},(i,X)∈ef->(∀Y,(i,Y)∈ef->Y=X)->cK g ef i=X
 |(j,Y)::r,g,h,hu=>by
  simp only[cK]
  by_cases hr: ∃Z,(i,Z)∈r
  ·obtain⟨Z,hZ⟩:=hr;have:=hu Z (ξ5 _ hZ);subst this;exact uY hZ λW hW=>hu W (ξ5 _ hW)
  ·rw[gC (λZ hZ=>hr ⟨Z,hZ⟩)];rcases ξg.1 h with e|e
   ·cases e;simp
   ·exact absurd ⟨X,e⟩ hr
theorem cv.cX {g:Nat->Option (Ob S)} {ef:Up S} (h:cv A O w g) (hO:OB O w) (e:cW A O w g ef A' O' w'):cv A' O' w' (cK g ef):=by
 have out: ∀i X,(∀Y,(i,Y)∉ef)->cK g ef i=some X->g i=some X:=λi X hi hX=>by rw[gC hi] at hX;exact hX
 have lN: ∀i X Y,(i,Y)∈ef->cK g ef i=some X->(i,some X)∈ef:=λi X Y hi hX=>by
  rw[uY hi λZ hZ=>e.nd i Z Y hZ hi] at hX;subst hX;exact hi
 have Wg: ∀i X p b,(∀Y,(i,Y)∉ef)->g i=some X->A.pl i=some p->dJ w X p b-> ∀j Y q Z,(j,Y)∈ef->g j=some Z->A.pl j=some q-> ¬dJ w Z q b:=by
  intro i X p b hi hX hp hb j Y q Z hj hZ hq;exact h.lE i j X Z p q b (λcC=>by subst cC;exact hi Y hj) hX hZ hp hq hb
 have same: ∀i X p,(∀Y,(i,Y)∉ef)->g i=some X->A.pl i=some p-> ∀b,dJ w X p b->w'.heap[b]? =w.heap[b]? /\b∈O':=λi X p hi hX hp b hb=>
  e.keep b (h.lF hX hp hb) λj Y q hj hq=>by
   obtain⟨Z,hZ⟩:=e.lv j Y q hj hq;exact λeE=>Wg i X p b hi hX hp hb j Y q Z hj hZ hq (.inl eE)
 have back: ∀i X p b,(∀Y,(i,Y)∉ef)->g i=some X->A.pl i=some p->dJ w' X p b->dJ w X p b:=λi X p b hi hX hp=>rI λc hc=>(same i X p hi hX hp c (.inl hc)).1;have fM: ∀i X p,g i=some X->A'.pl i=some p->A.pl i=some p:=λi X p hX hp=>by
  obtain⟨p',cH,_⟩:=h.al i X hX;have:=e.le.at_ _ _ cH;rw[hp] at this;cases this;exact cH
 have VS: ∀i j X Y p q b,(i,some X)∈ef->(∀Z,(j,Z)∉ef)->g j=some Y->A'.pl i=some p->A'.pl j=some q->dJ w' X p b-> ¬dJ w' Y q b:=by
  intro i j X Y p q b hi hj hY hp hq hb eE;obtain⟨p',cH,_,fa⟩:=e.al i X hi;rw[hp] at cH;cases cH;have m4:=fM j Y q hY hq;have eE:=back j Y q b hj hY m4 eE;rcases(fa b hb).2 with dp|⟨k,Z,r,V,hk,hV,hr,wP⟩
  ·have:=hO b (h.lF hY m4 eE);omega
  ·exact Wg j Y q b hj hY m4 eE k Z r V hk hV hr wP
 constructor
 ·intro i X hX
  by_cases hi: ∃Y,(i,Y)∈ef
  ·obtain⟨Y,hY⟩:=hi;obtain⟨p,U,h2,h3⟩:=e.al i X (lN i X Y hY hX);exact⟨p,U,h2,λb hb=>(h3 b (.inl hb)).1⟩
  ·have eh: ∀Y,(i,Y)∉ef:=λY hY=>hi ⟨Y,hY⟩;have hg:=out i X eh hX;obtain⟨p,U,h2,h3⟩:=h.al i X hg;have hk:=same i X p eh hg U;exact⟨p,e.le.at_ _ _ U,h2.keep e.tr e.le hk,λb hb=>(hk b (.inl hb)).2⟩
 ·intro i j X Y p q b aN hX hY hp hq hb
  by_cases hi: ∃Z,(i,Z)∈ef
  ·obtain⟨Z,hZ⟩:=hi;have U:=lN i X Z hZ hX
   by_cases hj: ∃Z,(j,Z)∈ef
   ·obtain⟨Z',Nt⟩:=hj;exact e.dj i j X Y p q b aN U (lN j Y Z' Nt hY) hp hq hb
   ·have qh: ∀Y,(j,Y)∉ef:=λY hY=>hj ⟨Y,hY⟩;exact VS i j X Y p q b U qh (out j Y qh hY) hp hq hb
  ·have eh: ∀Y,(i,Y)∉ef:=λY hY=>hi ⟨Y,hY⟩;have U:=out i X eh hX
   by_cases hj: ∃Z,(j,Z)∈ef
   ·obtain⟨Z',Nt⟩:=hj;intro eE;exact VS j i Y X q p b (lN j Y Z' Nt hY) eh U hq hp eE hb
   ·have qh: ∀Y,(j,Y)∉ef:=λY hY=>hj ⟨Y,hY⟩;have h2:=out j Y qh hY;have cH:=fM i X p U hp;have m4:=fM j Y q h2 hq;exact λeE=>h.lE i j X Y p q b aN U h2 cH m4 (back i X p b eh U cH hb) (back j Y q b qh h2 m4 eE)
theorem cW.none {g:Nat->Option (Ob S)} (hO:OB O w):cW A O w g [] A O w:=
 ⟨Pl.le.refl A,Tr.refl O w,hO,λb hb _=>⟨rfl,hb⟩,(λ_ _ h=>nomatch h),(λ_ _ _ _ _ _ _ _ h=>nomatch h),(λ_ _ _ h=>nomatch h),(λ_ _ _ h=>nomatch h),(λ_=> .inl rfl),(λ_ _ _ h=>nomatch h)⟩
def Pl.put (A:Pl) (i:Nat) (p:Value):Pl:=⟨λj=>bif ζ i j then some p else A.pl j,A.ls⟩
theorem Pl.js (A:Pl) (i:Nat) (p:Value):(A.put i p).pl i=some p:=by simp[Pl.put]
theorem Pl.sF {A:Pl} {i j:Nat} {p:Value} (h:i≠j):(A.put i p).pl j=A.pl j:=by
 have:ζ i j=false:=by
  cases hb:ζ i j with
  |false=>rfl
  |true=>exact absurd (δ hb) h
 simp[Pl.put,this]
theorem Pl.sE {A:Pl} {i:Nat} {p:Value} (h:A.pl i=ζj):A.le (A.put i p):=
 ⟨λj q hj=>(Pl.sF (λe=>by subst e;rw[h] at hj;cases hj)).trans hj,rfl⟩
def dV (A:Pl) (O:List Nat) (w:World) (env:aW S) (a:Act):Prop:= ∀s av,aW.get env s=some av->av.rel A O w (a.tmps.getD s undef)
theorem dV.tr {env:aW S} {a:Act} (h:dV A O w env a) (ht:Tr O w O' w') (hA:A.le A'):dV A' O' w' env a:=λs av hs=>(h s av hs).tr ht hA
def dR (K:bG S) (O:List Nat) (w:World):Prop:= ∀g t x,K.eJ g=some ⟨t,x⟩->(S.ty t).ptr.is O w (.pointer (some ⟨g,0,none⟩)) x
theorem dR.tr {K:bG S} (h:dR K O w) (ht:Tr O w O' w'):dR K O' w':=λg t x hg=>Ty.is.tr (h g t x hg) ht
structure cI (K:bG S) (P:Program):Prop where
 Θ:K.Θ.ok P
 sl: ∀(t:Nat) (I:DS S t),K.sl t=some I->(S.ty t).agg=false/\(∀(O:List Nat) (w:World) (v:Value) (x:S.El t),(S.ty t).is O w v x->(S.ty I.e).slice.is O w v (I.to x))/\ ∀(O:List Nat) (w:World) (v:Value) (xs:List (S.El I.e)),(S.ty I.e).slice.is O w v xs->(S.ty t).is O w v (I.of xs)
 row: ∀(e:Nat) (I:Dn S e),K.row e=some I->(S.ty I.t).agg=false/\ ∀(O:List Nat) (w:World) (v:Value) (xs:List (S.El e)),(S.ty e).slice.is O w v xs->(S.ty I.t).is O w v (I.of xs)
 bA: ∀(A:Pl) (O:List Nat) (w:World) (t:Nat) (x:S.El t) (cs:List Value),(S.ty t).rep O w cs x->bV A O w (K.bA t x).cells cs
 cls: ∀(A:Pl) (O:List Nat) (w:World) (t:Nat) (ls:List (LV S)) (x:S.El t) (cs:List Value),K.cls t ls=some x->bV A O w ls cs->(S.ty t).rep O w cs x
 yX: ∀(A:Pl) (O:List Nat) (w:World) (t:Nat) (ls ms:List (LV S)) (b:Bool) (xs ys:List Value) (ox oy:Operand),K.yX t ls ms=some b->bV A O w ls xs->bV A O w ms ys->
  (do eqGuard .eql t ox oy (.agg xs.toArray) (.agg ys.toArray);binOp .eql t (.agg xs.toArray) (.agg ys.toArray):Sem Value).run P w= .ok (.bool b) w/\
  (do eqGuard .neq t ox oy (.agg xs.toArray) (.agg ys.toArray);binOp .neq t (.agg xs.toArray) (.agg ys.toArray):Sem Value).run P w= .ok (.bool (!b)) w
variable {K:bG S} {P:Program} {env:aW S} {a:Act}
theorem fR (he:dV A O w env a) (hG:dR K O w) {x:Operand} {av:AV S} (h:eR K env x=some av):av.rel A O w (a.eval x):=by
 cases x with
 |tmp t=>exact he t av h
 |const v=>
  simp only[eR] at h;cases hv:v.oneCell'<;>rw[hv] at h
  ·cases h
  ·cases h;exact⟨rfl,hv⟩
 |global g=>
  simp only[eR] at h;split at h
  ·rename_i t x hg;cases h;exact⟨⟨g,0,ζj⟩,rfl,hG g t x hg⟩
  ·cases h
 |func f=>simp only[eR] at h;cases h;exact⟨rfl,rfl⟩
theorem tf (he:dV A O w env a) (hG:dR K O w): ∀ {l:List Operand} {ava:List (aD S)},l7 K env l=some ava->dO A O w ava (l.map a.eval)
 |[],ava,h=>by cases h;rfl
 |x::r,ava,h=>by
  simp only[l7] at h;split at h
  ·rename_i b hb;split at h
   ·rename_i lz has;cases h;exact⟨_,_,rfl,fR he hG hb,tf he hG has⟩
   ·cases h
  ·cases h
theorem cR (he:dV A O w env a) (hG:dR K O w) {x:Operand} {l:LV S} (h:cQ K env x=some l):l.rel A O w [a.eval x]:=by
 unfold cQ at h;split at h
 ·rename_i l' hl;cases h;exact fR he hG hl
 ·cases h
theorem nO (he:dV A O w env a) (hG:dR K O w) {x:Operand} {n:Int} (h:qD K env x=some n): ∃k,a.eval x= .int k n:=by
 unfold qD at h;split at h
 ·rename_i k n' hl;cases h;have:=(fR he hG hl).1;simp at this;exact⟨k,this⟩
 ·cases h
theorem gD {u x:Value} (h:(LV.v u:LV S).rel A O w [x]):x=u:=by have:=h.1;simpa using this
theorem aoo (he:dV A O w env a): ∀l,Has a.tmps.size (uw env l) a.defers a:=by
 intro l;refine⟨rfl,rfl,?_⟩
 induction l with
 |nil=>intro i v h;simp[uw,Env.get] at h
 |cons s r ih=>
  intro i v h;simp only[uw] at h;split at h
  ·rename_i b hb;split at h
   ·rename_i u hu;simp only[Env.get] at h;cases hq:ζ s i with
    |true=>
     rw[hq] at h;have e1:=δ hq;subst e1;simp only[cond_true,ι] at h;subst h;have h2:=he s b hb;unfold AV.known at hu;split at hu
     ·cases hu;exact gD (S:=S) (A:=A) (O:=O) (w:=w) h2
     ·cases hu
    |false=>rw[hq] at h;exact ih i v h
   ·exact ih i v h
  ·exact ih i v h
def afG (a:Act) (bU:Value->World->Prop):Exit->Act->World->Prop
 | .panic ch,a',w'=> ∃u,ch=[{ v:=u,recovered:=false }]/\a'=a/\bU u w'
 |_,_,_=>False
def od (P:Program) (rr:Option Nat) (o:Oper) (a:Act) (w:World) (post bU:Value->World->Prop):Prop:=
 o.wpIn (fw rr) 0 P a w (λa' w'=> ∃v,a'=a.put o.dst v/\post v w') (afG a bU)
variable {rr:Option Nat} {o:Oper} {post bU:Value->World->Prop}
theorem aaK {v:Value} (hc: ∀c,o.op≠ .defer c) (aX:(execOp a.eval o).run P w= .ok (.value v) w') (h:post v w'):od P rr o a w post bU:=by
 refine⟨λ_ _=>trivial,?_⟩;rw[ξm _ _ _ hc,aX];exact⟨v,rfl,h⟩
theorem apF (hc: ∀c,o.op≠ .defer c) (aX:(execOp a.eval o).run P w= .ok .skip w') (h:post undef w'):od P rr o a w post bU:=by
 refine⟨λ_ _=>trivial,?_⟩;rw[ξm _ _ _ hc,aX];exact⟨undef,rfl,h⟩
def Sound (K:bG S) (P:Program) (_:Option Nat) (o:Oper) (env:aW S) (g:Nat->Option (Ob S)) (nx:Nat) (av:AV S) (up:Up S) (nw:AH S):Prop:=
 ∀(rr:Option Nat) (A:Pl) (O:List Nat) (w:World) (a:Act),dV A O w env a->cv A O w g->OB O w->dR K O w->(∀j,j<nw.length->A.pl (nx+j)=ζj)->
  od P rr o a w (λv w'=> ∃A' O',av.rel A' O' w' v/\cW A O w g (up++news nx nw) A' O' w') (λ_ _=>False)
end
section
variable {S:bL} {A:Pl} {O:List Nat} {w:World}
def LV.arr:LV S->Option (Nat×(Nat->LV S))
 | .cd k n gs=>some (n,λj=> .v (.int k (aI gs j)))
 | .dW n bs=>some (n,λj=> .v (.bool (iY bs j)))
 |_=>none
theorem aas {k:IntKind} {gs:List Int} {j:Nat} (h:j<gs.length):(gs.map (ξs k))[j]? =some (.int k (aI gs j)):=by
 unfold aI;rw[ξp,ξ9 h];rfl
theorem aar {bs:List Bool} {j:Nat} (h:j<bs.length):(bs.map ξO)[j]? =some (.bool (iY bs j)):=by
 unfold iY;rw[ξp,ξ9 h];rfl
theorem ahl {l:LV S} {n:Nat} {c:Nat->LV S} {ys:List Value} (h:l.arr=some (n,c)) (hr:l.rel A O w ys):ys.length=n/\ ∀j,j<n-> ∃u,ys[j]? =some u/\(c j).rel A O w [u]:=by
 cases l with
 |cd k m gs=>cases h;obtain⟨U,rfl⟩:=hr;exact⟨by simp[U],λj hj=>⟨_,aas (by omega),rfl,rfl⟩⟩
 |dW m bs=>cases h;obtain⟨U,rfl⟩:=hr;exact⟨by simp[U],λj hj=>⟨_,aar (by omega),rfl,rfl⟩⟩
 |_=>cases h
theorem Vp {l:LV S} (h:l.arr=none):l.sz=1:=by cases l<;>first|rfl|cases h
theorem take_one {xs:List Value} {j:Nat} {u:Value} (h:xs[j]? =some u):(xs.drop j).take 1=[u]:=by
 obtain⟨hl,he⟩:=ν.1 h;rw[ξH hl,List.take_succ_cons,ζa,he]
def Vm (m:Nat) (c:Nat->LV S) (l:LV S) (rec:Nat->Nat->Option (List (LV S))) (off n:Nat):Option (List (LV S)):=
 bif ξb m off then rec (off-m) n
 else bif ζ n 0 then some []
 else bif ζ n 1 then some [c off]
 else bif ζ off 0&&ξb m n then(match rec 0 (n-m) with|some r=>some (l::r)|none=>none)
 else none
def aau (l:LV S) (rec:Nat->Nat->Option (List (LV S))) (off n:Nat):Option (List (LV S)):=
 match off with
 |o+1=>rec o n
 |0=>match n with
  |0=>some []
  |m+1=>match rec 0 m with|some r=>some (l::r)|none=>none
theorem aiW {l:LV S} {m:Nat} {c:Nat->LV S} (h:l.arr=some (m,c)) (ls:List (LV S)) (off n:Nat):gn (l::ls) off n=Vm m c l (gn ls) off n:=by
 cases l<;>first|(cases h;rfl)|cases h
theorem aiX {l:LV S} (h:l.arr=none) (ls:List (LV S)) (off n:Nat):gn (l::ls) off n=aau l (gn ls) off n:=by
 cases l<;>first|(cases off<;>cases n<;>rfl)|cases h
theorem L6 {m n:Nat} (h:ξb m n=false):n<m:=by
 rcases ξC n m with U|U
 ·exact U
 ·rw[Nat.ble_eq.mpr U] at h;cases h
theorem ma: ∀ {ls:List (LV S)} {off n:Nat} {cZ:List (LV S)} {xs:List Value},gn ls off n=some cZ->bV A O w ls xs->bV A O w cZ ((xs.drop off).take n)/\off+n<=xs.length
 |[],off,n,cZ,xs,h,hr=>by
  simp only[gn] at h;cases hb:(ζ n 0&&ζ off 0)<;>rw[hb] at h
  ·cases h
  ·cases h;simp only[μ] at hb;have U:=δ hb.1;have h2:=δ hb.2;subst U;subst h2;rw[show xs=[] from hr];exact⟨rfl,ξ3 _⟩
 |l::ls,off,n,cZ,xs,h,⟨ys,zs,hx,U,h2⟩=>by
  subst hx;cases ha:l.arr with
  |none=>
   rw[aiX ha] at h;have hlen:=U.len;rw[Vp ha] at hlen
   match ys,hlen with
   |[y],_=>
   unfold aau at h;split at h
   ·rename_i o;obtain⟨q1,q2⟩:=ma h h2;exact⟨by simpa using q1,by simp;omega⟩
   ·split at h
    ·cases h;exact⟨by simp[bV],by simp⟩
    ·rename_i m;split at h
     ·rename_i r hr;cases h;obtain⟨q1,q2⟩:=ma hr h2;exact⟨⟨[y],(zs.take m),by simp,U,by simpa using q1⟩,by simp;omega⟩
     ·cases h
  |some mc=>
   obtain⟨m,c⟩:=mc;rw[aiW ha] at h;obtain⟨hl,hc⟩:=ahl ha U;unfold Vm at h;cases hb:ξb m off<;>rw[hb] at h
   ·have ho:=L6 hb;simp only[cond_false] at h;cases GQ:ζ n 0<;>rw[GQ] at h
    rotate_left
    ·cases h;have:=δ GQ;subst this;exact⟨by simp[bV],by simp;omega⟩
    simp only[cond_false] at h;cases cO:ζ n 1<;>rw[cO] at h
    ·simp only[cond_false] at h;cases cM:(ζ off 0&&ξb m n)<;>rw[cM] at h
     ·cases h
     ·simp only[cond_true] at h;simp only[μ] at cM;have ho:=δ cM.1;have hn:=ο cM.2;subst ho;split at h
      ·rename_i r hr;cases h;obtain⟨q1,q2⟩:=ma hr h2;refine⟨⟨ys,_,?_,U,q1⟩,by simp at q2 ⊢;omega⟩;simp only[List.drop_zero];rw[ξY,hl,ξ6 (by omega)]
      ·cases h
    ·cases h;have:=δ cO;subst this;obtain⟨u,hu,mT⟩:=hc off ho;have hc:(ys++zs)[off]? =some u:=by rw[ξI (by omega)];exact hu
     rw[take_one hc];exact⟨⟨_,[],rfl,mT,rfl⟩,by simp;omega⟩
   ·simp only[cond_true] at h;have hn:=ο hb;obtain⟨q1,q2⟩:=ma h h2;refine⟨?_,by simp;omega⟩;rw[ξK,ξB (by omega),hl];exact q1
theorem xB {ys zs us:List Value} {m off:Nat} (hl:ys.length=m) (h:m<=off):putAt (ys++zs) off us=ys++putAt zs (off-m) us:=by
 subst hl;unfold putAt;rw[ξY,ξ6 h,ξK,ξB (by omega)];simp
 congr 1
 omega
theorem Ib {ys zs us vs:List Value} (hl:us.length=ys.length):putAt (ys++zs) 0 (us++vs)=us++putAt zs 0 vs:=by
 unfold putAt;simp only[ζa,ζ2,ξt,χ,ζf];rw[ξK,ξB (by omega)];simp
 congr 1
 omega
theorem Ie {xs:List Value} (off:Nat):putAt xs off []=xs:=by simp[putAt]
theorem xL {α:Type} (f:α->Value) (L:List α) (j:Nat) (x:α) (hj:j<L.length):putAt (L.map f) j [f x]=(L.set j x).map f:=aoG f L j x hj
theorem Bm {ys zs us:List Value} {off:Nat} (h:off+us.length<=ys.length):putAt (ys++zs) off us=putAt ys off us++zs:=by
 unfold putAt;rw[List.take_append_of_le_length (by omega),List.drop_append_of_le_length (by omega)];simp
def QQ (l:LV S) (ls:List (LV S)) (rec:Nat->List (LV S)->Option (List (LV S))) (off:Nat) (ns:List (LV S)):Option (List (LV S)):=
 match off with
 |o+1=>(match rec o ns with|some r=>some (l::r)|none=>none)
 |0=>match ns with
  |[]=>some (l::ls)
  |x::lj=>bif ζ x.sz 1 then(match rec 0 lj with|some r=>some (x::r)|none=>none)
   else match x with
    | .cd k m gs=>(match rec (m-1) lj with
     |some r=>(match gn r (m-1) (fW r-(m-1)) with
      |some rest=>bif ξb 1 m then some (.cd k m gs::rest) else none
      |none=>none)
     |none=>none)
    | .dW m bs=>(match rec (m-1) lj with
     |some r=>(match gn r (m-1) (fW r-(m-1)) with
      |some rest=>bif ξb 1 m then some (.dW m bs::rest) else none
      |none=>none)
     |none=>none)
    |_=>none
theorem ap2 {l:LV S} (h:l.arr=none) (ls:List (LV S)) (off:Nat) (ns:List (LV S)):cL (l::ls) off ns=QQ l ls (cL ls) off ns:=by
 cases l<;>first|(cases off<;>cases ns<;>rfl)|cases h
theorem apY {ys zs u1 u2:List Value} {m:Nat} (hy:ys.length=1) (hm:u1.length=m) (U:1<=m) (hl:m-1+u2.length<=zs.length):putAt (ys++zs) 0 (u1++u2)=u1++(putAt zs (m-1) u2).drop (m-1):=by
 unfold putAt;simp only[ζa,ζ2,ξt,χ,hm,ζf]
 congr 1
 have ht:(zs.take (m-1)).length=m-1:=by rw[ω];omega
 have e1: ∀(X Y:List Value) (n:Nat),X.length=n->(X++Y).drop n=Y:=λX Y n h=>by subst h;simp
 rw[e1 _ _ _ ht,show m+u2.length=ys.length+(m-1+u2.length) by omega,ξK];simp
theorem ap3 {l:LV S} {ls:List (LV S)} (ih: ∀ {off:Nat} {ns cZ:List (LV S)} {xs us:List Value},cL ls off ns=some cZ->bV A O w ls xs->bV A O w ns us->bV A O w cZ (putAt xs off us)/\off+us.length<=xs.length)
  (ha:l.arr=none) {off:Nat} {ns cZ:List (LV S)} {ys zs us:List Value} (h:QQ l ls (cL ls) off ns=some cZ) (U:l.rel A O w ys) (h2:bV A O w ls zs) (hn:bV A O w ns us):bV A O w cZ (putAt (ys++zs) off us)/\off+us.length<=(ys++zs).length:=by
 have hlen:=U.len;rw[Vp ha] at hlen;have whole:bV A O w (l::ls) (ys++zs):=⟨ys,zs,rfl,U,h2⟩;unfold QQ at h;split at h
 ·rename_i o;split at h
  ·rename_i r hr;cases h;obtain⟨q1,q2⟩:=ih hr h2 hn;exact⟨⟨ys,_,by rw[xB hlen (by omega)];rfl,U,q1⟩,by simp;omega⟩
  ·cases h
 ·split at h
  ·cases h;rw[show us=[] from hn,Ie];exact⟨whole,by simp⟩
  ·rename_i x lj;obtain⟨u1,u2,rfl,k1,k2⟩:=hn;cases hx:ζ x.sz 1<;>rw[hx] at h
   ·simp only[cond_false] at h;have fin: ∀ {m:Nat} {x:LV S} {r rest:List (LV S)},u1.length=m->x.rel A O w u1->cL ls (m-1) lj=some r->gn r (m-1) (fW r-(m-1))=some rest->ξb 1 m=true->bV A O w (x::rest) (putAt (ys++zs) 0 (u1++u2))/\0+(u1++u2).length<=(ys++zs).length:=by
     intro m x r rest hm hr hp hc hb;have hb:=ο hb;obtain⟨p1,p2⟩:=ih hp h2 k2;obtain⟨q1,q2⟩:=ma hc p1;have bz:=lV p1;refine⟨⟨u1,_,?_,hr,q1⟩,by simp at q2 ⊢;omega⟩;rw[apY hlen hm hb p2,ξ6 (by rw[ξf];omega)]
    split at h
    ·rename_i k m gs;split at h
     ·rename_i r hp;split at h
      ·rename_i rest hc;cases hb:ξb 1 m<;>rw[hb] at h
       ·cases h
       ·cases h;exact fin k1.len k1 hp hc hb
      ·cases h
     ·cases h
    ·rename_i m gs;split at h
     ·rename_i r hp;split at h
      ·rename_i rest hc;cases hb:ξb 1 m<;>rw[hb] at h
       ·cases h
       ·cases h;exact fin k1.len k1 hp hc hb
      ·cases h
     ·cases h
    ·cases h
   ·simp only[cond_true] at h;have h1x:=δ hx;have hu:=k1.len;split at h
    ·rename_i r hr;cases h;obtain⟨q1,q2⟩:=ih hr h2 k2;exact⟨⟨u1,_,by rw[Ib (by omega)],k1,q1⟩,by simp;omega⟩
    ·cases h
theorem oY: ∀ {ls:List (LV S)} {off:Nat} {ns cZ:List (LV S)} {xs us:List Value},cL ls off ns=some cZ->bV A O w ls xs->bV A O w ns us->bV A O w cZ (putAt xs off us)/\off+us.length<=xs.length
 |[],off,ns,cZ,xs,us,h,hr,hn=>by
  simp only[cL] at h;split at h
  ·cases hb:ζ off 0<;>rw[hb] at h
   ·cases h
   ·cases h;have:=δ hb;subst this;rw[show xs=[] from hr,show us=[] from hn];exact⟨rfl,ξ3 _⟩
  ·cases h
 |l::ls,off,ns,cZ,xs,us,h,⟨ys,zs,hx,U,h2⟩,hn=>by
  subst hx;have hlen:=U.len;cases l with
  |cd k m gs=>
   obtain⟨g1,rfl⟩:=U;have hlen:(gs.map (ξs k)).length=m:=hlen;simp only[cL] at h;cases hb:ξb m off<;>rw[hb] at h
   ·have ho:=L6 hb;simp only[cond_false] at h;split at h
    ·cases h;rw[show us=[] from hn,Ie];exact⟨⟨_,_,rfl,⟨g1,rfl⟩,h2⟩,by simp;omega⟩
    ·rename_i k' x;cases hk:sameKind k k'<;>rw[hk] at h
     ·cases h
     ·cases h;have rZ:=iI hk;subst rZ;obtain⟨u1,u2,rfl,⟨rfl,_⟩,rfl⟩:=hn;have hm:putAt (gs.map (ξs k)++zs) off [ξs k x]=(gs.set off x).map (ξs k)++zs:=by
       rw[Bm (by simp;omega),xL _ _ _ _ (by omega)]
      refine⟨⟨(gs.set off x).map (ξs k),zs,hm,⟨by simp[g1],rfl⟩,h2⟩,by simp;omega⟩
    ·rename_i k' m' wx lj;cases hc:(ζ off 0&&ζ m m')<;>rw[hc] at h
     ·cases h
     ·simp only[cond_true] at h;simp only[μ] at hc;have e1:=δ hc.1;have e2:=δ hc.2;subst e1;subst e2;split at h
      ·rename_i r hr;cases h;obtain⟨u1,u2,rfl,⟨g3,rfl⟩,h4⟩:=hn;obtain⟨q1,q2⟩:=oY hr h2 h4;refine⟨⟨_,_,Ib (by simp;omega),⟨g3,rfl⟩,q1⟩,by simp at q2 ⊢;omega⟩
      ·cases h
    ·cases h
   ·simp only[cond_true] at h;have ho:=ο hb;split at h
    ·rename_i r hr;cases h;obtain⟨q1,q2⟩:=oY hr h2 hn;exact⟨⟨_,_,xB hlen ho,⟨g1,rfl⟩,q1⟩,by simp at hlen ⊢;omega⟩
    ·cases h
  |dW m gs=>
   obtain⟨g1,rfl⟩:=U;have hlen:(gs.map ξO).length=m:=hlen;simp only[cL] at h;cases hb:ξb m off<;>rw[hb] at h
   ·have ho:=L6 hb;simp only[cond_false] at h;split at h
    ·cases h;rw[show us=[] from hn,Ie];exact⟨⟨_,_,rfl,⟨g1,rfl⟩,h2⟩,by simp;omega⟩
    ·rename_i x;cases h;obtain⟨u1,u2,rfl,⟨rfl,_⟩,rfl⟩:=hn;have hm:putAt (gs.map ξO++zs) off [ξO x]=(gs.set off x).map ξO++zs:=by
      rw[Bm (by simp;omega),xL _ _ _ _ (by omega)]
     refine⟨⟨(gs.set off x).map ξO,zs,hm,⟨by simp[g1],rfl⟩,h2⟩,by simp;omega⟩
    ·rename_i m' wx lj;cases hc:(ζ off 0&&ζ m m')<;>rw[hc] at h
     ·cases h
     ·simp only[cond_true] at h;simp only[μ] at hc;have e1:=δ hc.1;have e2:=δ hc.2;subst e1;subst e2;split at h
      ·rename_i r hr;cases h;obtain⟨u1,u2,rfl,⟨g3,rfl⟩,h4⟩:=hn;obtain⟨q1,q2⟩:=oY hr h2 h4;refine⟨⟨_,_,Ib (by simp;omega),⟨g3,rfl⟩,q1⟩,by simp at q2 ⊢;omega⟩
      ·cases h
    ·cases h
   ·simp only[cond_true] at h;have ho:=ο hb;split at h
    ·rename_i r hr;cases h;obtain⟨q1,q2⟩:=oY hr h2 hn;exact⟨⟨_,_,xB hlen ho,⟨g1,rfl⟩,q1⟩,by simp at hlen ⊢;omega⟩
    ·cases h
  |_=>
   rw[ap2 rfl] at h;refine ap3 (λ{off ns cZ xs us} a b c=>oY a b c) rfl h U h2 hn
end
section
variable {S:bL} {K:bG S} {P:Program} {rr:Option Nat} {o:Oper} {env:aW S} {g:Nat->Option (Ob S)} {nx:Nat} {R:Type} {z:R} {k:AV S->Up S->AH S->Option R}
def LO (K:bG S) (P:Program) (o:Oper) (env:aW S) (g:Nat->Option (Ob S)) (av:AV S):Prop:=
 ∀(A:Pl) (O:List Nat) (w:World) (a:Act),dV A O w env a->cv A O w g->OB O w->dR K O w-> ∃v,(execOp a.eval o).run P w= .ok (.value v) w/\av.rel A O w v
theorem LO.sound {av:AV S} (hc: ∀c,o.op≠ .defer c) (h:LO K P o env g av):Sound K P rr o env g nx av [] []:=λ_ A O w a he hg hO hG _=>by
 obtain⟨v,U,h2⟩:=h A O w a he hg hO hG;exact aaK hc U ⟨A,O,h2,cW.none hO⟩
def Good (K:bG S) (P:Program) (rr:Option Nat) (o:Oper) (env:aW S) (g:Nat->Option (Ob S)) (nx:Nat) (k:AV S->Up S->AH S->Option R) (z:R):Prop:=
 ∃av up nw,k av up nw=some z/\Sound K P rr o env g nx av up nw
theorem dX {av:AV S} (hc: ∀c,o.op≠ .defer c) (hk:k av [] []=some z) (h:LO K P o env g av):Good K P rr o env g nx k z:=⟨av,[],[],hk,h.sound hc⟩
theorem L_ {A:Pl} {O:List Nat} {w:World} {i:TI} {ls:List (LV S)} {xs:List Value} {a:aD S} (h:pC (TI.lh i) ls=some a) (hr:bV A O w ls xs):a.rel A O w (Dc.valOf i.isAgg xs)/\(i.isAgg=false->xs.length=1):=by
 unfold pC at h;unfold Dc.valOf;have e:TI.lh i=i.isAgg:=rfl;rw[e] at h;cases hg:i.isAgg<;>rw[hg] at h
 ·simp only[cond_false] at h ⊢;split at h
  ·rename_i l;cases hb:ζ l.sz 1<;>rw[hb] at h
   ·cases h
   ·cases h;obtain⟨ys,zs,rfl,U,h2⟩:=hr;have hz:=δ hb;have hl:=U.len;rw[show zs=[] from h2]
    match ys,hl.trans hz with
    |[y],_=>exact⟨U,λ_=>rfl⟩
  ·cases h
 ·cases h;exact⟨⟨xs,rfl,hr⟩,λe=>by cases e⟩
theorem RJ {w:World} {a:Act} {t:Nat} {x:Operand} {i:TI} {ad:Addr} {cs:List Value} (ah:o.op= .load t x) (h:i.fits P t) (hx:a.eval x= .pointer (some ad)) (hl:cs.length=i.size) (hc:fP w ad cs) (U:i.isAgg=false->i.size=1):
  (execOp a.eval o).run P w= .ok (.value (Dc.valOf i.isAgg cs)) w:=by
 unfold execOp;rw[ah];simp[hx,uS h hl hc U]
theorem mH (b d j:Nat):(⟨b,d,none⟩:Addr).add j=⟨b,d+j,none⟩:=by unfold ζ6;split<;>simp_all
theorem ahq {w:World} {b t off n:Nat} {vs:List Value} (hb:ck w b t vs) (hn:off+n<=vs.length):fP w ⟨b,off,none⟩ ((vs.drop off).take n):=by
 intro j u hj;rw[mH,hb.cell];rw[ξ0] at hj;split at hj
 ·rw[ξ7] at hj;exact hj
 ·cases hj
theorem VB {w:World} {ad:Addr} {cs:List Value} (h:fP w ad cs) (off n:Nat):fP w (ad.add off) ((cs.drop off).take n):=by
 intro j u hj;rw[add_add];rw[ξ0] at hj;split at hj
 ·rw[ξ7] at hj;exact h _ _ hj
 ·cases hj
theorem Bi {α:Type} {T:Ty α} {e B:Nat} {O:List Nat} {w:World} {b n c:Nat} {xs:List α} (h:Dc.Own T e B O w (.slice (some ⟨b,0,none⟩) n c) xs):
  ∃cs cur,w.heap[b]? =some (.cells cur e (0,0))/\cur.toList.take cs.length=cs/\cz T O w cs xs/\n=xs.length/\n<=c/\c<=maxLen/\cur.size=c*T.n/\B<=b:=by
 obtain⟨cs,⟨h0,U⟩,h2⟩:=h.ex;rcases U with⟨h3,_⟩|⟨g',cap,cur,h3,hB,hh,hn,hm,hs,ht⟩
 ·cases h3
 ·cases h3;exact⟨cs,cur,hh,by rw[h0];exact ht,h2,rfl,hn,hm,hs,hB⟩
theorem mD {α:Type} {T:Ty α} {e B:Nat} {O:List Nat} {w:World} {v:Value} {xs:List α} (h:Dc.Own T e B O w v xs):v= .slice none 0 0/\xs=[]\/ ∃b c,v= .slice (some ⟨b,0,none⟩) xs.length c:=by
 obtain⟨cs,⟨h0,U⟩,h2⟩:=h.ex;rcases U with⟨h3,h4⟩|⟨g',cap,cur,h3,hB,hh,hn,hm,hs,ht⟩
 ·exact .inl ⟨h3,List.length_eq_zero_iff.1 h4⟩
 ·exact .inr ⟨g',cap,h3⟩
theorem apL {α:Type} {T:Ty α} {e B:Nat} {O:List Nat} {w:World} {b n c j:Nat} {xs:List α} {x:α} (h:Dc.Own T e B O w (.slice (some ⟨b,0,none⟩) n c) xs) (hj:xs[j]? =some x):
  ∃cs,T.rep O w cs x/\fP w ⟨b,j*T.n,none⟩ cs:=by
 obtain⟨cs,cur,U,h2,h3,_⟩:=Bi h;refine⟨_,h3.at_ hj,λi u hi=>?_⟩;rw[mH,cell_of_row w b _ cur e (0,0) U];have hlen:=T.len (h3.at_ hj);rw[ξ0] at hi;split at hi
 ·rw[ξ7] at hi;have aB:=(ν.1 hi).1;have e2:cs[j*T.n+i]? =cur.toList[j*T.n+i]? :=by
   conv=>lhs;rw[<-h2]
   rw[ξ0,if_pos aB]
  rw[e2] at hi;simpa using hi
 ·cases hi
theorem PM {A:Pl} {O:List Nat} {w:World}: ∀ {ls:List (LV S)} {k:IntKind} {gs:List Int} {xs:List Value},oP ls=some (k,gs)->bV A O w ls xs->xs=gs.map (ξs k)
 |[],_,_,_,h,_=>by cases h
 |l::r,k,gs,xs,h,⟨ys,zs,hx,U,h2⟩=>by
  subst hx;unfold oP at h;split at h
  rotate_left
  ·cases h
  rename_i k' x r' e;cases e;obtain⟨rfl,_⟩:=U;split at h
  ·cases h;rw[show zs=[] from h2];rfl
  ·split at h
   ·rename_i k2 xs2 h3;cases hk:sameKind k' k2<;>rw[hk] at h
    ·cases h
    ·cases h;rw[PM h3 h2,iI hk];rfl
   ·cases h
theorem L7 {A:Pl} {O:List Nat} {w:World}: ∀ {ls:List (LV S)} {gs:List Bool} {xs:List Value},vS ls=some gs->bV A O w ls xs->xs=gs.map ξO
 |[],_,_,h,_=>by cases h
 |l::r,gs,xs,h,⟨ys,zs,hx,U,h2⟩=>by
  subst hx;unfold vS at h;split at h
  rotate_left
  ·cases h
  rename_i x r' e;cases e;obtain⟨rfl,_⟩:=U;split at h
  ·cases h;rw[show zs=[] from h2];rfl
  ·split at h
   ·rename_i xs2 h3;cases h;rw[L7 h3 h2];rfl
   ·cases h
def n5.cells:n5->List Value
 | .i k gs=>gs.map (ξs k)
 | .b bs=>bs.map ξO
theorem yI {A:Pl} {O:List Nat} {w:World} {ls:List (LV S)} {v:n5} {xs:List Value} (h:rq ls=some v) (hr:bV A O w ls xs):xs=v.cells:=by
 unfold rq at h;split at h
 ·cases h;obtain⟨ys,zs,rfl,⟨_,rfl⟩,h2⟩:=hr;rw[show zs=[] from h2];simp[n5.cells]
 ·cases h;obtain⟨ys,zs,rfl,⟨_,rfl⟩,h2⟩:=hr;rw[show zs=[] from h2];simp[n5.cells]
 ·cases hi:oP ls with
  |some p=>
   simp only[hi,ι] at h;subst h;exact PM hi hr
  |none=>
   simp only[hi] at h;cases hb:vS ls with
   |some p=>
    simp only[hb,ι] at h;subst h;exact L7 hb hr
   |none=>simp only[hb] at h;cases h
theorem Vo {A:Pl} {O:List Nat} {w:World} {ls:List (LV S)} {k:IntKind} {gs:List Int} {xs:List Value} {j:Nat} (h:rq ls=some (.i k gs)) (hr:bV A O w ls xs) (hj:j<xs.length):xs[j]? =some (.int k (aI gs j)):=by
 have:=yI h hr;subst this;exact aas (by simpa[n5.cells] using hj)
theorem Vn {A:Pl} {O:List Nat} {w:World} {ls:List (LV S)} {bs:List Bool} {xs:List Value} {j:Nat} (h:rq ls=some (.b bs)) (hr:bV A O w ls xs) (hj:j<xs.length):xs[j]? =some (.bool (iY bs j)):=by
 have:=yI h hr;subst this;exact aar (by simpa[n5.cells] using hj)
theorem amr {t:Nat} {x:Operand} {i:TI} {l:LV S} (hK:cI K P) (ah:o.op= .load t x) (hi:K.Θ.get t=some i) (hx:cQ K env x=some l) (h:Qk K g i (λa=>k (.s a) [] []) l=some z):Good K P rr o env g nx k z:=by
 have hc: ∀c,o.op≠ .defer c:=λc=>by rw[ah];simp
 have fin: ∀ {ls:List (LV S)} {a1:aD S},pC (TI.lh i) ls=some a1->k (.s a1) [] []=some z->
   (∀(A:Pl) (O:List Nat) (w:World) (a:Act),dV A O w env a->cv A O w g->OB O w->dR K O w-> ∃ad xs,a.eval x= .pointer (some ad)/\bV A O w ls xs/\fP w ad xs/\xs.length=i.size)->Good K P rr o env g nx k z:=by
  intro ls a1 U h2 h3;refine dX hc h2 λA O w a he hg hO hG=>?_;obtain⟨ad,xs,q1,q2,q3,q4⟩:=h3 A O w a he hg hO hG;obtain⟨r1,r2⟩:=L_ U q2;exact⟨_,RJ ah (hK.Θ.fits hi) q1 q4 q3 (λe=>q4▸r2 e),r1⟩
 unfold Qk at h;split at h
 ·rename_i b q;split at h
  ·rename_i tb cs hb;split at h
   ·rename_i ls fm;split at h
    ·rename_i a1 mh;refine fin mh h λA O w a he hg hO hG=>?_;obtain⟨m,U,h2⟩:=cR he hG hx;obtain⟨p,hp,⟨m',vs,rfl,hB,hr⟩,_⟩:=hg.al b _ hb;rw[U] at hp;cases hp;obtain⟨r1,r2⟩:=ma fm hr;exact⟨_,_,by simpa using h2,r1,ahq hB r2,by rw[ω,ξf];omega⟩
    ·cases h
   ·cases h
  ·cases h
 ·rename_i b q n j;split at h
  ·rename_i tb cs hb;split at h
   ·rename_i ls fm;have cell: ∀(u:Value),(∀(A:Pl) (O:List Nat) (w:World) (xs:List Value),bV A O w ls xs->j<xs.length->xs[j]? =some u)->u.oneCell'=true->ζ i.size 1&&!(TI.lh i)->k (.s (.one (.v u))) [] []=some z->Good K P rr o env g nx k z:=by
     intro u hu h1u bz hk;simp only[μ,ξq] at bz;have hs:=δ bz.1;have kF:i.isAgg=false:=bz.2;refine dX hc hk λA O w a he hg hO hG=>?_;obtain⟨m,U,h2,hj⟩:=cR he hG hx;obtain⟨p,hp,⟨m',vs,rfl,hB,hr⟩,_⟩:=hg.al b _ hb;rw[U] at hp;cases hp;obtain⟨r1,r2⟩:=ma fm hr;have hv:=hu _ _ _ _ r1 (by rw[ω,ξf];omega);rw[ξ0,if_pos hj,ξ7] at hv;have tQ:fP w ⟨m,q+j,none⟩ [u]:=λi u' hi=>by
      match i,hi with
      |0,hi=>simp at hi;subst hi;rw[mH,hB.cell];simpa using hv
      |i+1,hi=>simp at hi
     refine⟨_,RJ (cs:=[u]) ah (hK.Θ.fits hi) (by simpa using h2) hs.symm tQ (λ_=>hs),?_⟩;rw[kF];exact⟨rfl,h1u⟩
    split at h
    ·rename_i kk gs ml;cases cO:(ζ i.size 1&&!(TI.lh i))<;>rw[cO] at h
     ·cases h
     ·exact cell _ (λA O w xs hr hj=>Vo ml hr hj) rfl cO h
    ·rename_i bs fa;cases cO:(ζ i.size 1&&!(TI.lh i))<;>rw[cO] at h
     ·cases h
     ·exact cell _ (λA O w xs hr hj=>Vn fa hr hj) rfl cO h
    ·cases h
   ·cases h
  ·cases h
 ·rename_i e r j q;split at h
  ·rename_i e' xs hb;cases tU:ζ e e'<;>rw[tU] at h
   ·cases h
   ·simp only[cond_true] at h;have Ot:=δ tU;subst Ot;obtain⟨y,hy,h⟩:=bind_some h;split at h
    ·rename_i ls fm;split at h
     ·rename_i a1 mh;refine fin mh h λA O w a he hg hO hG=>?_;obtain⟨m,n,c,U,h2⟩:=cR he hG hx;obtain⟨p,hp,hB,_⟩:=hg.al r _ hb;rw[U] at hp;cases hp;obtain⟨cs,hr,fi⟩:=apL hB hy;obtain⟨r1,r2⟩:=ma fm (hK.bA A O w e y cs hr);have:=VB fi q i.size;rw[mH] at this;exact⟨_,_,by simpa using h2,r1,this,by rw[ω,ξf];omega⟩
     ·cases h
    ·cases h
  ·cases h
 ·rename_i t' y q;split at h
  ·rename_i ls fm;split at h
   ·rename_i a1 mh;refine fin mh h λA O w a he hg hO hG=>?_;obtain⟨ad,U,cs,⟨EY,es,h2,_,_,hr,fi⟩,h3⟩:=cR he hG hx;subst h2;have h3:Value.pointer (some ad)= .pointer (some EY):=h3;cases h3;obtain⟨r1,r2⟩:=ma fm (hK.bA A O w t' y es hr);exact⟨_,_,by simpa using U,r1,VB fi.1 q i.size,by rw[ω,ξf];omega⟩
   ·cases h
  ·cases h
 ·cases h
end
section
variable {S:bL} {K:bG S} {P:Program} {rr:Option Nat} {o:Oper} {env:aW S} {g:Nat->Option (Ob S)} {nx:Nat} {R:Type} {z:R} {k:AV S->Up S->AH S->Option R}
theorem zo (hK:cI K P) (hc: ∀c,o.op≠ .defer c) (h:plain K env o.op (λa=>k a [] [])=some z):Good K P rr o env g nx k z:=by
 unfold plain at h;cases hg:nD K.Θ o.op<;>rw[hg] at h
 ·cases h
 ·simp only[cond_true] at h;split at h
  ·rename_i v hv;cases U:v.oneCell'<;>rw[U] at h
   ·cases h
   ·exact dX hc h λA O w a he _ _ _=>⟨v,IC hK.Θ (aoo he _) hg hv,rfl,U⟩
  ·cases h
theorem WV (hK:cI K P) {x:Operand} (ah:o.op= .move x\/o.op= .assign x) {av:AV S} (hx:eR K env x=some av) (h:k av [] []=some z):Good K P rr o env g nx k z:=by
 have hc: ∀c,o.op≠ .defer c:=λc=>by rcases ah with ah|ah<;>rw[ah]<;>simp
 refine dX hc h λA O w a he hg hO hG=>⟨a.eval x,?_,fR he hG hx⟩;unfold execOp;rcases ah with ah|ah<;>rw[ah]<;>rfl
theorem amj {x:Operand} {i:Nat} (ah:o.op= .extract x i) {ava:List (aD S)} {b:aD S} (hx:eR K env x=some (.bD ava)) (hb:ava[i]? =some b) (h:k (.s b) [] []=some z):Good K P rr o env g nx k z:=by
 refine dX (λc=>by rw[ah];simp) h λA O w a he hg hO hG=>?_;obtain⟨xs,U,h2⟩:=fR he hG hx;obtain⟨y,h3,h4⟩:=abv h2 hb;refine⟨y,?_,h4⟩;unfold execOp;rw[ah];simp[U,η7,h3]
theorem aa1 {A:Pl} {O:List Nat} {w:World} {l:LV S} {x:Value} (hp:l.Hw=true) (h:l.rel A O w [x]): ∃ad,x= .pointer (some ad):=by
 cases l with
 |bp i q=>obtain⟨b,_,h⟩:=h;exact⟨_,by simpa using h⟩
 |jg i q n j=>obtain⟨b,_,h,_⟩:=h;exact⟨_,by simpa using h⟩
 |fl e i j q=>obtain⟨b,n,c,_,h⟩:=h;exact⟨_,by simpa using h⟩
 |ptr t d q=>obtain⟨ad,h,_⟩:=h;exact⟨_,by simpa using h⟩
 |_=>cases hp
theorem F3 {x:Operand} (ah:o.op= .nilCheck x) {l:LV S} (hx:cQ K env x=some l) (hp:l.Hw=true) (h:k (.s (.one l)) [] []=some z):Good K P rr o env g nx k z:=by
 refine dX (λc=>by rw[ah];simp) h λA O w a he hg hO hG=>?_;have hl:=cR he hG hx;obtain⟨ad,zS⟩:=aa1 hp hl;refine⟨a.eval x,?_,hl⟩;unfold execOp;rw[ah];simp[zS]
theorem alT (xs:List Value) (m n:Nat):xs.toArray.extract m (m+n)=((xs.drop m).take n).toArray:=by simp
theorem amk (hK:cI K P) {t f:Nat} {x:Operand} (ah:o.op= .field t x f) {ls cZ:List (LV S)} {off n:Nat} {ag:Bool} {b:aD S} (hx:eR K env x=some (.s (.agg ls))) (hf:wm K t f=some (off,n,ag)) (hl:gn ls off n=some cZ) (hb:pC ag cZ=some b) (h:k (.s b) [] []=some z):Good K P rr o env g nx k z:=by
 refine dX (λc=>by rw[ah];simp) h λA O w a he hg hO hG=>?_;unfold wm at hf;split at hf
 rotate_left
 ·cases hf
 rename_i i hi;cases ht:ζ i.tag 8<;>rw[ht] at hf
 ·cases hf
 simp only[cond_true] at hf;split at hf
 rotate_left
 ·cases hf
 rename_i ft QN Ag;split at hf
 rotate_left
 ·cases hf
 rename_i j hj;simp only[ι,ξP] at hf;obtain⟨rfl,rfl,rfl⟩:=hf;obtain⟨xs,U,h2⟩:=fR he hG hx;obtain⟨r1,r2⟩:=ma hl h2;obtain⟨q1,q2⟩:=L_ hb r1;refine⟨_,?_,q1⟩;have aX:=abY (P:=P) (w:=w) (cs:=xs.toArray) (v:=Dc.valOf j.isAgg ((xs.drop QN).take j.size)) hK.Θ hi (δ ht) Ag hj (by
  have e:(ζ j.tag 8||ζ j.tag 6)=j.isAgg:=rfl;rw[e];cases kF:j.isAgg with
  |true=>
   rw[alT];rfl
  |false=>
   have hlen:=q2 kF;rw[ω,ξf] at hlen;have bz:j.size=1:=by omega
   have aB:QN<xs.length:=by omega
   rw[bz,take_one (ξ9 aB)];simp[Dc.valOf,aB])
 unfold execOp;rw[ah];simp[U,aX]
theorem Nk (hK:cI K P) {t f:Nat} {x:Operand} (ah:o.op= .fieldAddr t x f) {off n:Nat} {ag:Bool} {l l':LV S} (hx:cQ K env x=some l) (hf:wm K t f=some (off,n,ag)) (hn:ζ n 0=false)
  (hl: ∀(A:Pl) (O:List Nat) (w:World) (x:Value),l.rel A O w [x]-> ∃ad,x= .pointer (some ad)/\l'.rel A O w [.pointer (some (ad.add off))]) (h:k (.s (.one l')) [] []=some z):Good K P rr o env g nx k z:=by
 refine dX (λc=>by rw[ah];simp) h λA O w a he hg hO hG=>?_;unfold wm at hf;split at hf
 rotate_left
 ·cases hf
 rename_i i hi;cases ht:ζ i.tag 8<;>rw[ht] at hf
 ·cases hf
 simp only[cond_true] at hf;split at hf
 rotate_left
 ·cases hf
 rename_i ft QN Ag;split at hf
 rotate_left
 ·cases hf
 rename_i j hj;simp only[ι,ξP] at hf;obtain⟨rfl,rfl,rfl⟩:=hf;obtain⟨ad,U,h2⟩:=hl A O w _ (cR he hG hx);refine⟨_,?_,h2⟩;have aX:=abZ (P:=P) (w:=w) (A:=ad) hK.Θ hi (δ ht) Ag hj (by intro e;rw[e] at hn;cases hn);unfold execOp;rw[ah];simp[U,aX]
theorem ID {w:World} {t:Nat} {ti te:TI} (aO:K.Θ.ok P) (ht:K.Θ.get t=some ti) (h5:ti.tag=5) (ct:K.Θ.get ti.e=some te) {ad:Addr} {n c:Nat} {k:IntKind} {j:Int} (h0:0<=j) (hj:j.toNat<n):
  (ξv t (.slice (some ad) n c) (.int k j)).run P w= .ok (.pointer (some (ad.add (j.toNat*te.size)))) w:=by
 have hu:=(aO.fits ht).slice h5;simp only[η,ξv,asIntOf,κ,ε,run_underlying hu];rw[if_pos ⟨h0,by omega⟩];simp only[η,gf (aO.fits ct),ε];rfl
theorem ab0 {w:World} {t:Nat} {ti te:TI} (aO:K.Θ.ok P) (ht:K.Θ.get t=some ti) (h6:ti.tag=6) (ct:K.Θ.get ti.e=some te) {ad:Addr} {k:IntKind} {j:Int} (h0:0<=j) (hj:j.toNat<ti.k):
  (ξv t (.pointer (some ad)) (.int k j)).run P w= .ok (.pointer (some (ad.add (j.toNat*te.size)))) w:=by
 have hu:=(aO.fits ht).array h6;simp only[η,ξv,asIntOf,κ,ε,run_underlying hu,ξA];rw[if_pos ⟨h0,by omega⟩];simp only[η,gf (aO.fits ct),ε,ξA,κ]
theorem arM {w:World} {t:Nat} {ti te:TI} (aO:K.Θ.ok P) (ht:K.Θ.get t=some ti) (h5:ti.tag=5) (ct:K.Θ.get ti.e=some te) {v:Value} {α:Type} {T:Ty α} {xs:List α} {y:α} {O1:List Nat} {w1:World} (hv:T.slice.is O1 w1 v xs) (hn:T.n=te.size) {k:IntKind} {j:Int} (h0:0<=j) (hj:xs[j.toNat]? =some y):
  ∃p,(ξv t v (.int k j)).run P w= .ok p w/\T.ptr.is O1 w1 p y:=by
 obtain⟨A,c,rfl,_,_⟩:=iJ hv;obtain⟨ad,rfl,hp⟩:=RX hv hj;have aB:j.toNat<xs.length:=(ν.1 hj).1;exact⟨_,ID aO ht h5 ct h0 aB,by rw[<-hn];exact hp⟩
theorem Hs {j:Int} {n m:Nat} (h:fq j n=some m):j=(m:Int)/\m<n:=by
 unfold fq at h;split at h
 ·cases h;omega
 ·cases h
theorem WS (hK:cI K P) {t:Nat} {x y:Operand} (ah:o.op= .indexAddr t x y) (h:HV K env g k t x y=some z):Good K P rr o env g nx k z:=by
 have hc: ∀c,o.op≠ .defer c:=λc=>by rw[ah];simp
 unfold HV at h;split at h
 rotate_left
 ·cases h
 rename_i i l j hi hx hy;split at h
 ·rename_i t' xs;split at h
  rotate_left
  ·cases h
  rename_i I hI;split at h
  rotate_left
  ·cases h
  rename_i ie dY;cases hb:(ζ i.tag 5&&ζ (S.ty I.e).n ie.size)<;>rw[hb] at h
  ·cases h
  simp only[cond_true,μ] at h hb;obtain⟨y',iU,h⟩:=bind_some h;obtain⟨h0,hj⟩:=so iU;refine dX hc h λA O w a he hg hO hG=>?_;obtain⟨v,hv,hs,_⟩:=cR he hG hx;obtain⟨kk,hk⟩:=nO he hG hy;have k_:=(hK.sl t' I hI).2.1 O w v xs hs;obtain⟨q,Pe,hq2⟩:=arM (P:=P) (w:=w) hK.Θ hi (δ hb.1) dY k_ (δ hb.2) (k:=kk) h0 hj;have hv:a.eval x=v:=by simpa using hv
  refine⟨q,?_,?_⟩
  ·unfold execOp;rw[ah];simp[hv,hk,Pe]
  ·obtain⟨cs,⟨ad,es,e1,e2⟩,e3⟩:=hq2;have e4:q= .pointer (some ad):=by rw[e3,e1];rfl
   exact⟨ad,by rw[e4];rfl,cs,⟨ad,es,e1,e2⟩,by rw[<-e4,e3]⟩
 ·rename_i r;split at h
  rotate_left
  ·cases h
  rename_i e xs hr;split at h
  rotate_left
  ·cases h
  rename_i ie dY;cases hb:(ζ i.tag 5&&ζ (S.ty e).n ie.size)<;>rw[hb] at h
  ·cases h
  simp only[cond_true,μ] at h hb;obtain⟨y',iU,h⟩:=bind_some h;obtain⟨h0,hj⟩:=so iU;have aB:=(ν.1 hj).1;refine dX hc h λA O w a he hg hO hG=>?_;obtain⟨v,hA,hv,_⟩:=cR he hG hx;obtain⟨kk,hk⟩:=nO he hG hy;obtain⟨p,hp,hB,_⟩:=hg.al r _ hr;rw[hA] at hp;cases hp;have hv:a.eval x=v:=by simpa using hv
  rcases mD hB with⟨rfl,rfl⟩|⟨m,c,rfl⟩
  ·simp at aB
  ·have:=ID (P:=P) (w:=w) (ad:=⟨m,0,none⟩) (n:=xs.length) (c:=c) (k:=kk) hK.Θ hi (δ hb.1) dY h0 aB;refine⟨.pointer (some ((⟨m,0,none⟩:Addr).add (j.toNat*ie.size))),?_,m,_,c,hA,?_⟩
   ·unfold execOp;rw[ah];simp only[hv,hk,η,this,ε];rfl
   ·rw[mH,δ hb.2];simp
 ·rename_i b q;split at h
  rotate_left
  ·cases h
  rename_i ie dY;split at h
  ·rename_i ky m;cases hb:(ζ i.tag 6&&(ξ2 m i.k&&ξ2 0 ie.size))<;>rw[hb] at h
   ·cases h
   simp only[cond_true,μ] at h hb;refine dX hc h λA O w a he hg hO hG=>?_;obtain⟨m',hA,hv⟩:=cR he hG hx;have hv:a.eval x= .pointer (some ⟨m',q,none⟩):=by simpa using hv
   refine⟨.pointer (some ((⟨m',q,none⟩:Addr).add ((ζZ m).toNat*ie.size))),?_,m',hA,?_⟩
   ·unfold execOp;rw[ah];have hk:a.eval (Operand.const (ξs ky (ζZ m)))= .int ky (ζZ m):=rfl;simp only[hv,hk];have:=ab0 (P:=P) (w:=w) (ad:=⟨m',q,none⟩) (k:=ky) (j:=ζZ m) hK.Θ hi (δ hb.1) dY (ζ7 m) (ξM.mp hb.2.1);simp only[η,this,ε];rfl
   ·rw[mH];simp
  ·cases hb:(ζ i.tag 6&&ζ ie.size 1)<;>rw[hb] at h
   ·cases h
   simp only[cond_true,μ] at h hb;obtain⟨m,hm,h3⟩:=bind_some h;obtain⟨rfl,aB⟩:=Hs hm;refine dX hc h3 λA O w a he hg hO hG=>?_;obtain⟨m',hA,hv⟩:=cR he hG hx;obtain⟨kk,hk⟩:=nO he hG hy;have hv:a.eval x= .pointer (some ⟨m',q,none⟩):=by simpa using hv
   have:=ab0 (P:=P) (w:=w) (ad:=⟨m',q,none⟩) (k:=kk) (j:=(m:Int)) hK.Θ hi (δ hb.1) dY (ζ7 m) (by simpa using aB);refine⟨.pointer (some ((⟨m',q,none⟩:Addr).add ((m:Int).toNat*ie.size))),?_,m',hA,?_,aB⟩
   ·unfold execOp;rw[ah];simp only[hv,hk,η,this,ε];rfl
   ·rw[mH,δ hb.2];simp
 ·rename_i b q n;split at h
  rotate_left
  ·cases h
  rename_i ie dY;cases hb:(ζ i.tag 5&&ζ ie.size 1)<;>rw[hb] at h
  ·cases h
  simp only[cond_true,μ] at h hb;obtain⟨m,hm,h3⟩:=bind_some h;obtain⟨rfl,aB⟩:=Hs hm;refine dX hc h3 λA O w a he hg hO hG=>?_;obtain⟨m',hA,hv⟩:=cR he hG hx;obtain⟨kk,hk⟩:=nO he hG hy;have hv:a.eval x= .slice (some ⟨m',q,none⟩) n n:=by simpa using hv
  have:=ID (P:=P) (w:=w) (ad:=⟨m',q,none⟩) (n:=n) (c:=n) (k:=kk) (j:=(m:Int)) hK.Θ hi (δ hb.1) dY (ζ7 m) (by simpa using aB);refine⟨.pointer (some ((⟨m',q,none⟩:Addr).add ((m:Int).toNat*ie.size))),?_,m',hA,?_,aB⟩
  ·unfold execOp;rw[ah];simp only[hv,hk,η,this,ε];rfl
  ·rw[mH,δ hb.2];simp
 ·cases h
end
section
variable {S:bL} {K:bG S} {P:Program} {rr:Option Nat} {o:Oper} {env:aW S} {g:Nat->Option (Ob S)} {nx:Nat} {R:Type} {z:R} {k:AV S->Up S->AH S->Option R}
theorem Bg {A:Pl} {O:List Nat} {w:World} {a:Act} (he:dV A O w env a) (hG:dR K O w) {x:Option Operand} {p:Option (IntKind×Int)} (h:uC K env x=some p):x.map a.eval=p.map lO:=by
 cases x with
 |none=>cases h;rfl
 |some x=>
  simp only[uC] at h;split at h
  ·rename_i kk n hx;cases h;have:=(fR he hG hx).1;simp at this;simp[this,lO]
  ·cases h
theorem amB (hK:cI K P) {t:Nat} {x:Operand} {lo hi mx:Option Operand} (ah:o.op= .slice t x lo hi mx) (h:QI K env k t x lo hi mx=some z):Good K P rr o env g nx k z:=by
 have hc: ∀c,o.op≠ .defer c:=λc=>by rw[ah];simp
 unfold QI at h;split at h
 rotate_left
 ·cases h
 rename_i i l eh hx;split at h
 ·rename_i t' xs;split at h
  rotate_left
  ·cases h
  rename_i I hI;split at h
  rotate_left
  ·cases h
  rename_i ie dY;split at h
  rotate_left
  ·cases h
  rename_i p q r hp hq hr;cases hb:(ζ i.tag 5&&ζ (S.ty I.e).n ie.size)<;>rw[hb] at h
  ·cases h
  simp only[cond_true,μ] at h hb;obtain⟨ys,ej,h3⟩:=bind_some h;refine dX hc h3 λA O w a he hg hO hG=>?_;obtain⟨v,hv,hs,kF⟩:=cR he hG hx;have hv:a.eval x=v:=by simpa using hv
  obtain⟨v',aX,jJ⟩:=IB (P:=P) (w:=w) hK.Θ eh (δ hb.1) dY (δ hb.2) ((hK.sl t' I hI).2.1 O w v xs hs) ej;refine⟨v',?_,v',rfl,(hK.sl t' I hI).2.2 O w v' ys jJ,kF⟩;unfold execOp;rw[ah];simp only[η,hv,Bg he hG hp,Bg he hG hq,Bg he hG hr,aX];rfl
 ·rename_i b q;split at h
  rotate_left
  ·cases h
  rename_i ie dY;cases hb:(ζ i.tag 6&&(ζ ie.size 1&&ξb i.k 16777216))<;>rw[hb] at h
  ·cases h
  simp only[cond_true,μ] at h hb;refine dX hc h λA O w a he hg hO hG=>?_;obtain⟨m,hA,hv⟩:=cR he hG hx;have hv:a.eval x= .pointer (some ⟨m,q,none⟩):=by simpa using hv
  refine⟨.slice (some ⟨m,q,none⟩) i.k i.k,?_,m,hA,rfl⟩;have hu:=(hK.Θ.fits eh).array (δ hb.1);have fH:=xK (P:=P) (w:=w) (b:=false) (n:=i.k) (c:=i.k) (lo:=none) (hi:=none) (mx:=none) (ξ3 _) (by simp) (by simp) (by simp) (by simp) (by simp);simp only[ξe,ξJ] at fH;unfold execOp;rw[ah];simp only[ξe,η,hv,ξx,run_underlying hu,ε,ξA,κ,fH,gf (hK.Θ.fits dY)];have e:(⟨m,q,none⟩:Addr).add 0=⟨m,q,none⟩:=by unfold ζ6;simp
  simp[e]
 ·rename_i s;split at h
  rotate_left
  ·cases h
  rename_i p q hp hq;cases hb:ζ i.tag 3<;>rw[hb] at h
  ·cases h
  simp only[cond_true] at h;obtain⟨u,hu,h3⟩:=bind_some h;refine dX hc h3 λA O w a he hg hO hG=>?_;have hv:=gD (cR he hG hx);refine⟨_,?_,rfl,rfl⟩;unfold iP at hu;split at hu
  rotate_left
  ·cases hu
  rename_i pZ;cases hu;have anR:=(hK.Θ.fits eh).string (δ hb);have fH:=xK (P:=P) (w:=w) (b:=false) (n:=s.size) (c:=s.size) (lo:=p) (hi:=q) (mx:=none) (ξ3 _) pZ.1 pZ.2.1 (by simpa using pZ.2.2) (by simp) (by simp);simp only[ξe,ξJ] at fH;unfold execOp;rw[ah];simp only[η,hv,Bg he hG hp,Bg he hG hq,ξe,ξx,ζy,run_underlying anR,ε];simp[fH]
 ·cases h
theorem WX {c x y:Operand} (ah:o.op= .pick c x y) {t:Bool} {av:AV S} (hx:cQ K env c=some (.v (.bool t))) (hv:(bif t then eR K env x else eR K env y)=some av) (h:k av [] []=some z):Good K P rr o env g nx k z:=by
 refine dX (λc=>by rw[ah];simp) h λA O w a he hg hO hG=>?_;have XO:=gD (cR he hG hx);cases t with
 |true=>
  refine⟨a.eval x,?_,fR he hG hv⟩;unfold execOp;rw[ah];simp[XO,asBool]
 |false=>
  refine⟨a.eval y,?_,fR he hG hv⟩;unfold execOp;rw[ah];simp[XO,asBool]
theorem aaU {y:Int} {kk:LV S->Option R}: ∀ {ls:List (LV S)} {n:Nat},H_ kk y n ls=some z-> ∃(l:LV S) (j:Nat),j<ls.length/\y=((n+j:Nat):Int)/\kk l=some z/\ ∀(A:Pl) (O:List Nat) (w:World) (xs:List Value),bV A O w ls xs-> ∃u,xs[j]? =some u/\l.rel A O w [u]
 |[],n,h=>by cases h
 |l::ls,n,h=>by
  unfold H_ at h;cases hb:ζ l.sz 1<;>rw[hb] at h
  ·cases h
  have bz:=δ hb;simp only[cond_true] at h;cases hy:(y==(n:Int))<;>rw[hy] at h
  ·obtain⟨l',j,h0,U,h2,h3⟩:=aaU (ls:=ls) h;refine⟨l',j+1,by simp;omega,by omega,h2,?_⟩;rintro A O w xs ⟨ys,zs,rfl,k1,k2⟩;have hl:=k1.len;rw[bz] at hl;obtain⟨u,h4,h5⟩:=h3 _ _ _ _ k2;refine⟨u,?_,h5⟩;rw[ξF (by omega),hl];simpa using h4
  ·refine⟨l,0,by simp,by simpa using eq_of_beq hy,h,?_⟩;rintro A O w xs ⟨ys,zs,rfl,k1,k2⟩;have hl:=k1.len;rw[bz] at hl
   match ys,hl with
   |[u],_=>exact⟨u,rfl,k1⟩
theorem amn (hK:cI K P) {t:Nat} {x y:Operand} (ah:o.op= .index t x y) (h:QB K env k t x y=some z):Good K P rr o env g nx k z:=by
 have hc: ∀c,o.op≠ .defer c:=λc=>by rw[ah];simp
 unfold QB at h;split at h
 rotate_left
 ·cases h
 rename_i i j hi hy;split at h
 ·rename_i ls hx;split at h
  rotate_left
  ·cases h
  rename_i ie dY;cases hb:(ζ i.tag 6&&(ζ i.k (fW ls)&&(ζ ie.size 1&&!(TI.lh ie))))<;>rw[hb] at h
  ·cases h
  simp only[cond_true,μ,ξq] at h hb;have h6:=δ hb.1;have qj:=δ hb.2.1;have U:=δ hb.2.2.1;have kF:ie.isAgg=false:=hb.2.2.2;have fin: ∀ {l:LV S} {j':Nat},j=(j':Int)->k (.s (.one l)) [] []=some z->(∀(A:Pl) (O:List Nat) (w:World) (xs:List Value),bV A O w ls xs-> ∃u,xs[j']? =some u/\l.rel A O w [u])->Good K P rr o env g nx k z:=by
   intro l j' q1 q2 q3;refine dX hc q2 λA O w a he hg hO hG=>?_;obtain⟨xs,h2,h3⟩:=fR he hG hx;obtain⟨kk,hk⟩:=nO he hG hy;obtain⟨u,hu,hlu⟩:=q3 _ _ _ _ h3;refine⟨u,?_,hlu⟩;have r_:=(hK.Θ.fits hi).array h6;have aB:j'<i.k:=by
    have h4:=(ν.1 hu).1;rw[lV h3,<-qj] at h4;exact h4
   unfold execOp;rw[ah];simp only[η,h2,hk,ηl,asIntOf,κ,ε,run_underlying r_];rw[if_pos ⟨by omega,by omega⟩];have ee:=PO (P:=P) (w:=w) (hK.Θ.fits dY);have j6:(ζ ie.tag 8||ζ ie.tag 6)=false:=kF;subst q1;simp[part,gf (hK.Θ.fits dY),ee,j6,U,hu]
  split at h
  ·rename_i kk gs ml;obtain⟨m,hm,h3⟩:=bind_some h;obtain⟨m1,m2⟩:=Hs hm;exact fin m1 h3 λA O w xs hr=>⟨_,Vo ml hr (by rw[lV hr,<-qj];exact m2),rfl,rfl⟩
  ·rename_i bs ml;obtain⟨m,hm,h3⟩:=bind_some h;obtain⟨m1,m2⟩:=Hs hm;exact fin m1 h3 λA O w xs hr=>⟨_,Vn ml hr (by rw[lV hr,<-qj];exact m2),rfl,rfl⟩
  ·obtain⟨l,j',q0,q1,q2,q3⟩:=aaU h;exact fin (by rw[q1,ξt]) q2 q3
 ·rename_i s hx;cases hb:ζ i.tag 3<;>rw[hb] at h
  ·cases h
  simp only[cond_true] at h;obtain⟨u,hu,h3⟩:=bind_some h;refine dX hc h3 λA O w a he hg hO hG=>?_;have hv:a.eval x= .string s:=gD (S:=S) (A:=A) (O:=O) (w:=w) (fR he hG hx);obtain⟨kk,hk⟩:=nO he hG hy;refine⟨_,?_,rfl,rfl⟩;unfold acU at hu;split at hu
  ·rename_i h0;obtain⟨b,fH,rfl⟩:=ζn.1 hu;unfold execOp;rw[ah];simp only[η,hv,hk,ηl,asIntOf,κ,ε,run_underlying ((hK.Θ.fits hi).string (δ hb)),if_pos h0,fH]
  ·cases hu
 ·cases h
end
section
variable {S:bL} {K:bG S} {P:Program} {rr:Option Nat} {o:Oper} {env:aW S} {g:Nat->Option (Ob S)} {nx:Nat} {R:Type} {z:R} {k:AV S->Up S->AH S->Option R}
theorem yK {b:BinOp} {t t':Nat} {x y:Operand} (ah:o.op= .binOp b t x y t') {w:World} {a:Act} {u v r:Value} (hx:a.eval x=u) (hy:a.eval y=v)
  (h:(do eqGuard b t x y u v;binOp b t u v:Sem Value).run P w= .ok r w):(execOp a.eval o).run P w= .ok (.value r) w:=by
 unfold execOp;rw[ah];simp only[η] at h ⊢;rw[hx,hy,h];rfl
theorem amc (hK:cI K P) {b:BinOp} {t t':Nat} {x y:Operand} (ah:o.op= .binOp b t x y t') (h:Qv K env k b t x y t'=some z):Good K P rr o env g nx k z:=by
 have hc: ∀c,o.op≠ .defer c:=λc=>by rw[ah];simp
 have pl:plain K env (.binOp b t x y t') (λa=>k a [] [])=some z->Good K P rr o env g nx k z:=λh=>zo hK hc (by rw[ah];exact h);unfold Qv at h;split at h
 ·rename_i ls hx;split at h
  rotate_left
  ·cases h
  rename_i ms hy;split at h
  rotate_left
  ·cases h
  rename_i q hq;split at h
  ·refine dX hc h λA O w a he hg hO hG=>?_;obtain⟨xs,U,h2⟩:=fR he hG hx;obtain⟨ys,h3,h4⟩:=fR he hG hy;exact⟨_,yK ah U h3 (hK.yX A O w t ls ms q xs ys x y hq h2 h4).1,rfl,rfl⟩
  ·refine dX hc h λA O w a he hg hO hG=>?_;obtain⟨xs,U,h2⟩:=fR he hG hx;obtain⟨ys,h3,h4⟩:=fR he hG hy;exact⟨_,yK ah U h3 (hK.yX A O w t ls ms q xs ys x y hq h2 h4).2,rfl,rfl⟩
  ·cases h
 ·rename_i l hx;have hl:cQ K env x=some l:=by unfold cQ;rw[hx]
  cases hn:(l.Hw&&isNil y)<;>rw[hn] at h
  ·simp only[cond_false] at h;split at h
   ·rename_i kx m ky n t5 hy;have two: ∀ {r:Value} {A:Pl} {O:List Nat} {w:World} {a:Act},dV A O w env a->dR K O w->(do eqGuard b t x (.tmp t5) (.int kx m) (.int ky n);binOp b t (.int kx m) (.int ky n):Sem Value).run P w= .ok r w->(execOp a.eval o).run P w= .ok (.value r) w:=by
     intro r A O w a he hG aX;exact yK ah (gD (cR he hG hl)) (gD (cR he hG hy)) aX
    split at h
    ·cases hk:sameKind kx ky<;>rw[hk] at h
     ·cases h
     ·have rZ:=iI hk;subst rZ;obtain⟨q,hq,h3⟩:=bind_some h;exact dX hc h3 λA O w a he hg hO hG=>⟨_,two he hG (arQ hq),rfl,rfl⟩
    ·cases hk:sameKind kx ky<;>rw[hk] at h
     ·cases h
     ·have rZ:=iI hk;subst rZ;obtain⟨q,hq,h3⟩:=bind_some h;exact dX hc h3 λA O w a he hg hO hG=>⟨_,two he hG (arR hq),rfl,rfl⟩
    ·obtain⟨q,hq,h3⟩:=bind_some h;exact dX hc h3 λA O w a he hg hO hG=>⟨_,two he hG (arV hq),rfl,rfl⟩
    ·obtain⟨q,hq,h3⟩:=bind_some h;exact dX hc h3 λA O w a he hg hO hG=>⟨_,two he hG (arW hq),rfl,rfl⟩
    ·exact pl h
   ·rename_i m n hy;split at h
    ·obtain⟨q,hq,h3⟩:=bind_some h;exact dX hc h3 λA O w a he hg hO hG=>⟨_,yK ah (gD (cR he hG hl)) (gD (cR he hG hy)) (arT hq),rfl,rfl⟩
    ·exact pl h
   ·exact pl h
  ·simp only[cond_true] at h;simp only[μ] at hn;have hy:y= .const (.pointer none):=by
    have:=hn.2;unfold isNil at this;split at this
    ·rfl
    ·cases this
   subst hy;split at h
   rotate_left
   ·cases h
   rename_i i hi;cases h4:ζ i.tag 4<;>rw[h4] at h
   ·cases h
   simp only[cond_true] at h;have ev: ∀ {r:Value},(∀ad,wb K.Θ b t (.pointer (some ad)) (.pointer none)=some r)->r.oneCell'=true->k (.s (.one (.v r))) [] []=some z->Good K P rr o env g nx k z:=by
    intro r hr U h;refine dX hc h λA O w a he hg hO hG=>?_;obtain⟨ad,zS⟩:=aa1 hn.1 (cR he hG hl);exact⟨r,yK ah zS rfl (abX (P:=P) (w:=w) (ox:=x) (oy:= .const (.pointer none)) hK.Θ (hr ad)),rfl,U⟩
   split at h
   ·exact ev (λad=>by simp[wb,hi,h4]) rfl h
   ·exact ev (λad=>by simp[wb,hi,h4]) rfl h
   ·cases h
 ·cases h
theorem ams (hK:cI K P) {t:Nat} {x y:Operand} {ok:Bool} (ah:o.op= .lookup t x y ok) (h:QF K env g k t x y ok=some z):Good K P rr o env g nx k z:=by
 have hc: ∀c,o.op≠ .defer c:=λc=>by rw[ah];simp
 unfold QF at h;split at h
 rotate_left
 ·cases h
 rename_i i b ky j hi hx hy;split at h
 rotate_left
 ·cases h
 rename_i ik ie kk kv m Aj dY hb;generalize hq:(ζ i.tag 7&&(ζ ik.tag 2&&(sameKind (Dc.noKind ik.k) kk&&(sameKind ky kk&&(match ie.zero with| .int kz 0=>sameKind kz kv|_=>false)))))=q at h;cases q
 ·cases h
 simp only[cond_true] at h;simp only[μ] at hq;obtain⟨h7,h2,h3,h4,h5⟩:=hq;have hz:ie.zero= .int kv 0:=by
  split at h5
  ·rename_i kz e;rw[e,iI h5]
  ·cases h5
 have e4:=iI h4;subst e4;refine dX hc h λA O w a he hg hO hG=>?_;obtain⟨m',hA,hv⟩:=cR he hG hx;obtain⟨p,hp,⟨m2,rfl,hM⟩,_⟩:=hg.al b _ hb;rw[hA] at hp;cases hp;have hv:a.eval x= .map (some m'):=by simpa using hv
 have iU:a.eval y= .int ky j:=gD (S:=S) (A:=A) (O:=O) (w:=w) (fR he hG hy);have aX:=arP (P:=P) hK.Θ hi (δ h7) Aj (δ h2) dY (iI h3) hz hM j ok;refine⟨(bif ok then .tuple #[.int kv ((b6 m j).getD 0),.bool (b6 m j).isSome] else .int kv ((b6 m j).getD 0)),?_,?_⟩
 ·unfold execOp;rw[ah];simp only[η,hv,iU,aX];rfl
 ·cases ok with
  |false=>exact⟨rfl,rfl⟩
  |true=>exact⟨_,rfl,_,_,rfl,⟨rfl,rfl⟩,_,_,rfl,⟨rfl,rfl⟩,rfl⟩
theorem amm (hK:cI K P) {t:Nat} {x:Operand} {u:Value} {i:TI} (ah:o.op= .makeInterface t x) (hi:K.Θ.get t=some i) (h2:i.tag=2) (hx:cQ K env x=some (.v u)) (h:k (.s (.one (.v (.iface t u)))) [] []=some z):Good K P rr o env g nx k z:=by
 refine dX (λc=>by rw[ah];simp) h λA O w a he hg hO hG=>?_;have hv:=gD (cR he hG hx);refine⟨_,?_,rfl,rfl⟩;unfold execOp;rw[ah];simp[hv,Instr.makeInterface,run_underlying ((hK.Θ.fits hi).int h2)]
theorem BB {c:Go.Call} {b:Builtin} {a:Act} {w w':World} {v:Value} (ah:o.op= .call c) (dr:c.callee= .builtin b)
  (h: ∀cs:Array Bool,(builtin b c.argTypes o.type cs (c.args.map a.eval)).run P w= .ok (.value v) w'):(execOp a.eval o).run P w= .ok (.value v) w':=by
 unfold execOp;rw[ah];simp only[η,resolve,dr,κ,ε,invoke];exact h _
theorem amp (hK:cI K P) {ty:Nat} {c:Go.Call} {x:Operand} (ah:o.op= .call c) (dr:c.callee= .builtin .len) (gL:c.args.toList=[x]) (gw:c.argTypes.toList=[ty]) (h:QD K env g k ty c x=some z):Good K P rr o env g nx k z:=by
 have hc: ∀c,o.op≠ .defer c:=λc=>by rw[ah];simp
 have ea:c.args= #[x]:=kd gL;have et:c.argTypes= #[ty]:=kd gw;have len: ∀ {a:Act} {w:World} {u:Value} {n:Nat},a.eval x=u->(ξN #[ty] o.type #[u]).run P w= .ok (goInt n) w->(execOp a.eval o).run P w= .ok (.value (goInt n)) w:=by
  intro a w u n hu hr;refine BB ah dr λcs=>?_;rw[ea,et];simp only[builtin,η];have e:(#[x].map a.eval)= #[u]:=by simp[hu]
  rw[e,hr];rfl
 have sl: ∀ {i:TI} {w:World} {A:Option Addr} {n m:Nat},K.Θ.get ty=some i->i.tag=5->(ξN #[ty] o.type #[.slice A n m]).run P w= .ok (goInt n) w:=by
  intro i w A n m hi h5;simp[ξN,run_underlying ((hK.Θ.fits hi).slice h5)]
 unfold QD at h;split at h
 rotate_left
 ·cases h
 rename_i i l hi hx;split at h
 ·rename_i t xs;split at h
  rotate_left
  ·cases h
  rename_i I hI;cases hb:ζ i.tag 5<;>rw[hb] at h
  ·cases h
  refine dX hc h λA O w a he hg hO hG=>?_;obtain⟨v,hv,hs,_⟩:=cR he hG hx;obtain⟨A',c',rfl,_⟩:=iJ ((hK.sl t I hI).2.1 O w v xs hs);have hv:a.eval x= .slice A' (I.to xs).length c':=by simpa using hv
  exact⟨_,len hv (sl hi (δ hb)),rfl,rfl⟩
 ·rename_i r;split at h
  rotate_left
  ·rename_i t' e cm hr;cases hb:ζ i.tag 5<;>rw[hb] at h
   ·cases h
   refine dX hc h λA O w a he hg hO hG=>?_;obtain⟨v,hA,hv,_⟩:=cR he hG hx;obtain⟨p,hp,⟨b,c,cur,rfl,_⟩,_⟩:=hg.al r _ hr;rw[hA] at hp;cases hp;have hv:a.eval x= .slice (some ⟨b,0,none⟩) cm.length c:=by simpa using hv
   exact⟨_,len hv (sl hi (δ hb)),rfl,rfl⟩
  ·cases h
  rename_i e xs hr;cases hb:ζ i.tag 5<;>rw[hb] at h
  ·cases h
  refine dX hc h λA O w a he hg hO hG=>?_;obtain⟨v,hA,hv,_⟩:=cR he hG hx;obtain⟨p,hp,hB,_⟩:=hg.al r _ hr;rw[hA] at hp;cases hp;obtain⟨A',c',rfl,_⟩:=hB.form;have hv:a.eval x= .slice A' xs.length c':=by simpa using hv
  exact⟨_,len hv (sl hi (δ hb)),rfl,rfl⟩
 ·rename_i b q n;cases hb:ζ i.tag 5<;>rw[hb] at h
  ·cases h
  refine dX hc h λA O w a he hg hO hG=>?_;obtain⟨m,hA,hv⟩:=cR he hG hx;have hv:a.eval x= .slice (some ⟨m,q,none⟩) n n:=by simpa using hv
  exact⟨_,len hv (sl hi (δ hb)),rfl,rfl⟩
 ·rename_i b;split at h
  rotate_left
  ·cases h
  rename_i kk kv m hb;cases rR:ζ i.tag 7<;>rw[rR] at h
  ·cases h
  refine dX hc h λA O w a he hg hO hG=>?_;obtain⟨m',hA,hv⟩:=cR he hG hx;obtain⟨p,hp,⟨m2,rfl,es,cc,hM,gY⟩,_⟩:=hg.al b _ hb;rw[hA] at hp;cases hp;have hv:a.eval x= .map (some m'):=by simpa using hv
  have hlen:es.size=m.length:=by
   have:=congrArg ηk gY;simpa using this
  refine⟨_,len hv (n:=m.length) ?_,rfl,rfl⟩;simp[ξN,run_underlying ((hK.Θ.fits hi).map (δ rR)),getObj,ζp,hM,hlen]
 ·exact zo hK hc (by rw[ah];exact h)
end
section
variable {S:bL} {A A':Pl} {O O' O1:List Nat} {w w':World} {g:Nat->Option (Ob S)}
theorem er {i j:Nat} {X Y:Option (Ob S)} (h:(j,Y)∈[(i,X)]):j=i/\Y=X:=by simpa using h
theorem alp {b nx:Nat} {X:Ob S} {p:Value} (hO:OB O w) (bZ:A.pl nx=none) (hF:Fr [] w w') (hT:Tr O w (b::O) w') (tM:OB (b::O) w') (dp:w.heap.size<=b) (hX:fC (A.put nx p) (b::O) w' X p) (hp: ∀c,cG p=some c->c=b):
  sZ A O w g [(nx,some X)] (A.put nx p) (b::O) w' where
 le:=Pl.sE bZ
 tr:=hT
 ob:=tM
 keep c hc _:=⟨hF.block c (hO c hc) (by simp),ξ5 _ hc⟩
 al i Y h:=by
  obtain⟨rfl,e⟩:=er h;cases e;exact⟨p,Pl.js A _ p,hX,λc hc=>by rw[hp c hc];exact⟨σ,.inl dp⟩⟩
 dj i j Y Z q r c aN U h2:=by
  obtain⟨rfl,_⟩:=er U;obtain⟨rfl,_⟩:=er h2;exact absurd rfl aN
 nd i Y Z U h2:=(er U).2.trans (er h2).2.symm
 lv i Y q h hq:=by
  obtain⟨rfl,_⟩:=er h;rw[bZ] at hq;cases hq
 pl i:=by
  rcases ζ3 nx i with aN|rfl
  ·exact .inl (Pl.sF aN)
  ·exact .inr ⟨bZ,_,σ⟩
theorem A_ {i j:Nat} {X Y:Ob S} (hX:X.nt=true) (h:(j,some Y)∈[(i,some X)]):Y.nt=true:=by
 obtain⟨_,e⟩:=er h;cases e;exact hX
theorem vX {b nx:Nat} {X:Ob S} {p:Value} (hO:OB O w) (bZ:A.pl nx=none) (hF:Fr [] w w') (hT:Tr O w (b::O) w') (tM:OB (b::O) w') (dp:w.heap.size<=b) (hX:fC (A.put nx p) (b::O) w' X p) (hp: ∀c,cG p=some c->c=b) (iA:X.nt=true:=by rfl):
 cW A O w g [(nx,some X)] (A.put nx p) (b::O) w':=(alp hO bZ hF hT tM dp hX hp).up λ_ _ h=>A_ iA h
theorem alq {nx:Nat} {X:Ob S} {p:Value} (hO:OB O w) (bZ:A.pl nx=none) (hX:fC (A.put nx p) O w X p) (hp:cG p=none):
  sZ A O w g [(nx,some X)] (A.put nx p) O w where
 le:=Pl.sE bZ
 tr:=Tr.refl O w
 ob:=hO
 keep c hc _:=⟨rfl,hc⟩
 al i Y h:=by
  obtain⟨rfl,e⟩:=er h;cases e;exact⟨p,Pl.js A _ p,hX,λc hc=>by rw[hp] at hc;cases hc⟩
 dj i j Y Z q r c aN U h2:=by
  obtain⟨rfl,_⟩:=er U;obtain⟨rfl,_⟩:=er h2;exact absurd rfl aN
 nd i Y Z U h2:=(er U).2.trans (er h2).2.symm
 lv i Y q h hq:=by
  obtain⟨rfl,_⟩:=er h;rw[bZ] at hq;cases hq
 pl i:=by
  rcases ζ3 nx i with aN|rfl
  ·exact .inl (Pl.sF aN)
  ·exact .inr ⟨bZ,_,σ⟩
theorem V2 {nx:Nat} {X:Ob S} {p:Value} (hO:OB O w) (bZ:A.pl nx=none) (hX:fC (A.put nx p) O w X p) (hp:cG p=none) (iA:X.nt=true:=by rfl):
 cW A O w g [(nx,some X)] (A.put nx p) O w:=(alq hO bZ hX hp).up λ_ _ h=>A_ iA h
theorem als {i b:Nat} {X Z:Ob S} {p:Value} (hO:OB O w) (hb:b∈O) (hg:g i=some Z) (hp:A.pl i=some p) (bM:cG p=some b) (hF:Fr [b] w w') (hX:fC A O w' X p):
  sZ A O w g [(i,some X)] A O w' where
 le:=Pl.le.refl A
 tr:=hF.tr (lS hb)
 ob:=hF.ob hO
 keep c hc h:=⟨hF.block c (hO c hc) (by
  have:=h i _ p σ hp;rw[bM] at this;simp at this ⊢;exact λe=>this e.symm),hc⟩
 al j Y h:=by
  obtain⟨rfl,e⟩:=er h;cases e;exact⟨p,hp,hX,λc hc=>by
   rw[bM] at hc;cases hc;exact⟨hb,.inr ⟨_,_,p,σ,hp,bM⟩⟩⟩
 dj i j Y Z q r c aN U h2:=by
  obtain⟨rfl,_⟩:=er U;obtain⟨rfl,_⟩:=er h2;exact absurd rfl aN
 nd i Y Z U h2:=(er U).2.trans (er h2).2.symm
 lv j Y q h hq:=by
  obtain⟨rfl,_⟩:=er h;exact⟨Z,hg⟩
 pl _:= .inl rfl
theorem vY {i b:Nat} {X Z:Ob S} {p:Value} (hO:OB O w) (hb:b∈O) (hg:g i=some Z) (hp:A.pl i=some p) (bM:cG p=some b) (hF:Fr [b] w w') (hX:fC A O w' X p) (iA:X.nt=true:=by rfl):
 cW A O w g [(i,some X)] A O w':=(als hO hb hg hp bM hF hX).up λ_ _ h=>A_ iA h
theorem alr {i:Nat} {X Z:Ob S} {p:Value} (hO:OB O w) (hg:g i=some Z) (hp:A.pl i=some p) (hT:Tr O w O w') (tM:OB O w') (hF: ∀k,k<w.heap.size->cG p≠some k->w'.heap[k]? =w.heap[k]?) (hX:fC A O w' X p) (hm: ∀b,cG p=some b->b∈O):
  sZ A O w g [(i,some X)] A O w' where
 le:=Pl.le.refl A
 tr:=hT
 ob:=tM
 keep c hc h:=⟨hF c (hO c hc) (h i _ p σ hp),hc⟩
 al j Y h:=by
  obtain⟨rfl,e⟩:=er h;cases e;exact⟨p,hp,hX,λc hc=>⟨hm c hc,.inr ⟨_,_,p,σ,hp,hc⟩⟩⟩
 dj i j Y Z q r c aN U h2:=by
  obtain⟨rfl,_⟩:=er U;obtain⟨rfl,_⟩:=er h2;exact absurd rfl aN
 nd i Y Z U h2:=(er U).2.trans (er h2).2.symm
 lv j Y q h hq:=by
  obtain⟨rfl,_⟩:=er h;exact⟨Z,hg⟩
 pl _:= .inl rfl
theorem V3 {i:Nat} {X Z:Ob S} {p:Value} (hO:OB O w) (hg:g i=some Z) (hp:A.pl i=some p) (hT:Tr O w O w') (tM:OB O w') (hF: ∀k,k<w.heap.size->cG p≠some k->w'.heap[k]? =w.heap[k]?) (hX:fC A O w' X p) (hm: ∀b,cG p=some b->b∈O) (iA:X.nt=true:=by rfl):
 cW A O w g [(i,some X)] A O w':=(alr hO hg hp hT tM hF hX hm).up λ_ _ h=>A_ iA h
theorem alm {e:Nat} {ef0:Up S} {nx:Nat} {v v':Value} {zs:List (S.El e)} (hO:OB O w) (bZ:A.pl nx=none) (h0: ∀i X,(i,X)∈ef0->X=none/\A.pl i=some v/\ ∃Z,g i=some Z) (U:(∃i,(i,none)∈ef0)\/v.ownBlock=none)
  (h:fO (S.ty e) e 0 O w v zs O' w' v'):sZ A O w g (ef0++[(nx,some (.row e zs))]) (A.put nx v') O' w' where
 le:=Pl.sE bZ
 tr:=h.tr
 ob:=h.ob
 keep c hc hk:=⟨h.fr c (hO c hc) (λe=>by
  rcases U with⟨i,hi⟩|hn
  ·exact hk i none v (ξo _ hi) (h0 i none hi).2.1 (lB e)
  ·rw[hn] at e;cases e),h.sub c hc⟩
 al i Y hi:=by
  rcases τ.1 hi with hi|hi
  ·have:=(h0 i _ hi).1;cases this
  ·obtain⟨rfl,e⟩:=er hi;cases e;refine⟨v',Pl.js A _ v',h.own,λc hc=>?_⟩;have mi:v'.ownBlock=some c:=by
    rcases mD h.own with⟨rfl,_⟩|⟨b,cc,rfl⟩
    ·cases hc
    ·exact hc
   refine⟨h.own.mem c mi,?_⟩;rcases ξC c w.heap.size with aB|dp
   ·right;have hv:v.ownBlock=some c:=by
     rcases Decidable.em (v.ownBlock=some c) with e|e
     ·exact e
     ·exact absurd mi (h.ne c aB e)
    rcases U with⟨i,hi⟩|hn
    ·exact⟨i,none,v,ξo _ hi,(h0 i none hi).2.1,lB hv⟩
    ·rw[hn] at hv;cases hv
   ·exact .inl dp
 dj i j Y Z q r c aN k1 k2:=by
  rcases τ.1 k1 with k1|k1
  ·have:=(h0 i _ k1).1;cases this
  ·rcases τ.1 k2 with k2|k2
   ·have:=(h0 j _ k2).1;cases this
   ·obtain⟨rfl,_⟩:=er k1;obtain⟨rfl,_⟩:=er k2;exact absurd rfl aN
 nd i Y Z k1 k2:=by
  have no: ∀X,(nx,X)∉ef0:=λX hX=>by have:=(h0 nx X hX).2.1;rw[bZ] at this;cases this
  rcases τ.1 k1 with q1|q1<;>rcases τ.1 k2 with q2|q2
  ·exact(h0 i _ q1).1.trans (h0 i _ q2).1.symm
  ·rw[(er q2).1] at q1;exact absurd q1 (no _)
  ·rw[(er q1).1] at q2;exact absurd q2 (no _)
  ·exact(er q1).2.trans (er q2).2.symm
 lv i Y q hi hq:=by
  rcases τ.1 hi with hi|hi
  ·exact(h0 i _ hi).2.2
  ·obtain⟨rfl,_⟩:=er hi;rw[bZ] at hq;cases hq
 pl i:=by
  rcases ζ3 nx i with aN|rfl
  ·exact .inl (Pl.sF aN)
  ·exact .inr ⟨bZ,_,ξj _ σ⟩
theorem alk {e:Nat} {ef0:Up S} {nx:Nat} {v v':Value} {zs:List (S.El e)} (hO:OB O w) (bZ:A.pl nx=none) (h0: ∀i X,(i,X)∈ef0->X=none/\A.pl i=some v/\ ∃Z,g i=some Z) (U:(∃i,(i,none)∈ef0)\/v.ownBlock=none)
  (h:fO (S.ty e) e 0 O w v zs O' w' v'):cW A O w g (ef0++[(nx,some (.row e zs))]) (A.put nx v') O' w':=(alm hO bZ h0 U h).up λi X hi=>by
 rcases τ.1 hi with hi|hi
 ·have:=(h0 i _ hi).1;cases this
 ·exact A_ rfl hi
def e9 (A:Pl) (rs O:List Nat):List Nat:=O.filter λb=>rs.all λr=>match A.pl r with|some p=>(match cG p with|some c=>!(ζ c b)|none=>true)|none=>true
theorem m9 {rs:List Nat} {b:Nat}:b∈e9 A rs O↔b∈O/\ ∀r∈rs,∀p,A.pl r=some p->cG p≠some b:=by
 unfold e9;rw[ξQ,ζk];refine and_congr_right λ_=>⟨λh r hr p hp hb=>?_,λh r hr=>?_⟩
 ·have:=h r hr;simp[hp,hb] at this
 ·split
  ·rename_i p hp;split
   ·rename_i c hc;have:=h r hr p hp;rw[hc] at this;cases hq:ζ c b with
    |false=>rfl
    |true=>exact absurd (δ hq) (by simpa using this)
   ·rfl
  ·rfl
theorem hQ {rs:List Nat}:Sub (e9 A rs O) O:=λb hb=>(m9.1 hb).1
theorem gy {rs:List Nat} {i:Nat} {X:Option (Ob S)}:(i,X)∈(jN rs:Up S)↔i∈rs/\X=none:=by
 induction rs with
 |nil=>simp[jN]
 |cons r rs ih=>
  simp only[jN,ξg,ih,ξP];constructor
  ·rintro (⟨rfl,rfl⟩|⟨h,rfl⟩)
   ·exact⟨.inl rfl,rfl⟩
   ·exact⟨.inr h,rfl⟩
  ·rintro ⟨rfl|h,rfl⟩
   ·exact .inl ⟨rfl,rfl⟩
   ·exact .inr ⟨h,rfl⟩
theorem V1 {rs:List Nat} (hO:OB O w) (hl: ∀r∈rs,∃Z,g r=some Z):cW A O w g (jN rs) A (e9 A rs O) w where
 le:=Pl.le.refl A
 tr:=Tr.less hQ
 ob:=λb hb=>hO b (hQ b hb)
 keep c hc h:=⟨rfl,m9.2 ⟨hc,λr hr p hp=>h r none p (gy.2 ⟨hr,rfl⟩) hp⟩⟩
 al i Y h:=by have:=(gy.1 h).2;cases this
 dj i j Y Z q r c _ h:=by have:=(gy.1 h).2;cases this
 nd i Y Z U h2:=(gy.1 U).2.trans (gy.1 h2).2.symm
 lv i Y q h _:=hl i (gy.1 h).1
 pl _:= .inl rfl
 nt i X Z h _ _:=by have:=(gy.1 h).2;cases this
theorem cW.Vc {rs:List Nat} {ef:Up S} (U:cW A O w g (jN rs) A O1 w) (h2:cW A O1 w g ef A' O' w') (hn: ∀i X,(i,X)∈ef->i∉rs):cW A O w g (jN rs++ef) A' O' w' where
 le:=h2.le
 tr:=U.tr.trans h2.tr
 ob:=h2.ob
 keep c hc h:=by
  obtain⟨_,k1⟩:=U.keep c hc λi X p hi hp=>h i X p (ξo _ hi) hp;exact h2.keep c k1 λi X p hi hp=>h i X p (ξj _ hi) hp
 al i Y h:=by
  rcases τ.1 h with h|h
  ·have:=(gy.1 h).2;cases this
  ·obtain⟨p,k1,k2,k3⟩:=h2.al i Y h;exact⟨p,k1,k2,λc hc=>⟨(k3 c hc).1,(k3 c hc).2.imp id λ⟨j,Z,q,V,q1,q2⟩=>⟨j,Z,q,V,ξj _ q1,q2⟩⟩⟩
 dj i j Y Z q r c aN k1 k2:=by
  rcases τ.1 k1 with k1|k1
  ·have:=(gy.1 k1).2;cases this
  ·rcases τ.1 k2 with k2|k2
   ·have:=(gy.1 k2).2;cases this
   ·exact h2.dj i j Y Z q r c aN k1 k2
 nd i Y Z k1 k2:=by
  rcases τ.1 k1 with k1|k1<;>rcases τ.1 k2 with k2|k2
  ·exact U.nd i Y Z k1 k2
  ·exact absurd (gy.1 k1).1 (hn i _ k2)
  ·exact absurd (gy.1 k2).1 (hn i _ k1)
  ·exact h2.nd i Y Z k1 k2
 lv i Y q h hq:=by
  rcases τ.1 h with h|h
  ·exact U.lv i Y q h hq
  ·exact h2.lv i Y q h hq
 pl i:=(h2.pl i).imp id λ⟨a,X,b⟩=>⟨a,X,ξj _ b⟩
 nt i X Z h:=by
  rcases τ.1 h with h|h
  ·have:=(gy.1 h).2;cases this
  ·exact h2.nt i X Z h
variable {K:bG S} {P:Program}
theorem Ni (hK:cI K P) (hg:cv A O w g) {l l':LV S} {rs all:List Nat} {xs:List Value} (h:oD K g l=some (l',rs)) (hr:l.rel A O w xs) (hs: ∀r∈rs,r∈all):l'.rel A (e9 A all O) w xs/\l'.pure=true/\ ∀r∈rs,∃Z,g r=some Z:=by
 have less:Tr O w (e9 A all O) w:=Tr.less hQ;cases l with
 |own r=>
  simp only[oD] at h;split at h
  rotate_left
  ·cases h
  rename_i e ys hy;split at h
  rotate_left
  ·cases h
  rename_i I hI;cases h;obtain⟨v,U,rfl,h3⟩:=hr;obtain⟨p,hp,hB,hm⟩:=hg.al r _ hy;rw[U] at hp;cases hp;refine⟨⟨v,rfl,?_,(hK.row e I hI).1⟩,rfl,λr' cP=>by simp at cP;subst cP;exact⟨_,hy⟩⟩;refine(hK.row e I hI).2 _ _ _ _ (Dc.Own.share hB hQ λb hb cY=>?_);exact(m9.1 cY).2 r (hs r (by simp)) v U (lB hb)
 |v u=>cases h;exact⟨hr,rfl,λr h=>by cases h⟩
 |aU t x=>cases h;exact⟨LV.rel.tr hr less (Pl.le.refl A),rfl,λr h=>by cases h⟩
 |ptr t x q=>cases h;exact⟨LV.rel.tr hr less (Pl.le.refl A),rfl,λr h=>by cases h⟩
 |cd k n gs=>cases h;exact⟨hr,rfl,λr h=>by cases h⟩
 |dW n gs=>cases h;exact⟨hr,rfl,λr h=>by cases h⟩
 |_=>cases h
theorem WK (hK:cI K P) (hg:cv A O w g): ∀ {ls cZ:List (LV S)} {rs all:List Nat} {xs:List Value},rL K g ls=some (cZ,rs)->bV A O w ls xs->(∀r∈rs,r∈all)->bV A (e9 A all O) w cZ xs/\cZ.all LV.pure=true/\ ∀r∈rs,∃Z,g r=some Z
 |[],cZ,rs,all,xs,h,hr,hs=>by cases h;exact⟨hr,rfl,λr h=>by cases h⟩
 |l::ls,cZ,rs,all,xs,h,⟨ys,zs,hx,U,h2⟩,hs=>by
  simp only[rL] at h;split at h
  rotate_left
  ·cases h
  rename_i l1 r1 e1;split at h
  rotate_left
  ·cases h
  rename_i l2 r2 e2;cases h;obtain⟨a1,a2,a3⟩:=Ni hK hg e1 U (λr hr=>hs r (ξo _ hr));obtain⟨b1,b2,b3⟩:=WK hK hg e2 h2 (λr hr=>hs r (ξj _ hr));exact⟨⟨ys,zs,hx,a1,b1⟩,by simp[a2,b2],λr hr=>(τ.1 hr).elim (a3 r) (b3 r)⟩
theorem WE (hK:cI K P) (hg:cv A O w g) {a a':aD S} {rs all:List Nat} {x:Value} (h:pQ K g a=some (a',rs)) (hr:a.rel A O w x) (hs: ∀r∈rs,r∈all):a'.rel A (e9 A all O) w x/\a'.pure=true/\ ∀r∈rs,∃Z,g r=some Z:=by
 cases a with
 |one l=>
  simp only[pQ] at h;split at h
  ·rename_i l1 r1 e1;cases h;exact Ni hK hg e1 hr hs
  ·cases h
 |agg ls=>
  simp only[pQ] at h;split at h
  ·rename_i l1 r1 e1;cases h;obtain⟨ys,rfl,hr⟩:=hr;obtain⟨a1,a2,a3⟩:=WK hK hg e1 hr hs;exact⟨⟨ys,rfl,a1⟩,a2,a3⟩
  ·cases h
theorem tI (hK:cI K P) (hg:cv A O w g): ∀ {ls cZ:List (aD S)} {rs all:List Nat} {xs:List Value},oC K g ls=some (cZ,rs)->dO A O w ls xs->(∀r∈rs,r∈all)->dO A (e9 A all O) w cZ xs/\cZ.all aD.pure=true/\ ∀r∈rs,∃Z,g r=some Z
 |[],cZ,rs,all,xs,h,hr,hs=>by cases h;exact⟨hr,rfl,λr h=>by cases h⟩
 |l::ls,cZ,rs,all,xs,h,⟨ys,zs,hx,U,h2⟩,hs=>by
  simp only[oC] at h;split at h
  rotate_left
  ·cases h
  rename_i l1 r1 e1;split at h
  rotate_left
  ·cases h
  rename_i l2 r2 e2;cases h;obtain⟨a1,a2,a3⟩:=WE hK hg e1 U (λr hr=>hs r (ξo _ hr));obtain⟨b1,b2,b3⟩:=tI hK hg e2 h2 (λr hr=>hs r (ξj _ hr));exact⟨⟨ys,zs,hx,a1,b1⟩,by simp[a2,b2],λr hr=>(τ.1 hr).elim (a3 r) (b3 r)⟩
theorem WI {l l':LV S} {rs:List Nat} (h:oD K g l=some (l',rs)):l'.pure=true:=by
 cases l with
 |own r=>
  simp only[oD] at h;split at h
  ·split at h
   ·cases h;rfl
   ·cases h
  ·cases h
 |_=>first|(cases h;rfl)|cases h
theorem WL: ∀ {ls cZ:List (LV S)} {rs:List Nat},rL K g ls=some (cZ,rs)->cZ.all LV.pure=true
 |[],_,_,h=>by cases h;rfl
 |l::ls,_,_,h=>by
  simp only[rL] at h;split at h
  ·rename_i l1 r1 e1;split at h
   ·rename_i l2 r2 e2;cases h;simp[WI e1,WL e2]
   ·cases h
  ·cases h
theorem WG: ∀ {ls cZ:List (aD S)} {rs:List Nat},oC K g ls=some (cZ,rs)->cZ.all aD.pure=true
 |[],_,_,h=>by cases h;rfl
 |l::ls,_,_,h=>by
  simp only[oC] at h;split at h
  ·rename_i l1 r1 e1;split at h
   ·rename_i l2 r2 e2;cases h;have:l1.pure=true:=by
     cases l with
     |one l=>
      simp only[pQ] at e1;split at e1
      ·rename_i e;cases e1;exact WI e
      ·cases e1
     |agg ls=>
      simp only[pQ] at e1;split at e1
      ·rename_i e;cases e1;exact WL e
      ·cases e1
    simp[this,WG e2]
   ·cases h
  ·cases h
end
section
variable {S:bL} {K:bG S} {P:Program} {rr:Option Nat} {o:Oper} {env:aW S} {g:Nat->Option (Ob S)} {nx:Nat} {R:Type} {z:R} {k:AV S->Up S->AH S->Option R}
theorem kV {av:AV S} {up:Up S} {nw:AH S} (hc: ∀c,o.op≠ .defer c) (hk:k av up nw=some z)
  (h: ∀(A:Pl) (O:List Nat) (w:World) (a:Act),dV A O w env a->cv A O w g->OB O w->dR K O w->(∀j,j<nw.length->A.pl (nx+j)=none)-> ∃v w' A' O',(execOp a.eval o).run P w= .ok (.value v) w'/\av.rel A' O' w' v/\cW A O w g (up++news nx nw) A' O' w'):Good K P rr o env g nx k z:=
 ⟨av,up,nw,hk,λ_ A O w a he hg hO hG hf=>by
  obtain⟨v,w',A',O',U,h2,h3⟩:=h A O w a he hg hO hG hf;exact aaK hc U ⟨A',O',h2,h3⟩⟩
theorem F4 {up:Up S} (hc: ∀c,o.op≠ .defer c) (hk:k (.bD []) up []=some z)
  (h: ∀(A:Pl) (O:List Nat) (w:World) (a:Act),dV A O w env a->cv A O w g->OB O w->dR K O w-> ∃w' A' O',(execOp a.eval o).run P w= .ok .skip w'/\cW A O w g up A' O' w'):Good K P rr o env g nx k z:=
 ⟨.bD [],up,[],hk,λ_ A O w a he hg hO hG hf=>by
  obtain⟨w',A',O',U,h3⟩:=h A O w a he hg hO hG;exact apF hc U ⟨A',O',⟨[],rfl,rfl⟩,by simpa[news] using h3⟩⟩
theorem Bq {A:Pl} {O:List Nat} {w:World}: ∀ {xs:List Value},xs.all ξl=true->bV A O w (xs.map (LV.v (S:=S))) xs
 |[],_=>rfl
 |x::xs,h=>by
  simp only[List.all_cons,μ] at h;exact⟨[x],xs,rfl,⟨rfl,h.1⟩,Bq h.2⟩
theorem ama (hK:cI K P) {t:Nat} {i:TI} (ah:o.op= .alloc t) (hi:K.Θ.get t=some i) (hz:i.zero.cells.toList.all ξl=true) (h:k (.s (.one (.bp nx 0))) [] [some (.box t (i.zero.cells.toList.map .v))]=some z):Good K P rr o env g nx k z:=by
 refine kV (λc=>by rw[ah];simp) h λA O w a he hg hO hG hf=>?_;have hn:=qF hO t i.zero.cells.toList;have bZ:=hf 0 (by simp);refine⟨_,_,_,_,?_,⟨w.heap.size,Pl.js A nx (.pointer (some ⟨w.heap.size,0,none⟩)),rfl⟩,
  vX (p:= .pointer (some ⟨w.heap.size,0,none⟩)) hO bZ hn.fr hn.tr hn.ob hn.ge ⟨w.heap.size,_,rfl,hn.cf,Bq hz⟩ (λc hc=>by cases hc;rfl)⟩
 simp only[execOp,ah,ηj,η,vf (hK.Θ.fits hi),ε];rfl
theorem amd {t:Nat} {x:Operand} {b:aD S} (ah:o.op= .box t x) (hx:eR K env x=some (.s b)) (h:k (.s (.one (.bp nx 0))) [] [some (.box t b.cells)]=some z):Good K P rr o env g nx k z:=by
 refine kV (λc=>by rw[ah];simp) h λA O w a he hg hO hG hf=>?_;have hv:=aD.rel.cells (fR he hG hx);have hn:=qF hO t (a.eval x).cells.toList;have bZ:=hf 0 (by simp);refine⟨_,_,_,_,?_,⟨w.heap.size,Pl.js A nx (.pointer (some ⟨w.heap.size,0,none⟩)),rfl⟩,
  vX (p:= .pointer (some ⟨w.heap.size,0,none⟩)) hO bZ hn.fr hn.tr hn.ob hn.ge ⟨w.heap.size,_,rfl,hn.cf,qN hn.tr (Pl.sE bZ) hv⟩ (λc hc=>by cases hc;rfl)⟩
 simp only[execOp,ah,Instr.box,η];rfl
theorem amt {f:Nat} {fs cs:Array Operand} {zl cD:List (aD S)} (ah:o.op= .makeFunc (.func f) fs cs) (U:l7 K env fs.toList=some zl) (h2:l7 K env cs.toList=some cD) (h:k (.s (.one (.bI nx))) [] [some (.bI f zl cD)]=some z):Good K P rr o env g nx k z:=by
 refine kV (λc=>by rw[ah];simp) h λA O w a he hg hO hG hf=>?_;have bZ:=hf 0 (by simp);have r1:=tf he hG U;have r2:=tf he hG h2;have hle:A.le (A.put nx (.func (.func f) (fs.toList.map a.eval).toArray (cs.toList.map a.eval).toArray)):=Pl.sE bZ;refine⟨.func (.func f) (fs.toList.map a.eval).toArray (cs.toList.map a.eval).toArray,w,_,O,?_,⟨_,_,_,Pl.js A nx (.func (.func f) (fs.toList.map a.eval).toArray (cs.toList.map a.eval).toArray),rfl⟩,
  V2 hO bZ ⟨_,_,rfl,uH (Tr.refl O w) hle r1,uH (Tr.refl O w) hle r2⟩ rfl⟩
 simp only[execOp,ah,η0,η,κ,ε];have e1:fs.map a.eval=(fs.toList.map a.eval).toArray:=by rw[<-ξi]
 have e2:cs.map a.eval=(cs.toList.map a.eval).toArray:=by rw[<-ξi]
 rw[e1,e2]
theorem amu {t:Nat} {kk kv:IntKind} (ah:o.op= .makeMap t none) (h:k (.s (.one (.mp nx))) [] [some (.map kk kv [])]=some z):Good K P rr o env g nx k z:=by
 refine kV (λc=>by rw[ah];simp) h λA O w a he hg hO hG hf=>?_;have bZ:=hf 0 (by simp);have hn:LB O w w.heap.size (w.alloc (.map #[] 0)):=⟨heap_alloc_new _ _,⟨rfl,rfl,rfl,by simp,λk hk _=>ξV _ _ _ hk⟩,
  ⟨rfl,rfl,rfl,by simp,λk hk ho=>⟨by simp;exact⟨by omega,ho⟩,ξV _ _ _ hk⟩⟩,λk hk=>by
   simp at hk ⊢;rcases hk with rfl|hk
   ·omega
   ·have:=hO k hk;omega,ξ3 _⟩
 refine⟨.map (some w.heap.size),_,_,_,?_,⟨w.heap.size,Pl.js A nx (.map (some w.heap.size)),rfl⟩,
  vX (p:= .map (some w.heap.size)) hO bZ hn.fr hn.tr hn.ob hn.ge ⟨w.heap.size,rfl,hn.is kk kv⟩ (λc hc=>by cases hc;rfl)⟩
 simp only[execOp,ah,η,ξe];rw[show(Instr.makeMap t none).run P w= .ok (.map (some w.heap.size)) (w.alloc (.map #[] 0)) from rfl];rfl
theorem amy {x:Operand} {e:Nat} (ah:o.op= .assign x) (hx:x= .const (.slice none 0 0)) (h:k (.s (.one (.own nx))) [] [some (.row e [])]=some z):Good K P rr o env g nx k z:=by
 subst hx;refine kV (λc=>by rw[ah];simp) h λA O w a he hg hO hG hf=>?_;have bZ:=hf 0 (by simp);refine⟨.slice none 0 0,w,_,O,?_,⟨_,Pl.js A nx (.slice none 0 0),rfl,rfl⟩,V2 hO bZ Dc.Own.oT rfl⟩;unfold execOp;rw[ah];rfl
theorem amz (hK:cI K P) {t:Nat} {x:Operand} {s:ByteArray} {i:TI} (ah:o.op= .range t x) (hi:K.Θ.get t=some i) (h3:i.tag=3) (hx:cQ K env x=some (.v (.string s))) (h:k (.s (.one (.ep nx))) [] [some (.ep s 0)]=some z):Good K P rr o env g nx k z:=by
 refine kV (λc=>by rw[ah];simp) h λA O w a he hg hO hG hf=>?_;have bZ:=hf 0 (by simp);have hv:=gD (cR he hG hx);have hF:Fr [] w { w with heap:=w.heap.push (.stringIter s 0) }:=⟨rfl,rfl,rfl,by simp,λk hk _=>by simp only;rw[Array.getElem?_push_lt hk,π hk]⟩;refine⟨.pointer (some ⟨w.heap.size,0,none⟩),{ w with heap:=w.heap.push (.stringIter s 0) },_,_,?_,⟨w.heap.size,Pl.js A nx (.pointer (some ⟨w.heap.size,0,none⟩)),rfl⟩,
  vX (p:= .pointer (some ⟨w.heap.size,0,none⟩)) hO bZ hF (Se hF (ξ3 _)) (λc hc=>by simp at hc ⊢;rcases hc with rfl|hc;omega;have:=hO c hc;omega) (ξ3 _) ⟨w.heap.size,rfl,by simp⟩ (λc hc=>by cases hc;rfl)⟩
 simp only[execOp,ah,η,hv,Instr.range,run_underlying ((hK.Θ.fits hi).string h3),ε,κ];simp[newObj,ζp]
theorem amx {x:Operand} {i pos:Nat} {s:ByteArray} (ah:o.op= .next x true) (hx:cQ K env x=some (.ep i)) (hi:g i=some (.ep s pos))
  (h:(bif decide (pos<s.size) then k (.bD [.one (.v (.bool true)),.one (.v (goInt pos)),.one (.v (.int .i32 (ζ4 s pos).1))]) [(i,some (.ep s (pos+(ζ4 s pos).2)))] [] else k (.bD [.one (.v (.bool false))]) [] [])=some z):Good K P rr o env g nx k z:=by
 have hc: ∀c,o.op≠ .defer c:=λc=>by rw[ah];simp
 cases hd:decide (pos<s.size)<;>rw[hd] at h
 ·have aB: ¬pos<s.size:=by simpa using hd
  refine dX hc h λA O w a he hg hO hG=>?_;obtain⟨m,hA,hv⟩:=cR he hG hx;obtain⟨p,hp,⟨b,rfl,hB⟩,_⟩:=hg.al i _ hi;rw[hA] at hp;cases hp;have hv:a.eval x= .pointer (some ⟨m,0,none⟩):=by simpa using hv
  refine⟨.tuple #[.bool false],?_,_,rfl,_,_,rfl,⟨rfl,rfl⟩,rfl⟩;have j6:(getObj m).run P w= .ok (.stringIter s pos) w:=by simp[getObj,ζp,hB]
  simp only[execOp,ah,η,hv,ηm,j6,ε,if_neg aB,κ]
 ·have aB:pos<s.size:=by simpa using hd
  refine kV hc h λA O w a he hg hO hG hf=>?_;obtain⟨m,hA,hv⟩:=cR he hG hx;obtain⟨p,hp,⟨b,rfl,hB⟩,hm⟩:=hg.al i _ hi;rw[hA] at hp;cases hp;have hv:a.eval x= .pointer (some ⟨m,0,none⟩):=by simpa using hv
  have hl:m<w.heap.size:=(ξd.1 hB).1;have hF:Fr [m] w { w with heap:=w.heap.setIfInBounds m (.stringIter s (pos+(ζ4 s pos).2)) }:=⟨rfl,rfl,rfl,by simp,λk hk aN=>by simp at aN;simp only;rw[ξ (λe=>aN e.symm)]⟩;refine⟨.tuple #[.bool true,goInt pos,.int .i32 (ζ4 s pos).1],_,_,_,?_,⟨_,rfl,_,_,rfl,⟨rfl,rfl⟩,_,_,rfl,⟨rfl,rfl⟩,_,_,rfl,⟨rfl,rfl⟩,rfl⟩,
   vY hO (hm m rfl) hi hA rfl hF ⟨m,rfl,by simp[hl]⟩⟩
  have j6:(getObj m).run P w= .ok (.stringIter s pos) w:=by simp[getObj,ζp,hB]
  have gv: ∀o:Obj,(setObj m o).run P w= .ok () { w with heap:=w.heap.setIfInBounds m o }:=λo=>by simp[setObj,ζp,hB]
  simp only[execOp,ah,η,hv,ηm,j6,ε,if_pos aB,gv,κ]
end
end Go.Vx
end
