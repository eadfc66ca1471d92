/- A part of the proof that OrderSearch returns true for every input: the machine of values, its soundness, the program as plain functions, the law. Conditions: those of the given rows. -/
import Derived.ControlIn
import Derived.CallsIn
import Derived.WalkKit
import Derived.RangeFuncNested
import Derived.RangeFuncLeaves
import Derived.Laws.Cells
import Derived.Laws.Rows
import Derived.Laws.Tables
import Derived.Deep.MidRow
import Derived.IntWalk
import Derived.Deep.LoopGhost
import Derived.Scope
import Derived.OrdersIn
import Derived.Maps.AppendAt
import Derived.OwnWalk
import Derived.Laws.StructEq
import Derived.Laws.MakeOwn
import Derived.Laws.OwnMore
import Derived.Lib.AppendZerosOnto
import Derived.Lib.Overlaps
import Derived.Laws.Externs
import Derived.Laws.LoneSync
import Derived.Laws.AppendOwn
import Derived.MapKept
import Derived.Laws.BytesString
import Derived.Lib.BufferWrite
set_option linter.unusedVariables false
set_option linter.unusedSimpArgs false
noncomputable section
set_option maxRecDepth 1000000
set_option maxHeartbeats 12000000
open Array renaming getD_eq_getD_getElem?→θ,getElem?_setIfInBounds_ne→ξ,getElem?_eq_getElem→σ,all_eq_true_iff_forall_mem→ξ8,getElem?_eq_some_iff→ξb,toList_map→ξg,mapM_eq_mapM_toList→ξF,length_toList→ξK,replicate→ζV
open Bool renaming and_eq_true→μ,not_eq_true'→ξp,false_or→ζg,not_true→ζA,false_eq_true→ζC,or_eq_true→ζU,not_false→ζZ,true_and→η7
open Go.Act renaming eval→ζt,put→ζF
open Go.Addr renaming add→ζ6,add_zero'→ζv
open Go.Builtin renaming firstCells→ξ1,lenOf→ξi,copy_→ξj,zeroCells→ξq,append_→ξD,len_→ξM
open Go.Deferred renaming ofValue→ξW
open Go.Exit renaming inBlock→ζn
open Go.Extern.SlicesOverlaps renaming overlaps→ζM
open Go.Instr renaming indexAt→ξu,sliceAt→ξv,sureAddr→ξy,fill→ζb,sliceBound→ζk,slice→ζw,keyThatStays→ζE,sliceBounds→ζI,loadAt→ζK,buildSlice→ζO,mapUpdate→ζW,makeFunc→ζY,checkKey→η0,fieldAt→η4,extract→η5,storeAt→η6,findNow→η8,findKey→η9,lookup→ηe,build→ηf,field→ηg,alloc→ηh,index→ηj,next→ηk
open Go.IntKind renaming i64→ζT
open Go.MapKept renaming run_findKey→ζy,heap_set→ζP
open Go.Op renaming equalIn→ζG,intDiv→ζQ,equal→η2,shift→η3
open Go.Oper renaming semAt_eq→ξl,uponIn→ξS
open Go.Region renaming ready→ξB,binds→ζp,wanted→ζz
open Go.Result renaming andThen_ok→ζ
open Go.RowKit.Below renaming heap_alloc→ξV
open Go.Sem renaming run_bind→η,run_pure→κ,run→ζo,run_map→ζR
open Go.StepsIn renaming of_steps→ζN,mono→ηa
open Go.Utf8 renaming decode→ζ4
open Go.Value renaming oneCell'→ξk,int→ξr,bool→ξN,slice→ξT,cells→ζh
open Go.World renaming frozen?→ζB,shape?→ηd
open Int renaming natCast_nonneg→ζ7,toNat_natCast→ζJ,ofNat→ζX
open List renaming getElem?_eq_some_iff→ν,mem_cons_self→π,mem_append→τ,length_append→φ,length_take→ψ,getElem?_take→ω,mem_cons_of_mem→ξ4,take_of_length_le→ξ5,getElem?_drop→ξ6,getElem?_eq_getElem→ξ7,getElem?_cons_zero→ξa,mem_cons→ξd,length_drop→ξe,getElem?_cons_succ→ξf,mem_append_right→ξh,mem_append_left→ξn,getElem?_map→ξo,map_cons→ξt,length_cons→ξw,eq_nil_of_length_eq_zero→ξx,drop_eq_nil_of_le→ξz,getElem?_append_right→ξE,drop_eq_getElem_cons→ξG,getElem?_append_left→ξH,drop_append→ξJ,mem_filter→ξP,drop_of_length_le→ξR,getElem?_toArray→ξU,map_toArray→ξX,take_append→ξY,mem_of_getElem?→ζ0,range'→ζ1,nil_append→ζ2,mapM_cons→ζ8,replicate→ζ9,take_zero→ζa,any_eq_false→ζc,ext_getElem?→ζd,getElem?_set→ζe,append_assoc→ζf,all_eq_true→ζj,map_nil→ζq,getElem?_append→ζu,replicate_succ→ζx,findIdx?_cons→ζD,flatten_cons→ζH,mem_map→ζL,headD_cons→ζS,range→η1,length→ηi
open Nat renaming eq_of_beq_eq_true→δ,beq→ε,le_of_ble_eq_true→ο,lt_of_lt_of_le→χ,blt→ξ2,le_refl→ξ3,ble→ξ9,mul_le_mul_right→ξm,zero_add→ξs,lt_or_ge→ξA,succ_mul→ξC,blt_eq→ξL,le_mul_of_pos_right→ξQ,min→ξZ,decEq→ζ3,le_trans→ζ5,min_eq_right→ζl,add_zero→ζr,min_eq_left→ζs,add_comm→ηb,le_total→ηc
open Option renaming getD_some→υ,map_some→ξ0,map_none→ξc,getD_none→ξI,none→ζi,map_eq_some_iff→ζm
open Option.some renaming injEq→ι
open Prod.mk renaming injEq→ξO
section

abbrev Γ:=List Nat
abbrev Γa:=List Int
abbrev Γb:=List Go.Value
abbrev Γc:=List (Int×Int)
abbrev Γd:=List (Int×Go.Value)
namespace Go.Dc
open Go.RowKit
abbrev Env:=List (Nat×Value)
def Env.get:Env->Nat->Option Value
 |[],_=>none
 |(i,v)::r,j=>bif ε i j then some v else Env.get r j
structure Has (N:Nat) (E:Env) (ds:List Deferred) (a:Act):Prop where
 size:a.tmps.size=N
 defers:a.defers=ds
 get: ∀i v,E.get i=some v->a.tmps.getD i undef=v
def agree:Env->Env->Prop
 |[],_=>True
 |(i,v)::r,E=>E.get i=some v/\agree r E
theorem aa7 {E' E:Env} (h:agree E' E): ∀ {i v},E'.get i=some v->E.get i=some v:=by
 induction E' with
 |nil=>intro i v a;simp[Env.get] at a
 |cons p r d=>
  obtain⟨j,u⟩:=p;obtain⟨h1,c⟩:=h;intro i v a;simp only[Env.get] at a;cases b:ε j i with
  |true=>
   rw[b] at a;simp only[cond_true,ι] at a;have:=δ b;subst this;subst a;exact h1
  |false=>rw[b] at a;exact d c a
theorem Has.weaken {N E E' ds a} (h:Has N E ds a) (b:agree E' E):Has N E' ds a:=⟨h.size,h.defers,λi v c=>h.get i v (aa7 b c)⟩
def ev (E:Env):Operand->Option Value
 | .tmp t=>E.get t
 | .const v=>some v
 | .global g=>some (.pointer (some ⟨g,0,none⟩))
 | .func f=>some (.func (.func f) #[] #[])
theorem Has.eval {N E ds a x v} (h:Has N E ds a) (b:ev E x=some v):a.eval x=v:=by
 cases x with
 |tmp t=>exact h.get t v b
 |const u=>simpa[ev,ζt] using b
 |global g=>simpa[ev,ζt] using b
 |func f=>simpa[ev,ζt] using b
theorem Has.put {N E ds a d v} (h:Has N E ds a) (c:ξ2 d N=true):Has N ((d,v)::E) ds (a.put (some d) v):=by
 have f:d<a.tmps.size:=by rw[h.size];exact ξL.mp c
 refine⟨by simp[ζF,h.size],h.defers,λi u hu=>?_⟩;simp only[Env.get] at hu;simp only[ζF];cases b:ε d i with
 |true=>
  rw[b] at hu;have:=δ b;subst this;simp only[cond_true,ι] at hu;simp[f,hu]
 |false=>
  rw[b] at hu;simp only[cond_false] at hu;have g:d≠i:=λe=>by subst e;simp at b
  have:=h.get i u hu;simp only[θ] at this ⊢;rw[ξ g];exact this
structure TI where
 tag:Nat
 k:Nat:=0
 e:Nat:=0
 fs:List (Nat×Nat):=[]
 size:Nat:=1
 bytes:Nat:=8
 zero:Value:=.bool false
def PD:IntKind->Nat
 | .i8=>0| .i16=>1| .i32=>2| .i64=>3| .u8=>4| .u16=>5| .u32=>6| .u64=>7
def noKind:Nat->IntKind
 |0=>.i8|1=>.i16|2=>.i32|3=>.i64|4=>.u8|5=>.u16|6=>.u32|_=>.u64
theorem aex (k:IntKind):noKind (PD k)=k:=by cases k<;>rfl
def ir:TypeDesc->Nat×Nat×Nat×List (Nat×Nat)
 | .bool=>(1,0,0,[])
 | .int k=>(2,PD k,0,[])
 | .string=>(3,0,0,[])
 | .pointer e=>(4,0,e,[])
 | .slice e=>(5,0,e,[])
 | .array n e=>(6,n,e,[])
 | .map k e=>(7,k,e,[])
 | .struct fs=>(8,0,0,fs.toList.map λf=>(f.type,f.offset))
 | .func _ _ _=>(9,0,0,[])
 | .interface _=>(10,0,0,[])
 |_=>(0,0,0,[])
abbrev cK:=List (Nat×TI)
def cK.get:cK->Nat->Option TI
 |[],_=>none
 |(i,v)::r,j=>bif ε i j then some v else cK.get r j
def TI.fits (P:Program) (t:Nat) (i:TI):Prop:=(P.underlying t).map ir=some (i.tag,i.k,i.e,i.fs)/\(P.info? t).map (λx=>(x.size,x.bytes,x.zero))=some (i.size,i.bytes,some i.zero)
def cK.ok (P:Program):cK->Prop
 |[]=>True
 |(t,i)::r=>i.fits P t/\cK.ok P r
theorem cK.ok.fits {P:Program} {Θ:cK} (h:Θ.ok P): ∀ {t i},Θ.get t=some i->i.fits P t:=by
 induction Θ with
 |nil=>intro t i hi;simp[cK.get] at hi
 |cons p r c=>
  obtain⟨j,u⟩:=p;obtain⟨h1,b⟩:=h;intro t i hi;simp only[cK.get] at hi;cases a:ε j t with
  |true=>
   rw[a] at hi;have:=δ a;subst this;simp only[cond_true,ι] at hi;subst hi;exact h1
  |false=>rw[a] at hi;exact c b hi
section
variable {P:Program} {t:Nat} {i:TI}
theorem TI.fits.desc (h:i.fits P t): ∃d,P.underlying t=some d/\ir d=(i.tag,i.k,i.e,i.fs):=by
 obtain⟨h1,_⟩:=h;cases hu:P.underlying t with
 |none=>rw[hu] at h1;cases h1
 |some d=>rw[hu] at h1;exact⟨d,rfl,by simpa using h1⟩
theorem TI.fits.info (h:i.fits P t): ∃x,P.info? t=some x/\x.size=i.size/\x.bytes=i.bytes/\x.zero=some i.zero:=by
 obtain⟨_,a⟩:=h;cases hu:P.info? t with
 |none=>rw[hu] at a;cases a
 |some x=>rw[hu] at a;simp only[ξ0,ι,ξO] at a;exact⟨x,rfl,a.1,a.2.1,a.2.2⟩
theorem TI.fits.bool (h:i.fits P t) (c:i.tag=1):P.underlying t=some .bool:=by
 obtain⟨d,a,b⟩:=h.desc;rw[a];cases d<;>simp[ir,c] at b<;>try rfl
 all_goals omega
theorem TI.fits.int (h:i.fits P t) (c:i.tag=2):P.underlying t=some (.int (noKind i.k)):=by
 obtain⟨d,b,a⟩:=h.desc;rw[b];cases d<;>simp[ir,c] at a<;>try omega
 rw[<-a.1,aex]
theorem TI.fits.string (h:i.fits P t) (c:i.tag=3):P.underlying t=some .string:=by
 obtain⟨d,a,b⟩:=h.desc;rw[a];cases d<;>simp[ir,c] at b<;>try rfl
 all_goals omega
theorem TI.fits.pointer (h:i.fits P t) (c:i.tag=4):P.underlying t=some (.pointer i.e):=by
 obtain⟨d,b,a⟩:=h.desc;rw[b];cases d<;>simp[ir,c] at a<;>try omega
 rw[a.2.1]
theorem TI.fits.slice (h:i.fits P t) (c:i.tag=5):P.underlying t=some (.slice i.e):=by
 obtain⟨d,b,a⟩:=h.desc;rw[b];cases d<;>simp[ir,c] at a<;>try omega
 rw[a.2.1]
theorem TI.fits.array (h:i.fits P t) (c:i.tag=6):P.underlying t=some (.array i.k i.e):=by
 obtain⟨d,b,a⟩:=h.desc;rw[b];cases d<;>simp[ir,c] at a<;>try omega
 rw[a.1,a.2.1]
theorem TI.fits.map (h:i.fits P t) (c:i.tag=7):P.underlying t=some (.map i.k i.e):=by
 obtain⟨d,b,a⟩:=h.desc;rw[b];cases d<;>simp[ir,c] at a<;>try omega
 rw[a.1,a.2.1]
theorem TI.fits.struct (h:i.fits P t) (c:i.tag=8): ∃fs,P.underlying t=some (.struct fs)/\fs.toList.map (λf=>(f.type,f.offset))=i.fs:=by
 obtain⟨d,b,a⟩:=h.desc;rw[b];cases d<;>simp[ir,c] at a<;>try omega
 exact⟨_,rfl,a.2.2⟩
end
end Go.Dc
end
section
namespace Go.Dc
open Go.RowKit
def F6 (op:BinOp) (k:IntKind) (a b:Int):Option Value:=
 match op with
 | .add=>some (.int k (k.wrap (a+b)))
 | .sub=>some (.int k (k.wrap (a-b)))
 | .mul=>some (.int k (k.wrap (a*b)))
 | .and=>some (.int k (bits .and k a b))
 | .or=>some (.int k (bits .or k a b))
 | .xor=>some (.int k (bits .xor k a b))
 | .andNot=>some (.int k (bits .andNot k a b))
 | .eql=>some (.bool (a==b))
 | .neq=>some (.bool (a !=b))
 | .lss=>some (.bool (decide (a<b)))
 | .leq=>some (.bool (decide (a<=b)))
 | .gtr=>some (.bool (decide (a>b)))
 | .geq=>some (.bool (decide (a>=b)))
 |_=>none
def sameKind:IntKind->IntKind->Bool
 | .i8,.i8| .i16,.i16| .i32,.i32| .i64,.i64| .u8,.u8| .u16,.u16| .u32,.u32| .u64,.u64=>true
 |_,_=>false
theorem eU {a b:IntKind} (h:sameKind a b=true):a=b:=by cases a<;>cases b<;>first|rfl|(simp[sameKind] at h)
def mY (Θ:cK) (op:BinOp) (t:TypeId) (x y:Value):Option Value:=
 match x,y with
 | .int k a,.int c b=>bif sameKind k c then F6 op k a b else none
 | .bool a,.bool b=>
  match Θ.get t with
  |some i=>bif ε i.tag 1 then(match op with| .eql=>some (.bool (a==b))| .neq=>some (.bool (!(a==b)))|_=>none) else none
  |none=>none
 | .string a,.string b=>match op with| .eql=>some (.bool (a.toList==b.toList))| .neq=>some (.bool (!(a.toList==b.toList)))|_=>none
 | .slice a _ _,.slice none _ _=>
  match Θ.get t with
  |some i=>bif ε i.tag 5 then(match op with| .eql=>some (.bool a.isNone)| .neq=>some (.bool (!a.isNone))|_=>none) else none
  |none=>none
 | .pointer a,.pointer none=>
  match Θ.get t with
  |some i=>bif ε i.tag 4 then(match op with| .eql=>some (.bool a.isNone)| .neq=>some (.bool (!a.isNone))|_=>none) else none
  |none=>none
 |_,_=>none
def aj_:Operand->Bool
 | .const (.int _ n)=>n==0
 |_=>true
def uX (op:BinOp) (x:Value) (y:Operand):Option Value:=
 match x,y with
 | .int k a,.const (.int c b)=>
  match op with
  | .quo=>bif sameKind k c&&!(b==0) then some (.int k (k.wrap (a.tdiv b))) else none
  | .rem=>bif sameKind k c&&!(b==0) then some (.int k (a.tmod b)) else none
  | .shl=>bif !(decide (b<0)) then some (.int k (k.wrap (a*2^(min b.toNat k.bits)))) else none
  | .shr=>bif !(decide (b<0)) then some (.int k (a.fdiv (2^(min b.toNat k.bits)))) else none
  |_=>none
 |_,_=>none
def F_ (op:UnOp) (x:Value):Option Value:=
 match op,x with
 | .not,.bool b=>some (.bool (!b))
 | .neg,.int k n=>some (.int k (k.wrap (0-n)))
 |_,_=>none
def F8 (Θ:cK) (src dst:TypeId) (x:Value):Option Value:=
 match Θ.get src,Θ.get dst with
 |some i,some j=>
  match x with
  | .int _ n=>bif ε j.tag 2 then some (.int (noKind j.k) ((noKind j.k).wrap n)) else none
  | .string s=>bif ε i.tag 3&&ε j.tag 3 then some (.string s) else none
  |_=>none
 |_,_=>none
def F9 (Θ:cK) (t:TypeId) (x:Value):Option Value:=
 match Θ.get t with
 |some i=>
  match x with
  | .slice _ n _=>bif ε i.tag 5 then some (.int .i64 n) else none
  | .string s=>bif ε i.tag 3 then some (.int .i64 s.size) else none
  |_=>none
 |none=>none
def Of (x y:Value):Option Value:=
 match x,y with
 | .int k a,.int c b=>bif sameKind k c then some (.int k (if b<a then b else a)) else none
 |_,_=>none
def Oe (x y:Value):Option Value:=
 match x,y with
 | .int k a,.int c b=>bif sameKind k c then some (.int k (if b>a then b else a)) else none
 |_,_=>none
def gZ (E:Env):List Operand->Option (Γb)
 |[]=>some []
 |x::r=>match ev E x,gZ E r with|some v,some vs=>some (v::vs)|_,_=>none
def ku (fs:List (Nat×Nat)) (Θ:cK) (E:Env):List (Nat×Operand)->Array Value->Option (Array Value)
 |[],cs=>some cs
 |(i,x)::r,cs=>
  match fs[i]?,ev E x with
  |some (t,off),some v=>
   match Θ.get t with
   |some a=>
    bif ε v.cells.size a.size&&ξ9 (off+v.cells.size) cs.size then ku fs Θ E r (v.cells.zipIdx.foldl (λcs (c,j)=>cs.setIfInBounds (off+j) c) cs)
    else none
   |none=>none
  |_,_=>none
def F7 (Θ:cK) (E:Env) (c:Callee) (args:List Operand) (a:List TypeId):Option Value:=
 match c with
 | .builtin b=>
  match b with
  | .len=>match args,a with|[x],[t]=>(match ev E x with|some v=>F9 Θ t v|none=>none)|_,_=>none
  | .min=>match args with|[x,y]=>(match ev E x,ev E y with|some u,some v=>Of u v|_,_=>none)|_=>none
  | .max=>match args with|[x,y]=>(match ev E x,ev E y with|some u,some v=>Oe u v|_,_=>none)|_=>none
  | .cap=>
   match args,a with
   |[x],[t]=>
    match Θ.get t,ev E x with
    |some i,some (.slice _ _ c)=>bif ε i.tag 5 then some (.int .i64 c) else none
    |_,_=>none
   |_,_=>none
  |_=>none
 |_=>none
def iI (Θ:cK) (E:Env) (op:Op):Option Value:=
 match op with
 | .move x| .assign x=>ev E x
 | .pick c a b=>match ev E c with|some (.bool t)=>(match t with|true=>ev E a|false=>ev E b)|_=>none
 | .binOp o t x y _=>
  match ev E x,ev E y with
  |some u,some v=>
   match uX o u y with
   |some z=>some z
   |none=>mY Θ o t u v
  |_,_=>none
 | .unOp o _ x=>match ev E x with|some v=>F_ o v|none=>none
 | .convert s d x=>match ev E x with|some v=>F8 Θ s d v|none=>none
 | .extract x i=>match ev E x with|some (.tuple vs)=>vs[i]? |_=>none
 | .makeFunc fn first g=>match gZ E first.toList,gZ E g.toList with|some f,some c=>some (.func fn f.toArray c.toArray)|_,_=>none
 | .field t x f=>
  match Θ.get t,ev E x with
  |some i,some (.agg cs)=>
   bif ε i.tag 8 then
    match i.fs[f]? with
    |some (e,off)=>
     match Θ.get e with
     |some j=>bif ε j.tag 8||ε j.tag 6 then some (.agg (cs.extract off (off+j.size))) else cs[off]?
     |none=>none
    |none=>none
   else none
  |_,_=>none
 | .fieldAddr t x f=>
  match Θ.get t,ev E x with
  |some i,some (.pointer (some a))=>
   bif ε i.tag 8 then
    match i.fs[f]? with
    |some (e,off)=>
     match Θ.get e with
     |some j=>bif ε j.size 0 then none else some (.pointer (some (a.add off)))
     |none=>none
    |none=>none
   else none
  |_,_=>none
 | .build t parts=>
  match Θ.get t with
  |some i=>bif ε i.tag 8 then(match ku i.fs Θ E parts.toList i.zero.cells with|some cs=>some (.agg cs)|none=>none) else none
  |none=>none
 | .nilCheck x=>match ev E x with|some (.pointer (some a))=>some (.pointer (some a))|some (.func (.func f) u v)=>some (.func (.func f) u v)|_=>none
 | .call c=>F7 Θ E c.callee c.args.toList c.argTypes.toList
 |_=>none
section
variable {P:Program} {Θ:cK} {N:Nat} {E:Env} {ds:List Deferred} {a:Act} {w:World}
theorem ahS {op:BinOp} {k:IntKind} {x y:Int} {v:Value} {t:TypeId} {ox oy:Operand} (h:F6 op k x y=some v):
  (do eqGuard op t ox oy (.int k x) (.int k y);binOp op t (.int k x) (.int k y):Sem Value).run P w= .ok v w:=by
 cases op<;>simp[F6] at h<;>subst h<;>simp[go_sem]
 all_goals simp[Op.intArith]
theorem F3 {t:TypeId} {x y:Value} {r:Bool} (h: ∀d,(ζG (d+1) t x y).run P w= .ok r w):(η2 t x y).run P w= .ok r w:=h 9999
theorem acA {t:TypeId} {x y:Bool} (h:P.underlying t=some .bool):(η2 t (.bool x) (.bool y)).run P w= .ok (x==y) w:=
 F3 λd=>by simp[ζG,run_underlying h]
theorem acC {t e:TypeId} {A:Option Addr} {n c m d:Nat} (h:P.underlying t=some (.slice e)):(η2 t (.slice A n c) (.slice none m d)).run P w= .ok A.isNone w:=
 F3 λd=>by cases A<;>simp[ζG,run_underlying h]
theorem acB {t e:TypeId} {A:Option Addr} (h:P.underlying t=some (.pointer e)):(η2 t (.pointer A) (.pointer none)).run P w= .ok A.isNone w:=
 F3 λd=>by cases A<;>simp[ζG,run_underlying h]
theorem TC (f:Θ.ok P) {op:BinOp} {x y v:Value} {t:TypeId} {ox oy:Operand} (h:mY Θ op t x y=some v):
  (do eqGuard op t ox oy x y;binOp op t x y:Sem Value).run P w= .ok v w:=by
 unfold mY at h;split at h
 ·rename_i k a g b;cases hk:sameKind k g with
  |true=>rw[hk] at h;have:=eU hk;subst this;exact ahS h
  |false=>rw[hk] at h;cases h
 ·rename_i a b;cases hi:Θ.get t with
  |none=>rw[hi] at h;cases h
  |some i=>
   rw[hi] at h;simp only at h;cases e:ε i.tag 1 with
   |false=>rw[e] at h;cases h
   |true=>
    rw[e] at h;have hu:=(f.fits hi).bool (δ e);cases op<;>simp at h<;>subst h<;>simp[go_sem,binOp,acA hu]
 ·rename_i a b;cases op<;>simp at h<;>subst h<;>simp[binOp,Op.stringOp,eqGuard_at_string]
 ·rename_i A n c m d;cases hi:Θ.get t with
  |none=>rw[hi] at h;cases h
  |some i=>
   rw[hi] at h;simp only at h;cases e:ε i.tag 5 with
   |false=>rw[e] at h;cases h
   |true=>
    rw[e] at h;have hu:=(f.fits hi).slice (δ e);cases op<;>simp at h<;>subst h<;>simp[go_sem,binOp,acC hu]
 ·rename_i A;cases hi:Θ.get t with
  |none=>rw[hi] at h;cases h
  |some i=>
   rw[hi] at h;simp only at h;cases e:ε i.tag 4 with
   |false=>rw[e] at h;cases h
   |true=>
    rw[e] at h;have hu:=(f.fits hi).pointer (δ e);cases op<;>simp at h<;>subst h<;>simp[go_sem,binOp,acB hu]
 ·cases h
theorem ahV {op:BinOp} {x v:Value} {t:TypeId} {ox oy:Operand} {y:Value} (d:ev E oy=some y) (h:uX op x oy=some v):
  (do eqGuard op t ox oy x y;binOp op t x y:Sem Value).run P w= .ok v w:=by
 unfold uX at h;split at h
 ·rename_i k a e b;simp only[ev,ι] at d;subst d;cases op<;>simp at h
  ·cases hk:sameKind k e<;>rw[hk] at h
   ·cases h
   ·have:=eU hk;subst this;cases c:(b==0)<;>rw[c] at h
    ·simp at h;subst h;have:b≠0:=by simpa using c
     simp[go_sem,ζQ,this]
    ·cases h
  ·cases hk:sameKind k e<;>rw[hk] at h
   ·cases h
   ·have:=eU hk;subst this;cases c:(b==0)<;>rw[c] at h
    ·simp at h;subst h;have:b≠0:=by simpa using c
     simp[go_sem,ζQ,this]
    ·cases h
  ·cases c:decide (b<0)<;>rw[c] at h
   ·simp at h;subst h;have: ¬b<0:=by simpa using c
    simp[go_sem,η3,this]
   ·cases h
  ·cases c:decide (b<0)<;>rw[c] at h
   ·simp at h;subst h;have: ¬b<0:=by simpa using c
    simp[go_sem,η3,this]
   ·cases h
 ·cases h
theorem ahX {op:UnOp} {x v:Value} (h:F_ op x=some v):(Op.unary op x).run P w= .ok v w:=by
 unfold F_ at h;split at h<;>simp at h<;>subst h<;>simp[Op.unary,Op.intArith]
theorem ahU (b:Θ.ok P) {s d:TypeId} {x v:Value} (h:F8 Θ s d x=some v):(convert s d x).run P w= .ok v w:=by
 unfold F8 at h;split at h
 ·rename_i i j hi g;split at h
  ·rename_i k n;cases a:ε j.tag 2<;>rw[a] at h
   ·cases h
   ·simp at h;subst h;have c:=(b.fits g).int (δ a);obtain⟨u,e,_⟩:=(b.fits hi).desc;simp[convert,run_underlying c,run_underlying e,Conv.intToInt]
  ·rename_i s;cases a:ε i.tag 3<;>rw[a] at h
   ·cases h
   ·cases f:ε j.tag 3<;>rw[f] at h
    ·cases h
    ·simp at h;subst h;have c:=(b.fits g).string (δ f);have e:=(b.fits hi).string (δ a);simp[convert,run_underlying c,run_underlying e]
  ·cases h
 ·cases h
theorem ahW (d:Θ.ok P) {t ty:TypeId} {x v:Value} (h:F9 Θ t x=some v):(ξM #[t] ty #[x]).run P w= .ok v w:=by
 unfold F9 at h;split at h
 ·rename_i i hi;split at h
  ·rename_i A n c;cases a:ε i.tag 5<;>rw[a] at h
   ·cases h
   ·simp at h;subst h;have b:=(d.fits hi).slice (δ a);simp[ξM,run_underlying b,goInt]
  ·rename_i s;cases a:ε i.tag 3<;>rw[a] at h
   ·cases h
   ·simp at h;subst h;have b:=(d.fits hi).string (δ a);simp[ξM,run_underlying b,goInt]
  ·cases h
 ·cases h
theorem pe (h:Has N E ds a): ∀ {l:List Operand} {vs:Γb},gZ E l=some vs->l.map a.eval=vs:=by
 intro l
 induction l with
 |nil=>intro vs b;simp[gZ] at b;subst b;rfl
 |cons x r e=>
  intro vs b;simp only[gZ] at b;split at b
  ·rename_i v us d c;simp at b;subst b;simp[h.eval d,e c]
  ·cases b
theorem dW {t:TypeId} {i:TI} (h:i.fits P t):(sizeOf t).run P w= .ok i.size w:=by
 obtain⟨x,b,a,_⟩:=h.info;simp[sizeOf,typeInfo,b,a]
theorem HT {t:TypeId} {i:TI} (h:i.fits P t):(isAgg t).run P w= .ok (ε i.tag 8||ε i.tag 6) w:=by
 obtain⟨d,b,a⟩:=h.desc;simp only[isAgg,η,run_underlying b,ζ];cases d<;>simp[ir] at a<;>rw[<-a.1]<;>rfl
theorem mm {t:TypeId} {i:TI} (h:i.fits P t):(zeroValue t).run P w= .ok i.zero w:=by
 obtain⟨x,a,_,_,b⟩:=h.info;simp[zeroValue,typeInfo,a,b]
theorem afq {t off:Nat} {i:TI} {cs:Array Value} {v:Value} (h:i.fits P t)
  (a:(bif ε i.tag 8||ε i.tag 6 then some (.agg (cs.extract off (off+i.size))) else cs[off]?)=some v):(part t cs off).run P w= .ok v w:=by
 simp only[part,η,HT h,ζ];cases b:(ε i.tag 8||ε i.tag 6)<;>rw[b] at a
 ·simp only[cond_false] at a;simp[a]
 ·simp only[cond_true,ι] at a;simp[dW h,a]
theorem Hd {fs:Array Field} {l:List (Nat×Nat)} (hl:fs.toList.map (λf=>(f.type,f.offset))=l) {f t off:Nat} (h:l[f]? =some (t,off)):
  ∃g,fs[f]? =some g/\g.type=t/\g.offset=off:=by
 subst hl;rw[ξo] at h;cases a:fs.toList[f]? with
 |none=>rw[a] at h;cases h
 |some g=>
  rw[a] at h;simp at h;exact⟨g,by simpa using a,h.1,h.2⟩
theorem acN (m:Θ.ok P) {fs:Array Field} {l:List (Nat×Nat)} (hl:fs.toList.map (λf=>(f.type,f.offset))=l) (h:Has N E ds a) {places:Array (Nat×Nat)}
  (hp: ∀(f t off:Nat) (i:TI),l[f]? =some (t,off)->Θ.get t=some i->places[f]? =some (off,i.size)):
  ∀ {ps:List (Nat×Operand)} {cs c:Array Value},ku l Θ E ps cs=some c->ζb (places[·]?) cs (ps.map λp=>(p.1,a.eval p.2))=some c:=by
 intro ps
 induction ps with
 |nil=>intro cs c b;simpa[ku,ζb] using b
 |cons p r k=>
  obtain⟨f,x⟩:=p;intro cs c b;simp only[ku] at b;split at b
  ·rename_i t off v g j;cases hi:Θ.get t with
   |none=>rw[hi] at b;cases b
   |some i=>
    rw[hi] at b;simp only at b;cases d:(ε v.cells.size i.size&&ξ9 (off+v.cells.size) cs.size)<;>rw[d] at b
    ·cases b
    ·simp only[μ] at d;have h1:=δ d.1;have e:=ο d.2;simp only[ξt,ζb,hp f t off i g hi,h.eval j];rw[if_neg (by simp only[h1,ne_eq,not_true_eq_false,decide_false,ζg,decide_eq_true_eq];rw[h1] at e;omega)];exact k b
  ·cases b
theorem aed (p:Θ.ok P): ∀(fs:List Field),(∀f∈fs,∃i:TI,i.fits P f.type)-> ∃ps:List (Nat×Nat),(fs.mapM (λf=>do pure (f.offset,<-sizeOf f.type):Field->Sem (Nat×Nat))).run P w= .ok ps w/\
  ∀(k:Nat) (f:Field) (i:TI),fs[k]? =some f->i.fits P f.type->ps[k]? =some (f.offset,i.size):=by
 intro fs
 induction fs with
 |nil=>intro _;exact⟨[],by simp,λk f i h=>by simp at h⟩
 |cons f r o=>
  intro a;obtain⟨ps,h1,d⟩:=o λg e=>a g (ξ4 _ e);obtain⟨i,hi⟩:=a f π;refine⟨(f.offset,i.size)::ps,?_,?_⟩
  ·simp only[ζ8,η,dW hi,ζ,κ,h1]
  ·intro k g j hk b;cases k with
   |zero=>
    simp only[ξa,ι] at hk ⊢;subst hk;obtain⟨x,n,l,_⟩:=hi.info;obtain⟨y,c,m,_⟩:=b.info;rw[n] at c;cases c;rw[<-l,<-m]
   |succ k=>simpa using d k g j (by simpa using hk) b
def pT (Θ:cK):List (Nat×Nat)->Bool
 |[]=>true
 |(t,_)::r=>(Θ.get t).isSome&&pT Θ r
theorem acL (b:Θ.ok P): ∀(fs:List Field),pT Θ (fs.map λf=>(f.type,f.offset))=true-> ∀f∈fs,∃i:TI,i.fits P f.type:=by
 intro fs
 induction fs with
 |nil=>intro _ f a;cases a
 |cons g r c=>
  intro h f a;simp only[ξt,pT,μ] at h;rcases ξd.1 a with rfl|a
  ·obtain⟨i,hi⟩:=Option.isSome_iff_exists.1 h.1;exact⟨i,b.fits hi⟩
  ·exact c h.2 f a
theorem run_build (b:Θ.ok P) (h:Has N E ds a) {t:TypeId} {i:TI} {ps:Array (Nat×Operand)} {cs:Array Value} (hi:Θ.get t=some i) (p:i.tag=8) (n:pT Θ i.fs=true)
  (e:ku i.fs Θ E ps.toList i.zero.cells=some cs):(ηf t (ps.map λ(k,x)=>(k,a.eval x))).run P w= .ok (.agg cs) w:=by
 obtain⟨fs,hu,hl⟩:=(b.fits hi).struct p;obtain⟨pl,h1,d⟩:=aed (P:=P) (w:=w) b fs.toList (acL b _ (by rw[hl];exact n));simp only[ηf,η,mm (b.fits hi),ζ,run_underlying hu];rw[ξF];simp only[ζR,h1];have c:=acN (places:=pl.toArray) b hl h (λf t off j c o=>by
  obtain⟨g,m,rfl,rfl⟩:=Hd hl c;have:=d f g j (by simpa using m) (b.fits o);simpa using this) e
 simp only[ζ];rw[ξg];have l:ζb (λx=>pl.toArray[x]?) i.zero.cells (ps.toList.map λx=>(x.1,a.eval x.2))=some cs:=c;rw[l];rfl
theorem TD (b:Θ.ok P) {t f a off:Nat} {i j:TI} {cs:Array Value} {v:Value} (hi:Θ.get t=some i) (h:i.tag=8) (c:i.fs[f]? =some (a,off)) (e:Θ.get a=some j)
  (k:(bif ε j.tag 8||ε j.tag 6 then some (.agg (cs.extract off (off+j.size))) else cs[off]?)=some v):(ηg t (.agg cs) f).run P w= .ok v w:=by
 obtain⟨fs,hu,hl⟩:=(b.fits hi).struct h;obtain⟨g,d,rfl,rfl⟩:=Hd hl c;simp[ηg,run_underlying hu,d,asAgg,afq (b.fits e) k]
theorem TE (b:Θ.ok P) {t f a off:Nat} {i j:TI} {A:Addr} (hi:Θ.get t=some i) (h:i.tag=8) (c:i.fs[f]? =some (a,off)) (e:Θ.get a=some j)
  (k:j.size≠0):(η4 t (.pointer (some A)) f).run P w= .ok (.pointer (some (A.add off))) w:=by
 obtain⟨fs,hu,hl⟩:=(b.fits hi).struct h;obtain⟨g,d,rfl,rfl⟩:=Hd hl c;simp[η4,run_underlying hu,d,ξy,fieldPlace,dW (b.fits e),k]
theorem fJ {α:Type} {x:Array α} {l:List α} (h:x.toList=l):x=l.toArray:=by rw[<-h]
theorem ahT (p:Θ.ok P) (h:Has N E ds a) {c:Call} {ty:TypeId} {v:Value} (b:F7 Θ E c.callee c.args.toList c.argTypes.toList=some v):
  (do let d<-resolve a.eval c ty;invoke d.target d.args:Sem Next).run P w= .ok (.value v) w:=by
 obtain⟨q,args,r⟩:=c;simp only at b;unfold F7 at b;split at b
 ·split at b
  ·split at b
   ·rename_i x t f g;have e:=fJ f;have j:=fJ g;subst e;subst j;split at b
    ·rename_i u hu;simp[resolve,invoke,builtin,h.eval hu,ahW p b]
    ·cases b
   ·cases b
  ·split at b
   ·rename_i x y f;have e:=fJ f;subst e;split at b
    ·rename_i u z hu l;unfold Of at b;split at b
     ·rename_i k m o n;cases hk:sameKind k o<;>rw[hk] at b
      ·cases b
      ·simp only[cond_true,ι] at b;subst b;simp[resolve,invoke,builtin,h.eval hu,h.eval l,Builtin.min_,Builtin.min2]
     ·cases b
    ·cases b
   ·cases b
  ·split at b
   ·rename_i x y f;have e:=fJ f;subst e;split at b
    ·rename_i u z hu l;unfold Oe at b;split at b
     ·rename_i k m o n;cases hk:sameKind k o<;>rw[hk] at b
      ·cases b
      ·simp only[cond_true,ι] at b;subst b;simp[resolve,invoke,builtin,h.eval hu,h.eval l,Builtin.max_,Builtin.max2]
     ·cases b
    ·cases b
   ·cases b
  ·split at b
   ·rename_i x t f g;have e:=fJ f;have j:=fJ g;subst e;subst j;split at b
    ·rename_i i A n c hi hu;cases g:ε i.tag 5<;>rw[g] at b
     ·cases b
     ·simp only[cond_true,ι] at b;subst b;simp[resolve,invoke,builtin,h.eval hu,Builtin.cap_,run_underlying ((p.fits hi).slice (δ g)),goInt]
    ·cases b
   ·cases b
  ·cases b
 ·cases b
def ig (Θ:cK):Op->Bool
 | .build t _=>match Θ.get t with|some i=>pT Θ i.fs|none=>false
 |_=>true
theorem yj (p:Θ.ok P) (h:Has N E ds a) {o:Oper} {v:Value} (B:ig Θ o.op=true) (g:iI Θ E o.op=some v):(execOp a.eval o).run P w= .ok (.value v) w:=by
 unfold iI at g;unfold execOp;split at g
 ·rename_i x k;rw[k];simp[h.eval g]
 ·rename_i x k;rw[k];simp[h.eval g]
 ·rename_i c x y k;rw[k];split at g
  ·rename_i t n;cases t
   ·simp[h.eval n,h.eval g,asBool]
   ·simp[h.eval n,h.eval g,asBool]
  ·cases g
 ·rename_i b t x y _ k;rw[k];split at g
  ·rename_i u J l F;simp only[h.eval l,h.eval F];cases r:uX b u y with
   |some z=>
    rw[r] at g;simp only[ι] at g;subst g;have:=ahV (P:=P) (w:=w) (t:=t) (ox:=x) F r;simp only[η] at this ⊢;rw[this];rfl
   |none=>
    rw[r] at g;have:=TC (P:=P) (w:=w) (ox:=x) (oy:=y) p g;simp only[η] at this ⊢;rw[this];rfl
  ·cases g
 ·rename_i b t x k;rw[k];split at g
  ·rename_i u l;simp[h.eval l,ahX g]
  ·cases g
 ·rename_i s d x k;rw[k];split at g
  ·rename_i u l;simp[h.eval l,ahU p g]
  ·cases g
 ·rename_i x i k;rw[k];split at g
  ·rename_i vs l;simp[h.eval l,η5,g]
  ·cases g
 ·rename_i fn f c k;rw[k];split at g
  ·rename_i u z q n;simp only[ι] at g;subst g;have G:f.map a.eval=u.toArray:=by rw[<-pe h q,<-ξg]
   have H:c.map a.eval=z.toArray:=by rw[<-pe h n,<-ξg]
   simp[ζY,G,H]
  ·cases g
 ·rename_i t x f k;rw[k];split at g
  ·rename_i i cs hi l;cases m:ε i.tag 8<;>rw[m] at g
   ·cases g
   ·simp only[cond_true] at g;split at g
    ·rename_i I off q;split at g
     ·rename_i j C;simp[h.eval l,TD p hi (δ m) q C g]
     ·cases g
    ·cases g
  ·cases g
 ·rename_i t x f k;rw[k];split at g
  ·rename_i i A hi l;cases m:ε i.tag 8<;>rw[m] at g
   ·cases g
   ·simp only[cond_true] at g;split at g
    ·rename_i I off q;split at g
     ·rename_i j C;cases D:ε j.size 0<;>rw[D] at g
      ·simp only[cond_false,ι] at g;subst g;simp[h.eval l,TE p hi (δ m) q C (by intro e;rw[e] at D;cases D)]
      ·cases g
     ·cases g
    ·cases g
  ·cases g
 ·rename_i t ps k;rw[k] at B;rw[k];split at g
  ·rename_i i hi;simp only[ig,hi] at B;cases m:ε i.tag 8<;>rw[m] at g
   ·cases g
   ·simp only[cond_true] at g;split at g
    ·rename_i cs n;simp only[ι] at g;subst g;have:=run_build (P:=P) (w:=w) p h hi (δ m) B n;simp only[η,this];rfl
    ·cases g
  ·cases g
 ·rename_i x k;rw[k];split at g
  ·rename_i A l;simp only[ι] at g;subst g;simp[h.eval l]
  ·rename_i f u z l;simp only[ι] at g;subst g;simp[h.eval l]
  ·cases g
 ·rename_i c k;rw[k];have:=ahT (P:=P) (w:=w) (ty:=o.type) p h g;simp only[η] at this ⊢;exact this
 ·cases g
end
def fw (r:Option Nat):Fence:= {fn:=λ_=>True,depth:=none,alive:=false,round:=r}
theorem acX:fw none=Fence.wide:=rfl
def want (N:Nat) (ops:Array Oper) (E:Env) (g:Option (Nat×Bool)):Option Bool:=
 match g with
 |none=>some true
 |some (j,b)=>
  match ops[j]? with
  |some o=>
   match o.dst with
   |some d=>
    bif ξ2 d N then
     match E.get d with
     |some (.bool c)=>some (match c,b with|true,true=>true|false,false=>true|_,_=>false)
     |some (.tuple _)=>some false
     |_=>none
    else none
   |none=>none
  |none=>none
theorem gW {N:Nat} {ops:Array Oper} {E:Env} {ds:List Deferred} {a:Act} {o:Oper} {b:Bool} (h:Has N E ds a) (hw:want N ops E o.guard=some b):
  ζz o (yielded ops a.tmps)=b:=by
 unfold want at hw;unfold ζz;split at hw
 ·rename_i g;rw[g];simpa using hw
 ·rename_i j c g;rw[g];simp only;split at hw
  ·rename_i p hp;split at hw
   ·rename_i d k;cases f:ξ2 d N<;>rw[f] at hw
    ·cases hw
    ·simp only[cond_true] at hw;split at hw
     ·rename_i z i;have e:d<a.tmps.size:=by rw[h.size];exact ξL.mp f
      have:=h.get d _ i;rw[θ,σ e] at this;simp only[υ] at this;simp only[ι] at hw;subst hw;simp[yielded,hp,k,e,this];cases z<;>cases c<;>rfl
     ·rename_i z i;have e:d<a.tmps.size:=by rw[h.size];exact ξL.mp f
      have:=h.get d _ i;rw[θ,σ e] at this;simp only[υ] at this;simp only[ι] at hw;subst hw;simp[yielded,hp,k,e,this]
     ·cases hw
   ·cases hw
  ·cases hw
section
variable (P:Program) (r:Option Nat) (N:Nat)
def WO (ops:Array Oper) (Q:Exit->Act->World->Prop) (l:Γ) (E:Env) (ds:List Deferred) (w:World):Prop:= ∀a,Has N E ds a->wpOpsIn (fw r) 0 P ops Q l a w
def WC (c:Code) (Q:Exit->Act->World->Prop) (E:Env) (ds:List Deferred) (w:World):Prop:= ∀a,Has N E ds a->c.wpIn (fw r) 0 P Q a w
def WQ (Q:Exit->Act->World->Prop) (e:Exit) (E:Env) (ds:List Deferred) (w:World):Prop:= ∀a,Has N E ds a->Q e a w
end
section
variable {P:Program} {r:Option Nat} {N:Nat} {Θ:cK} {ops:Array Oper} {Q:Exit->Act->World->Prop} {l:Γ} {E E':Env} {ds:List Deferred} {w:World} {c x y:Code} {id:Nat}
theorem aU (h:WC P r N x (Exit.then (y.wpIn (fw r) 0 P Q) Q) E ds w):WC P r N (.seq x y) Q E ds w:=λa b=>wpIn_seq (h a b)
theorem mh (h:WC P r N x (ζn id Q) E ds w):WC P r N (.block id x) Q E ds w:=λa b=>wpIn_block (h a b)
theorem eF (h:WQ N Q .normal E ds w):WC P r N .skip Q E ds w:=λa b=>wpIn_skip (h a b)
theorem Kh (h:WQ N Q (.exit id) E ds w):WC P r N (.exit id) Q E ds w:=λa b=>wpIn_exit (h a b)
theorem dC (h:WQ N Q .ret E ds w):WC P r N .ret Q E ds w:=λa b=>wpIn_ret (h a b)
theorem oo {o:Operand} (c:ev E o=some (.bool true)) (h:WC P r N x Q E ds w):WC P r N (.cond o x y) Q E ds w:=λa b=>wpIn_cond_true (b.eval c) (h a b)
theorem k3 {o:Operand} (c:ev E o=some (.bool false)) (h:WC P r N y Q E ds w):WC P r N (.cond o x y) Q E ds w:=λa b=>wpIn_cond_false (b.eval c) (h a b)
theorem bg {ops:Array Oper} (hl:η1 ops.size=l) (h:WO P r N ops Q l E ds w):WC P r N (.region id ops false) Q E ds w:=
 λa b=>wpIn_region (by rw[hl];exact h a b)
theorem a_ (h:WQ N Q .normal E ds w):WO P r N ops Q [] E ds w:=λa b=>h a b
theorem aV (h:WC P r N y Q E ds w):WQ N (Exit.then (y.wpIn (fw r) 0 P Q) Q) .normal E ds w:=λa b=>h a b
def mZ (N:Nat) (Θ:cK) (ops:Array Oper):Γ->Env->Option Env
 |[],E=>some E
 |i::l,E=>
  match ops[i]? with
  |some o=>
   match o.dst with
   |some d=>
    bif ξ2 d N then
     match want N ops E o.guard with
     |some true=>bif ig Θ o.op then(match iI Θ E o.op with|some v=>mZ N Θ ops l ((d,v)::E)|none=>none) else none
     |some false=>mZ N Θ ops l ((d,undef)::E)
     |none=>none
    else none
   |none=>none
  |none=>none
theorem ain {a:Act} {o:Oper} {v:Value} (f:Θ.ok P) (h:Has N E ds a) (e:ig Θ o.op=true) (b:iI Θ E o.op=some v):(o.semAt (fw r).round a.eval).run P w= .ok (.value v) w:=by
 rw[ξl]
 ·exact yj f h e b
 ·intro c d;rw[d] at b;simp[iI] at b
theorem aim (p:Θ.ok P): ∀ {m:Γ} {E c:Env},mZ N Θ ops m E=some c-> ∀a,Has N E ds a->(∀a',Has N c ds a'->wpOpsIn (fw r) 0 P ops Q l a' w)->wpOpsIn (fw r) 0 P ops Q (m++l) a w:=by
 intro m
 induction m with
 |nil=>intro E c he a b h;simp only[mZ,ι] at he;subst he;exact h a b
 |cons i m j=>
  intro E c he a b h;simp only[mZ] at he;split at he
  ·rename_i o k;split at he
   ·rename_i d f;cases e:ξ2 d N<;>rw[e] at he
    ·cases he
    ·simp only[cond_true] at he;simp only[List.cons_append,wpOpsIn,k];split at he
     ·rename_i hw;rw[if_pos (gW b hw)];cases g:ig Θ o.op<;>rw[g] at he
      ·cases he
      ·simp only[cond_true] at he;split at he
       ·rename_i v n;refine⟨λ_ _=>trivial,?_⟩;rw[ain p b g n];simp only[ξS,f];exact j he _ (b.put e) h
       ·cases he
     ·rename_i hw;rw[if_neg (by rw[gW b hw];simp)];refine⟨λ_ _=>trivial,?_⟩;rw[f];exact j he _ (b.put e) h
     ·cases he
   ·cases he
  ·cases he
theorem aK (f:Θ.ok P) (m:Γ) {b:Env} (E':Env) (he:mZ N Θ ops m E=some b) (c:agree E' b) (h:WO P r N ops Q l E' ds w):WO P r N ops Q (m++l) E ds w:=
 λa d=>aim f he a d λa' e=>h a' (e.weaken c)
theorem eh {i d:Nat} {o:Oper} {v:Value} {w':World} (j:ops[i]? =some o) (hw:want N ops E o.guard=some true) (g:o.dst=some d) (e:ξ2 d N=true)
  (f: ∀c,o.op≠ .defer c) (k: ∀a,Has N E ds a->(execOp a.eval o).run P w= .ok (.value v) w') (h:WO P r N ops Q l ((d,v)::E) ds w'):WO P r N ops Q (i::l) E ds w:=by
 intro a b;simp only[wpOpsIn,j];rw[if_pos (gW b hw)];refine⟨λ_ _=>trivial,?_⟩;rw[ξl _ _ _ f,k a b];simp only[ξS,g];exact h _ (b.put e)
theorem ajR {i:Nat} {o:Oper} {w':World} (f:ops[i]? =some o) (hw:want N ops E o.guard=some true) (e:o.dst=none)
  (d: ∀c,o.op≠ .defer c) (g: ∀a,Has N E ds a->(execOp a.eval o).run P w= .ok .skip w') (h:WO P r N ops Q l E ds w'):WO P r N ops Q (i::l) E ds w:=by
 intro a b;simp only[wpOpsIn,f];rw[if_pos (gW b hw)];refine⟨λ_ _=>trivial,?_⟩;rw[ξl _ _ _ d,g a b];simp only[ξS,e,ζF];exact h _ b
theorem Kn {i d f:Nat} {o:Oper} {args:Array Value} {w':World} {R:Ending->World->Prop} (t:ops[i]? =some o) (hw:want N ops E o.guard=some true) (q:o.dst=some d) (k:ξ2 d N=true)
  (n: ∀c,o.op≠ .defer c) (x: ∀a,Has N E ds a->(execOp a.eval o).run P w= .ok (.enter f args) w') (p:Calls P f args w' R)
  (h: ∀e cd,R e cd-> ∃v,e= .returned v/\WO P r N ops Q l ((d,v)::E) ds cd):WO P r N ops Q (i::l) E ds w:=by
 intro a b;simp only[wpOpsIn,t];rw[if_pos (gW b hw)];refine⟨λ_ _=>trivial,?_⟩;rw[ξl _ _ _ n,x a b];simp only[ξS];refine⟨λh=>by simp[fw] at h,?_⟩;refine⟨trivial,λcs _=>?_⟩;obtain⟨e,cd,fr,u,j,s,hl⟩:=p cs;obtain⟨v,rfl,hk⟩:=h e cd u;refine⟨.returned v,cd,fr,?_,?_,s,hl⟩
 ·simp only[q];exact hk _ (b.put k)
 ·have:=(comesIn_wide (P:=P) (m:=lone (Frame.enter P f args .normal) cs w') (m':=lone fr cs cd) (e:=.returned v)).2 j;refine ηa (λm _=>?_) (ζN j);intro g _;exact⟨λh=>by simp[fw] at h,Or.inl trivial,λ_ _=>trivial,λ_ h=>by simp[fw] at h⟩
end
structure Tr (O:Γ) (w:World) (O':Γ) (w':World):Prop where
 os:w'.os=w.os
 tape:w'.tape=w.tape
 output:w'.output=w.output
 size:w.heap.size<=w'.heap.size
 keep: ∀k,k<w.heap.size->k∉O->k∉O'/\w'.heap[k]? =w.heap[k]?
theorem Tr.refl (O:Γ) (w:World):Tr O w O w:=⟨rfl,rfl,rfl,ξ3 _,λ_ _ h=>⟨h,rfl⟩⟩
theorem Tr.trans {O O' a:Γ} {w w' cd:World} (h:Tr O w O' w') (k:Tr O' w' a cd):Tr O w a cd:=
 ⟨k.os.trans h.os,k.tape.trans h.tape,k.output.trans h.output,ζ5 h.size k.size,λi hi c=>
  let⟨h1,b⟩:=h.keep i hi c
  let⟨d,e⟩:=k.keep i (χ hi h.size) h1
  ⟨d,e.trans b⟩⟩
theorem Tr.less {O O':Γ} {w:World} (h: ∀k,k∈O'->k∈O):Tr O w O' w:=⟨rfl,rfl,rfl,ξ3 _,λk _ a=>⟨λh'=>a (h k h'),rfl⟩⟩
def Sub (O O':Γ):Prop:= ∀k,k∈O->k∈O'
theorem Sub.refl (O:Γ):Sub O O:=λ_ h=>h
theorem Sub.trans {A B C:Γ} (h:Sub A B) (k:Sub B C):Sub A C:=λx a=>k x (h x a)
theorem Sub.cons {O O':Γ} (h:Sub O O') (b:Nat):Sub O (b::O'):=λk hk=>ξ4 _ (h k hk)
theorem gM {b:Nat} {O:Γ} (h:b∈O): ∀k,k∈[b]->k∈O:=λk hk=>by simp at hk;subst hk;exact h
def OB (O:Γ) (w:World):Prop:= ∀k,k∈O->k<w.heap.size
structure Fr (S:Γ) (w w':World):Prop where
 os:w'.os=w.os
 tape:w'.tape=w.tape
 output:w'.output=w.output
 size:w.heap.size<=w'.heap.size
 block: ∀k,k<w.heap.size->k∉S->w'.heap[k]? =w.heap[k]?
theorem Fr.refl (S:Γ) (w:World):Fr S w w:=⟨rfl,rfl,rfl,ξ3 _,λ_ _ _=>rfl⟩
theorem Fr.trans {S:Γ} {w w' cd:World} (h:Fr S w w') (k:Fr S w' cd):Fr S w cd:=
 ⟨k.os.trans h.os,k.tape.trans h.tape,k.output.trans h.output,ζ5 h.size k.size,λi hi a=>(k.block i (χ hi h.size) a).trans (h.block i hi a)⟩
theorem Fr.more {S S':Γ} {w w':World} (h:Fr S w w') (b: ∀k,k∈S->k∈S'):Fr S' w w':=⟨h.os,h.tape,h.output,h.size,λi hi a=>h.block i hi λh'=>a (b i h')⟩
theorem Fr.tr {S O:Γ} {w w':World} (h:Fr S w w') (b: ∀k,k∈S->k∈O):Tr O w O w':=⟨h.os,h.tape,h.output,h.size,λi hi a=>⟨a,h.block i hi λh'=>a (b i h')⟩⟩
theorem Fr.dY {O:Γ} {w w':World} (h:Fr [] w w'):Tr O w O w':=h.tr λ_ hk=>by cases hk
theorem Fr.ob {S O:Γ} {w w':World} (h:Fr S w w') (hO:OB O w):OB O w':=λk hk=>χ (hO k hk) h.size
theorem Fr.below {w w':World} (h:Fr [] w w'):Below w.heap.size w w':=⟨h.os,h.tape,h.output,h.size,λk hk=>h.block k hk (by simp)⟩
theorem Fr.drew (S:Γ) (w:World):Fr S w w.drew:=⟨rfl,rfl,rfl,ξ3 _,λ_ _ _=>rfl⟩
def bM (w:World) (b t:Nat) (cs:Γb):Prop:=w.heap[b]? =some (.cells cs.toArray t (0,0))
theorem bM.lt {w:World} {b t:Nat} {cs:Γb} (h:bM w b t cs):b<w.heap.size:=by
 rcases ξA b w.heap.size with c|a
 ·exact c
 ·unfold bM at h;rw[Array.getElem?_eq_none a] at h;cases h
theorem bM.fr {S:Γ} {w w':World} {b t:Nat} {cs:Γb} (h:bM w b t cs) (c:Fr S w w') (a:b∉S):bM w' b t cs:=(c.block b h.lt a).trans h
theorem bM.cj {w w':World} {b t:Nat} {cs:Γb} (h:bM w b t cs) (a:Fr [] w w'):bM w' b t cs:=h.fr a (by simp)
theorem bM.cell {w:World} {b t:Nat} {cs:Γb} (h:bM w b t cs) (j:Nat):w.cell? ⟨b,j,none⟩=cs[j]? :=by
 rw[cell_of_row w b j cs.toArray t (0,0) h];simp
structure j' (O:Γ) (w:World) (b t:Nat) (cs:Γb) (w':World):Prop where
 bL:bM w' b t cs
 fr:Fr [] w w'
 tr:Tr O w (b::O) w'
 ob:OB (b::O) w'
 ge:w.heap.size<=b
theorem jN {O:Γ} {w:World} (hO:OB O w) (t:Nat) (cs:Γb):j' O w w.heap.size t cs (w.alloc (.cells cs.toArray t)):=
 ⟨heap_alloc_new _ _,⟨rfl,rfl,rfl,by simp,λk hk _=>ξV _ _ _ hk⟩,
  ⟨rfl,rfl,rfl,by simp,λk hk a=>⟨by simp;exact⟨by omega,a⟩,ξV _ _ _ hk⟩⟩,
  λk hk=>by simp at hk ⊢;rcases hk with rfl|hk;omega;have:=hO k hk;omega,ξ3 _⟩
structure Ty (α:Type) where
 agg:Bool
 n:Nat
 rep:Γ->World->Γb->α->Prop
 tr: ∀ {O w O' w' cs x},Tr O w O' w'->rep O w cs x->rep O' w' cs x
 len: ∀ {O w cs x},rep O w cs x->cs.length=n
 one: ∀ {O w cs x},rep O w cs x-> ∀u∈cs,u.oneCell'=true
 fy:agg=false->n=1
def Ty.mk' {α:Type} (T:Ty α) (cs:Γb):Value:=bif T.agg then .agg cs.toArray else cs.headD undef
def Ty.is {α:Type} (T:Ty α) (O:Γ) (w:World) (v:Value) (x:α):Prop:= ∃cs,T.rep O w cs x/\v=T.mk' cs
theorem Ty.is.tr {α:Type} {T:Ty α} {O O':Γ} {w w':World} {v:Value} {x:α} (h:T.is O w v x) (b:Tr O w O' w'):T.is O' w' v x:=
 let⟨cs,a,c⟩:=h;⟨cs,T.tr b a,c⟩
theorem Ty.cells {α:Type} {T:Ty α} {O:Γ} {w:World} {cs:Γb} {x:α} (h:T.rep O w cs x):(T.mk' cs).cells.toList=cs:=by
 unfold Ty.mk';cases a:T.agg with
 |true=>simp[ζh]
 |false=>
  have hl:=T.len h;rw[T.fy a] at hl
  match cs,hl with
  |[c],_=>
   have:=T.one h c (by simp);simp only[cond_false,ζS];cases c<;>simp[ζh,ξk] at this ⊢
def Ty.int (k:IntKind):Ty Int where
 agg:=false
 n:=1
 rep _ _ cs x:=cs=[.int k x]
 tr _ h:=h
 len h:=by subst h;rfl
 one h u hu:=by subst h;simp at hu;subst hu;rfl
 fy _:=rfl
def Ty.bool:Ty Bool where
 agg:=false
 n:=1
 rep _ _ cs x:=cs=[.bool x]
 tr _ h:=h
 len h:=by subst h;rfl
 one h u hu:=by subst h;simp at hu;subst hu;rfl
 fy _:=rfl
def Ty.str:Ty ByteArray where
 agg:=false
 n:=1
 rep _ _ cs x:=cs=[.string x]
 tr _ h:=h
 len h:=by subst h;rfl
 one h u hu:=by subst h;simp at hu;subst hu;rfl
 fy _:=rfl
theorem du {k:IntKind} {O:Γ} {w:World} {v:Value} {x:Int}:(Ty.int k).is O w v x↔v= .int k x:=
 ⟨λ⟨cs,h,a⟩=>by subst h;exact a,λh=>⟨_,rfl,h⟩⟩
theorem jx {O:Γ} {w:World} {v:Value} {x:Bool}:Ty.bool.is O w v x↔v= .bool x:=
 ⟨λ⟨cs,h,a⟩=>by subst h;exact a,λh=>⟨_,rfl,h⟩⟩
def Ty.pair {α β:Type} (A:Ty α) (B:Ty β):Ty (α×β) where
 agg:=true
 n:=A.n+B.n
 rep O w cs x:= ∃c1 c2,cs=c1++c2/\A.rep O w c1 x.1/\B.rep O w c2 x.2
 tr b:=λ⟨c1,c2,h,h1,a⟩=>⟨c1,c2,h,A.tr b h1,B.tr b a⟩
 len:=λ⟨c1,c2,h,h1,a⟩=>by subst h;rw[φ,A.len h1,B.len a]
 one:=λ⟨c1,c2,h,h1,a⟩ u hu=>by
  subst h;rcases τ.1 hu with hu|hu
  ·exact A.one h1 u hu
  ·exact B.one a u hu
 fy h:=by cases h
def Ty.single {α:Type} (A:Ty α):Ty α where
 agg:=true
 n:=A.n
 rep:=A.rep
 tr:=A.tr
 len:=A.len
 one:=A.one
 fy h:=by cases h
def Ty.ft {α β:Type} (T:Ty α) (f:β->α):Ty β where
 agg:=T.agg
 n:=T.n
 rep O w cs x:=T.rep O w cs (f x)
 tr:=T.tr
 len:=T.len
 one:=T.one
 fy:=T.fy
def dJ (w:World) (ad:Addr) (cs:Γb):Prop:= ∀j u,cs[j]? =some u->w.cell? (ad.add j)=some u
theorem hG (a:Addr) (n:Nat):(a.add n).block=a.block:=by unfold ζ6;split<;>rfl
theorem add_add (a:Addr) (i j:Nat):(a.add i).add j=a.add (i+j):=by
 unfold ζ6
 by_cases hi:i=0<;>by_cases b:j=0<;>simp[hi,b,Nat.add_assoc]
theorem abt {w w':World} {p:Addr} (h:w'.heap[p.block]? =w.heap[p.block]?):w'.cell? p=w.cell? p:=World.cell?_of_block (w:=w) h
theorem dJ.keep {w w':World} {ad:Addr} {cs:Γb} (h:dJ w ad cs) (hk:w'.heap[ad.block]? =w.heap[ad.block]?):dJ w' ad cs:=
 λj u hu=>(abt (by rw[hG];exact hk)).trans (h j u hu)
def k6 (w:World) (ad:Addr) (cs:Γb):Prop:=dJ w ad cs/\ ∀j,j<cs.length->w.frozen? (ad.add j)=false
theorem k6.keep {w w':World} {ad:Addr} {cs:Γb} (h:k6 w ad cs) (hk:w'.heap[ad.block]? =w.heap[ad.block]?):k6 w' ad cs:=
 ⟨h.1.keep hk,λj a=>(World.frozen?_of_block (w:=w) (by rw[hG];exact hk)).trans (h.2 j a)⟩
def Ty.ptr {α:Type} (T:Ty α):Ty α where
 agg:=false
 n:=1
 rep O w cs x:= ∃ad es,cs=[.pointer (some ad)]/\ad.block<w.heap.size/\ad.block∉O/\T.rep O w es x/\k6 w ad es
 tr a:=λ⟨ad,es,h,b,d,e,c⟩=>
  let⟨f,g⟩:=a.keep ad.block b d
  ⟨ad,es,h,χ b a.size,f,T.tr a e,c.keep g⟩
 len:=λ⟨_,_,h,_⟩=>by subst h;rfl
 one:=λ⟨_,_,h,_⟩ u hu=>by subst h;simp at hu;subst hu;rfl
 fy _:=rfl
def Ty.slice {α:Type} (T:Ty α):Ty (List α) where
 agg:=false
 n:=1
 rep O w cs xs:= ∃A c,cs=[.slice A xs.length c]/\(xs.length<=c/\c<=maxLen)/\
  ∀k x,xs[k]? =some x-> ∃ad es,A=some ad/\ad.block<w.heap.size/\ad.block∉O/\T.rep O w es x/\k6 w (ad.add (k*T.n)) es
 tr a:=λ⟨A,c,h,e,i⟩=>⟨A,c,h,e,λk x hk=>by
  obtain⟨ad,es,d,b,f,g,he⟩:=i k x hk;obtain⟨j,l⟩:=a.keep ad.block b f;exact⟨ad,es,d,χ b a.size,j,T.tr a g,he.keep (by rw[hG];exact l)⟩⟩
 len:=λ⟨_,_,h,_⟩=>by subst h;rfl
 one:=λ⟨_,_,h,_⟩ u hu=>by subst h;simp at hu;subst hu;rfl
 fy _:=rfl
theorem eW {α:Type} {T:Ty α} {O:Γ} {w:World} {v:Value} {xs:List α} (h:T.slice.is O w v xs): ∃A c,v= .slice A xs.length c/\xs.length<=c/\c<=maxLen:=by
 obtain⟨cs,⟨A,c,a,hl,_⟩,b⟩:=h;subst a;exact⟨A,c,b,hl⟩
theorem gT {α:Type} (T:Ty α) (O:Γ) (w:World):T.slice.is O w (.slice none 0 0) []:=
 ⟨_,⟨none,0,rfl,⟨ξ3 _,by unfold maxLen;omega⟩,λk x h=>by simp at h⟩,rfl⟩
theorem aiv {α:Type} {T:Ty α} {O:Γ} {w:World} {A:Option Addr} {n c lo hi m:Nat} {xs:List α} (h:T.slice.is O w (.slice A n c) xs) (h1:lo<=hi) (q:hi<=n) (r:hi<=m) (s:m<=c):
  T.slice.is O w (.slice (if m=lo then A else A.map (·.add (lo*T.n))) (hi-lo) (m-lo)) ((xs.take hi).drop lo):=by
 obtain⟨cs,⟨A',b,j,hl,p⟩,a⟩:=h;subst j;have a:ξT A n c= .slice A' xs.length b:=a;injection a with d e f;subst d;subst e;subst f;have hlen:((xs.take hi).drop lo).length=hi-lo:=by rw[ξe,ψ];omega
 refine⟨_,⟨_,m-lo,by rw[hlen],⟨by rw[hlen];omega,by omega⟩,λk x hk=>?_⟩,rfl⟩;have t:k<hi-lo:=by
  have:=(ν.1 hk).1;omega
 rw[ξ6,ω] at hk;rw[if_pos (by omega)] at hk;obtain⟨ad,es,g,i,l,o,he⟩:=p (lo+k) x hk;subst g;rw[if_neg (by omega)];refine⟨ad.add (lo*T.n),es,rfl,by rw[hG];exact i,by rw[hG];exact l,o,?_⟩;rw[add_add,<-Nat.add_mul];exact he
theorem JP {α:Type} {T:Ty α} {O:Γ} {w:World} {A:Option Addr} {n c k:Nat} {xs:List α} {x:α} (h:T.slice.is O w (.slice A n c) xs) (hk:xs[k]? =some x):
  ∃ad,A=some ad/\T.ptr.is O w (.pointer (some (ad.add (k*T.n)))) x:=by
 obtain⟨cs,⟨A',b,j,hl,o⟩,a⟩:=h;subst j;have a:ξT A n c= .slice A' xs.length b:=a;injection a with d e f;subst d;subst e;subst f;obtain⟨ad,es,g,i,l,m,he⟩:=o k x hk;exact⟨ad,g,_,⟨_,es,rfl,by rw[hG];exact i,by rw[hG];exact l,m,he⟩,rfl⟩
theorem JN {α:Type} {T:Ty α} {O:Γ} {w:World} {cs:Γb} {x:α} (a:T.agg=false) (h:T.rep O w cs x): ∃s,cs=[s]/\T.is O w s x:=by
 have hl:=T.len h;rw[T.fy a] at hl
 match cs,hl with
 |[c],_=>exact⟨c,rfl,[c],h,by simp[Ty.mk',a]⟩
theorem l3 {α:Type} {T:Ty α} {O:Γ} {w:World} {s:Value} {x:α} (a:T.agg=false) (h:T.is O w s x):T.rep O w [s] x:=by
 obtain⟨cs,b,d⟩:=h;have hl:=T.len b;rw[T.fy a] at hl
 match cs,hl with
 |[c],_=>
  simp only[Ty.mk',a,cond_false,ζS] at d;subst d;exact b
def oc {α:Type} (A:Ty α) (O:Γ) (w:World) (v:Value) (r:α):Prop:=A.is O w v r
def Tq {α β:Type} (A:Ty α) (B:Ty β) (O:Γ) (w:World) (v:Value) (r:α×β):Prop:= ∃a b,v= .tuple #[a,b]/\A.is O w a r.1/\B.is O w b r.2
def Ts {α β γ:Type} (A:Ty α) (B:Ty β) (C:Ty γ) (O:Γ) (w:World) (v:Value) (r:α×β×γ):Prop:= ∃a b c,v= .tuple #[a,b,c]/\A.is O w a r.1/\B.is O w b r.2.1/\C.is O w c r.2.2
def gn {β:Type} (R:Γ->World->Value->β->Prop) (O:Γ) (w:World) (r:β) (e:Ending) (w':World):Prop:= ∃v,e= .returned v/\R O w' v r/\Fr [] w w'
def idx {α:Type} (xs:List α) (i:Int):Option α:=if 0<=i then xs[i.toNat]? else none
theorem kF {α:Type} {xs:List α} {i:Int} {x:α} (h:idx xs i=some x):0<=i/\xs[i.toNat]? =some x:=by
 unfold idx at h;split at h
 ·exact⟨by assumption,h⟩
 ·cases h
def ma (k:IntKind) (x y:Int):Option Int:=if y<0 then none else some (k.wrap (x*2^(min y.toNat k.bits)))
def JL (k:IntKind) (x y:Int):Option Int:=if y<0 then none else some (x.fdiv (2^(min y.toNat k.bits)))
def I8 (k:IntKind) (x y:Int):Option Int:=if y=0 then none else some (k.wrap (x.tdiv y))
def Jt (x y:Int):Option Int:=if y=0 then none else some (x.tmod y)
theorem iG {α:Type} {c:Bool} {a b r:α} (h:(bif c then a else b)=r):(c=true/\a=r)\/(c=false/\b=r):=by
 cases c
 ·exact .inr ⟨rfl,h⟩
 ·exact .inl ⟨rfl,h⟩
theorem bind_some {α β:Type} {x:Option α} {f:α->Option β} {r:β} (h:x.bind f=some r): ∃y,x=some y/\f y=some r:=Option.bind_eq_some_iff.1 h
theorem ml {j n:Nat} (h:j<n) (hn:n<=maxLen):ζT.wrap ((j:Int)+1)=((j+1:Nat):Int):=by
 unfold maxLen at hn;rw[IntWalk.i64_in]
 ·omega
 ·omega
theorem drop_cons {α:Type} {l:List α} {j:Nat} {x:α} {r:List α} (h:l.drop j=x::r):j<l.length/\l[j]? =some x/\l.drop (j+1)=r:=by
 have a:j<l.length:=by
  rcases ξA j l.length with h1|h1
  ·exact h1
  ·rw[ξz h1] at h;cases h
 rw[ξG a] at h;injection h with h1 b;exact⟨a,by rw[ξ7 a,h1],b⟩
theorem drop_nil {α:Type} {l:List α} {j:Nat} (h:l.drop j=[]):l.length<=j:=by
 rcases ξA j l.length with h1|h1
 ·rw[ξG h1] at h;cases h
 ·exact h1
theorem Fr.own {w0 w w':World} {b:Nat} (a:Fr [] w0 w) (h:Fr [b] w w') (c:w0.heap.size<=b):Fr [] w0 w':=
 ⟨h.os.trans a.os,h.tape.trans a.tape,h.output.trans a.output,ζ5 a.size h.size,λk hk _=>
  (h.block k (χ hk a.size) (by simp;omega)).trans (a.block k hk (by simp))⟩
def TI.isAgg (i:TI):Bool:=ε i.tag 8||ε i.tag 6
def valOf (agg:Bool) (cs:Γb):Value:=bif agg then .agg cs.toArray else cs.headD undef
theorem l8 {P:Program} {w:World} {t:Nat} {i:TI} {ad:Addr} {cs:Γb} (h:i.fits P t) (hl:cs.length=i.size) (d:dJ w ad cs) (h1:i.isAgg=false->i.size=1):
  (ζK t (.pointer (some ad))).run P w= .ok (valOf i.isAgg cs) w:=by
 simp only[ζK,ξy,η,κ,ζ,loadVar,HT h];cases a:i.isAgg with
 |true=>
  have b:(ε i.tag 8||ε i.tag 6)=true:=a;rw[b];simp only[if_true,η,dW h,ζ];have:=run_loadCells_list (P:=P) w ad cs d;rw[hl] at this;rw[this];rfl
 |false=>
  have b:(ε i.tag 8||ε i.tag 6)=false:=a;rw[b];rw[h1 a] at hl
  match cs,hl with
  |[c],_=>
   have:=d 0 c rfl;simp[load,ζo,ζv] at this ⊢;rw[this];rfl
def putAt (cs:Γb) (off:Nat) (vs:Γb):Γb:=cs.take off++vs++cs.drop (off+vs.length)
theorem j1 {w:World} {b t:Nat} {a new:Array Value} (h:w.heap[b]? =some (.cells a t (0,0))):Fr [b] w (w.setRow b new):=
 ⟨rfl,rfl,rfl,by simp,λk _ hk=>by
  simp only[World.setRow,Array.getElem?_modify];rw[if_neg (by simp at hk;omega)]⟩
theorem TH {P:Program} {w:World} {t b c off:Nat} {i:TI} {v:Value} {cs:Γb} (h:i.fits P t) (a:bM w b c cs) (e:v.cells.size=i.size) (h1: ∀u∈v.cells.toList,u.oneCell'=true)
  (hl:off+i.size<=cs.length): ∃w',(η6 t (.pointer (some ⟨b,off,none⟩)) v).run P w= .ok () w'/\bM w' b c (putAt cs off v.cells.toList)/\Fr [b] w w':=by
 have d:=run_storeCells_at (P:=P) b off c v.cells.toList 0 cs.toArray w a (by simp;omega) h1;refine⟨w.setRow b (putAt cs off v.cells.toList).toArray,?_,?_,j1 a⟩
 ·simp only[η6,ξy,η,κ,ζ,storeVar,dW h,e,ne_eq,not_true_eq_false,if_false];simpa[putAt] using d
 ·unfold bM;rw[setRow_heap w b _ _ _ _ a]
section
variable {P:Program} {r:Option Nat} {N:Nat} {Θ:cK} {ops:Array Oper} {Q:Exit->Act->World->Prop} {l:Γ} {E:Env} {ds:List Deferred} {w:World} {i d:Nat} {o:Oper} {O:Γ}
theorem rE (n:Θ.ok P) (j:ops[i]? =some o) (hw:want N ops E o.guard=some true) (g:o.dst=some d) (f:ξ2 d N=true) {t:Nat} {e:TI} (c:o.op= .alloc t) (k:Θ.get t=some e)
  (zs:Γb) (m:e.zero.cells.toList=zs) (hO:OB O w) (h: ∀b w',j' O w b t zs w'->WO P r N ops Q l ((d,.pointer (some ⟨b,0,none⟩))::E) ds w'):WO P r N ops Q (i::l) E ds w:=by
 refine eh j hw g f (by rw[c];simp) (λa _=>?_) (h w.heap.size _ (jN hO t zs));simp only[execOp,c,ηh,η,mm (n.fits k),ζ];subst m;rfl
theorem mj (j:ops[i]? =some o) (hw:want N ops E o.guard=some true) (g:o.dst=some d) (e:ξ2 d N=true) {t:Nat} {x:Operand} (c:o.op= .box t x)
  {v:Value} (k:ev E x=some v) (cs:Γb) (m:v.cells.toList=cs) (hO:OB O w) (h: ∀b w',j' O w b t cs w'->WO P r N ops Q l ((d,.pointer (some ⟨b,0,none⟩))::E) ds w'):WO P r N ops Q (i::l) E ds w:=by
 refine eh j hw g e (by rw[c];simp) (λa f=>?_) (h w.heap.size _ (jN hO t cs));simp only[execOp,c,Instr.box,η,f.eval k];subst m;rfl
theorem dR (C:Θ.ok P) (y:ops[i]? =some o) (hw:want N ops E o.guard=some true) (q:o.dst=some d) (k:ξ2 d N=true) {t b D off:Nat} {x:Operand} {c:TI} (g:o.op= .load t x) (z:Θ.get t=some c)
  (B:ev E x=some (.pointer (some ⟨b,off,none⟩))) {cs:Γb} (n:bM w b D cs) (us:Γb) (hu:(cs.drop off).take c.size=us) (hl:us.length=c.size) (h1:c.isAgg=true\/c.size=1)
  (v:Value) (A:valOf c.isAgg us=v) (h:WO P r N ops Q l ((d,v)::E) ds w):WO P r N ops Q (i::l) E ds w:=by
 subst A;refine eh y hw q k (by rw[g];simp) (λa m=>?_) h;have p:dJ w ⟨b,off,none⟩ us:=λj u f=>by
  have:(⟨b,off,none⟩:Addr).add j=⟨b,off+j,none⟩:=by unfold ζ6;split<;>simp_all
  rw[this,n.cell];subst hu;have s:j<c.size:=by have:=(ν.1 f).1;omega
  rw[ω,if_pos s,ξ6] at f;exact f
 simp only[execOp,g,η,m.eval B,l8 (C.fits z) hl p (λe=>by rcases h1 with h1|h1;rw[e] at h1;cases h1;exact h1)];rfl
theorem eX (D:Θ.ok P) (q:ops[i]? =some o) (hw:want N ops E o.guard=some true) (n:o.dst=none) {t b g off:Nat} {x y:Operand} {c:TI} (f:o.op= .store t x y) (z:Θ.get t=some c)
  (B:ev E x=some (.pointer (some ⟨b,off,none⟩))) {v:Value} (C:ev E y=some v) {cs:Γb} (j:bM w b g cs) (vs:Γb) (A:v.cells.toList=vs) (hn:vs.length=c.size)
  (h1: ∀u∈vs,u.oneCell'=true) (hl:ξ9 (off+c.size) cs.length=true) (d:Γb) (m:putAt cs off vs=d)
  (h: ∀w',bM w' b g d->Fr [b] w w'->WO P r N ops Q l E ds w'):WO P r N ops Q (i::l) E ds w:=by
 subst A;subst m;obtain⟨w',s,k,p⟩:=TH (P:=P) (v:=v) (off:=off) (D.fits z) j (by simpa using hn) h1 (ο hl);refine ajR q hw n (by rw[f];simp) (λa e=>?_) (h w' k p);simp only[execOp,f,e.eval B,e.eval C,η,s];rfl
theorem ajZ (B:Θ.ok P) (u:ops[i]? =some o) (hw:want N ops E o.guard=some true) (q:o.dst=some d) (k:ξ2 d N=true) {t:Nat} {x:Operand} {b:TI} (g:o.op= .load t x) (z:Θ.get t=some b)
  {p:Value} (A:ev E x=some p) {α:Type} {T:Ty α} {y:α} (hp:T.ptr.is O w p y) (hn:T.n=b.size) (f:T.agg=b.isAgg)
  (h: ∀v,T.is O w v y->WO P r N ops Q l ((d,v)::E) ds w):WO P r N ops Q (i::l) E ds w:=by
 obtain⟨cs,⟨ad,es,m,_,_,j,he⟩,c⟩:=hp;subst m;have c:p= .pointer (some ad):=c;subst c;refine eh u hw q k (by rw[g];simp) (λa s=>?_) (h (valOf b.isAgg es) ⟨es,j,by rw[<-f];rfl⟩);simp only[execOp,g,η,s.eval A,l8 (B.fits z) ((T.len j).trans hn) he.1 (λe=>by rw[<-hn];exact T.fy (by rw[f];exact e))];rfl
theorem Ko (s:Θ.ok P) (G:ops[i]? =some o) (hw:want N ops E o.guard=some true) (F:o.dst=some d) (D:ξ2 d N=true) {t:Nat} {x y:Operand} {b u:TI} (m:o.op= .indexAddr t x y) (H:Θ.get t=some b)
  (C:b.tag=5) (I:Θ.get b.e=some u) {v:Value} (J:ev E x=some v) {k:IntKind} {j:Int} (K:ev E y=some (.int k j)) {α:Type} {T:Ty α} {xs:List α} {z:α} {O1:Γ} {w1:World} (q:T.slice.is O1 w1 v xs) (hn:T.n=u.size)
  (B:0<=j) (g:xs[j.toNat]? =some z) (h: ∀p,T.ptr.is O1 w1 p z->WO P r N ops Q l ((d,p)::E) ds w):WO P r N ops Q (i::l) E ds w:=by
 obtain⟨A,c,rfl,_,_⟩:=eW q;obtain⟨ad,rfl,hp⟩:=JP q g;have L:j.toNat<xs.length:=(ν.1 g).1;refine eh G hw F D (by rw[m];simp) (λa f=>?_) (h _ hp);have hu:=(s.fits H).slice C;simp only[execOp,m,η,f.eval J,f.eval K,ξu,asIntOf,κ,ζ,run_underlying hu];rw[if_pos ⟨B,by omega⟩];simp only[η,dW (s.fits I),ζ,hn];rfl
theorem jn (p:ops[i]? =some o) (hw:want N ops E o.guard=some true) (m:o.dst=some d) (g:ξ2 d N=true) {f:FuncId} {args:Array Operand} {s:Array TypeId} (b:o.op= .call {callee:=.value (.func f),args:=args,argTypes:=s})
  (n: ∀(vs:Array Value) (u:World),(callFunc f vs).run P u= .ok (.enter f vs) u)
  {vs:Γb} (q:gZ E args.toList=some vs) {R:Ending->World->Prop} (k:Calls P f vs.toArray w R)
  (h: ∀e w',R e w'-> ∃v,e= .returned v/\WO P r N ops Q l ((d,v)::E) ds w'):WO P r N ops Q (i::l) E ds w:=by
 refine Kn p hw m g (by rw[b];simp) (λa j=>?_) k h;have c:args.map a.eval=vs.toArray:=by rw[<-pe j q,<-ξg]
 simp only[execOp,b,η,resolve,ζt,ξW,κ,ζ,invoke,c];simpa using n vs.toArray w
end
section
variable {P:Program} {r:Option Nat} {N:Nat} {Q:Exit->Act->World->Prop} {E:Env} {ds:List Deferred} {w:World}
theorem aea {F:Fence} {n:Nat} {a:Act} {c:Code} (I:Nat->Act->World->Prop) (m:Nat) (h:I m a w)
  (round: ∀m a w,I m a w->c.wpIn F n P (Exit.then (λa' w'=> ∃k,k<m/\I k a' w') Q) a w):(Code.loop c).wpIn F n P Q a w:=by
 refine wpIn_loop (λa w=> ∃m,I m a w) (λa w=>leastOf (λm=>I m a w)) ⟨m,h⟩ ?_;intro a w hI;refine wpIn_mono (round _ a w (leastOf_spec hI).1) ?_;intro e a' w' b;cases e with
 |normal=>
  obtain⟨f,g,d⟩:=b;exact show(∃n,I n a' w')/\leastOf (λn=>I n a' w')<leastOf (λn=>I n a w) from⟨⟨f,d⟩,Nat.lt_of_le_of_lt ((leastOf_spec ⟨f,d⟩).2 f d) g⟩
 |exit id=>exact b
 |goto l=>exact b
 |ret=>exact b
 |panic i=>exact b
 |outgrown=>exact b
def Next (N:Nat) (I:Nat->Env->World->Prop) (m:Nat) (ds:List Deferred) (a:Act) (w:World):Prop:= ∃k,k<m/\ ∃E',Has N E' ds a/\I k E' w
theorem Ki {c:Code} (I:Nat->Env->World->Prop) (m:Nat) (E':Env) (d:agree E' E) (g:I m E' w)
  (round: ∀m E w,I m E w->WC P r N c (Exit.then (Next N I m ds) Q) E ds w):WC P r N (.loop c) Q E ds w:=by
 intro a f;refine aea (λm a w=> ∃E',Has N E' ds a/\I m E' w) m ⟨E',f.weaken d,g⟩ ?_;rintro m a w ⟨b,e,hI⟩;exact round m b w hI a e
theorem yP {I:Nat->Env->World->Prop} {m:Nat} (k:Nat) (E':Env) (hk:k<m) (b:agree E' E) (hI:I k E' w):WQ N (Exit.then (Next N I m ds) Q) .normal E ds w:=
 λa c=>⟨k,hk,E',c.weaken b,hI⟩
def kY (E:Env):List ResultVar->Option (Γb)
 |[]=>some []
 | .tmp t::l=>match E.get t,kY E l with|some v,some vs=>some (v::vs)|_,_=>none
 | .cell _ _::_=>none
def h3:Γb->Value
 |[v]=>v
 |vs=>.tuple vs.toArray
theorem Tb {fn:Func} {a:Act} {vs:Γb} (h:Has N E ds a) (e:kY E fn.results.toList=some vs):(results fn a.tmps).run P w= .ok (h3 vs) w:=by
 have key: ∀(F:ResultVar->Sem Value) (_: ∀t,F (.tmp t)=pure (a.tmps.getD t undef)) (l:List ResultVar) (vs:Γb),kY E l=some vs->(l.mapM F).run P w= .ok vs w:=by
  intro F d l
  induction l with
  |nil=>intro vs c;simp[kY] at c;subst c;simp
  |cons x l g=>
   intro vs c;cases x with
   |tmp t=>
    simp only[kY] at c;split at c
    ·rename_i v us f hl;simp only[ι] at c;subst c;simp only[ζ8,d,η,κ,ζ,g us hl,h.get t v f]
    ·cases c
   |cell b t=>simp[kY] at c
 unfold results;rw[ξF];simp only[η,ζR];rw[key _ (λt=>rfl) _ _ e];simp only[ζ,κ]
 congr 1
 match vs with
 |[]=>rfl
 |[v]=>rfl
 |v::u::vs=>simp[h3]
theorem eY {fn:Func} {R:Ending->World->Prop} {vs:Γb} (c:kY E fn.results.toList=some vs) (h:R (.returned (h3 vs)) w):WQ N (bodyPostM (fw none) 0 P fn R) .ret E [] w:=by
 intro a b;show LeavesInM (fw none) 0 P fn a.tmps R a.defers .returning w;rw[b.defers];exact⟨_,Tb b c,h⟩
theorem aj6 {fn:Func} {R:Ending->World->Prop} {vs:Γb} (c:kY E fn.results.toList=some vs) (h:R (.returned (h3 vs)) w):WQ N (bodyPostM (fw none) 0 P fn R) .normal E [] w:=by
 intro a b;show LeavesInM (fw none) 0 P fn a.tmps R a.defers .returning w;rw[b.defers];exact⟨_,Tb b c,h⟩
def pg:Nat->Γb->Env
 |_,[]=>[]
 |i,v::l=>(i,v)::pg (i+1) l
theorem abc: ∀(l:Γb) (i j:Nat) (v:Value),(pg i l).get j=some v->i<=j/\l[j-i]? =some v:=by
 intro l
 induction l with
 |nil=>intro i j v h;simp[pg,Env.get] at h
 |cons u l c=>
  intro i j v h;simp only[pg,Env.get] at h;cases a:ε i j with
  |true=>
   rw[a] at h;have:=δ a;subst this;simp only[cond_true,ι] at h;subst h;simp
  |false=>
   rw[a] at h;obtain⟨h1,b⟩:=c (i+1) j v h;have e:j-i=(j-(i+1))+1:=by omega
   refine⟨by omega,?_⟩;rw[e,ξf];exact b
theorem gx {f:FuncId} {fn:Func} {c:Code} {args:Γb} {R:Ending->World->Prop} (e:P.funcs[f]? =some fn) (d:fn.body=some c) (b:fn.ntmps=N) (hl:ξ9 args.length N=true)
  (h:WC P none N c (bodyPostM (fw none) 0 P fn R) (pg 0 args) [] w):Calls P f args.toArray w R:=by
 refine(callsIn_wide (n:=0)).1 (callsIn_of_wp_marks e d trivial (h _ ⟨?_,rfl,?_⟩))
 ·have:=ο hl;simp[b];omega
 ·intro i v hi;obtain⟨_,a⟩:=abc args 0 i v hi;simp only[Nat.sub_zero] at a;have g:=(ν.1 a).1;have j:i<args.toArray.size:=by simpa using g
  rw[θ,Array.getElem?_append_left j];simp[a]
theorem rH {id:Nat} (h:WQ N Q .normal E ds w):WQ N (ζn id Q) .normal E ds w:=h
theorem Kp {id:Nat} (h:WQ N Q .normal E ds w):WQ N (ζn id Q) (.exit id) E ds w:=λa b=>by
 show if id=id then Q .normal a w else Q (.exit id) a w;rw[if_pos rfl];exact h a b
theorem yO {id:Nat} (h:WQ N Q .ret E ds w):WQ N (ζn id Q) .ret E ds w:=h
theorem fC {K:Act->World->Prop} (h:WQ N Q .ret E ds w):WQ N (Exit.then K Q) .ret E ds w:=h
theorem ou {K:Act->World->Prop} {id:Nat} (h:WQ N Q (.exit id) E ds w):WQ N (Exit.then K Q) (.exit id) E ds w:=h
theorem fB {x y:Code} {o:Operand} {b:Bool} (c:ev E o=some (.bool b)) (a:b=true) (h:WC P r N x Q E ds w):WC P r N (.cond o x y) Q E ds w:=by subst a;exact oo c h
theorem fK {x y:Code} {o:Operand} {b:Bool} (c:ev E o=some (.bool b)) (a:b=false) (h:WC P r N y Q E ds w):WC P r N (.cond o x y) Q E ds w:=by subst a;exact k3 c h
theorem yN {ops:Array Oper} {l:Γ} {i d:Nat} {o:Oper} (j:ops[i]? =some o) (hw:want N ops E o.guard=some true) (c:o.dst=some d) (a:ξ2 d N=true) {f:FuncId} {args:Array Operand} {p:Array TypeId} (k:o.op= .call {callee:=.value (.func f),args:=args,argTypes:=p})
  (e: ∀(vs:Array Value) (u:World),(callFunc f vs).run P u= .ok (.enter f vs) u)
  {vs:Γb} (n:gZ E args.toList=some vs) {β:Type} {R:Γ->World->Value->β->Prop} {O:Γ} {y:β} (b:Calls P f vs.toArray w (gn R O w y))
  (h: ∀v w',R O w' v y->Fr [] w w'->WO P r N ops Q l ((d,v)::E) ds w'):WO P r N ops Q (i::l) E ds w:=
 jn j hw c a k e n b λ_ _ ⟨v,he,m,g⟩=>⟨v,he,h v _ m g⟩
end
structure SP where
 p:World->Value->Prop
 st: ∀ {w w' v},Fr [] w w'->p w v->p w' v
def SP.eq (v:Value):SP:=⟨λ_ u=>u=v,λ_ h=>h⟩
def rows (a:Act):Env->Prop
 |[]=>True
 |(i,v)::r=>a.tmps.getD i undef=v/\rows a r
theorem b7 {a:Act}: ∀ {E:Env},rows a E-> ∀i v,E.get i=some v->a.tmps.getD i undef=v
 |[],_,i,v,h=>by simp[Env.get] at h
 |(j,u)::r,c,i,v,h=>by
  simp only[Env.get] at h;cases b:ε j i with
  |true=>
   rw[b] at h;have:=δ b;subst this;simp only[cond_true,ι] at h;subst h;exact c.1
  |false=>rw[b] at h;exact b7 c.2 i v h
def cV (o:Oper):Γ:=(o.after.toList.filter (ζp .any)).map (·.on)
structure cy where
 d:Nat
 lB:Γ
 base:Γ
def hJ (i:Nat):Γ->Bool
 |[]=>true
 |j::l=>ξ2 j i&&hJ i l
def yv (l:Γ):Γ->Bool
 |[]=>true
 |j::r=>l.contains j&&yv l r
def uJ (ops:Array Oper) (i s:Nat):List cy->Nat->Bool
 |[],_=>true
 |p::r,k=>(!(ε p.d s)||ε k i||((ops[k]?).map (λo=>(cV o).contains i)).getD false)&&uJ ops i s r (k+1)
def pj (ops:Array Oper) (i:Nat) (all:List cy):Γ->Bool
 |[]=>true
 |s::r=>uJ ops i s all 0&&pj ops i all r
def nX (N:Nat) (ops:Array Oper) (all:List cy):List cy->Nat->Bool
 |[],_=>true
 |p::r,i=>
  (match ops[i]? with
   |some o=>(match o.dst with|some d=>ε d p.d|none=>false)&&hJ i (cV o)&&yv (cV o) p.lB
   |none=>false)&&ξ2 p.d N&&pj ops i all p.base&&!(r.any λq=>ε q.d p.d)&&nX N ops all r (i+1)
section
variable {P:Program} {r:Option Nat} {N:Nat} {ops:Array Oper} {Q:Exit->Act->World->Prop} {ds:List Deferred}
def eP (P:Program) (r:Option Nat) (ops:Array Oper) (Q:Exit->Act->World->Prop) (i d:Nat) (a:Act) (w:World) (post:Value->World->Prop):Prop:= ∀K:Act->World->Prop,(∀v w',post v w'->K (a.put (some d) v) w')->wpOpIn (fw r) 0 P ops Q i K a w
theorem kQ {all:List cy}: ∀ {l:List cy} {k:Nat},nX N ops all l k=true-> ∀j p,l[j]? =some p->
  (∃o,ops[k+j]? =some o/\o.dst=some p.d/\(∀x∈cV o,x<k+j)/\(∀x∈p.lB,x∈cV o))/\p.d<N/\pj ops (k+j) all p.base=true/\ ∀f g,j<f->l[f]? =some g->g.d≠p.d:=by
 intro l
 induction l with
 |nil=>intro k h j p hp;simp at hp
 |cons q l i=>
  intro k h j p hp;simp only[nX,μ] at h;obtain⟨⟨⟨⟨h1,v⟩,w⟩,z⟩,A⟩:=h;cases j with
  |zero=>
   simp only[ξa,ι] at hp;subst hp;refine⟨?_,ξL.mp v,w,?_⟩
   ·split at h1
    ·rename_i o n;simp only[μ] at h1;obtain⟨⟨s,B⟩,C⟩:=h1;refine⟨o,n,?_,?_,?_⟩
     ·split at s
      ·rename_i d D;rw[D,δ s]
      ·cases s
     ·have: ∀l:Γ,hJ k l=true-> ∀x∈l,x<k:=by
       intro l
       induction l with
       |nil=>intro _ x a;cases a
       |cons y l i=>
        intro hl x a;simp only[hJ,μ] at hl;rcases ξd.1 a with rfl|a
        ·exact ξL.mp hl.1
        ·exact i hl.2 x a
      exact this _ B
     ·have: ∀(m l:Γ),yv m l=true-> ∀x∈l,x∈m:=by
       intro m l
       induction l with
       |nil=>intro _ x a;cases a
       |cons y l i=>
        intro hl x a;simp only[yv,μ] at hl;rcases ξd.1 a with rfl|a
        ·simpa using hl.1
        ·exact i hl.2 x a
      exact this _ _ C
    ·cases h1
   ·intro f g E r e;cases f with
    |zero=>omega
    |succ f=>
     simp only[ξf] at r;have hm:=ζ0 r;have t:(l.any λF=>ε F.d q.d)=false:=by simpa using z
     rw[ζc] at t;have:=t g hm;rw[e] at this;simp at this
  |succ j=>
   simp only[ξf] at hp;obtain⟨⟨o,n,u,a2,a3⟩,b,c,d⟩:=i A j p hp;have e:k+1+j=k+(j+1):=by omega
   rw[e] at n a2 c;refine⟨⟨o,n,u,a2,a3⟩,b,c,?_⟩;intro f g E r;cases f with
   |zero=>omega
   |succ f=>exact d f g (by omega) (by simpa using r)
theorem Nu {i:Nat} {all:List cy}: ∀ {l:Γ},pj ops i all l=true-> ∀s∈l,∀k p,all[k]? =some p->p.d=s->k=i\/ ∃o,ops[k]? =some o/\i∈cV o:=by
 have key: ∀(s:Nat) (l:List cy) (m:Nat),uJ ops i s l m=true-> ∀k p,l[k]? =some p->p.d=s->m+k=i\/ ∃o,ops[m+k]? =some o/\i∈cV o:=by
  intro s l
  induction l with
  |nil=>intro m _ k p hp;simp at hp
  |cons q l b=>
   intro m h k p hp a;simp only[uJ,μ] at h;cases k with
   |zero=>
    simp only[ξa,ι] at hp;subst hp;have h1:=h.1;simp only[ζU,ξp] at h1;rcases h1 with(h1|h1)|h1
    ·rw[a] at h1;rw[Nat.beq_refl] at h1;cases h1
    ·exact .inl (by have:=δ h1;omega)
    ·right;cases f:ops[m]? with
     |none=>rw[f] at h1;simp at h1
     |some o=>
      rw[f] at h1;simp only[ξ0,υ] at h1;exact⟨o,rfl,by simpa using h1⟩
   |succ k=>
    have:=b (m+1) h.2 k p (by simpa using hp) a;have e:m+1+k=m+(k+1):=by omega
    rwa [e] at this
 intro l
 induction l with
 |nil=>intro _ s a;cases a
 |cons x l b=>
  intro h s a k p hp c;simp only[pj,μ] at h;rcases ξd.1 a with rfl|a
  ·simpa using key _ all 0 h.1 k p hp c
  ·exact b h.2 s a k p hp c
def ep (listed:Array Bool):Nat->Nat
 |0=>0
 |n+1=>ep listed n+(if listed.getD n true=false then 1 else 0)
theorem Ib {listed:Array Bool} {i:Nat} (hi:i<listed.size) (hl:listed.getD i true=false): ∀n,ep (listed.setIfInBounds i true) n+(if i<n then 1 else 0)=ep listed n:=by
 intro n
 induction n with
 |zero=>simp[ep]
 |succ n a=>
  simp only[ep]
  by_cases c:i=n
  ·subst c;have e:(listed.setIfInBounds i true).getD i true=true:=by simp[θ,hi]
   rw[e,hl];have: ¬i<i:=by omega
   simp only[this,if_false] at a;simp;omega
  ·have e:(listed.setIfInBounds i true).getD n true=listed.getD n true:=by
    simp only[θ,ξ c]
   rw[e]
   by_cases b:i<n
   ·simp only[b,if_true] at a;simp only[show i<n+1 by omega,if_true];omega
   ·simp only[b,if_false] at a;simp only[show ¬i<n+1 by omega,if_false];omega
theorem nF {listed:Array Bool}: ∀n,ep listed n=0-> ∀i,i<n->listed.getD i true=true:=by
 intro n
 induction n with
 |zero=>intro _ i hi;omega
 |succ n b=>
  intro h i hi;simp only[ep] at h;rcases ξA i n with h1|h1
  ·exact b (by omega) i h1
  ·have:i=n:=by omega
   subst this;cases a:listed.getD i true with
   |true=>rfl
   |false=>rw[a] at h;simp at h
theorem qO {listed:Array Bool}: ∀n,ep listed n≠0-> ∃i,i<n/\listed.getD i true=false/\ ∀j,j<i->listed.getD j true=true:=by
 intro n
 induction n with
 |zero=>intro h;exact absurd rfl h
 |succ n f=>
  intro h
  by_cases a:ep listed n=0
  ·simp only[ep,a,ξs] at h;have b:listed.getD n true=false:=by
    cases b:listed.getD n true with
    |true=>rw[b] at h;simp at h
    |false=>rfl
   exact⟨n,by omega,b,λj e=>nF n a j e⟩
  ·obtain⟨i,h1,c,d⟩:=f a;exact⟨i,by omega,c,d⟩
theorem iX {o:Oper} {x:Nat}:x∈cV o↔ ∃e∈o.after,ζp .any e=true/\e.on=x:=by
 simp[cV,and_assoc]
def pf (a:List cy) (Φ:List SP) (k:Nat) (F:Nat->cy->SP->Prop):Prop:=
 match a,Φ with
 |p::ps,b::c=>F k p b/\pf ps c (k+1) F
 |_,_=>True
theorem Nj: ∀ {c:List cy} {Φ:List SP} {k:Nat} {F:Nat->cy->SP->Prop},pf c Φ k F-> ∀(i:Nat) (p:cy) (a:SP),c[i]? =some p->Φ[i]? =some a->F (k+i) p a
 |[],_,_,_,_,i,p,a,hp,_=>by simp at hp
 |_::_,[],_,_,_,i,p,a,_,b=>by simp at b
 |q::d,f::g,k,F,h,i,p,a,hp,b=>by
  cases i with
  |zero=>
   simp only[ξa,ι] at hp b;subst hp;subst b;exact h.1
  |succ i=>
   have:=Nj h.2 i p a (by simpa using hp) (by simpa using b);have e:k+1+i=k+(i+1):=by omega
   rwa [e] at this
theorem Ni {b:List cy} {Φ:List SP} {F:Nat->cy->SP->Prop} (h:pf b Φ 0 F) (i:Nat) (p:cy) (a:SP) (hp:b[i]? =some p) (c:Φ[i]? =some a):F i p a:=by
 have:=Nj h i p a hp c
 rwa [ξs] at this
theorem Fx {k:Nat}: ∀ {l:Γ},hJ k l=true-> ∀x∈l,x<k
 |[],_,x,a=>by cases a
 |y::l,hl,x,a=>by
  simp only[hJ,μ] at hl;rcases ξd.1 a with rfl|a
  ·exact ξL.mp hl.1
  ·exact Fx hl.2 x a
def Fu (l:Γ):Γ->Γ
 |[]=>l
 |x::xs=>Fu (bif l.contains x then l else x::l) xs
theorem Nc: ∀(xs l:Γ) (x:Nat),x∈Fu l xs->x∈l\/x∈xs
 |[],l,x,h=>.inl h
 |y::ys,l,x,h=>by
  rcases Nc ys _ x h with h|h
  ·cases a:l.contains y with
   |true=>rw[a] at h;exact .inl h
   |false=>
    rw[a] at h;rcases ξd.1 h with e|h
    ·exact .inr (by rw[e];exact π)
    ·exact .inl h
  ·exact .inr (ξ4 _ h)
def ly (ops:Array Oper):Nat->Γ->Γ
 |0,l=>l
 |n+1,l=>ly ops n (Fu l (l.map λi=>match ops[i]? with|some o=>cV o|none=>[]).flatten)
theorem lz {listed:Array Bool} (c: ∀(k:Nat) (o:Oper),ops[k]? =some o->listed.getD k true=true-> ∀x∈cV o,listed.getD x true=true): ∀(n:Nat) (l:Γ),(∀i∈l,listed.getD i true=true)-> ∀i∈ly ops n l,listed.getD i true=true
 |0,l,h,i,hi=>h i hi
 |n+1,l,h,i,hi=>lz c n _ (λj a=>by
  rcases Nc _ _ _ a with a|a
  ·exact h j a
  ·obtain⟨m,hm,b⟩:=List.mem_flatten.1 a;obtain⟨k,hk,rfl⟩:=ζL.1 hm;split at b
   ·rename_i o d;exact c k o d (h k hk) j b
   ·cases b) i hi
def rz (ops:Array Oper) (m:Nat):Bool:=(η1 ops.size).all λi=>ξ2 i m||match ops[i]? with|some o=>((η1 i).all λj=>(ly ops 12 (cV o)).contains j)&&hJ i (cV o)|none=>false
theorem yA {m:Nat} (h:rz ops m=true) (i:Nat) (hi:m<=i) (hn:i<ops.size): ∃o,ops[i]? =some o/\(∀j,j<i->j∈ly ops 12 (cV o))/\ ∀j∈cV o,j<i:=by
 have:=ζj.1 h i (by simpa using hn);simp only[ζU] at this;rcases this with h1|h1
 ·have:=ξL.mp h1;omega
 ·rw[σ hn] at h1;simp only[μ,ζj,List.mem_range,List.contains_iff_mem] at h1;exact⟨_,σ hn,λj a=>h1.1 j a,Fx h1.2⟩
theorem wpOpIn_mono {K d:Act->World->Prop} {i:Nat} {a:Act} {w:World} (h: ∀a w,K a w->d a w) (b:wpOpIn (fw r) 0 P ops Q i K a w):wpOpIn (fw r) 0 P ops Q i d a w:=by
 unfold wpOpIn at*
 split
 ·rename_i c;rw[c] at b;exact h _ _ b
 ·rename_i o c;rw[c] at b;simp only at b;split
  ·rename_i hw;rw[if_pos hw] at b;exact Oper.wpIn_mono h b
  ·rename_i hw;rw[if_neg hw] at b;exact⟨b.1,h _ _ b.2⟩
theorem yC {m:Nat} (A:rz ops m=true): ∀(c i:Nat) (listed:Array Bool) (a:Act) (w:World),m<=i->i+c=ops.size->listed.size=ops.size->(∀k,k<i->listed.getD k true=true)->(∀k,i<=k->k<ops.size->listed.getD k true=false)->(∀(k:Nat) (o:Oper),ops[k]? =some o->listed.getD k true=true-> ∀x∈cV o,listed.getD x true=true)->
  wpOpsIn (fw r) 0 P ops Q (ζ1 i c) a w->wpAnyIn (fw r) 0 P .any ops Q c listed a w:=by
 intro c
 induction c with
 |zero=>
  intro i listed a w hm hi B h1 f _ h;refine⟨?_,h⟩;unfold ξB;rw[List.filter_eq_nil_iff];intro k hk;have:=h1 k (by simp at hk;omega);simp[this]
 |succ c O=>
  intro i listed a w hm hi B h1 f y h;have l:i<ops.size:=by omega
  obtain⟨o,z,S,v⟩:=yA A i hm l;have N: ∀k∈ξB .any ops listed,k=i:=by
   intro k hk;unfold ξB at hk;rw[ξP] at hk;obtain⟨I,b⟩:=hk;have J:k<ops.size:=by simpa using I
   rcases Nat.lt_trichotomy k i with p|rfl|G
   ·have:=h1 k p;rw[this] at b;simp at b
   ·rfl
   ·exfalso;obtain⟨o',L,E,F⟩:=yA A k (by omega) J;rw[L] at b;simp only[μ,ξp,ξ0,υ,ξ8] at b;have u:=f i (ξ3 _) l;have D:=lz y 12 (cV o') (λx d=>by
     obtain⟨e,he,q,M⟩:=iX.1 d;have g:=b.2 e he;rw[q] at g;simp only[ζA,ζg] at g;have T:=F x d;have t:e.on<listed.size:=by omega
     rw[<-M];simp only[θ,σ t,υ] at g ⊢;exact g) i (E i G)
    rw[D] at u;cases u
  refine⟨λK=>?_,λk hk=>?_⟩
  ·exfalso;have:i∈ξB .any ops listed:=by
    unfold ξB;rw[ξP];refine⟨by simpa using l,?_⟩;rw[f i (ξ3 _) l,z];simp only[ζZ,η7,ξ0,υ,ξ8];intro e he;cases q:ζp .any e with
    |false=>simp
    |true=>
     by_cases p:e.on<i
     ·have:=h1 e.on p;have t:e.on<listed.size:=by omega
      simp only[θ,σ t,υ] at this ⊢;simp[this]
     ·exact absurd (v _ (iX.2 ⟨e,he,q,rfl⟩)) p
   rw[K] at this;cases this
  ·have:=N k hk;subst this;rw[show ζ1 k (c+1)=k::ζ1 (k+1) c from rfl,wpOpsIn_cons] at h;refine wpOpIn_mono (λa w hw=>O (k+1) _ a w (by omega) (by omega) (by simpa using B) (λj n=>?_) (λj n H=>?_) (λj R s n x d=>?_) hw) h
   ·by_cases e:j=k
    ·subst e;simp[θ,show j<listed.size by omega]
    ·have:=h1 j (by omega);simp only[θ,ξ (show k≠j by omega)] at this ⊢;exact this
   ·have:=f j (by omega) H;simp only[θ,ξ (show k≠j by omega)] at this ⊢;exact this
   ·have C:listed.getD x true=true:=by
     by_cases e:j=k
     ·subst e;rw[z] at s;cases s;exact h1 x (v x d)
     ·refine y j R s ?_ x d;simp only[θ,ξ (show k≠j from λh=>e h.symm)] at n ⊢;exact n
    by_cases e:x=k
    ·subst e;simp[θ,show x<listed.size by omega]
    ·simp only[θ,ξ (show k≠x from λh=>e h.symm)] at C ⊢;exact C
theorem yL {id:Nat} {E:Env} {w:World} (hm:P.follows .mixedOrders=true) (b:List cy) (Φ:List SP) (hlen:ξ9 b.length ops.size=true) (aj:rz ops b.length=true) (aT:Φ.length=b.length) (aa:nX N ops b b 0=true)
  (aQ:pf b Φ 0 λi p c=> ∀a w',Fr [] w w'->a.tmps.size=N->a.defers=ds->(∀s,p.base.contains s=true-> ∀v,E.get s=some v->a.tmps.getD s undef=v)->
   (∀(j:Nat),p.lB.contains j=true-> ∀(q:cy) (B:SP),b[j]? =some q->Φ[j]? =some B->B.p w' (a.tmps.getD q.d undef))->eP P r ops Q i p.d a w' (λv cd=>c.p cd v/\Fr [] w' cd))
  (ao: ∀a w',Fr [] w w'->a.tmps.size=N->a.defers=ds->(∀s v,E.get s=some v->(b.any λp=>ε p.d s)=false->a.tmps.getD s undef=v)->
   (∀(i:Nat) (p:cy) (c:SP),b[i]? =some p->Φ[i]? =some c->c.p w' (a.tmps.getD p.d undef))->wpOpsIn (fw r) 0 P ops Q (ζ1 b.length (ops.size-b.length)) a w'):
  WC P r N (.region id ops true) Q E ds w:=by
 have hle:=ο hlen;intro a af;refine wpIn_region_draw λt=>?_;simp only[Region.schedule,hm,Bool.true_or,if_true];refine wpAnyIn_sound ops.size t _ a _ ?_;have key: ∀(fuel:Nat) (listed:Array Bool) (a:Act) (w':World),listed.size=ops.size->ep listed b.length+(ops.size-b.length)=fuel->(∀k,b.length<=k->k<ops.size->listed.getD k true=false)->Fr [] w w'->a.tmps.size=N->a.defers=ds->
   (∀(k:Nat) (o:Oper),ops[k]? =some o->listed.getD k true=true-> ∀x∈cV o,listed.getD x true=true)->
   (∀s v,E.get s=some v->(∀(k:Nat) (p:cy),b[k]? =some p->p.d=s->listed.getD k true=false)->a.tmps.getD s undef=v)->
   (∀(i:Nat) (p:cy) (c:SP),b[i]? =some p->Φ[i]? =some c->listed.getD i true=true->c.p w' (a.tmps.getD p.d undef))->
   wpAnyIn (fw r) 0 P .any ops Q fuel listed a w':=by
  intro fuel
  induction fuel with
  |zero=>
   intro listed a w' ab hl ae K F R G L U;have J:ep listed b.length=0:=by omega
   have z:=nF _ J;have az:ops.size-b.length=0:=by omega
   refine yC aj 0 b.length listed a w' (ξ3 _) (by omega) ab (λk hk=>z k hk) ae G ?_;have S:=ao a w' K F R (λs v l f=>L s v l λk p hp e=>by
    rw[ζc] at f;have:=f p (ζ0 hp);rw[e] at this;simp at this) λi p c hp I=>U i p c hp I (z i (ν.1 hp).1)
   rw[az] at S;exact S
  |succ fuel ak=>
   intro listed a w' ab hl ae K F R G L U
   by_cases J:ep listed b.length=0
   ·have z:=nF _ J;refine yC aj (fuel+1) b.length listed a w' (ξ3 _) (by omega) ab (λk hk=>z k hk) ae G ?_;have S:=ao a w' K F R (λs v l f=>L s v l λk p hp e=>by
     rw[ζc] at f;have:=f p (ζ0 hp);rw[e] at this;simp at this) λi p c hp I=>U i p c hp I (z i (ν.1 hp).1)
    rw[show ops.size-b.length=fuel+1 by omega] at S;exact S
   refine⟨λaN=>?_,λi hi=>?_⟩
   ·exfalso;obtain⟨i,h1,C,D⟩:=qO b.length J;have X:i<b.length:=h1;obtain⟨⟨o,g,_,O,_⟩,_⟩:=kQ aa i b[i] (ξ7 X);simp only[ξs] at g O;have:i∈ξB .any ops listed:=by
     unfold ξB;rw[ξP];refine⟨by simp;omega,?_⟩;rw[C,g];simp only[ζZ,η7,ξ0,υ,ξ8];intro e he;cases M:ζp .any e with
     |false=>simp
     |true=>
      have m:=O e.on (iX.2 ⟨e,he,M,rfl⟩);have:=D e.on m;have V:e.on<listed.size:=by omega
      simp only[θ,σ V,υ] at this ⊢;simp[this]
    rw[aN] at this;cases this
   ·unfold ξB at hi;rw[ξP] at hi;obtain⟨aD,H⟩:=hi;have aE:i<ops.size:=by simpa using aD
    have X:i<b.length:=by
     rcases ξA i b.length with h|ar
     ·exact h
     ·exfalso;obtain⟨o,g,z,ay⟩:=yA aj i ar aE;rw[g] at H;simp only[μ,ξp,ξ0,υ,ξ8] at H;obtain⟨k,h1,C,_⟩:=qO b.length J;have ax:=lz G 12 (cV o) (λx y=>by
       obtain⟨e,he,M,aL⟩:=iX.1 y;have D:=H.2 e he;rw[M] at D;simp only[ζA,ζg] at D;have aS:=ay x y;have V:e.on<listed.size:=by omega
       rw[<-aL];simp only[θ,σ V,υ] at D ⊢;exact D) k (z k (by omega))
      rw[ax] at C;cases C
    have aG:i<Φ.length:=by omega
    have hp:=ξ7 X;have I:=ξ7 aG;obtain⟨⟨o,g,aR,O,aC⟩,aA,an,_⟩:=kQ aa i b[i] hp;simp only[ξs] at g O an;rw[g] at H;simp only[μ,ξp,ξ0,υ,ξ8] at H;obtain⟨Z,aM⟩:=H;have al: ∀x∈cV o,listed.getD x true=true:=by
     intro x y;obtain⟨e,he,M,rfl⟩:=iX.1 y;have h1:=aM e he;rw[M] at h1;simp only[ζA,ζg] at h1;have m:=O e.on y;have V:e.on<listed.size:=by omega
     simp only[θ,σ V,υ] at h1 ⊢;exact h1
    refine Ni aQ i _ _ hp I a w' K F R ?_ ?_ _ ?_
    ·intro s aO v l;have ai:s∈b[i].base:=by simpa using aO
     refine L s v l λk p ah ag=>?_;rcases Nu an s ai k p ah ag with rfl|⟨o',T,aF⟩
     ·exact Z
     ·cases hk:listed.getD k true with
      |false=>rfl
      |true=>rw[G k o' T hk i aF] at Z;cases Z
    ·intro j aH q B A W;have Y:j∈b[i].lB:=by simpa using aH
     exact U j q B A W (al j (aC j Y))
    ·rintro v cd ⟨l,aq⟩;have aB:b[i].d<a.tmps.size:=by rw[F];exact aA
     have aw:i<listed.size:=by omega
     have ad: ∀k,(listed.setIfInBounds i true).getD k true=true↔k=i\/listed.getD k true=true:=by
      intro k
      by_cases hk:i=k
      ·subst hk;simp[θ,aw]
      ·simp only[θ,ξ hk];constructor
       ·exact λh=>.inr h
       ·rintro (h|h)
        ·exact absurd h.symm hk
        ·exact h
     have av: ∀s,s≠b[i].d->(a.put (some b[i].d) v).tmps.getD s undef=a.tmps.getD s undef:=by
      intro s ai;simp only[ζF,θ,ξ (Ne.symm ai)]
     have aP:(a.put (some b[i].d) v).tmps.getD b[i].d undef=v:=by
      simp[ζF,θ,aB]
     have aJ:=Ib aw Z b.length;simp only[X,if_true] at aJ;refine ak _ _ cd (by simpa using ab) (by omega) (λk hk aI=>by
      have:=ae k hk aI;simp only[θ,ξ (show i≠k by omega)] at this ⊢;exact this) (K.trans aq) (by simp[ζF,F]) R ?_ ?_ ?_
     ·intro k o' T hk x y;rw[ad] at hk ⊢;right;rcases hk with rfl|hk
      ·rw[g] at T;cases T;exact al x y
      ·exact G k o' T hk x y
     ·intro s u hu f;have h1:s≠b[i].d:=λe=>by
       have:=f i _ hp e.symm;have C:=(ad i).2 (.inl rfl);rw[C] at this;cases this
      rw[av s h1];refine L s u hu λk p ah ag=>?_;have:=f k p ah ag;cases hk:listed.getD k true with
      |false=>rfl
      |true=>rw[(ad k).2 (.inr hk)] at this;cases this
     ·intro j q B A W Y;rw[ad] at Y
      by_cases au:j=i
      ·subst au;rw[hp] at A;rw[I] at W;cases A;cases W;rw[aP];exact l
      ·have aK:listed.getD j true=true:=Y.resolve_left au;have f:q.d≠b[i].d:=by
        rcases ξA i j with m|ar
        ·exact(kQ aa i _ hp).2.2.2 j q m A
        ·exact λe=>(kQ aa j q A).2.2.2 i _ (by omega) hp e.symm
       rw[av _ f];exact B.st aq (U j q B A W aK)
 refine key ops.size _ a _ (by simp) ?_ (λk _ hk=>by simp[θ,hk]) (Fr.drew [] w) af.size af.defers ?_ ?_ ?_
 ·have: ∀n,n<=ops.size->ep (ζV ops.size false) n=n:=by
   intro n
   induction n with
   |zero=>intro _;rfl
   |succ n ak=>
    intro hn;simp only[ep,ak (by omega)];have:(ζV ops.size false).getD n true=false:=by simp[θ,show n<ops.size by omega]
    simp[this]
  rw[this _ hle];omega
 ·intro k o g hk;have m:=(ξb.1 g).1;simp[θ,m] at hk
 ·intro s v l _;exact af.get s v l
 ·intro i p c hp _ hi;have m:i<ops.size:=by have:=(ν.1 hp).1;omega
  simp[θ,m] at hi
theorem lS {i d:Nat} {o:Oper} {a:Act} {w w':World} {v:Value} {b:Bool} {post:Value->World->Prop} (h:ops[i]? =some o) (hw:ζz o (yielded ops a.tmps)=b) (g:o.dst=some d)
  (e:if b=true then(∀c,o.op≠ .defer c)/\(execOp a.eval o).run P w= .ok (.value v) w' else v=undef/\w'=w) (hp:post v w'):eP P r ops Q i d a w post:=by
 intro K f;simp only[wpOpIn,h];cases b with
 |true=>
  simp only[if_true] at e;rw[if_pos hw];refine⟨λ_ _=>trivial,?_⟩;rw[ξl _ _ _ e.1,e.2];simp only[ξS,g];exact f v w' hp
 |false=>
  obtain⟨rfl,rfl⟩:=(show v=undef/\w'=w by simpa using e);rw[if_neg (by rw[hw];simp)];refine⟨λ_ _=>trivial,?_⟩;rw[g];exact f _ _ hp
variable {Θ:cK}
theorem c3 (k:Θ.ok P) {E:Env} {i d:Nat} {o:Oper} {a:Act} {w:World} {v:Value} (e:Has N E ds a) (j:ops[i]? =some o) (hw:want N ops E o.guard=some true) (g:o.dst=some d) (h:ig Θ o.op=true)
  (b:iI Θ E o.op=some v):eP P r ops Q i d a w (λu w'=>u=v/\Fr [] w w'):=
 lS j (gW e hw) g (by
  simp only[if_true];exact⟨λc f=>by rw[f] at b;simp[iI] at b,yj k e h b⟩) ⟨rfl,Fr.refl _ _⟩
theorem nR (z:Θ.ok P) {E:Env} {i d:Nat} {o:Oper} {a:Act} {w:World} (g:Has N E ds a) (p:ops[i]? =some o) (hw:want N ops E o.guard=some true) (m:o.dst=some d) {t b A off:Nat} {x:Operand} {c:TI} (h:o.op= .load t x) (q:Θ.get t=some c)
  (y:ev E x=some (.pointer (some ⟨b,off,none⟩))) {cs:Γb} (k:bM w b A cs) (us:Γb) (hu:(cs.drop off).take c.size=us) (hl:us.length=c.size) (h1:c.isAgg=true\/c.size=1)
  (v:Value) (s:valOf c.isAgg us=v):eP P r ops Q i d a w (λu w'=>u=v/\Fr [] w w'):=by
 subst s;have l:dJ w ⟨b,off,none⟩ us:=λj u f=>by
  have:(⟨b,off,none⟩:Addr).add j=⟨b,off+j,none⟩:=by unfold ζ6;split<;>simp_all
  rw[this,k.cell];subst hu;have n:j<c.size:=by have:=(ν.1 f).1;omega
  rw[ω,if_pos n,ξ6] at f;exact f
 refine lS p (gW g hw) m (v:=valOf c.isAgg us) (w':=w) ?_ ⟨rfl,Fr.refl _ _⟩;simp only[if_true];refine⟨by rw[h];simp,?_⟩;simp only[execOp,h,η,g.eval y,l8 (z.fits q) hl l (λe=>by rcases h1 with h1|h1;rw[e] at h1;cases h1;exact h1)];rfl
theorem aeZ {E:Env} {i d:Nat} {o:Oper} {a:Act} {w:World} (b:Has N E ds a) (t:ops[i]? =some o) (hw:want N ops E o.guard=some true) (n:o.dst=some d) {f:FuncId} {args:Array Operand} {C:Array TypeId} (c:o.op= .call {callee:=.value (.func f),args:=args,argTypes:=C})
  (p: ∀(vs:Array Value) (u:World),(callFunc f vs).run P u= .ok (.enter f vs) u)
  {vs:Γb} (B:gZ E args.toList=some vs) {β:Type} {R:Γ->World->Value->β->Prop} {O:Γ} {y:β} (l:Calls P f vs.toArray w (gn R O w y)):
  eP P r ops Q i d a w (λu w'=>R O w' u y/\Fr [] w w'):=by
 intro K k;simp only[wpOpIn,t];rw[if_pos (gW b hw)];refine⟨λ_ _=>trivial,?_⟩;have j:args.map a.eval=vs.toArray:=by rw[<-pe b B,<-ξg]
 have z:(execOp a.eval o).run P w= .ok (.enter f vs.toArray) w:=by
  simp only[execOp,c,η,resolve,ζt,ξW,κ,ζ,invoke,j];simpa using p vs.toArray w
 rw[ξl _ _ _ (by rw[c];simp),z];simp only[ξS];refine⟨λh=>by simp[fw] at h,trivial,λcs _=>?_⟩;obtain⟨e,cd,fr,⟨v,rfl,x,s⟩,A,q,hl⟩:=l cs;refine⟨.returned v,cd,fr,?_,?_,q,hl⟩
 ·simp only[n];exact k v cd ⟨x,s⟩
 ·refine ηa (λm _=>?_) (ζN A);intro g _;exact⟨λh=>by simp[fw] at h,Or.inl trivial,λ_ _=>trivial,λ_ h=>by simp[fw] at h⟩
theorem eP.weaken {i d:Nat} {a:Act} {w:World} {p q:Value->World->Prop} (h:eP P r ops Q i d a w p) (c: ∀v w',p v w'->q v w'):eP P r ops Q i d a w q:=
 λK b=>h K λv w' hp=>b v w' (c v w' hp)
end
def bY {α:Type} (T:Ty α) (O:Γ) (w:World):Γb->List α->Prop
 |cs,[]=>cs=[]
 |cs,x::xs=> ∃c r,cs=c++r/\T.rep O w c x/\bY T O w r xs
section
variable {α:Type} {T:Ty α} {O O':Γ} {w w':World}
theorem bY.tr (a:Tr O w O' w'): ∀ {xs:List α} {cs:Γb},bY T O w cs xs->bY T O' w' cs xs
 |[],_,h=>h
 |_::_,_,⟨c,r,h,h1,b⟩=>⟨c,r,h,T.tr a h1,bY.tr a b⟩
theorem bY.len: ∀ {xs:List α} {cs:Γb},bY T O w cs xs->cs.length=xs.length*T.n
 |[],_,h=>by rw[show _=[] from h];simp
 |_::xs,_,⟨c,r,h,h1,a⟩=>by subst h;rw[φ,T.len h1,bY.len a,ξw,ξC];omega
theorem bY.one: ∀ {xs:List α} {cs:Γb},bY T O w cs xs-> ∀u∈cs,u.oneCell'=true
 |[],_,h,u,hu=>by rw[show _=[] from h] at hu;cases hu
 |_::xs,_,⟨c,r,h,h1,a⟩,u,hu=>by
  subst h;rcases τ.1 hu with hu|hu
  ·exact T.one h1 u hu
  ·exact bY.one a u hu
theorem bY.app: ∀ {xs ys:List α} {cs ds:Γb},bY T O w cs xs->bY T O w ds ys->bY T O w (cs++ds) (xs++ys)
 |[],_,_,_,h,k=>by rw[show _=[] from h];exact k
 |_::xs,_,_,_,⟨c,r,h,h1,a⟩,k=>by subst h;exact⟨c,r++_,by simp,h1,bY.app a k⟩
theorem bY.at_: ∀ {xs:List α} {cs:Γb} {k:Nat} {x:α},bY T O w cs xs->xs[k]? =some x->T.rep O w ((cs.drop (k*T.n)).take T.n) x
 |[],_,_,_,_,hk=>by simp at hk
 |y::xs,_,0,x,⟨c,r,h,h1,a⟩,hk=>by
  subst h;simp at hk;subst hk;simp[<-T.len h1];exact h1
 |y::xs,_,k+1,x,⟨c,r,h,h1,a⟩,hk=>by
  subst h;have b:=bY.at_ a (by simpa using hk);have e:(k+1)*T.n=c.length+k*T.n:=by rw[T.len h1,ξC];omega
  rw[e,<-List.drop_drop,List.drop_left];exact b
theorem rm {ad:Addr} {n c:Nat} {xs:List α} (h:T.slice.is O w (.slice (some ad) n c) xs):n=xs.length/\ ∃cs,bY T O w cs xs/\dJ w ad cs:=by
 obtain⟨cs,⟨A,f,p,hl,d⟩,b⟩:=h;subst p;have b:ξT (some ad) n c= .slice A xs.length f:=b;injection b with g i l;subst g;subst i;subst l;refine⟨rfl,?_⟩;clear hl;have key: ∀(ys:List α) (off:Nat),(∀k x,ys[k]? =some x-> ∃es,T.rep O w es x/\dJ w (ad.add ((off+k)*T.n)) es)-> ∃cs,bY T O w cs ys/\dJ w (ad.add (off*T.n)) cs:=by
  intro ys
  induction ys with
  |nil=>intro off _;exact⟨[],rfl,λj u hu=>by simp at hu⟩
  |cons y ys s=>
   intro off hk;obtain⟨es,a,he⟩:=hk 0 y rfl;obtain⟨cs,q,r⟩:=s (off+1) (λk x d=>by
    obtain⟨es,h1,m⟩:=hk (k+1) x (by simpa using d)
    exact⟨es,h1,by have e:off+1+k=off+(k+1):=by omega
                   rw[e];exact m⟩)
   refine⟨es++cs,⟨es,cs,rfl,a,q⟩,λj u hu=>?_⟩;have hlen:=T.len a
   by_cases v:j<T.n
   ·rw[ξH (by omega)] at hu;have:=he j u hu;simpa using this
   ·rw[ξE (by omega)] at hu;have:=r _ u hu;rw[add_add] at this ⊢;have e:(off+1)*T.n+(j-es.length)=off*T.n+j:=by rw[ξC];omega
    rwa [e] at this
 have:=key xs 0 (λk x hk=>by
  obtain⟨t,es,o,_,_,a,he⟩:=d k x hk;cases o;exact⟨es,a,by simpa using he.1⟩)
 simpa[ζv] using this
theorem aji {g t:Nat} {cur:Array Value} {p:Addr} (a:w.heap[g]? =some (.cells cur t (0,0))) (hp:p.block=g):w.frozen? p=false:=by
 simp[ζB,hp,a]
theorem JQ {g cap t:Nat} {cur:Array Value} {xs:List α} {cs:Γb} (a:w.heap[g]? =some (.cells cur t (0,0))) (i:g∉O) (c:bY T O w cs xs) (d:cur.toList.take cs.length=cs) (f:xs.length<=cap) (hm:cap<=maxLen):
  T.slice.is O w (.slice (some ⟨g,0,none⟩) xs.length cap) xs:=by
 have h:g<w.heap.size:=(ξb.1 a).1;refine⟨_,⟨_,cap,rfl,⟨f,hm⟩,λk x hk=>⟨_,_,rfl,h,i,bY.at_ c hk,λj u hu=>?_,λj b=>aji a (by rw[hG,hG])⟩⟩,rfl⟩;have hlen:=bY.len c;have l:k<xs.length:=(ν.1 hk).1;have b:j<T.n:=by
  have:=(ν.1 hu).1;rw[ψ] at this;omega
 rw[ω,if_pos b,ξ6] at hu;rw[add_add];have e:(⟨g,0,none⟩:Addr).add (k*T.n+j)=⟨g,k*T.n+j,none⟩:=by unfold ζ6;split<;>simp_all
 rw[e,cell_of_row w g _ cur t (0,0) a];rw[<-d,ω] at hu;split at hu
 ·simpa using hu
 ·cases hu
end
structure Own {α:Type} (T:Ty α) (e B:Nat) (O:Γ) (w:World) (v:Value) (xs:List α):Prop where
 ex: ∃cs,w.ownsRow B e T.n v xs.length cs/\bY T O w cs xs
 mem: ∀g,v.ownBlock=some g->g∈O
section
variable {α:Type} {T:Ty α} {e B:Nat} {O O':Γ} {w w':World} {v:Value} {xs ys:List α}
theorem Own.iZ:Own T e B O w (.slice none 0 0) []:=⟨⟨[],World.ownsRow_nil w B e T.n,rfl⟩,λg h=>by cases h⟩
theorem Own.lt (h:Own T e B O w v xs): ∀g,v.ownBlock=some g->B<=g/\g<w.heap.size:=by
 obtain⟨cs,h1,_⟩:=h.ex;exact h1.lt
theorem Own.form (h:Own T e B O w v xs): ∃A c,v= .slice A xs.length c/\xs.length<=c/\c<=maxLen:=by
 obtain⟨cs,⟨_,h1⟩,_⟩:=h.ex;rcases h1 with⟨rfl,a⟩|⟨g,cap,cur,rfl,_,_,b,d,_⟩
 ·exact⟨none,0,by rw[a],by omega,by unfold maxLen;omega⟩
 ·exact⟨_,cap,rfl,b,d⟩
theorem Own.keep (h:Own T e B O w v xs) (i:Tr O w O' w') (hk: ∀g,v.ownBlock=some g->w'.heap[g]? =w.heap[g]? /\g∈O'):Own T e B O' w' v xs:=by
 obtain⟨cs,⟨c,h1⟩,d⟩:=h.ex;refine⟨⟨cs,⟨c,?_⟩,d.tr i⟩,λg a=>(hk g a).2⟩;rcases h1 with h1|⟨g,cap,cur,b,a,f,r⟩
 ·exact .inl h1
 ·refine .inr ⟨g,cap,cur,b,a,?_,r⟩;have:=(hk g (by rw[b];rfl)).1;rw[this];exact f
theorem Own.cj (h:Own T e B O w v xs) (a:Fr [] w w'):Own T e B O w' v xs:=h.keep a.dY λg b=>⟨a.block g (h.lt g b).2 (by simp),h.mem g b⟩
theorem Own.new {b t:Nat} {cs:Γb} (h:Own T e B O w v xs) (hn:j' O w b t cs w'):Own T e B (b::O) w' v xs:=
 h.keep hn.tr λg a=>⟨hn.fr.block g (h.lt g a).2 (by simp),ξ4 _ (h.mem g a)⟩
theorem Own.st {b:Nat} (h:Own T e B O w v xs) (c:Fr [b] w w') (hi:b∈O) (d:v.ownBlock≠some b):Own T e B O w' v xs:=
 h.keep (c.tr (gM hi)) λg a=>⟨c.block g (h.lt g a).2 (by simp;rintro rfl;exact d a),h.mem g a⟩
theorem Own.RK {b t:Nat} {cs:Γb} (h:Own T e B O w v xs) (hn:j' O w b t cs w'):v.ownBlock≠some b:=λhe=>by have:=(h.lt b he).2;have:=hn.ge;omega
theorem Own.share (h:Own T e B O w v xs) (i:Sub O' O) (hn: ∀g,v.ownBlock=some g->g∉O'):T.slice.is O' w v xs:=by
 obtain⟨cs,⟨j,h1⟩,a⟩:=h.ex;rcases h1 with⟨rfl,hl⟩|⟨g,cap,cur,rfl,l,f,b,c,k,d⟩
 ·have:xs=[]:=ξx hl;subst this;exact gT _ _ _
 ·exact JQ f (hn g rfl) (a.tr (Tr.less i)) (by rw[bY.len a];exact d) b c
end
theorem iR {w w':World} {v:Value} (h:w.grownBy w' v.ownBlock): ∀k,k<w.heap.size->v.ownBlock≠some k->w'.heap[k]? =w.heap[k]? :=λk hk a=>h.block k hk λe=>a e.symm
section
variable {P:Program} {r:Option Nat} {N:Nat} {Θ:cK} {ops:Array Oper} {Q:Exit->Act->World->Prop} {l:Γ} {E:Env} {ds:List Deferred} {w:World} {i d:Nat} {o:Oper} {O:Γ}
structure dD {α:Type} (T:Ty α) (e B:Nat) (O:Γ) (w:World) (v:Value) (zs:List α) (O':Γ) (w':World) (a:Value):Prop where
 own:Own T e B O' w' a zs
 tr:Tr O w O' w'
 ob:OB O' w'
 sub:Sub O O'
 fr: ∀k,k<w.heap.size->v.ownBlock≠some k->w'.heap[k]? =w.heap[k]?
 ne: ∀b,b<w.heap.size->v.ownBlock≠some b->a.ownBlock≠some b
theorem dD.bL {α:Type} {T:Ty α} {e B:Nat} {O':Γ} {w':World} {v c:Value} {zs:List α} (h:dD T e B O w v zs O' w' c) {b t:Nat} {cs:Γb} (a:bM w b t cs) (hn:v.ownBlock≠some b):bM w' b t cs:=
 (h.fr b a.lt hn).trans a
theorem dD.other {α β:Type} {T:Ty α} {S:Ty β} {e B b:Nat} {O':Γ} {w':World} {v c u:Value} {zs:List α} {ys:List β} (h:dD T e B O w v zs O' w' c) (hu:Own S b B O w u ys)
  (hn: ∀g,u.ownBlock=some g->v.ownBlock≠some g):Own S b B O' w' u ys:=
 hu.keep h.tr λg a=>⟨h.fr g (hu.lt g a).2 (hn g a),h.sub g (hu.mem g a)⟩
theorem dD.cj {α:Type} {T:Ty α} {e:Nat} {w0:World} {O':Γ} {w':World} {v c:Value} {zs xs:List α} (h:dD T e w0.heap.size O w v zs O' w' c) (b:Own T e w0.heap.size O w v xs) (a:Fr [] w0 w):Fr [] w0 w':=
 ⟨h.tr.os.trans a.os,h.tr.tape.trans a.tape,h.tr.output.trans a.output,ζ5 a.size h.tr.size,λk hk _=>
  (h.fr k (χ hk a.size) (λe=>by have:=(b.lt k e).1;omega)).trans (a.block k hk (by simp))⟩
theorem Tu (I:Θ.ok P) {t ty:Nat} {l d:TI} (ab:Θ.get t=some l) (K:l.tag=5) (ae:Θ.get l.e=some d) {α:Type} {T:Ty α} (hn:T.n=d.size) (an:0<d.size) (ai:d.zero.cells.size=d.size)
  {B:Nat} {v u:Value} {xs ys:List α} (Q:B<=w.heap.size) (hO:OB O w) (j:Own T l.e B O w v xs) (hu:T.slice.is O w u ys) (hlen:(xs.length+ys.length)*d.bytes<=140737488355328) (R:1<=d.bytes):
  ∃m w' O',(ξD #[t,t] ty #[v,u]).run P w= .ok m w'/\dD T l.e B O w v (xs++ys) O' w' m:=by
 have af:=I.fits ae;obtain⟨x,C,Z,S,aj⟩:=af.info;have z:=(I.fits ab).slice K;obtain⟨A,c,rfl,_,_⟩:=eW hu;obtain⟨cs,s,F⟩:=j.ex;have M:xs.length+ys.length<=maxLen:=by
  unfold maxLen;have:xs.length+ys.length<=(xs.length+ys.length)*d.bytes:=ξQ _ R;omega
 rcases A with _|ad
 ·
  have Y:ys=[]:=by
   cases ys with
   |nil=>rfl
   |cons y ys=>
    obtain⟨ak,⟨A',J,U,_,ah⟩,ag⟩:=hu;subst U;obtain⟨_,_,N,_⟩:=ah 0 y rfl;subst N;have:ξT none (y::ys).length c= .slice (some _) (y::ys).length J:=ag;injection this with e;cases e
  subst Y;refine⟨v,w,O,?_,⟨by simpa using j,Tr.refl _ _,hO,Sub.refl _,λ_ _ _=>rfl,λ_ _ h=>h⟩⟩;rcases s.2 with⟨rfl,hl⟩|⟨g,cap,cur,rfl,_,_,X,_⟩
  ·simp[ξD,run_underlying z,sizeOf,typeInfo,C,ξi,ξ1]
  ·simp[ξD,run_underlying z,sizeOf,typeInfo,C,ξi,ξ1,X,storeCells]
 ·obtain⟨_,us,p,V⟩:=rm hu;obtain⟨m,w',G,q,a,_,L⟩:=run_append_own_at (P:=P) w B t ty l.e x d.zero T.n d.bytes z C aj (Z.trans hn.symm) S (ai.trans hn.symm) (by omega) v xs.length cs s ad ys.length c us (bY.len p) V (bY.one p) M hlen Q;have E:(xs++ys).length=xs.length+ys.length:=φ;have W:=q.lt;have al:=s.lt;rcases L with H|r
  ·refine⟨m,w',O,G,⟨⟨⟨_,by rw[E];exact q,?_⟩,λg o=>j.mem g (by rw[<-H];exact o)⟩,?_,λk hk=>χ (hO k hk) a.size,Sub.refl _,iR a,λb _ D=>by rw[H];exact D⟩⟩
   ·have i:Tr O w O w':=⟨a.os,a.tape,a.output,a.size,λk hk f=>⟨f,iR a k hk λe=>f (j.mem k e)⟩⟩;exact(F.tr i).app (p.tr i)
   ·exact⟨a.os,a.tape,a.output,a.size,λk hk f=>⟨f,iR a k hk λe=>f (j.mem k e)⟩⟩
  ·have aa:=(W _ r).2;have i:Tr O w (w.heap.size::O) w':=⟨a.os,a.tape,a.output,a.size,λk hk f=>⟨by simp;exact⟨by omega,f⟩,iR a k hk λe=>f (j.mem k e)⟩⟩;refine⟨m,w',w.heap.size::O,G,⟨⟨⟨_,by rw[E];exact q,?_⟩,λg o=>by rw[r] at o;cases o;exact π⟩,i,?_,Sub.cons (Sub.refl _) _,iR a,λb D _=>by rw[r];simp;omega⟩⟩
   ·exact(F.tr i).app (p.tr i)
   ·intro k hk;rcases ξd.1 hk with rfl|hk
    ·exact aa
    ·exact χ (hO k hk) a.size
theorem Vl (L:Θ.ok P) (A:ops[i]? =some o) (hw:want N ops E o.guard=some true) (z:o.dst=some d) (p:ξ2 d N=true) {t:Nat} {x y:Operand} {c b:TI}
  (j:o.op= .call {callee:=.builtin .append,args:= #[x,y],argTypes:= #[t,t]}) (F:Θ.get t=some c) (k:c.tag=5) (G:Θ.get c.e=some b) {α:Type} {T:Ty α} (hn:T.n=b.size) (C:0<b.size) (K:b.zero.cells.size=b.size) (s:1<=b.bytes)
  {B:Nat} {v u:Value} {xs ys:List α} (I:ev E x=some v) (J:ev E y=some u) (m:B<=w.heap.size) (hO:OB O w) (H:Own T c.e B O w v xs) (hu:T.slice.is O w u ys) (hlen:(xs.length+ys.length)*b.bytes<=140737488355328)
  (h: ∀f w' O',dD T c.e B O w v (xs++ys) O' w' f->WO P r N ops Q l ((d,f)::E) ds w'):WO P r N ops Q (i::l) E ds w:=by
 obtain⟨f,w',O',D,q⟩:=Tu (P:=P) (ty:=o.type) L F k G hn C K m hO H hu hlen s;refine eh A hw z p (by rw[j];simp) (λa g=>?_) (h f w' O' q);simp only[execOp,j,η,resolve,κ,ζ,invoke,builtin,ξX,ξt,ζq,g.eval I,g.eval J,D]
theorem ah7 {k a:IntKind} {x y z:Int} {t:TypeId} {ox oy:Operand} (h:ma k x y=some z):(do eqGuard .shl t ox oy (.int k x) (.int a y);binOp .shl t (.int k x) (.int a y):Sem Value).run P w= .ok (.int k z) w:=by
 unfold ma at h;split at h
 ·cases h
 ·rename_i b;cases h;simp[go_sem,η3,b]
theorem ah8 {k a:IntKind} {x y z:Int} {t:TypeId} {ox oy:Operand} (h:JL k x y=some z):(do eqGuard .shr t ox oy (.int k x) (.int a y);binOp .shr t (.int k x) (.int a y):Sem Value).run P w= .ok (.int k z) w:=by
 unfold JL at h;split at h
 ·cases h
 ·rename_i b;cases h;simp[go_sem,η3,b]
theorem ah2 {k:IntKind} {x y z:Int} {t:TypeId} {ox oy:Operand} (h:I8 k x y=some z):(do eqGuard .quo t ox oy (.int k x) (.int k y);binOp .quo t (.int k x) (.int k y):Sem Value).run P w= .ok (.int k z) w:=by
 unfold I8 at h;split at h
 ·cases h
 ·rename_i a;cases h;simp[go_sem,ζQ,a]
theorem ah3 {k:IntKind} {x y z:Int} {t:TypeId} {ox oy:Operand} (h:Jt x y=some z):(do eqGuard .rem t ox oy (.int k x) (.int k y);binOp .rem t (.int k x) (.int k y):Sem Value).run P w= .ok (.int k z) w:=by
 unfold Jt at h;split at h
 ·cases h
 ·rename_i a;cases h;simp[go_sem,ζQ,a]
end
section
variable {P:Program} {r:Option Nat} {N:Nat} {Θ:cK} {ops:Array Oper} {Q:Exit->Act->World->Prop} {l:Γ} {E:Env} {ds:List Deferred} {w:World} {i d:Nat} {o:Oper} {O:Γ}
theorem TA {a:Act} {x:Operand} {args:Array Operand} {h:Array TypeId} {g:FuncId} {first cap:Array Value} {vs:Γb} (b:Has N E ds a) (d:o.op= .call {callee:=.value x,args:=args,argTypes:=h})
  (f:ev E x=some (.func (.func g) first cap)) (e:gZ E args.toList=some vs) (he: ∀(vs:Array Value) (u:World),(callFunc g vs).run P u= .ok (.enter g vs) u):
  (execOp a.eval o).run P w= .ok (.enter g (first.toList++vs++cap.toList).toArray) w:=by
 have c:args.map a.eval=vs.toArray:=by rw[<-pe b e,<-ξg]
 simp only[execOp,d,η,resolve,b.eval f,ξW,κ,ζ,invoke,c];rw[he];simp
theorem Vn (n:ops[i]? =some o) (hw:want N ops E o.guard=some true) (j:o.dst=some d) (c:ξ2 d N=true) {x:Operand} {args:Array Operand} {t:Array TypeId} (b:o.op= .call {callee:=.value x,args:=args,argTypes:=t})
  {g:FuncId} {first cap vs:Γb} (s:ev E x=some (.func (.func g) first.toArray cap.toArray)) (q:gZ E args.toList=some vs) (he: ∀(vs:Array Value) (u:World),(callFunc g vs).run P u= .ok (.enter g vs) u)
  {β:Type} {R:Γ->World->Value->β->Prop} {y:β} (f:Calls P g (first++vs++cap).toArray w (gn R O w y)) (h: ∀v w',R O w' v y->Fr [] w w'->WO P r N ops Q l ((d,v)::E) ds w'):WO P r N ops Q (i::l) E ds w:=
 Kn n hw j c (by rw[b];simp) (λa e=>by simpa using TA (w:=w) e b s q he) f λ_ _ ⟨v,k,p,m⟩=>⟨v,k,h v _ p m⟩
theorem ahE {α:Type} {T:Ty α} {v:Value} {x:α} (h:T.is O w v x):T.rep O w v.cells.toList x:=by
 obtain⟨cs,a,rfl⟩:=h;rw[Ty.cells a];exact a
def nD:Nat->Γb->List (Nat×Value)
 |_,[]=>[]
 |k,v::r=>(k,v)::nD (k+1) r
def jQ (E:Env):Nat->List (Nat×Operand)->Option (Γb)
 |_,[]=>some []
 |k,(j,x)::r=>bif ε j k then(match ev E x,jQ E (k+1) r with|some v,some vs=>some (v::vs)|_,_=>none) else none
theorem afr {a:Act} (h:Has N E ds a): ∀ {ps:List (Nat×Operand)} {k:Nat} {vs:Γb},jQ E k ps=some vs->ps.map (λp=>(p.1,a.eval p.2))=nD k vs:=by
 intro ps
 induction ps with
 |nil=>intro k vs b;simp[jQ] at b;subst b;rfl
 |cons p r f=>
  obtain⟨j,x⟩:=p;intro k vs b;simp only[jQ] at b;cases c:ε j k with
  |false=>rw[c] at b;cases b
  |true=>
   rw[c] at b;simp only[cond_true] at b;split at b
   ·rename_i v us e d;simp only[ι] at b;subst b;have:=δ c;subst this;simp[nD,h.eval e,f d]
   ·cases b
theorem Hb: ∀(c:Γb) (k off:Nat) (cs:Array Value),off+k+c.length<=cs.size->((c.zipIdx k).foldl (λcs p=>cs.setIfInBounds (off+p.2) p.1) cs).toList=putAt cs.toList (off+k) c:=by
 intro c
 induction c with
 |nil=>intro k off cs _;simp[putAt]
 |cons x c r=>
  intro k off cs h;simp only[List.zipIdx_cons,List.foldl_cons];rw[r (k+1) off _ (by simp at h ⊢;omega)];simp only[Array.toList_setIfInBounds,putAt];have i:off+k<cs.toList.length:=by simp at h ⊢;omega
  apply ζd;intro j;simp only[ζu,ω,ξ6,ζe,φ,ψ,List.length_set,ξw,List.getElem?_cons];have hm:min (off+k) cs.toList.length=off+k:=by omega
  have q:min (off+(k+1)) cs.toList.length=off+k+1:=by omega
  rw[hm,q]
  by_cases h1:j<off+k
  ·have e:j<off+k+1:=by omega
   have a:j<off+k+1+c.length:=by omega
   have b:j<off+k+(c.length+1):=by omega
   have g: ¬off+k=j:=by omega
   have d:j<off+(k+1):=by omega
   simp[h1,e,a,b,g,d]
  ·by_cases e:j=off+k
   ·subst e;have a:off+k<off+k+1+c.length:=by omega
    have d:off+k<off+(k+1):=by omega
    simp at i;simp[a,d,i]
   ·have f: ¬j<off+k+1:=by omega
    have l:j-(off+k)≠0:=by omega
    have m:j-(off+k)-1=j-(off+k+1):=by omega
    by_cases a:j<off+k+1+c.length
    ·have b:j<off+k+(c.length+1):=by omega
     simp[h1,f,a,b,l,m]
    ·have b: ¬j<off+k+(c.length+1):=by omega
     have g: ¬off+k=off+(k+1)+c.length+(j-(off+k+1+c.length)):=by omega
     have d:off+(k+1)+c.length+(j-(off+k+1+c.length))=j:=by omega
     have n:off+k+(c.length+1)+(j-(off+k+(c.length+1)))=j:=by omega
     have o: ¬off+k=j:=by omega
     simp only[d,n];simp[h1,f,a,b,o]
theorem acM {size:Nat}: ∀(vs:Γb) (k:Nat) (cs:Array Value),(∀v∈vs,v.cells.size=size)->cs.size=(k+vs.length)*size->
  ∃a,ζb (λi=>some (i*size,size)) cs (nD k vs)=some a/\a.toList=cs.toList.take (k*size)++(vs.map λv=>v.cells.toList).flatten:=by
 intro vs
 induction vs with
 |nil=>intro k cs _ b;exact⟨cs,rfl,by simp at b;rw[ξ5 (by simp;omega)];simp⟩
 |cons v vs n=>
  intro k cs f b;have g:=f v (by simp);have hbound:k*size+v.cells.size<=cs.size:=by
   rw[b,g,ξw,<-ξC];exact ξm _ (by omega)
  have d:=Hb v.cells.toList 0 (k*size) cs (by simp;omega);have l:(v.cells.zipIdx.foldl (λcs (c,j)=>cs.setIfInBounds (k*size+j) c) cs)=((v.cells.toList.zipIdx 0).foldl (λcs p=>cs.setIfInBounds (k*size+p.2) p.1) cs):=by
   rw[<-Array.foldl_toList,Array.toList_zipIdx]
  have m:((v.cells.toList.zipIdx 0).foldl (λcs p=>cs.setIfInBounds (k*size+p.2) p.1) cs).size=cs.size:=by
   have:=congrArg ηi d;simp only[ξK,putAt,φ,ψ,ξe] at this;omega
  obtain⟨a,h1,h⟩:=n (k+1) ((v.cells.toList.zipIdx 0).foldl (λcs p=>cs.setIfInBounds (k*size+p.2) p.1) cs) (λu hu=>f u (by simp[hu])) (by
   rw[m,b,ξw]
   congr 1
   omega)
  refine⟨a,?_,?_⟩
  ·simp only[nD,ζb];rw[if_neg (by simp[g];omega),l];exact h1
  ·rw[h,d];simp only[putAt,ζr,ξt,ζH];have e:(k+1)*size=(cs.toList.take (k*size)++v.cells.toList).length:=by
    simp only[φ,ψ,ξK,ξC];omega
   rw[e,List.take_left];simp
def lf {α:Type} (T:Ty α) (O:Γ) (w:World):Γb->List α->Prop
 |[],[]=>True
 |v::vs,x::xs=>T.is O w v x/\lf T O w vs xs
 |_,_=>False
theorem lf.rep {α:Type} {T:Ty α}: ∀ {vs:Γb} {xs:List α},lf T O w vs xs->bY T O w (vs.map λv=>v.cells.toList).flatten xs/\vs.length=xs.length/\ ∀v∈vs,v.cells.size=T.n
 |[],[],_=>⟨rfl,rfl,λv h=>by cases h⟩
 |v::vs,x::xs,⟨h1,b⟩=>by
  obtain⟨c,d,e⟩:=lf.rep b;have a:=ahE h1;refine⟨⟨_,_,by simp,a,c⟩,by simp[d],λu hu=>?_⟩;rcases ξd.1 hu with rfl|hu
  ·simpa using T.len a
  ·exact e u hu
def hr (vs:Γb):Γb:=(vs.map λv=>v.cells.toList).flatten
theorem JD (g:Θ.ok P) {a:Act} (m:Has N E ds a) {t n:Nat} {d b:TI} (s:Θ.get t=some d) (l:d.tag=5) (u:Θ.get d.e=some b) (A:b.zero.cells.size=b.size)
  {ps:Array (Nat×Operand)} {vs:Γb} (r:jQ E 0 ps.toList=some vs) (o: ∀v∈vs,v.cells.size=b.size) (hlen:vs.length=n) (z:n*b.size<=16777216):
  (ζO t n (ps.map λ(i,x)=>(i,a.eval x))).run P w= .ok (.slice (some ⟨w.heap.size,0,none⟩) n n) (w.alloc (.cells (hr vs).toArray d.e)):=by
 have f:=g.fits u;obtain⟨h,h1,k⟩:=acM (size:=b.size) vs 0 ((Array.range (n*b.size)).map ((if n*b.size=0 then #[] else b.zero.cells)[· %(if n*b.size=0 then #[] else b.zero.cells).size]!)) (λv y=>o v y) (by simp[hlen]);have q:(ps.map λ(i,x)=>(i,a.eval x)).toList=nD 0 vs:=by
  rw[ξg];exact afr m r
 have p: ¬n*b.size>2^24:=by omega
 have j:h=(hr vs).toArray:=by
  apply Array.toList_inj.1;rw[k];simp[hr]
 subst j;simp only[ζO,η,run_underlying ((g.fits s).slice l),ζ,dW f];rw[if_neg p];rw[q]
 by_cases c:n*b.size=0
 ·rw[if_pos c] at h1;rw[if_pos c];simp only[η,κ,ζ];rw[h1];rfl
 ·rw[if_neg c] at h1;rw[if_neg c];simp only[η,mm f,κ,ζ];rw[h1];rfl
structure Lit {α:Type} (T:Ty α) (e:Nat) (O:Γ) (w:World) (b n:Nat) (xs:List α) (w':World):Prop where
 new: ∃cs,j' O w b e cs w'/\bY T (b::O) w' cs xs/\cs.length=n*T.n
 len:xs.length=n
 le:n<=maxLen
theorem Lit.fr {α:Type} {T:Ty α} {e b n:Nat} {w':World} {xs:List α} (h:Lit T e O w b n xs w'):Fr [] w w':=let⟨_,h,_⟩:=h.new;h.fr
theorem Lit.data {α:Type} {T:Ty α} {e b n:Nat} {w':World} {xs:List α} (h:Lit T e O w b n xs w') (hO:OB O w):T.slice.is O w' (.slice (some ⟨b,0,none⟩) n n) xs:=by
 obtain⟨cs,hn,c,hl⟩:=h.new;have:=JQ (cap:=n) (O:=O) hn.bL (λa=>by have:=hO _ a;have:=hn.ge;omega) (c.tr (Tr.less λk hk=>ξ4 _ hk)) (by simp) (by rw[h.len];exact ξ3 _) h.le
 rwa [h.len] at this
theorem Lit.own {α:Type} {T:Ty α} {e b n B:Nat} {w':World} {xs:List α} (h:Lit T e O w b n xs w') (a:B<=w.heap.size):Own T e B (b::O) w' (.slice (some ⟨b,0,none⟩) n n) xs:=by
 obtain⟨cs,hn,d,hl⟩:=h.new;refine⟨⟨cs,⟨by rw[hl,h.len],.inr ⟨b,n,cs.toArray,by rw[h.len],ζ5 a hn.ge,hn.bL,by rw[h.len];exact ξ3 _,h.le,by simp[hl],by rw[h.len,<-hl];simp⟩⟩,d⟩,λg c=>?_⟩;cases c;exact π
theorem Rp (hO:OB O w) {α:Type} {T:Ty α} {vs:Γb} {xs:List α} {n:Nat} (b:lf T O w vs xs) (hlen:vs.length=n) (hm:n<=maxLen) (e:Nat):Lit T e O w w.heap.size n xs (w.alloc (.cells (hr vs).toArray e)):=by
 obtain⟨a,hl,_⟩:=b.rep;have hn:=jN hO e (hr vs);exact⟨⟨_,hn,a.tr hn.tr,by rw[show(hr vs).length=_ from a.len,<-hl,hlen]⟩,by omega,hm⟩
theorem Vo (D:Θ.ok P) (u:ops[i]? =some o) (hw:want N ops E o.guard=some true) (q:o.dst=some d) (m:ξ2 d N=true) {t n:Nat} {f c:TI} {ps:Array (Nat×Operand)} (g:o.op= .buildSlice t n ps) (z:Θ.get t=some f) (k:f.tag=5) (A:Θ.get f.e=some c)
  {α:Type} {T:Ty α} (hn:T.n=c.size) (C:c.zero.cells.size=c.size) {vs:Γb} (x:jQ E 0 ps.toList=some vs) {xs:List α} (j:lf T O w vs xs) (hlen:vs.length=n) (y:ξ9 (n*c.size) 16777216=true) (hm:ξ9 n 16777216=true) (hO:OB O w)
  (h: ∀b w',Lit T f.e O w b n xs w'->WO P r N ops Q l ((d,.slice (some ⟨b,0,none⟩) n n)::E) ds w'):WO P r N ops Q (i::l) E ds w:=by
 have s:n<=maxLen:=by have:=ο hm;unfold maxLen;omega
 refine eh u hw q m (by rw[g];simp) (λa p=>?_) (h w.heap.size _ (Rp hO j hlen s f.e));simp only[execOp,g,η];rw[JD D p z k A C x (λv B=>(j.rep.2.2 v B).trans hn) hlen (ο y)];rfl
theorem ae2 (C:Θ.ok P) {a:Act} (g:Has N E ds a) (q:ops[i]? =some o) (hw:want N ops E o.guard=some true) (m:o.dst=some d) {t n:Nat} {f c:TI} {ps:Array (Nat×Operand)} (j:o.op= .buildSlice t n ps) (y:Θ.get t=some f) (l:f.tag=5) (z:Θ.get f.e=some c)
  {α:Type} {T:Ty α} (hn:T.n=c.size) (B:c.zero.cells.size=c.size) {vs:Γb} (s:jQ E 0 ps.toList=some vs) {xs:List α} (k:lf T O w vs xs) (hlen:vs.length=n) (x:ξ9 (n*c.size) 16777216=true) (hm:ξ9 n 16777216=true) (hO:OB O w):
  eP P r ops Q i d a w (λu w'=>T.slice.is O w' u xs/\Fr [] w w'):=by
 have p:n<=maxLen:=by have:=ο hm;unfold maxLen;omega
 have h:=Rp hO k hlen p f.e;refine lS q (gW g hw) m (b:=true) (v:=.slice (some ⟨w.heap.size,0,none⟩) n n) (w':=w.alloc (.cells (hr vs).toArray f.e)) ?_ ⟨h.data hO,h.fr⟩;simp only[if_true];refine⟨by rw[j];simp,?_⟩;simp only[execOp,j,η];rw[JD C g y l z B s (λv A=>(k.rep.2.2 v A).trans hn) hlen (ο x)];rfl
def rf (Θ:cK) (w:World) (E:Env):List ResultVar->Γb->Prop
 |[],vs=>vs=[]
 | .tmp t::l,vs=> ∃v us,vs=v::us/\E.get t=some v/\rf Θ w E l us
 | .cell a t::l,vs=> ∃v us,vs=v::us/\(∃b d cs c,E.get a=some (.pointer (some ⟨b,0,none⟩))/\bM w b d cs/\Θ.get t=some c/\cs.length=c.size/\(c.isAgg=true\/c.size=1)/\valOf c.isAgg cs=v)/\rf Θ w E l us
theorem ah4 {fn:Func} {a:Act} {vs:Γb} (y:Θ.ok P) (h:Has N E ds a) (r:rf Θ w E fn.results.toList vs):(results fn a.tmps).run P w= .ok (h3 vs) w:=by
 have key: ∀(F:ResultVar->Sem Value) (_: ∀t,F (.tmp t)=pure (a.tmps.getD t undef)) (_: ∀b t,F (.cell b t)=do loadVar t (<-asAddr (a.tmps.getD b undef))) (l:List ResultVar) (vs:Γb),rf Θ w E l vs->(l.mapM F).run P w= .ok vs w:=by
  intro F m n l
  induction l with
  |nil=>intro vs f;rw[show vs=[] from f];simp
  |cons x l k=>
   intro vs f;cases x with
   |tmp t=>
    obtain⟨v,us,rfl,g,hl⟩:=f;simp only[ζ8,m,η,κ,ζ,k us hl,h.get t v g]
   |cell c t=>
    obtain⟨v,us,rfl,⟨b,z,cs,A,g,o,s,hlen,d,f⟩,hl⟩:=f;have p:dJ w ⟨b,0,none⟩ cs:=λj u q=>by
     have:(⟨b,0,none⟩:Addr).add j=⟨b,j,none⟩:=by unfold ζ6;split<;>simp_all
     rw[this,o.cell];exact q
    have i:=l8 (P:=P) (y.fits s) hlen p (λe=>by rcases d with d|d;rw[e] at d;cases d;exact d);simp only[ζK,ξy,η,κ,ζ] at i;simp only[ζ8,n,η,h.get c _ g,asAddr,κ,ζ,i,f,k us hl]
 unfold results;rw[ξF];simp only[η,ζR];rw[key _ (λt=>rfl) (λb t=>rfl) _ _ r];simp only[ζ,κ]
 congr 1
 match vs with
 |[]=>rfl
 |[v]=>rfl
 |v::u::vs=>simp[h3]
theorem k5 {fn:Func} {R:Ending->World->Prop} {vs:Γb} (d:Θ.ok P) (c:rf Θ w E fn.results.toList vs) (h:R (.returned (h3 vs)) w):WQ N (bodyPostM (fw none) 0 P fn R) .ret E [] w:=by
 intro a b;show LeavesInM (fw none) 0 P fn a.tmps R a.defers .returning w;rw[b.defers];exact⟨_,ah4 d b c,h⟩
end
def app {α:Type} (bytes:Nat) (xs ys:List α):Option (List α):=if(xs.length+ys.length)*bytes<=140737488355328 then some (xs++ys) else none
theorem uH {α:Type} {bytes:Nat} {xs ys zs:List α} (h:app bytes xs ys=some zs):(xs.length+ys.length)*bytes<=140737488355328/\zs=xs++ys:=by
 unfold app at h;split at h
 ·cases h;exact⟨by assumption,rfl⟩
 ·cases h
section
variable {P:Program} {r:Option Nat} {N:Nat} {Θ:cK} {ops:Array Oper} {Q:Exit->Act->World->Prop} {l:Γ} {E:Env} {ds:List Deferred} {w:World} {i d:Nat} {o:Oper} {O:Γ}
theorem Vk (G:Θ.ok P) (p:ops[i]? =some o) (hw:want N ops E o.guard=some true) (m:o.dst=some d) (j:ξ2 d N=true) {t:Nat} {x y:Operand} {b a:TI}
  (q:o.op= .call {callee:=.builtin .append,args:= #[x,y],argTypes:= #[t,t]}) (z:Θ.get t=some b) (f:b.tag=5) (A:Θ.get b.e=some a) {α:Type} {T:Ty α} (hn:T.n=a.size) (s:ξ2 0 a.size=true) (F:a.zero.cells.size=a.size) (k:ξ9 1 a.bytes=true)
  {w0:World} {v u:Value} {xs ys zs:List α} (C:ev E x=some v) (D:ev E y=some u) (g:Fr [] w0 w) (hO:OB O w) (B:Own T b.e w0.heap.size O w v xs) (hu:T.slice.is O w u ys) (hlen:app a.bytes xs ys=some zs)
  (h: ∀c w' O',dD T b.e w0.heap.size O w v zs O' w' c->WO P r N ops Q l ((d,c)::E) ds w'):WO P r N ops Q (i::l) E ds w:=by
 obtain⟨hle,rfl⟩:=uH hlen;exact Vl G p hw m j q z f A hn (ο s) F (ο k) C D g.size hO B hu hle h
end
def Dj (u v:Value):Prop:= ∀g,u.ownBlock=some g->v.ownBlock≠some g
theorem ab0 (v:Value):Dj v (.slice none 0 0):=λg _ h=>by cases h
theorem aew (b:Nat):(ξT none 0 0).ownBlock≠some b:=λh=>by cases h
structure Bk (n0:Nat) (O:Γ) (w w':World):Prop where
 os:w'.os=w.os
 tape:w'.tape=w.tape
 output:w'.output=w.output
 size:w.heap.size<=w'.heap.size
 keep: ∀k,k<w.heap.size->w'.heap[k]? =w.heap[k]? \/(k∈O/\n0<=k/\ ∃o:Obj,w.heap[k]? =some o/\o.isCells=false)
theorem Bk.tr {n0:Nat} {O:Γ} {w w':World} (h:Bk n0 O w w'):Tr O w O w':=⟨h.os,h.tape,h.output,h.size,λk hk a=>⟨a,by
 rcases h.keep k hk with h1|⟨b,_⟩
 ·exact h1
 ·exact absurd b a⟩⟩
theorem Bk.ob {n0:Nat} {O:Γ} {w w':World} (h:Bk n0 O w w') (hO:OB O w):OB O w':=λk hk=>χ (hO k hk) h.size
theorem Nv {n0 l:Nat} {O:Γ} {w:World} {o:Obj} (o':Obj) (hl:w.heap[l]? =some o) (a:o.isCells=false) (hO:l∈O) (hn:n0<=l):Bk n0 O w (w.putObj l o'):=
 ⟨rfl,rfl,rfl,by simp,λk hk=>by
  by_cases e:k=l
  ·subst e;exact .inr ⟨hO,hn,o,hl,a⟩
  ·exact .inl (World.putObj_heap_other e)⟩
def Rec (w:World) (l:Nat) (o:Obj):Prop:=w.heap[l]? =some o/\o.isCells=false
section
variable {w w':World} {l:Nat} {o:Obj} {O:Γ}
theorem Rec.lt (h:Rec w l o):l<w.heap.size:=(ξb.1 h.1).1
end
def mark (D:Nat):Deferred:= {target:=.collected D,args:= #[]}
def dF {α:Type} (xs:List α) (lo hi mx:Option Int):Option (List α):=
 if 0<=lo.getD 0/\lo.getD 0<=hi.getD (xs.length:Int)/\hi.getD (xs.length:Int)<=xs.length/\hi.getD (xs.length:Int)<=mx.getD (xs.length:Int)/\mx.getD (xs.length:Int)<=xs.length/\(mx.isSome=true->hi.isSome=true) then
  some ((xs.take (hi.getD (xs.length:Int)).toNat).drop (lo.getD 0).toNat) else none
def jE (E:Env):Option Operand->Option (Option (IntKind×Int))
 |none=>some none
 |some x=>match ev E x with|some (.int k i)=>some (some (k,i))|_=>none
def gJ (p:IntKind×Int):Value:=.int p.1 p.2
theorem m_ {N:Nat} {E:Env} {ds:List Deferred} {a:Act} (h:Has N E ds a) {x:Option Operand} {p:Option (IntKind×Int)} (b:jE E x=some p):x.map a.eval=p.map gJ:=by
 cases x with
 |none=>simp[jE] at b;subst b;rfl
 |some x=>
  simp only[jE] at b;split at b
  ·rename_i k i hi;simp only[ι] at b;subst b;simp[h.eval hi,gJ]
  ·cases b
theorem ahO {P:Program} {w:World} {k:IntKind} {i:Int} {y:Nat} {code:BoundsCode} (a:0<=i) (h1:i<=y):(ζk (.int k i) y code).run P w= .ok i.toNat w:=by
 simp[ζk,asIntOf,a,h1]
section
variable {P:Program} {r:Option Nat} {N:Nat} {Θ:cK} {ops:Array Oper} {Q:Exit->Act->World->Prop} {l:Γ} {E:Env} {ds:List Deferred} {w:World} {i d:Nat} {o:Oper} {O:Γ}
theorem od {b:Bool} {n c:Nat} {lo hi mx:Option (IntKind×Int)} (j:n<=c) (d:0<=(lo.map (·.2)).getD (0:Int)) (h1:(lo.map (·.2)).getD (0:Int)<=(hi.map (·.2)).getD (n:Int)) (f:(hi.map (·.2)).getD (n:Int)<=(mx.map (·.2)).getD (c:Int)) (g:(mx.map (·.2)).getD (c:Int)<=(c:Int)) (e:mx.isSome=true->hi.isSome=true):
  (ζI b n c (lo.map gJ) (hi.map gJ) (mx.map gJ)).run P w= .ok (((lo.map (·.2)).getD (0:Int)).toNat,((hi.map (·.2)).getD (n:Int)).toNat,((mx.map (·.2)).getD (c:Int)).toNat) w:=by
 have a: ∀(k:IntKind) (i:Int) (y:Nat) (code:BoundsCode),0<=i->i<=y->(ζk (.int k i) y code).run P w= .ok i.toNat w:=λk i y code=>ahO;unfold ζI;rcases mx with _|⟨p,m⟩<;>rcases hi with _|⟨o,h⟩<;>rcases lo with _|⟨kl,l⟩<;>simp only[ξc,ξ0,ξI,υ,Option.isSome_none,Option.isSome_some,gJ,ζC] at* <;>
  simp only[η,κ,ζ]
 ·simp
 ·rw[a _ _ _ _ d (by omega)];simp
 ·rw[a _ _ _ _ (by omega) (by omega)];simp
 ·rw[a _ _ _ _ (by omega) (by omega)];simp only[ζ];rw[a _ _ _ _ d (by omega)];simp
 ·simp at e
 ·simp at e
 ·rw[a _ _ _ _ (by omega) (by omega)];simp only[ζ];rw[a _ _ _ _ (by omega) (by omega)];simp
 ·rw[a _ _ _ _ (by omega) (by omega)];simp only[ζ];rw[a _ _ _ _ (by omega) (by omega)];simp only[ζ];rw[a _ _ _ _ d (by omega)];simp
theorem yi (g:Θ.ok P) {t:Nat} {d h:TI} (o:Θ.get t=some d) (k:d.tag=5) (p:Θ.get d.e=some h) {α:Type} {T:Ty α} (hn:T.n=h.size) {v:Value} {xs ys:List α} {O1:Γ} {w1:World} (f:T.slice.is O1 w1 v xs) {lo hi mx:Option (IntKind×Int)}
  (a:dF xs (lo.map (·.2)) (hi.map (·.2)) (mx.map (·.2))=some ys): ∃i,(ξv t v (lo.map gJ) (hi.map gJ) (mx.map gJ)).run P w= .ok i w/\T.slice.is O1 w1 i ys:=by
 obtain⟨A,c,rfl,hl,hm⟩:=eW f;unfold dF at a;split at a
 ·rename_i m;obtain⟨j,h1,q,r,s,u⟩:=m;simp only[ι] at a;have hu:=(g.fits o).slice k;have l:=od (P:=P) (w:=w) (b:=true) (n:=xs.length) (c:=c) (lo:=lo) (hi:=hi) (mx:=mx) hl j h1 (by cases mx<;>simp_all<;>omega) (by cases mx<;>simp_all<;>omega) (by cases mx<;>cases hi<;>simp_all);refine⟨.slice (if((mx.map (·.2)).getD (c:Int)).toNat=((lo.map (·.2)).getD (0:Int)).toNat then A else A.map (·.add (((lo.map (·.2)).getD (0:Int)).toNat*T.n))) (((hi.map (·.2)).getD (xs.length:Int)).toNat-((lo.map (·.2)).getD (0:Int)).toNat) (((mx.map (·.2)).getD (c:Int)).toNat-((lo.map (·.2)).getD (0:Int)).toNat),?_,?_⟩
  ·simp only[ξv,η,run_underlying hu,ζ,ζw,l,dW (g.fits p),κ,hn]
  ·subst a;exact aiv f (by omega) (by omega) (by cases mx<;>simp_all<;>omega) (by cases mx<;>simp_all<;>omega)
 ·cases a
theorem ajW (H:Θ.ok P) (z:ops[i]? =some o) (hw:want N ops E o.guard=some true) (q:o.dst=some d) (m:ξ2 d N=true) {t:Nat} {x:Operand} {lo hi mx:Option Operand} {f j:TI} (g:o.op= .slice t x lo hi mx) (B:Θ.get t=some f)
  (k:f.tag=5) (C:Θ.get f.e=some j) {v:Value} (G:ev E x=some v) {l' h' m':Option (IntKind×Int)} (u:jE E lo=some l') (s:jE E hi=some h') (y:jE E mx=some m') {α:Type} {T:Ty α} {xs ys:List α} (hn:T.n=j.size) {O1:Γ} {w1:World} (D:T.slice.is O1 w1 v xs)
  (p:dF xs (l'.map (·.2)) (h'.map (·.2)) (m'.map (·.2))=some ys) (h: ∀c,T.slice.is O1 w1 c ys->WO P r N ops Q l ((d,c)::E) ds w):WO P r N ops Q (i::l) E ds w:=by
 obtain⟨c,A,F⟩:=yi (w:=w) H B k C hn D p;refine eh z hw q m (by rw[g];simp) (λa b=>?_) (h c F);simp only[execOp,g,η,b.eval G,m_ b u,m_ b s,m_ b y,A];rfl
theorem rG {E:Env} {a:Act} {w:World} {m c:Nat} (b:a.tmps.size=N) (d:a.defers=ds) (e:rows a E) (hl:ζ1 m c=l) (h:WO P r N ops Q l E ds w):wpOpsIn (fw r) 0 P ops Q (ζ1 m c) a w:=by
 rw[hl];exact h a ⟨b,d,b7 e⟩
theorem JY {w w':World} {b:Nat} (a:Fr [] w w') (d:w.heap.size<=b):Tr O w (b::O) w':=⟨a.os,a.tape,a.output,a.size,λk hk c=>⟨by simp;exact⟨by omega,c⟩,a.block k hk (by simp)⟩⟩
end
def kI {α:Type} (bytes:Nat) (l c:Int) (z:α):Option (List α):=if 0<=l/\l<=c/\(bytes:Int)*c<=281474976710656/\c<=281474976710656 then some (ζ9 l.toNat z) else none
theorem RH {z:Array Value}: ∀(n k j:Nat),j<k*n->z.size=n->(madeCells z (k*n)).toList[j]? =z.toList[j%n]? :=by
 intro n k j a b;have hn:0<n:=by
  rcases Nat.eq_zero_or_pos n with h|h
  ·subst h;simp at a
  ·exact h
 have hm:j%n<z.size:=by rw[b];exact Nat.mod_lt _ hn
 have e:z[j%n]? =some z[j%n]:=σ hm;have c:z[j%n]! =z[j%n]:=getElem!_pos z (j%n) hm;simp[madeCells,a,b,e,c]
theorem acT {cs:Γb} {n:Nat} (hl:cs.length=n): ∀(k j:Nat),j<k*n->((ζ9 k cs).flatten)[j]? =cs[j%n]? :=by
 intro k
 induction k with
 |zero=>intro j a;simp at a
 |succ k b=>
  intro j a;simp only[ζx,ζH];rw[ξC] at a
  by_cases h:j<n
  ·rw[ξH (by omega),Nat.mod_eq_of_lt h]
  ·rw[ξE (by omega),hl,b (j-n) (by omega),Nat.mod_eq_sub_mod (by omega:n<=j)]
theorem ahF {α:Type} {T:Ty α} {O:Γ} {w:World} {cs:Γb} {z:α} (h:T.rep O w cs z): ∀k,bY T O w (ζ9 k cs).flatten (ζ9 k z):=by
 intro k
 induction k with
 |zero=>rfl
 |succ k a=>exact⟨cs,_,by simp[ζx],h,a⟩
section
variable {P:Program} {r:Option Nat} {N:Nat} {Θ:cK} {ops:Array Oper} {Q:Exit->Act->World->Prop} {l:Γ} {E:Env} {ds:List Deferred} {w:World} {i d:Nat} {o:Oper} {O:Γ}
def c5 {α:Type} (xs ys:List α):List α:=ys.take xs.length++xs.drop ys.length
theorem bY.take {α:Type} {T:Ty α}: ∀ {xs:List α} {cs:Γb} (k:Nat),bY T O w cs xs->bY T O w (cs.take (k*T.n)) (xs.take k)
 |[],_,k,h=>by rw[show _=[] from h];simp[bY]
 |x::xs,_,0,_=>by simp[bY]
 |x::xs,_,k+1,⟨c,r,h,h1,a⟩=>by
  subst h;refine⟨c,r.take (k*T.n),?_,h1,bY.take k a⟩;have:=T.len h1;rw[ξC,ηb,ξY,ξ5 (by omega)]
  congr 2
  omega
theorem bY.drop {α:Type} {T:Ty α}: ∀ {xs:List α} {cs:Γb} (k:Nat),bY T O w cs xs->bY T O w (cs.drop (k*T.n)) (xs.drop k)
 |[],_,k,h=>by rw[show _=[] from h];simp[bY]
 |x::xs,_,0,h=>by simpa using h
 |x::xs,_,k+1,⟨c,r,h,h1,a⟩=>by
  subst h;have:=T.len h1;rw[ξC,ηb,ξJ,ξR (by omega),ζ2];have e:T.n+k*T.n-c.length=k*T.n:=by omega
  rw[e];exact bY.drop k a
theorem wrote {α:Type} {T:Ty α} {e B g cap n:Nat} {w:World} {cur new:Array Value} {cs:Γb} {zs:List α} (hO:OB O w) (b:g∈O) (i:B<=g) (c:w.heap[g]? =some (.cells cur e (0,0))) (r:new.size=cur.size) (j:cur.size=cap*T.n) (l:cap<=maxLen) (hn:zs.length=n) (o:n<=cap)
  (q: ∀w',Tr O w O w'->bY T O w' cs zs) (s:new.toList.take (n*T.n)=cs):dD T e B O w (.slice (some ⟨g,0,none⟩) n cap) zs O (w.setRow g new) (.slice (some ⟨g,0,none⟩) n cap):=by
 have a:=j1 (new:=new) c;have f:=a.tr (gM b);have m:(w.setRow g new).heap[g]? =some (.cells new e (0,0)):=setRow_heap w g _ _ _ _ c;have d:=q _ f;subst hn;exact⟨⟨⟨cs,⟨d.len,.inr ⟨g,cap,new,rfl,i,m,o,l,by rw[r,j],s⟩⟩,d⟩,λk hk=>by cases hk;exact b⟩,f,a.ob hO,Sub.refl _,
  λk hk p=>a.block k hk (by simp;rintro rfl;exact p rfl),λ_ _ h=>h⟩
def Src {α:Type} (T:Ty α) (O:Γ) (w:World) (u:Value) (ys:List α):Prop:=(∃c,u= .slice none 0 c/\ys=[])\/ ∃ad c us,u= .slice (some ad) ys.length c/\bY T O w us ys/\dJ w ad us
theorem Src.xF {α:Type} {T:Ty α} {O:Γ} {w:World} {u:Value} {ys:List α} (hu:T.slice.is O w u ys):Src T O w u ys:=by
 obtain⟨A,c,rfl,l,_⟩:=eW hu;rcases A with _|ad
 ·have g:ys=[]:=by
   cases ys with
   |nil=>rfl
   |cons y ys=>
    obtain⟨k,⟨A',a,d,_,j⟩,i⟩:=hu;subst d;obtain⟨_,_,b,_⟩:=j 0 y rfl;subst b;have:ξT none (y::ys).length c= .slice (some _) (y::ys).length a:=i;injection this with e;cases e
  subst g;exact .inl ⟨c,rfl,rfl⟩
 ·obtain⟨_,us,h,f⟩:=rm hu;exact .inr ⟨ad,c,us,rfl,h,f⟩
theorem ahN (G:Θ.ok P) {t ty:Nat} {l d:TI} (V:Θ.get t=some l) (H:l.tag=5) (W:Θ.get l.e=some d) {α:Type} {T:Ty α} (hn:T.n=d.size) (ab:0<d.size) (Y:d.zero.cells.size=d.size)
  {B:Nat} {v u:Value} {xs ys:List α} (K:B<=w.heap.size) (hO:OB O w) (j:Own T l.e B O w v xs) (hu:Src T O w u ys) (hlen:(xs.length+ys.length)*d.bytes<=140737488355328) (L:1<=d.bytes):
  ∃m w' O',(ξD #[t,t] ty #[v,u]).run P w= .ok m w'/\dD T l.e B O w v (xs++ys) O' w' m:=by
 have X:=G.fits W;obtain⟨x,z,S,M,Z⟩:=X.info;have y:=(G.fits V).slice H;obtain⟨cs,s,D⟩:=j.ex;have J:xs.length+ys.length<=maxLen:=by
  unfold maxLen;have:xs.length+ys.length<=(xs.length+ys.length)*d.bytes:=ξQ _ L;omega
 rcases hu with⟨c,rfl,rfl⟩|⟨ad,c,us,rfl,p,N⟩
 ·refine⟨v,w,O,?_,⟨by simpa using j,Tr.refl _ _,hO,Sub.refl _,λ_ _ _=>rfl,λ_ _ h=>h⟩⟩;rcases s.2 with⟨rfl,hl⟩|⟨g,cap,cur,rfl,_,_,R,_⟩
  ·simp[ξD,run_underlying y,sizeOf,typeInfo,z,ξi,ξ1]
  ·simp[ξD,run_underlying y,sizeOf,typeInfo,z,ξi,ξ1,R,storeCells]
 ·obtain⟨m,w',E,q,a,_,I⟩:=run_append_own_at (P:=P) w B t ty l.e x d.zero T.n d.bytes y z Z (S.trans hn.symm) M (Y.trans hn.symm) (by omega) v xs.length cs s ad ys.length c us (bY.len p) N (bY.one p) J hlen K;have C:(xs++ys).length=xs.length+ys.length:=φ;have Q:=q.lt;have aa:=s.lt;rcases I with F|r
  ·refine⟨m,w',O,E,⟨⟨⟨_,by rw[C];exact q,?_⟩,λg o=>j.mem g (by rw[<-F];exact o)⟩,?_,λk hk=>χ (hO k hk) a.size,Sub.refl _,iR a,λb _ A=>by rw[F];exact A⟩⟩
   ·have i:Tr O w O w':=⟨a.os,a.tape,a.output,a.size,λk hk f=>⟨f,iR a k hk λe=>f (j.mem k e)⟩⟩;exact(D.tr i).app (p.tr i)
   ·exact⟨a.os,a.tape,a.output,a.size,λk hk f=>⟨f,iR a k hk λe=>f (j.mem k e)⟩⟩
  ·have U:=(Q _ r).2;have i:Tr O w (w.heap.size::O) w':=⟨a.os,a.tape,a.output,a.size,λk hk f=>⟨by simp;exact⟨by omega,f⟩,iR a k hk λe=>f (j.mem k e)⟩⟩;refine⟨m,w',w.heap.size::O,E,⟨⟨⟨_,by rw[C];exact q,?_⟩,λg o=>by rw[r] at o;cases o;exact π⟩,i,?_,Sub.cons (Sub.refl _) _,iR a,λb A _=>by rw[r];simp;omega⟩⟩
   ·exact(D.tr i).app (p.tr i)
   ·intro k hk;rcases ξd.1 hk with rfl|hk
    ·exact U
    ·exact χ (hO k hk) a.size
theorem Tw (x:Θ.ok P) {t t' ty:Nat} {a y:TI} (Q:Θ.get t=some a) (D:a.tag=5) (R:Θ.get a.e=some y) {α:Type} {T:Ty α} (hn:T.n=y.size) {B:Nat} {v u:Value} {xs ys:List α} (hO:OB O w) (l:Own T a.e B O w v xs) (hu:Src T O w u ys):
  ∃w',(ξj #[t,t'] ty #[v,u]).run P w= .ok (goInt (ξZ ys.length xs.length)) w'/\dD T a.e B O w v (c5 xs ys) O w' v:=by
 have f:=x.fits R;have i:=(x.fits Q).slice D;obtain⟨cs,⟨V,h1⟩,N⟩:=l.ex;have W: ∀k:Nat,goInt k= .int .i64 k:=λ_=>rfl;rcases h1 with⟨rfl,hl⟩|⟨g,cap,cur,rfl,G,q,p,C,E,F⟩
 ·
  have:xs=[]:=ξx hl;subst this;refine⟨w,?_,⟨by simpa[c5] using l,Tr.refl _ _,hO,Sub.refl _,λ_ _ _=>rfl,λ_ _ h=>h⟩⟩;rcases hu with⟨c,rfl,rfl⟩|⟨ad,c,us,rfl,_,_⟩
  ·simp[ξj,run_underlying i,ξi,ξ1,dW f]
  ·have J:(loadCells ad 0).run P w= .ok #[] w:=by simpa using run_loadCells_list (P:=P) w ad [] (by simp)
   simp[ξj,run_underlying i,ξi,ξ1,dW f,J]
 ·rcases hu with⟨c,rfl,rfl⟩|⟨ad,c,us,rfl,o,I⟩
  ·skip
   refine⟨w,?_,⟨by simpa[c5] using l,Tr.refl _ _,hO,Sub.refl _,λ_ _ _=>rfl,λ_ _ h=>h⟩⟩;simp[ξj,run_underlying i,ξi,ξ1,dW f,storeCells]
  ·obtain⟨m,hm⟩: ∃m,m=ξZ ys.length xs.length:=⟨_,rfl⟩;have M:m<=ys.length:=by rw[hm];exact Nat.min_le_left _ _
   have L:m<=xs.length:=by rw[hm];exact Nat.min_le_right _ _
   have H: ∀j v,(us.take (m*T.n))[j]? =some v->w.cell? (ad.add j)=some v:=λj v d=>by
    rw[ω] at d;split at d
    ·exact I j v d
    ·cases d
   have Z:us.length=ys.length*T.n:=o.len;have X:m*T.n<=ys.length*T.n:=ξm _ M;have Y:m*T.n<=xs.length*T.n:=ξm _ L;have U:xs.length*T.n<=cap*T.n:=ξm _ p;have b:(us.take (m*T.n)).length=m*T.n:=by rw[ψ];omega
   have r:=run_loadCells_list (P:=P) w ad _ H;rw[b] at r;have s:=run_storeCells_at P g 0 a.e (us.take (m*T.n)) 0 cur w q (by rw[b];omega) (λu hu=>o.one u (List.mem_of_mem_take hu));rw[b] at s;refine⟨w.setRow g (cur.toList.take (0+0)++us.take (m*T.n)++cur.toList.drop (0+0+m*T.n)).toArray,?_,wrote (cs:=us.take (m*T.n)++cs.drop (m*T.n)) hO (l.mem g rfl) G q ?_ (by rw[E]) C ?_ p ?_ ?_⟩
   ·have K:ξZ ys.length xs.length=m:=hm.symm;simp only[ξj,η,ξU,ξa,ξf,run_underlying i,ζ,ξi,κ,K,dW f,ξ1];rw[<-hn,r];simp only[ζ,s,η,κ]
   ·simp only[List.size_toArray,φ,ψ,ξe,ξK];omega
   ·simp only[c5,φ,ψ,ξe];omega
   ·intro w' S;have z:ys.take xs.length=ys.take m:=by
     rw[hm];rcases ηc ys.length xs.length with h|h
     ·rw[ξ5 h,show ξZ ys.length xs.length=ys.length from ζs h,ξ5 (ξ3 _)]
     ·rw[show ξZ ys.length xs.length=xs.length from ζl h]
    have A:xs.drop ys.length=xs.drop m:=by
     rw[hm];rcases ηc ys.length xs.length with h|h
     ·rw[show ξZ ys.length xs.length=ys.length from ζs h]
     ·rw[ξR h,ξR (by rw[show ξZ ys.length xs.length=xs.length from ζl h];exact ξ3 _)]
    unfold c5;rw[z,A];exact(bY.app (o.take m) (N.drop m)).tr S
   ·simp only[ζr,ζa,ζ2,ξs];rw[ξY,b,ξ5 (by rw[b];omega)]
    congr 1
    rw[<-F,List.drop_take]
theorem ahR (h:Θ.ok P) {t t' ty:Nat} {a b:TI} (d:Θ.get t=some a) (c:a.tag=5) (f:Θ.get a.e=some b) {α:Type} {T:Ty α} (hn:T.n=b.size) {B:Nat} {v u:Value} {xs ys:List α} (hO:OB O w) (g:Own T a.e B O w v xs) (hu:T.slice.is O w u ys):
 ∃w',(ξj #[t,t'] ty #[v,u]).run P w= .ok (goInt (ξZ ys.length xs.length)) w'/\dD T a.e B O w v (c5 xs ys) O w' v:=Tw h d c f hn hO g (.xF hu)
theorem aee {α:Type} (f:α->Value) (L:List α) (j:Nat) (x:α) (g:j<L.length):putAt (L.map f) j [f x]=(L.set j x).map f:=by
 unfold putAt;apply ζd;intro k;simp only[ζu,φ,ψ,List.length_map,ω,ξo,ξ6,ξw,List.length_nil,ζe]
 by_cases h1:k<j
 ·have a:k<min j L.length:=by omega
  have b: ¬j=k:=by omega
  have c:k<min j L.length+1:=by omega
  simp[h1,a,b,c]
 ·by_cases a:k=j
  ·subst a;have d: ¬k<min k L.length:=by omega
   have c:k<min k L.length+1:=by omega
   have e:k-min k L.length=0:=by omega
   simp[h1,d,c,e,g]
  ·have d: ¬k<min j L.length+1:=by omega
   have b: ¬j=k:=by omega
   have e:j+1+(k-(min j L.length+1))=k:=by omega
   simp[d,b,e]
end
theorem yt {α:Type} {T:Ty α} {O:Γ} {w:World} {n c:Nat} {xs:List α} (h:T.slice.is O w (.slice none n c) xs):xs=[]:=by
 cases xs with
 |nil=>rfl
 |cons y ys=>
  obtain⟨i,⟨A',a,d,_,g⟩,f⟩:=h;subst d;obtain⟨_,_,b,_⟩:=g 0 y rfl;subst b;have:ξT none n c= .slice (some _) (y::ys).length a:=f;injection this with e;cases e
def hS {α:Type} (bytes:Nat) (xs:List α) (j:Int) (ys:List α):Option (List α):=
 if 0<=j/\j<=xs.length/\(xs.length+ys.length)*bytes<=1099511627776 then some (xs.take j.toNat++ys++xs.drop j.toNat) else none
theorem Po {α:Type} {bytes:Nat} {xs ys zs:List α} {j:Int} (h:hS bytes xs j ys=some zs):0<=j/\j<=xs.length/\(xs.length+ys.length)*bytes<=1099511627776/\zs=xs.take j.toNat++ys++xs.drop j.toNat:=by
 unfold hS at h;split at h
 ·rename_i a;cases h;exact⟨a.1,a.2.1,a.2.2,rfl⟩
 ·cases h
def eN {α:Type} (T:Ty α) (e B:Nat) (O:Γ) (w:World) (v:Value) (zs:List α) (b:Ending) (w':World):Prop:= ∃a O',b= .returned a/\dD T e B O w v zs O' w' a
section
variable {P:Program} {r:Option Nat} {N:Nat} {ops:Array Oper} {Q:Exit->Act->World->Prop} {l:Γ} {E:Env} {ds:List Deferred} {w:World} {i d:Nat} {o:Oper} {O:Γ}
theorem Vq (m:ops[i]? =some o) (hw:want N ops E o.guard=some true) (j:o.dst=some d) (b:ξ2 d N=true) {f:FuncId} {args:Array Operand} {q:Array TypeId} (n:o.op= .call {callee:=.value (.func f),args:=args,argTypes:=q})
  (k: ∀(vs:Array Value) (u:World),(callFunc f vs).run P u= .ok (.enter f vs) u) {vs:Γb} (p:gZ E args.toList=some vs) {α:Type} {T:Ty α} {e B:Nat} {v:Value} {zs:List α} (g:Calls P f vs.toArray w (eN T e B O w v zs))
  (h: ∀a w' O',dD T e B O w v zs O' w' a->WO P r N ops Q l ((d,a)::E) ds w'):WO P r N ops Q (i::l) E ds w:=
 jn m hw j b n k p g λ_ _ ⟨a,O',he,c⟩=>⟨a,he,h a _ O' c⟩
end
def Plain (w:World) (u:Value):Prop:= ∀ad n c,u= .slice (some ad) n c->ad.spot=none/\ ∃cur t,w.heap[ad.block]? =some (.cells cur t (0,0))
theorem Own.plain {α:Type} {T:Ty α} {e B:Nat} {O:Γ} {w:World} {v:Value} {xs:List α} (h:Own T e B O w v xs):Plain w v:=by
 intro ad n c a;obtain⟨cs,⟨_,h1⟩,_⟩:=h.ex;rcases h1 with⟨h1,_⟩|⟨g,cap,cur,h1,_,b,_⟩
 ·rw[a] at h1;cases h1
 ·rw[a] at h1;cases h1;exact⟨rfl,cur,e,b⟩
theorem e' (g i j:Nat):(⟨g,i,none⟩:Addr).add j=⟨g,i+j,none⟩:=by unfold ζ6;split<;>simp_all
section
variable {P:Program} {r:Option Nat} {N:Nat} {Θ:cK} {ops:Array Oper} {Q:Exit->Act->World->Prop} {l:Γ} {E:Env} {ds:List Deferred} {w:World} {i d:Nat} {o:Oper} {O:Γ}
theorem Tz (f:Θ.ok P) {t:Nat} {a g:TI} (j:Θ.get t=some a) (h:a.tag=5) (l:Θ.get a.e=some g) {A:Option Addr} {n c lo:Nat} {k:IntKind} (i:n<=c) (m:lo<=n):
  (ξv t (.slice A n c) (some (.int k lo)) none none).run P w= .ok (.slice (if c=lo then A else A.map (·.add (lo*g.size))) (n-lo) (c-lo)) w:=by
 have hu:=(f.fits j).slice h;have d:=od (P:=P) (w:=w) (b:=true) (n:=n) (c:=c) (lo:=some (k,(lo:Int))) (hi:=none) (mx:=none) i (by simp) (by simp;omega) (by simp;omega) (by simp) (by simp);simp only[ξ0,ξc,υ,ξI,gJ,ζJ] at d;simp only[ξv,η,run_underlying hu,ζ,ζw,d,dW (f.fits l),κ]
theorem Tx (f:Θ.ok P) {t:Nat} {a l:TI} (i:Θ.get t=some a) (g:a.tag=5) (j:Θ.get a.e=some l) {ad:Addr} {n c hi:Nat} {k:IntKind} (h:n<=c) (m:hi<=c):
  (ξv t (.slice (some ad) n c) none (some (.int k hi)) none).run P w= .ok (.slice (some ad) hi c) w:=by
 have hu:=(f.fits i).slice g;have d:=od (P:=P) (w:=w) (b:=true) (n:=n) (c:=c) (lo:=none) (hi:=some (k,(hi:Int))) (mx:=none) h (by simp) (by simp) (by simp;omega) (by simp) (by simp);simp only[ξ0,ξc,υ,ξI,gJ,ζJ] at d;simp only[ξv,η,run_underlying hu,ζ,ζw,d,dW (f.fits j),κ];simp[ζv]
theorem rF (F:Θ.ok P) (v:ops[i]? =some o) (hw:want N ops E o.guard=some true) (q:o.dst=some d) (p:ξ2 d N=true) {t:Nat} {x y:Operand} {b j:TI} (g:o.op= .slice t x (some y) none none) (z:Θ.get t=some b)
  (m:b.tag=5) (B:Θ.get b.e=some j) {A:Option Addr} {n c lo:Nat} {k:IntKind} (C:ev E x=some (.slice A n c)) (D:ev E y=some (.int k lo)) (u:n<=c) (s:lo<=n)
  (h:WO P r N ops Q l ((d,.slice (if c=lo then A else A.map (·.add (lo*j.size))) (n-lo) (c-lo))::E) ds w):WO P r N ops Q (i::l) E ds w:=by
 refine eh v hw q p (by rw[g];simp) (λa f=>?_) h;simp only[execOp,g,η,f.eval C,ξ0,ξc,f.eval D,Tz F z m B u s];rfl
theorem qY (F:Θ.ok P) {a:Act} (f:Has N E ds a) (s:ops[i]? =some o) (hw:want N ops E o.guard=some true) (m:o.dst=some d) {t:Nat} {x y:Operand} {h g:TI} (j:o.op= .slice t x (some y) none none) (z:Θ.get t=some h)
  (l:h.tag=5) (B:Θ.get h.e=some g) {A:Option Addr} {n c lo:Nat} {k:IntKind} (C:ev E x=some (.slice A n c)) (D:ev E y=some (.int k lo)) (q:n<=c) (p:lo<=n):
  eP P r ops Q i d a w (λu w'=>u= .slice (if c=lo then A else A.map (·.add (lo*g.size))) (n-lo) (c-lo)/\Fr [] w w'):=by
 refine lS s (gW f hw) m (b:=true) (v:=.slice (if c=lo then A else A.map (·.add (lo*g.size))) (n-lo) (c-lo)) (w':=w) ?_ ⟨rfl,Fr.refl _ _⟩;simp only[if_true];refine⟨by rw[j];simp,?_⟩;simp only[execOp,j,η,f.eval C,ξ0,ξc,f.eval D,Tz F z l B q p];rfl
theorem Km (C:Θ.ok P) (u:ops[i]? =some o) (hw:want N ops E o.guard=some true) (p:o.dst=some d) (m:ξ2 d N=true) {t:Nat} {x y:Operand} {b D:TI} (g:o.op= .slice t x none (some y) none) (v:Θ.get t=some b)
  (j:b.tag=5) (z:Θ.get b.e=some D) {ad:Addr} {n c hi:Nat} {k:IntKind} (A:ev E x=some (.slice (some ad) n c)) (B:ev E y=some (.int k hi)) (s:n<=c) (q:hi<=c)
  (h:WO P r N ops Q l ((d,.slice (some ad) hi c)::E) ds w):WO P r N ops Q (i::l) E ds w:=by
 refine eh u hw p m (by rw[g];simp) (λa f=>?_) h;simp only[execOp,g,η,f.eval A,ξ0,ξc,f.eval B,Tx C v j z s q];rfl
theorem Kl (p:Θ.ok P) (F:ops[i]? =some o) (hw:want N ops E o.guard=some true) (B:o.dst=some d) (A:ξ2 d N=true) {t t':Nat} {x y:Operand} {f s:TI}
  (n:o.op= .call {callee:=.builtin .copy,args:= #[x,y],argTypes:= #[t,t']}) (I:Θ.get t=some f) (v:f.tag=5) (J:Θ.get f.e=some s) {g of c j b q e:Nat} {ad:Addr} {cur:Array Value} {us:Γb}
  (O:ev E x=some (.slice (some ⟨g,of,none⟩) c j)) (R:ev E y=some (.slice (some ad) b q)) (C:w.heap[g]? =some (.cells cur e (0,0))) (M:dJ w ad us) (L:us.length=b*s.size) (h1: ∀u∈us,u.oneCell'=true) (hle:b<=c) (S:of+us.length<=cur.size)
  (h: ∀z,WO P r N ops Q l ((d,z)::E) ds (w.setRow g (cur.toList.take of++us++cur.toList.drop (of+us.length)).toArray)):WO P r N ops Q (i::l) E ds w:=by
 have K:=(p.fits I).slice v;refine eh F hw B A (by rw[n];simp) (λa k=>?_) (h (goInt b));have m:=run_loadCells_list (P:=P) w ad us M;rw[L] at m;have H:=run_storeCells_at P g of e us 0 cur w C (by omega) h1;have D:ξZ b c=b:=ζs hle;have G:(ξj #[t,t'] o.type #[.slice (some ⟨g,of,none⟩) c j,.slice (some ad) b q]).run P w= .ok (goInt b) (w.setRow g (cur.toList.take of++us++cur.toList.drop (of+us.length)).toArray):=by
  simp only[ξj,η,ξU,ξa,ξf,run_underlying K,ζ,ξi,κ,D,dW (p.fits J),ξ1];rw[m];simp only[ζ,H,η,κ,ζr]
 simp only[execOp,n,η,resolve,κ,ζ,invoke,builtin,ξX,ξt,ζq,k.eval O,k.eval R,G]
theorem ajV (p:Θ.ok P) (F:ops[i]? =some o) (hw:want N ops E o.guard=some true) (B:o.dst=some d) (A:ξ2 d N=true) {t t':Nat} {x y:Operand} {f s:TI}
  (n:o.op= .call {callee:=.builtin .copy,args:= #[x,y],argTypes:= #[t,t']}) (I:Θ.get t=some f) (v:f.tag=5) (J:Θ.get f.e=some s) {g of b j c q e:Nat} {ad:Addr} {cur:Array Value} {us:Γb}
  (O:ev E x=some (.slice (some ⟨g,of,none⟩) b j)) (R:ev E y=some (.slice (some ad) c q)) (C:w.heap[g]? =some (.cells cur e (0,0))) (M:dJ w ad us) (L:us.length=b*s.size) (h1: ∀u∈us,u.oneCell'=true) (hle:b<=c) (S:of+us.length<=cur.size)
  (h: ∀z,WO P r N ops Q l ((d,z)::E) ds (w.setRow g (cur.toList.take of++us++cur.toList.drop (of+us.length)).toArray)):WO P r N ops Q (i::l) E ds w:=by
 have K:=(p.fits I).slice v;refine eh F hw B A (by rw[n];simp) (λa k=>?_) (h (goInt b));have m:=run_loadCells_list (P:=P) w ad us M;rw[L] at m;have H:=run_storeCells_at P g of e us 0 cur w C (by omega) h1;have D:ξZ c b=b:=ζl hle;have G:(ξj #[t,t'] o.type #[.slice (some ⟨g,of,none⟩) b j,.slice (some ad) c q]).run P w= .ok (goInt b) (w.setRow g (cur.toList.take of++us++cur.toList.drop (of+us.length)).toArray):=by
  simp only[ξj,η,ξU,ξa,ξf,run_underlying K,ζ,ξi,κ,D,dW (p.fits J),ξ1];rw[m];simp only[ζ,H,η,κ,ζr]
 simp only[execOp,n,η,resolve,κ,ζ,invoke,builtin,ξX,ξt,ζq,k.eval O,k.eval R,G]
theorem ajT (g:Θ.ok P) (I:ops[i]? =some o) (hw:want N ops E o.guard=some true) (H:o.dst=some d) (C:ξ2 d N=true) {t m:Nat} {x y:Operand} {f b j:TI}
  (u:o.op= .call {callee:=.builtin .append,args:= #[x,y],argTypes:= #[t,m]}) (M:Θ.get t=some f) (B:f.tag=5) (O:Θ.get f.e=some b) (R:Θ.get m=some j) (A:j.tag=2) (J:ξ2 0 b.size=true) {ad:Addr} {n c k:Nat} {v:IntKind} {us:Γb}
  (U:ev E x=some (.slice (some ad) n c)) (W:ev E y=some (.int v k)) (T:dJ w ad us) (S:us.length=n*b.size) (z:0<k) (s:c<n+k) (G:(n+k)*b.bytes<=140737488355328) (D:ξ9 1 b.bytes=true)
  (h:WO P r N ops Q l ((d,.slice (some ⟨w.heap.size,0,none⟩) (n+k) (grownCap w (n+k) c f.e))::E) ds (w.drew.alloc (.cells (us.toArray++ξq b.zero.cells k++ξq b.zero.cells (grownCap w (n+k) c f.e-(n+k))) f.e))):WO P r N ops Q (i::l) E ds w:=by
 obtain⟨x',V,L,q,X⟩:=(g.fits O).info;have aa:0<b.size:=ξL.mp J;have F:=ο D;have Z:n+k<=(n+k)*b.bytes:=ξQ _ F;have Y:k*b.bytes<=(n+k)*b.bytes:=ξm _ (by omega);have hold:(ξ1 x'.size n (.slice (some ad) n c)).run P w.drew= .ok us.toArray w.drew:=by
  rw[L];have:=run_loadCells_list (P:=P) w.drew ad us T;rw[S] at this;simpa[ξ1] using this
 have K:=Lib.run_append_grow_zeros (P:=P) (ty:=o.type) w t m f.e x' b.zero v (noKind j.k) ((g.fits M).slice B) ((g.fits R).int A) V X (some ad) n c us hold k z (by omega) s (by omega) (by rw[q];omega) (by rw[q];exact growslice_fits s G);refine eh I hw H C (by rw[u];simp) (λa p=>?_) h;simp only[execOp,u,η,resolve,κ,ζ,invoke,builtin,ξX,ξt,ζq,p.eval U,p.eval W,K]
theorem aj0 (s:Θ.ok P) (M:ops[i]? =some o) (hw:want N ops E o.guard=some true) (F:o.dst=some d) (B:ξ2 d N=true) {f t u:Nat} {k v:TI} {fn:Func} {x y:Operand} {X:Array TypeId} (q:o.op= .call {callee:=.value (.func f),args:= #[x,y],argTypes:=X})
  (G:P.funcs[f]? =some fn) (K:(fn.name== "runtime.NumGoroutine")=false) (C:fn.body.isNone=true) (hn:Extern.findNext fn=none) (he:Extern.find fn=some (ζM #[t,t] #[u]))
  (T:Θ.get t=some k) (A:k.tag=5) (U:Θ.get k.e=some v) {ad:Addr} {g of la b lb j e:Nat} {cur c:Array Value} {m:Nat} (V:ev E x=some (.slice (some ad) la b)) (W:ev E y=some (.slice (some ⟨g,of,none⟩) lb j)) (L:ad.block≠g)
  (n:w.heap[ad.block]? =some (.cells c m (0,0))) (J:w.heap[g]? =some (.cells cur e (0,0))) (hk:cur.size≠0)
  (h:WO P r N ops Q l ((d,.bool false)::E) ds w):WO P r N ops Q (i::l) E ds w:=by
 refine eh M hw F B (by rw[q];simp) (λa p=>?_) h;have R:w.shape? ad.block=some (m,c.size):=by simp[ηd,n]
 have S:w.shape? g=some (e,cur.size):=by simp[ηd,J]
 have H:w.frozen? ad=false:=by simp[ζB,n]
 have I:w.frozen? {block:=ad.block,off:=c.size}=false:=by simp[ζB,n]
 have O:=Lib.run_overlaps_apart (P:=P) w t u k.e ((s.fits T).slice A) v.size (λw=>dW (s.fits U)) ad ⟨g,of,none⟩ la b lb j L m e c.size cur.size R S hk H I;have D:(callFunc f #[.slice (some ad) la b,.slice (some ⟨g,of,none⟩) lb j]).run P w= .ok (.value (.bool false)) w:=by
  rw[run_callFunc_extern G K C hn he,O];rfl
 have z:(#[x,y]:Array Operand).map a.eval= #[.slice (some ad) la b,.slice (some ⟨g,of,none⟩) lb j]:=by simp[p.eval V,p.eval W]
 simp only[execOp,q,η,resolve,ζt,ξW,κ,ζ,invoke];rw[show(#[x,y]:Array Operand).map (ζt a)=_ from z];simpa using D
theorem ahL {cs:Γb} {z:Array Value} (a b:Nat) {s:Nat} (c:z.size=s): ∃Z,(cs.toArray++ξq z a++ξq z b).toList=cs++Z/\Z.length=(a+b)*s:=by
 refine⟨(ξq z a).toList++(ξq z b).toList,by simp,?_⟩;simp only[φ,ξK,size_zeroCells,c,Nat.add_mul]
theorem Kq {α:Type} {T:Ty α} {e B g cap n0:Nat} {w':World} {new:Array Value} {cs:Γb} {zs:List α} (hO:OB O w) (b:g∈O) (d:B<=g) (a:Fr [g] w w') (i:w'.heap[g]? =some (.cells new e (0,0))) (m:new.size=cap*T.n) (f:cap<=maxLen) (j:zs.length<=cap)
  (c:bY T O w' cs zs) (o:new.toList.take (zs.length*T.n)=cs):dD T e B O w (.slice (some ⟨g,0,none⟩) n0 cap) zs O w' (.slice (some ⟨g,0,none⟩) zs.length cap):=
 ⟨⟨⟨cs,⟨c.len,.inr ⟨g,cap,new,rfl,d,i,j,f,m,o⟩⟩,c⟩,λk hk=>by cases hk;exact b⟩,a.tr (gM b),a.ob hO,Sub.refl _,
   λk hk l=>a.block k hk (by simp;rintro rfl;exact l rfl),λ_ _ h=>h⟩
theorem O6 {α:Type} {T:Ty α} {e B G cap:Nat} {w':World} {v:Value} {new:Array Value} {cs:Γb} {zs:List α} (hO:OB O w) (f:w.heap.size<=G) (o:B<=w.heap.size) (a:Fr [] w w') (c:w'.heap[G]? =some (.cells new e (0,0))) (l:new.size=cap*T.n) (i:cap<=maxLen) (j:zs.length<=cap)
  (d:bY T (G::O) w' cs zs) (m:new.toList.take (zs.length*T.n)=cs):dD T e B O w v zs (G::O) w' (.slice (some ⟨G,0,none⟩) zs.length cap):=by
 have g:=(ξb.1 c).1;refine⟨⟨⟨cs,⟨d.len,.inr ⟨G,cap,new,rfl,by omega,c,j,i,l,m⟩⟩,d⟩,λk hk=>by cases hk;exact π⟩,JY a f,λk hk=>?_,Sub.cons (Sub.refl _) _,
  λk hk _=>a.block k hk (by simp),λb h _ he=>by cases he;exact absurd h (by show ¬G<w.heap.size;omega)⟩
 rcases ξd.1 hk with rfl|hk
 ·exact g
 ·exact χ (hO k hk) a.size
end
def pz (a b:IntKind) (es:Array MapEntry) (m:Γc):Prop:=es.toList.map (λe=>(e.key,e.val))=m.map λp=>(ξr a p.1,ξr b p.2)
def iA (a d:IntKind) (w:World) (b:Nat) (m:Γc):Prop:= ∃es c,w.heap[b]? =some (.map es c)/\pz a d es m
theorem iA.lt {a d:IntKind} {w:World} {b:Nat} {m:Γc} (h:iA a d w b m):b<w.heap.size:=by
 obtain⟨es,c,h,_⟩:=h;exact(ξb.1 h).1
theorem iA.of_heap {a d:IntKind} {w w':World} {b:Nat} {m:Γc} (h:iA a d w b m) (e:w'.heap[b]? =w.heap[b]?):iA a d w' b m:=by
 obtain⟨es,c,h1,f⟩:=h;exact⟨es,c,e.trans h1,f⟩
def bG (m:Γc) (k:Int):Option Int:=(m.find? λp=>k==p.1).map (·.2)
def cp (m:Γc) (k v:Int):Γc:=match m.findIdx? (λp=>k==p.1) with|some i=>m.set i (k,v)|none=>m++[(k,v)]
theorem G' {a c:IntKind} {k:Int}: ∀ {es:List MapEntry} {m:Γc} (i:Nat),es.map (λe=>(e.key,e.val))=m.map (λp=>(ξr a p.1,ξr c p.2))->
  η8 (.int a) (.int a k) es i=some (match m.findIdx? (λp=>k==p.1) with|some j=>(es[j]?).map (λe=>(i+j,e.val))|none=>none)
 |[],[],i,_=>rfl
 |[],_::_,_,h=>by cases h
 |_::_,[],_,h=>by cases h
 |e::es,p::m,i,h=>by
  simp only[ξt,List.cons.injEq,ξO] at h;obtain⟨⟨h1,d⟩,b⟩:=h;simp only[η8,h1,Instr.sameNow,if_true,ζD];cases hk:k==p.1 with
  |true=>simp
  |false=>
   simp only[ζC,if_false];rw[G' (i+1) b];cases m.findIdx? (λp=>k==p.1) with
   |none=>rfl
   |some j=>simp;congr 2;funext e;simp;omega
theorem pz.at {b c:IntKind} {es:Array MapEntry} {m:Γc} (h:pz b c es m) {j:Nat} {p:Int×Int} (d:m[j]? =some p): ∃e,es.toList[j]? =some e/\e.key= .int b p.1/\e.val= .int c p.2:=by
 have:=congrArg (·[j]?) h;simp only[ξo,d,ξ0] at this;obtain⟨e,he,a⟩:=ζm.1 this;simp only[ξO] at a;exact⟨e,he,a.1,a.2⟩
theorem Ot {α:Type} (l:List α) (p:α->Bool):match l.findIdx? p with|some j=> ∃d,l[j]? =some d/\l.find? p=some d|none=>l.find? p=none:=by
 induction l with
 |nil=>rfl
 |cons z r a=>
  rw[ζD,List.find?_cons];cases h:p z with
  |true=>exact⟨z,rfl,rfl⟩
  |false=>
   cases b:r.findIdx? p with
   |none=>rw[b] at a;simpa using a
   |some j=>rw[b] at a;obtain⟨d,c,e⟩:=a;exact⟨d,by simpa using c,by simpa using e⟩
section
variable {P:Program} {r:Option Nat} {N:Nat} {Θ:cK} {ops:Array Oper} {Q:Exit->Act->World->Prop} {l:Γ} {E:Env} {ds:List Deferred} {w:World} {i d:Nat} {o:Oper} {O:Γ}
theorem Tv {b:TypeId} {a:IntKind} {k:Int} {em:Bool} (c:P.underlying b=some (.int a)):(η0 em 10000 b (.int a k)).run P w= .ok () w:=by
 unfold η0;simp[run_underlying c]
theorem ah1 (i:Θ.ok P) {t:Nat} {d l n:TI} (A:Θ.get t=some d) (q:d.tag=7) (C:Θ.get d.k=some l) (o:l.tag=2) (B:Θ.get d.e=some n) {f g:IntKind} (hk:noKind l.k=f) (D:n.zero= .int g 0) {b:Nat} {m:Γc} (hm:iA f g w b m) (k:Int) (ok:Bool):
  (ηe t (.map (some b)) (.int f k) ok).run P w= .ok (bif ok then .tuple #[.int g ((bG m k).getD 0),.bool (bG m k).isSome] else .int g ((bG m k).getD 0)) w:=by
 obtain⟨es,c,y,he⟩:=hm;have hu:=(i.fits A).map q;have h:=(i.fits C).int o;rw[hk] at h;have u:=G' (k:=k) 0 he;have z:(getObj b).run P w= .ok (.map es c) w:=by simp[getObj,ζo,y]
 have v:(η9 d.k (.int f k) es.toList).run P w= .ok (match m.findIdx? (λp=>k==p.1) with|some j=>(es.toList[j]?).map (λe=>(0+j,e.val))|none=>none) w:=ζy h u;have a:=Ot m (λp=>k==p.1);simp only[ηe,η,run_underlying hu,ζ,z,κ,Tv h,v];unfold bG;cases hi:m.findIdx? (λp=>k==p.1) with
 |none=>
  rw[hi] at a;simp only at a;rw[a];simp only[η,mm (i.fits B),ζ,κ,D];cases ok<;>rfl
 |some j=>
  rw[hi] at a;simp only at a;obtain⟨p,hp,x⟩:=a;obtain⟨e,r,_,s⟩:=he.at hp;rw[x];simp only[r,ξ0,κ,ζ,s];cases ok<;>rfl
structure Dh (O:Γ) (w:World) (b:Nat) (w':World):Prop where
 heap:w'.heap[b]? =some (.map #[] 0)
 fr:Fr [] w w'
 tr:Tr O w (b::O) w'
 ob:OB (b::O) w'
 ge:w.heap.size<=b
theorem Dh.is {b:Nat} {w':World} (h:Dh O w b w') (a c:IntKind):iA a c w' b []:=⟨#[],0,h.heap,rfl⟩
theorem ah6 (A:Θ.ok P) {t:Nat} {i s:TI} (O:Θ.get t=some i) (C:i.tag=7) (Q:Θ.get i.k=some s) (B:s.tag=2) {a r:IntKind} (hk:noKind s.k=a) {b:Nat} {m:Γc} (hm:iA a r w b m) (k v:Int):
  ∃w',(ζW t (.map (some b)) (.int a k) (.int r v)).run P w= .ok () w'/\iA a r w' b (cp m k v)/\Fr [b] w w':=by
 have S:=hm.lt;obtain⟨es,c,g,he⟩:=hm;have hu:=(A.fits O).map C;have o:=(A.fits Q).int B;rw[hk] at o;have F:=G' (k:=k) 0 he;have N:(getObj b).run P w= .ok (.map es c) w:=by simp[getObj,ζo,g]
 have z: ∀f d,(setObj b (.map f d)).run P w= .ok () {w with heap:=w.heap.setIfInBounds b (.map f d)}:=λf d=>by simp[setObj,ζo,g]
 have u: ∀f d,Fr [b] w {w with heap:=w.heap.setIfInBounds b (.map f d)}:=λf d=>⟨rfl,rfl,rfl,by simp,λk hk L=>by
  have M:b≠k:=λe=>L (by simp[e]);simp[ξ M]⟩
 have G:(η9 i.k (.int a k) es.toList).run P w= .ok (match m.findIdx? (λp=>k==p.1) with|some j=>(es.toList[j]?).map (λe=>(0+j,e.val))|none=>none) w:=ζy o F;have n:=Ot m (λp=>k==p.1);unfold cp;simp only[ζW,η,run_underlying hu,ζ,N,κ,Tv o,G];cases hi:m.findIdx? (λp=>k==p.1) with
 |none=>
  refine⟨_,z _ _,⟨_,_,(ζP g).1,?_⟩,u _ _⟩;unfold pz at he ⊢;simp[he]
 |some j=>
  rw[hi] at n;simp only at n;obtain⟨p,hp,H⟩:=n;obtain⟨e,l,D,R⟩:=he.at hp;have K:k=p.1:=by have:=List.find?_some H;simpa using this
  have E:es[j]? =some e:=by simpa using l
  have J: ∀h:Int,(ζE (.int a h) (.int a h)).run P w= .ok (.int a h) w:=λh=>by
   unfold ζE;rw[if_pos (by simp[Instr.sameBits])];rfl
  simp only[l,ξ0,ξs,η,E,υ,D,<-K,J,ζ];refine⟨_,z _ _,⟨_,_,(ζP g).1,?_⟩,u _ _⟩;unfold pz at he ⊢;apply ζd;intro q;have y:=congrArg (·[q]?) he;simp only[ξo] at y ⊢;simp only[Array.toList_modify,List.getElem?_modify,ζe]
  by_cases x:j=q
  ·subst x;have I:j<m.length:=(ν.1 hp).1;simp[l,I]
  ·simp[x];simpa using y
end
section
variable {P:Program} {r:Option Nat} {N:Nat} {Θ:cK} {ops:Array Oper} {Q:Exit->Act->World->Prop} {l:Γ} {E:Env} {ds:List Deferred} {w:World} {i d:Nat} {o:Oper} {O:Γ}
theorem ahZ (b:Θ.ok P) {t:Nat} {a d:TI} (h:Θ.get t=some a) (g:a.tag=5) (i:Θ.get a.e=some d) {k:IntKind} {j:Int} {n c:Nat} {ad:Addr} (f:0<=j) (l:j.toNat<n):(ξu t (.slice (some ad) n c) (.int k j)).run P w= .ok (.pointer (some (ad.add (j.toNat*d.size)))) w:=by
 have hu:=(b.fits h).slice g;simp only[ξu,asIntOf,η,κ,ζ,run_underlying hu];rw[if_pos ⟨f,by omega⟩];simp only[η,dW (b.fits i),ζ,κ]
theorem ot (F:Θ.ok P) (z:ops[i]? =some o) (hw:want N ops E o.guard=some true) (u:o.dst=some d) (s:ξ2 d N=true) {t:Nat} {x y:Operand} {b m:TI} (g:o.op= .indexAddr t x y) (A:Θ.get t=some b) (q:b.tag=5) (B:Θ.get b.e=some m)
  {k:IntKind} {j:Int} {n c:Nat} {ad:Addr} (C:ev E x=some (.slice (some ad) n c)) (D:ev E y=some (.int k j)) (p:0<=j) (v:j.toNat<n) (h:WO P r N ops Q l ((d,.pointer (some (ad.add (j.toNat*m.size))))::E) ds w):WO P r N ops Q (i::l) E ds w:=by
 refine eh z hw u s (by rw[g];simp) (λa f=>?_) h;simp only[execOp,g,η,f.eval C,f.eval D,ahZ F A q B p v];rfl
end
theorem aiD (O:Γ):Sub [] O:=λk hk=>by cases hk
theorem qV (w:World):OB [] w:=λk hk=>by cases hk
theorem OF {α:Type} {T:Ty α} {e B:Nat} {O O0:Γ} {w w0:World} {v:Value} {zs:List α} (h:Own T e w0.heap.size O w v zs) (m:Sub O0 O) (a:Fr [] w0 w) (b:OB O0 w0) (l:B<=w0.heap.size):eN T e B O0 w0 (.slice none 0 0) zs (.returned v) w:=by
 obtain⟨cs,⟨r,h1⟩,c⟩:=h.ex;rcases h1 with⟨rfl,hl⟩|⟨g,cap,cur,rfl,n,o,d,f,i,j⟩
 ·have:zs=[]:=ξx hl;subst this;exact⟨_,O0,rfl,⟨Own.iZ,a.dY,a.ob b,Sub.refl _,λk hk _=>a.block k hk (by simp),λ_ _ h=>h⟩⟩
 ·have q:Sub (g::O0) O:=λk hk=>by
   rcases ξd.1 hk with rfl|hk
   ·exact h.mem _ rfl
   ·exact m k hk
  have p:bY T (g::O0) w cs zs:=c.tr (Tr.less q);exact⟨_,g::O0,rfl,O6 b n l a o i f d p (by exact j)⟩
section
variable {P:Program} {r:Option Nat} {N:Nat} {Θ:cK} {ops:Array Oper} {Q:Exit->Act->World->Prop} {l:Γ} {E:Env} {ds:List Deferred} {w:World} {i d:Nat} {o:Oper} {O:Γ}
theorem ajU {v:Value} {w':World} (f:ops[i]? =some o) (hw:want N ops E o.guard=some true) (e:o.dst=none)
  (d: ∀c,o.op≠ .defer c) (g: ∀a,Has N E ds a->(execOp a.eval o).run P w= .ok (.value v) w') (h:WO P r N ops Q l E ds w'):WO P r N ops Q (i::l) E ds w:=by
 intro a b;simp only[wpOpsIn,f];rw[if_pos (gW b hw)];refine⟨λ_ _=>trivial,?_⟩;rw[ξl _ _ _ d,g a b];simp only[ξS,e,ζF];exact h _ b
end
section
variable {P:Program} {r:Option Nat} {N:Nat} {Θ:cK} {ops:Array Oper} {Q:Exit->Act->World->Prop} {l:Γ} {E:Env} {ds:List Deferred} {w:World} {i d:Nat} {o:Oper}
theorem Vp (D:Θ.ok P) (A:ops[i]? =some o) (hw:want N ops E o.guard=some true) (u:o.dst=some d) (m:ξ2 d N=true) {t:Nat} {x:Operand} {b:TI} (g:o.op= .load t x) (B:Θ.get t=some b)
  {p:Value} (C:ev E x=some p) {α:Type} {T:Ty α} {y:α} {O1:Γ} {w1:World} (hp:T.ptr.is O1 w1 p y) (k:Fr [] w1 w) (hn:T.n=b.size) (f:T.agg=b.isAgg)
  (h: ∀v,T.is O1 w1 v y->WO P r N ops Q l ((d,v)::E) ds w):WO P r N ops Q (i::l) E ds w:=by
 obtain⟨cs,⟨ad,es,s,q,_,j,he⟩,c⟩:=hp;subst s;have c:p= .pointer (some ad):=c;subst c;refine eh A hw u m (by rw[g];simp) (λa z=>?_) (h (valOf b.isAgg es) ⟨es,j,by rw[<-f];rfl⟩);simp only[execOp,g,η,z.eval C,l8 (D.fits B) ((T.len j).trans hn) (he.1.keep (k.block _ q (by simp))) (λe=>by rw[<-hn];exact T.fy (by rw[f];exact e))];rfl
end
def Ty.Flat {α:Type} (T:Ty α):Prop:= ∀ {O O':Γ} {w w':World} {cs:Γb} {x:α},T.rep O w cs x->T.rep O' w' cs x
theorem yd {α:Type} {T:Ty α} (a:T.Flat) {O O':Γ} {w w':World}: ∀ {xs:List α} {cs:Γb},bY T O w cs xs->bY T O' w' cs xs
 |[],_,h=>h
 |_::_,_,⟨c,r,h,h1,b⟩=>⟨c,r,h,a h1,yd a b⟩
def jZ (x y:ByteArray):Option ByteArray:=if x.size+y.size<=9223372036854775807 then some (x++y) else none
def fg (s:ByteArray) (i:Int):Option Int:=if 0<=i then(s[i.toNat]?).map λb=>(b.toNat:Int) else none
def strOf (xs:Γa):ByteArray:=xs.foldl (λr n=>r.push (UInt8.ofNat n.toNat)) ByteArray.empty
section
variable {P:Program} {r:Option Nat} {N:Nat} {Θ:cK} {ops:Array Oper} {Q:Exit->Act->World->Prop} {l:Γ} {E:Env} {ds:List Deferred} {w:World} {i d:Nat} {o:Oper} {O:Γ}
theorem ah5 {x y z:ByteArray} {t:TypeId} {ox oy:Operand} (h:jZ x y=some z):(do eqGuard .add t ox oy (.string x) (.string y);binOp .add t (.string x) (.string y):Sem Value).run P w= .ok (.string z) w:=by
 unfold jZ at h;split at h
 ·rename_i a;cases h;have: ¬(((x.size+y.size:Nat):Int)>ζT.max):=by
   have e:ζT.max=9223372036854775807:=by decide
   rw[e];omega
  simp only[go_sem,Op.stringOp];rw[if_neg this];simp
 ·cases h
end
end Go.Dc
end
section
namespace Go.Vx
open Go.RowKit Go.Dc
structure bm where
 El:Nat->Type
 ty:(t:Nat)->Ty (El t)
inductive LV (S:bm):Type
 |v (u:Value)
 |aJ (t:Nat) (x:S.El t)
 |ptr (t:Nat) (x:S.El t) (off:Nat)
 |aM (i off:Nat)
 |fa (i off n j:Nat)
 |own (i:Nat)
 |d' (e i j off:Nat)
 |fD (i off len:Nat)
 |mp (i:Nat)
 |a7 (i:Nat)
 |cW
 |cZ (i:Nat)
 |bA (k:IntKind) (n:Nat) (gs:Γa)
 |cA (n:Nat) (bs:List Bool)
inductive aB (S:bm):Type
 |one (l:LV S)
 |agg (ls:List (LV S))
inductive AV (S:bm):Type
 |s (a:aB S)
 |bJ (aka:List (aB S))
inductive Ob (S:bm):Type
 |box (t:Nat) (cs:List (LV S))
 |row (e:Nat) (xs:List (S.El e))
 |map (a b:IntKind) (m:Γc)
 |a7 (g:Nat) (fs cs:List (aB S))
 |cZ (s:ByteArray) (pos:Nat)
 |cP (t e:Nat) (bR:List (Option (List (S.El e))))
abbrev a1 (S:bm):=List (Nat×AV S)
abbrev AH (S:bm):=List (Option (Ob S))
abbrev Up (S:bm):=List (Nat×Option (Ob S))
inductive Rs (S:bm):Type
 |ret (a:AV S)
 |bD (u:Value)
structure uz (S:bm) (t:Nat) where
 e:Nat
 to:S.El t->List (S.El e)
 of:List (S.El e)->S.El t
structure ts (S:bm) (e:Nat) where
 t:Nat
 of:List (S.El e)->S.El t
structure Kit (S:bm) where
 Θ:cK
 sl:(t:Nat)->Option (uz S t)
 row:(e:Nat)->Option (ts S e)
 bl:(t:Nat)->S.El t->aB S
 cls:(t:Nat)->List (LV S)->Option (S.El t)
 c_:Nat->Option ((t:Nat)×S.El t)
 pA:Nat->List (LV S)->List (LV S)->Option Bool
section
variable {S:bm}
def a1.get:a1 S->Nat->Option (AV S)
 |[],_=>none
 |(i,v)::r,j=>bif ε i j then some v else a1.get r j
def LV.sz:LV S->Nat
 | .bA _ n _=>n
 | .cA n _=>n
 |_=>1
def dQ:List (LV S)->Nat
 |[]=>0
 |l::ls=>l.sz+dQ ls
def ao (gs:Γa) (j:Nat):Int:=(gs[j]?).getD 0
def ck (bs:List Bool) (j:Nat):Bool:=(bs[j]?).getD false
def d_:List (LV S)->Nat->Nat->Option (List (LV S))
 |[],off,n=>bif ε n 0&&ε off 0 then some [] else none
 | .bA k m gs::ls,off,n=>
  bif ξ9 m off then d_ ls (off-m) n
  else bif ε n 0 then some []
  else bif ε n 1 then some [.v (.int k (ao gs off))]
  else bif ε off 0&&ξ9 m n then(match d_ ls 0 (n-m) with|some r=>some (.bA k m gs::r)|none=>none)
  else none
 | .cA m bs::ls,off,n=>
  bif ξ9 m off then d_ ls (off-m) n
  else bif ε n 0 then some []
  else bif ε n 1 then some [.v (.bool (ck bs off))]
  else bif ε off 0&&ξ9 m n then(match d_ ls 0 (n-m) with|some r=>some (.cA m bs::r)|none=>none)
  else none
 |l::ls,off,n=>
  match off with
  |o+1=>d_ ls o n
  |0=>match n with
   |0=>some []
   |m+1=>match d_ ls 0 m with|some r=>some (l::r)|none=>none
def b5:List (LV S)->Nat->List (LV S)->Option (List (LV S))
 |[],off,ns=>(match ns with|[]=>bif ε off 0 then some [] else none|_::_=>none)
 | .bA k m gs::ls,off,ns=>
  bif ξ9 m off then(match b5 ls (off-m) ns with|some r=>some (.bA k m gs::r)|none=>none)
  else match ns with
   |[]=>some (.bA k m gs::ls)
   |[.v (.int b x)]=>bif sameKind k b then some (.bA k m (gs.set off x)::ls) else none
   | .bA b m' d::a=>bif ε off 0&&ε m m' then(match b5 ls 0 a with|some r=>some (.bA b m' d::r)|none=>none) else none
   |_=>none
 | .cA m bs::ls,off,ns=>
  bif ξ9 m off then(match b5 ls (off-m) ns with|some r=>some (.cA m bs::r)|none=>none)
  else match ns with
   |[]=>some (.cA m bs::ls)
   |[.v (.bool x)]=>some (.cA m (bs.set off x)::ls)
   | .cA m' c::a=>bif ε off 0&&ε m m' then(match b5 ls 0 a with|some r=>some (.cA m' c::r)|none=>none) else none
   |_=>none
 |l::ls,off,ns=>
  match off with
  |o+1=>(match b5 ls o ns with|some r=>some (l::r)|none=>none)
  |0=>match ns with
   |[]=>some (l::ls)
   |x::a=>bif ε x.sz 1 then(match b5 ls 0 a with|some r=>some (x::r)|none=>none)
    else match x with
     | .bA k m gs=>(match b5 ls (m-1) a with
      |some r=>(match d_ r (m-1) (dQ r-(m-1)) with
       |some rest=>bif ξ9 1 m then some (.bA k m gs::rest) else none
       |none=>none)
      |none=>none)
     | .cA m bs=>(match b5 ls (m-1) a with
      |some r=>(match d_ r (m-1) (dQ r-(m-1)) with
       |some rest=>bif ξ9 1 m then some (.cA m bs::rest) else none
       |none=>none)
      |none=>none)
     |_=>none
def iU:List (LV S)->Option (IntKind×Γa)
 | .v (.int k x)::r=>(match r with
  |[]=>some (k,[x])
  |_=>(match iU r with|some (a,xs)=>bif sameKind k a then some (k,x::xs) else none|none=>none))
 |_=>none
def lx:List (LV S)->Option (List Bool)
 | .v (.bool x)::r=>(match r with
  |[]=>some [x]
  |_=>(match lx r with|some xs=>some (x::xs)|none=>none))
 |_=>none
inductive iw|i (k:IntKind) (gs:Γa)|b (bs:List Bool)
def ki (ls:List (LV S)):Option iw:=
 match ls with
 |[.bA k _ gs]=>some (.i k gs)
 |[.cA _ bs]=>some (.b bs)
 |ls=>match iU ls with|some (k,gs)=>some (.i k gs)|none=>(match lx ls with|some bs=>some (.b bs)|none=>none)
def aB.cells:aB S->List (LV S)
 | .one l=>[l]
 | .agg ls=>ls
def jz (agg:Bool) (ls:List (LV S)):Option (aB S):=
 bif agg then some (.agg ls) else match ls with
  |[l]=>bif ε l.sz 1 then some (.one l) else none
  |_=>none
def AV.known:AV S->Option Value
 | .s (.one (.v u))=>some u
 |_=>none
def slotsOf:List Operand->Γ
 |[]=>[]
 | .tmp t::r=>t::slotsOf r
 |_::r=>slotsOf r
def lQ (env:a1 S):Γ->Env
 |[]=>[]
 |s::r=>match a1.get env s with
  |some a=>(match a.known with|some u=>(s,u)::lQ env r|none=>lQ env r)
  |none=>lQ env r
variable (K:Kit S)
def de (env:a1 S):Operand->Option (AV S)
 | .tmp t=>a1.get env t
 | .const v=>bif v.oneCell' then some (.s (.one (.v v))) else none
 | .global g=>(match K.c_ g with|some ⟨t,x⟩=>some (.s (.one (.ptr t x 0)))|none=>none)
 | .func f=>some (.s (.one (.v (.func (.func f) #[] #[]))))
def g' (env:a1 S):List Operand->Option (List (aB S))
 |[]=>some []
 |x::r=>match de K env x with|some (.s a)=>(match g' env r with|some aka=>some (a::aka)|none=>none)|_=>none
def jM (env:a1 S) (x:Operand):Option Int:=match de K env x with|some (.s (.one (.v (.int _ n))))=>some n|_=>none
def cb (env:a1 S) (x:Operand):Option (LV S):=match de K env x with|some (.s (.one l))=>some l|_=>none
def lT (env:a1 S):Option Operand->Option (Option (IntKind×Int))
 |none=>some none
 |some x=>(match de K env x with|some (.s (.one (.v (.int k n))))=>some (some (k,n))|_=>none)
def LV.refs:LV S->Γ
 | .aM i _=>[i]
 | .fa i _ _ _=>[i]
 | .own i=>[i]
 | .d' _ i _ _=>[i]
 | .fD i _ _=>[i]
 | .mp i=>[i]
 | .a7 i=>[i]
 | .cZ i=>[i]
 |_=>[]
def n9:List (LV S)->Γ
 |[]=>[]
 |l::r=>l.refs++n9 r
def jU:List (aB S)->Γ
 |[]=>[]
 |a::r=>n9 a.cells++jU r
def AV.refs:AV S->Γ
 | .s a=>n9 a.cells
 | .bJ aka=>jU aka
def Ob.refs:Ob S->Γ
 | .box _ cs=>n9 cs
 | .a7 _ fs cs=>jU fs++jU cs
 |_=>[]
def Jr:a1 S->Γ
 |[]=>[]
 |(_,a)::r=>a.refs++Jr r
def n5:AH S->Γ
 |[]=>[]
 |some X::r=>X.refs++n5 r
 |none::r=>n5 r
def dz (i:Nat):Γ->Bool
 |[]=>false
 |j::r=>bif ε i j then true else dz i r
def Ob.nt:Ob S->Bool
 | .cP .. =>false
 |_=>true
def nN (g:Nat->Option (Ob S)) (i:Nat):Option (Ob S):=match g i with|some X=>bif X.nt then some X else none|none=>none
def aE (h:AH S) (i:Nat):Option (Ob S):=match h[i]? with|some (some X)=>some X|_=>none
def reach (g:Nat->Option (Ob S)) (nb:Nat):Nat->Γ->Γ->Γ
 |0,_,seen=>seen
 |_+1,[],seen=>seen
 |n+1,i::t,seen=>
  bif ξ2 i nb then reach g nb n t seen
  else bif dz i seen then reach g nb n t seen
  else match g i with|some X=>reach g nb n (X.refs++t) (seen++[i])|none=>reach g nb n t seen
def posOf (i:Nat):Γ->Nat->Option Nat
 |[],_=>none
 |j::r,n=>bif ε i j then some n else posOf i r (n+1)
def LV.cn (ρ:Nat->Option Nat):LV S->Option (LV S)
 | .aM i o=>(match ρ i with|some j=>some (.aM j o)|none=>none)
 | .fa i o n x=>(match ρ i with|some j=>some (.fa j o n x)|none=>none)
 | .own i=>(match ρ i with|some j=>some (.own j)|none=>none)
 | .d' e i y o=>(match ρ i with|some j=>some (.d' e j y o)|none=>none)
 | .fD i o n=>(match ρ i with|some j=>some (.fD j o n)|none=>none)
 | .mp i=>(match ρ i with|some j=>some (.mp j)|none=>none)
 | .a7 i=>(match ρ i with|some j=>some (.a7 j)|none=>none)
 | .cZ i=>(match ρ i with|some j=>some (.cZ j)|none=>none)
 |l=>some l
def kX (ρ:Nat->Option Nat):List (LV S)->Option (List (LV S))
 |[]=>some []
 |l::r=>match l.cn ρ with|some x=>(match kX ρ r with|some y=>some (x::y)|none=>none)|none=>none
def aB.cn (ρ:Nat->Option Nat):aB S->Option (aB S)
 | .one l=>(match l.cn ρ with|some x=>some (.one x)|none=>none)
 | .agg ls=>(match kX ρ ls with|some x=>some (.agg x)|none=>none)
def lY (ρ:Nat->Option Nat):List (aB S)->Option (List (aB S))
 |[]=>some []
 |l::r=>match l.cn ρ with|some x=>(match lY ρ r with|some y=>some (x::y)|none=>none)|none=>none
def AV.cn (ρ:Nat->Option Nat):AV S->Option (AV S)
 | .s a=>(match a.cn ρ with|some x=>some (.s x)|none=>none)
 | .bJ aka=>(match lY ρ aka with|some x=>some (.bJ x)|none=>none)
def Ob.cn (ρ:Nat->Option Nat):Ob S->Option (Ob S)
 | .box t cs=>(match kX ρ cs with|some x=>some (.box t x)|none=>none)
 | .a7 g fs cs=>(match lY ρ fs,lY ρ cs with|some x,some y=>some (.a7 g x y)|_,_=>none)
 |X=>some X
def l1 (ρ:Nat->Option Nat):Option (Ob S)->Option (Ob S)
 |some X=>X.cn ρ
 |none=>none
def n_ (ρ:Nat->Option Nat):a1 S->a1 S
 |[]=>[]
 |(s,a)::r=>match a.cn ρ with|some x=>(s,x)::n_ ρ r|none=>n_ ρ r
def eT (ρ:Nat->Option Nat):AH S->AH S
 |[]=>[]
 |X::r=>l1 ρ X::eT ρ r
def eR (env:a1 S):Γ->a1 S
 |[]=>[]
 |s::r=>match a1.get env s with|some a=>(s,a)::eR env r|none=>eR env r
def fS (g:Nat->Option (Ob S)):Γ->AH S
 |[]=>[]
 |i::r=>g i::fS g r
def iQ (g:Nat->Option (Ob S)):LV S->Option (LV S×Γ)
 | .own r=>(match g r with|some (.row e xs)=>(match K.row e with|some I=>some (.aJ I.t (I.of xs),[r])|none=>none)|_=>none)
 | .v u=>some (.v u,[])
 | .aJ t x=>some (.aJ t x,[])
 | .ptr t x o=>some (.ptr t x o,[])
 | .bA k n gs=>some (.bA k n gs,[])
 | .cA n bs=>some (.cA n bs,[])
 |_=>none
def kC (g:Nat->Option (Ob S)):List (LV S)->Option (List (LV S)×Γ)
 |[]=>some ([],[])
 |l::r=>match iQ K g l with|some (l',a)=>(match kC g r with|some (c,b)=>some (l'::c,a++b)|none=>none)|none=>none
def jL (g:Nat->Option (Ob S)):aB S->Option (aB S×Γ)
 | .one l=>(match iQ K g l with|some (l',a)=>some (.one l',a)|none=>none)
 | .agg ls=>(match kC K g ls with|some (l',a)=>some (.agg l',a)|none=>none)
def iP (g:Nat->Option (Ob S)):List (aB S)->Option (List (aB S)×Γ)
 |[]=>some ([],[])
 |l::r=>match jL K g l with|some (l',a)=>(match iP g r with|some (c,b)=>some (l'::c,a++b)|none=>none)|none=>none
def LV.flat:LV S->Bool
 | .v _=>true
 | .bA .. =>true
 | .cA .. =>true
 |_=>false
def aB.flat:aB S->Bool
 | .one l=>l.flat
 | .agg ls=>ls.all LV.flat
def AV.flat:AV S->Bool
 | .s a=>a.flat
 | .bJ aka=>aka.all aB.flat
def LV.pure:LV S->Bool
 | .v _=>true
 | .aJ _ _=>true
 | .ptr _ _ _=>true
 | .bA .. =>true
 | .cA .. =>true
 |_=>false
def aB.pure:aB S->Bool
 | .one l=>l.pure
 | .agg ls=>ls.all LV.pure
def AV.pure:AV S->Bool
 | .s a=>a.pure
 | .bJ aka=>aka.all aB.pure
def fu:Γ->Up S
 |[]=>[]
 |i::r=>(i,none)::fu r
def TI.gi (i:TI):Bool:=ε i.tag 8||ε i.tag 6
def nn (t f:Nat):Option (Nat×Nat×Bool):=
 match K.Θ.get t with
 |some i=>
  bif ε i.tag 8 then
   match i.fs[f]? with
   |some (a,off)=>(match K.Θ.get a with|some j=>some (off,j.size,TI.gi j)|none=>none)
   |none=>none
  else none
 |none=>none
def Ie {R:Type} (g:Nat->Option (Ob S)) (i:TI) (k:aB S->Option R):LV S->Option R
 | .aM b o=>(match g b with
  |some (.box _ cs)=>(match d_ cs o i.size with|some ls=>(match jz (TI.gi i) ls with|some a=>k a|none=>none)|none=>none)
  |_=>none)
 | .fa b o n j=>(match g b with
  |some (.box _ cs)=>(match d_ cs o n with
   |some ls=>(match ki ls with
    |some (.i d gs)=>bif ε i.size 1&&!(TI.gi i) then k (.one (.v (.int d (ao gs j)))) else none
    |some (.b bs)=>bif ε i.size 1&&!(TI.gi i) then k (.one (.v (.bool (ck bs j)))) else none
    |none=>none)
   |none=>none)
  |_=>none)
 | .d' e r j o=>(match g r with
  |some (.row c xs)=>bif ε e c then(xs[j]?).bind λz=>(match d_ (K.bl c z).cells o i.size with|some ls=>(match jz (TI.gi i) ls with|some a=>k a|none=>none)|none=>none) else none
  |_=>none)
 | .ptr t x o=>(match d_ (K.bl t x).cells o i.size with|some ls=>(match jz (TI.gi i) ls with|some a=>k a|none=>none)|none=>none)
 |_=>none
def vM (env:a1 S) (size:Nat):List (Nat×Operand)->List (LV S)->Option (List (LV S))
 |[],cs=>some cs
 |(i,x)::r,cs=>
  match de K env x with
  |some (.s a)=>bif ε (dQ a.cells) size then(match b5 cs (i*size) a.cells with|some b=>vM env size r b|none=>none) else none
  |_=>none
def vN (env:a1 S) (fs:List (Nat×Nat)):List (Nat×Operand)->List (LV S)->Option (List (LV S))
 |[],cs=>some cs
 |(i,x)::r,cs=>
  match fs[i]? with
  |some (t,off)=>
   (match de K env x with
   |some (.s a)=>
    (match K.Θ.get t with
    |some c=>bif ε (dQ a.cells) c.size then(match b5 cs off a.cells with|some b=>vN env fs r b|none=>none) else none
    |none=>none)
   |_=>none)
  |none=>none
def LV.xb:LV S->Bool
 | .aM .. =>true
 | .fa .. =>true
 | .d' .. =>true
 | .ptr .. =>true
 |_=>false
def isNil:Operand->Bool
 | .const (.pointer none)=>true
 |_=>false
def xR {R:Type} (k:LV S->Option R) (y:Int):Nat->List (LV S)->Option R
 |_,[]=>none
 |n,l::ls=>bif ε l.sz 1 then(bif y==(n:Int) then k l else xR k y (n+1) ls) else none
def aeO:Op->Γ
 | .binOp _ _ x y _=>slotsOf [x,y]
 | .unOp _ _ x=>slotsOf [x]
 | .convert _ _ x=>slotsOf [x]
 | .call c=>slotsOf c.args.toList
 |_=>[]
def plain {R:Type} (env:a1 S) (op:Op) (k:AV S->Option R):Option R:=
 bif ig K.Θ op then
  match iI K.Θ (lQ env (aeO op)) op with
  |some v=>bif v.oneCell' then k (.s (.one (.v v))) else none
  |none=>none
 else none
def uP (t:Nat):List (aB S)->Option (List (S.El t))
 |[]=>some []
 |a::r=>match K.cls t a.cells with|some x=>(match uP t r with|some xs=>some (x::xs)|none=>none)|none=>none
def w_:Nat->List (Nat×Operand)->Option (List Operand)
 |_,[]=>some []
 |n,(i,x)::r=>bif ε i n then(match w_ (n+1) r with|some xs=>some (x::xs)|none=>none) else none
def jy {S:bm} {a b:Nat} (p:a=b) (xs:List (S.El a)):List (S.El b):=p▸xs
def dO (g:Nat->Option (Ob S)) (e:Nat):LV S->Option (List (S.El e))
 | .own r=>(match g r with
  |some (.row a ys)=>(match ζ3 a e with| .isTrue p=>some (jy p ys)| .isFalse _=>none)
  |_=>none)
 | .aJ t y=>(match K.sl t with
  |some I=>(match ζ3 I.e e with| .isTrue p=>some (jy p (I.to y))| .isFalse _=>none)
  |none=>none)
 | .v (.slice none 0 0)=>some []
 |_=>none
def jT:LV S->Γ
 | .own r=>[r]
 |_=>[]
structure ll (S:bm) where
 r:Nat
 j:Nat
 t:Nat
 e:Nat
 bR:List (Option (List (S.El e)))
def Uq (t0 r j:Nat):Option (Ob S)->Option (ll S)
 |some (.cP t e bR)=>bif ε t0 t then some ⟨r,j,t,e,bR⟩ else none
 |_=>none
def oh (g:Nat->Option (Ob S)):LV S->Option (ll S)
 | .d' t r j 0=>Uq t r j (g r)
 |_=>none
def JX {α:Type} (bR:List (Option (List α))) (j:Nat):Option (List α):=match bR[j]? with|some z=>z|none=>none
def nU (env:a1 S) (x:Operand):Option Nat:=match cb K env x with|some (.own q)=>some q|_=>none
def eE (s:ByteArray) (lo hi:Option Int):Option ByteArray:=if 0<=lo.getD 0/\lo.getD 0<=hi.getD (s.size:Int)/\hi.getD (s.size:Int)<=s.size then some (s.extract (lo.getD 0).toNat (hi.getD (s.size:Int)).toNat) else none
def c6 (j:Int) (n:Nat):Option Nat:=if 0<=j/\j<(n:Int) then some j.toNat else none
end
section
variable {S:bm} (K:Kit S) {R:Type} (env:a1 S) (g:Nat->Option (Ob S)) (nx:Nat) (k:AV S->Up S->AH S->Option R)
def xC (t:Nat) (x y:Operand):Option R:=
 match K.Θ.get t,cb K env x,jM K env y with
 |some i,some l,some j=>
  (match l with
  | .aJ t' xs=>(match K.sl t' with
   |some I=>(match K.Θ.get i.e with
    |some a=>bif ε i.tag 5&&ε (S.ty I.e).n a.size then(idx (I.to xs) j).bind λz=>k (.s (.one (.ptr I.e z 0))) [] [] else none
    |none=>none)
   |none=>none)
  | .own r=>(match g r with
   |some (.row e xs)=>(match K.Θ.get i.e with
    |some a=>bif ε i.tag 5&&ε (S.ty e).n a.size then(idx xs j).bind λ_=>k (.s (.one (.d' e r j.toNat 0))) [] [] else none
    |none=>none)
   |_=>none)
  | .aM b o=>(match K.Θ.get i.e with
   |some a=>(match y with
    | .const (.int _ (.ofNat m))=>bif ε i.tag 6&&(ξ2 m i.k&&ξ2 0 a.size) then k (.s (.one (.aM b (o+m*a.size)))) [] [] else none
    |_=>bif ε i.tag 6&&ε a.size 1 then(c6 j i.k).bind λm=>k (.s (.one (.fa b o i.k m))) [] [] else none)
   |none=>none)
  | .fD b o n=>(match K.Θ.get i.e with
   |some a=>bif ε i.tag 5&&ε a.size 1 then(c6 j n).bind λm=>k (.s (.one (.fa b o n m))) [] [] else none
   |none=>none)
  |_=>none)
 |_,_,_=>none
def Iz (t:Nat) (x y:Operand):Option R:=
 match K.Θ.get t,jM K env y,nU K env x with
 |some i,some j,some r=>(match g r,K.Θ.get i.e with
  |some (.cP t' _ bR),some a=>bif ε i.tag 5&&(ε (S.ty t').n 1&&ε a.size 1) then(idx bR j).bind λ_=>k (.s (.one (.d' t' r j.toNat 0))) [] [] else none
  |_,_=>none)
 |_,_,_=>none
def IB (t:Nat) (T:ll S):Option R:=
 match K.Θ.get t with
 |some i=>bif ε i.tag 5&&ε i.size 1 then(JX T.bR T.j).bind λxs=>k (.s (.one (.own nx))) [(T.r,some (.cP T.t T.e (T.bR.set T.j none)))] [some (.row T.e xs)] else none
 |none=>none
def Ix (t q:Nat) (T:ll S):Option R:=
 match K.Θ.get t,g q with
 |some i,some (.row e xs)=>(match ζ3 e T.e with
  | .isTrue p=>bif ε i.tag 5&&(ε i.size 1&&!(ε q T.r)) then(idx T.bR T.j).bind λ_=>k (.bJ []) [(q,none),(T.r,some (.cP T.t T.e (T.bR.set T.j (some (jy p xs)))))] [] else none
  | .isFalse _=>none)
 |_,_=>none
def Pt (r:Nat):Bool:=match g r with|some (.cP ..)=>true|_=>false
def Ur (t:Nat):Bool:=match K.Θ.get t with|some i=>(match K.Θ.get i.e with|some a=>ε a.tag 5|none=>false)|none=>false
def IE (t:Nat) (n c:Operand):Option R:=
 match K.Θ.get t with
 |some i=>(match K.Θ.get i.e with
  |some a=>(match jM K env n,jM K env c,a.zero with
   |some n,some c,.slice none 0 0=>bif ε i.tag 5&&(ε (S.ty i.e).n 1&&ε a.size 1) then(kI a.bytes n c (some ([]:List (S.El a.e)))).bind λzs=>k (.s (.one (.own nx))) [] [some (.cP i.e a.e zs)] else none
   |_,_,_=>none)
  |none=>none)
 |none=>none
def Iy (t:Nat) (x y:Operand):Option R:=
 match K.Θ.get t,jM K env y with
 |some i,some j=>
  (match de K env x with
  |some (.s (.agg ls))=>(match K.Θ.get i.e with
   |some a=>bif ε i.tag 6&&(ε i.k (dQ ls)&&(ε a.size 1&&!(TI.gi a))) then
    (match ki ls with
    |some (.i c gs)=>(c6 j i.k).bind λm=>k (.s (.one (.v (.int c (ao gs m))))) [] []
    |some (.b bs)=>(c6 j i.k).bind λm=>k (.s (.one (.v (.bool (ck bs m))))) [] []
    |none=>xR (λl=>k (.s (.one l)) [] []) j 0 ls) else none
   |none=>none)
  |some (.s (.one (.v (.string s))))=>bif ε i.tag 3 then(fg s j).bind λz=>k (.s (.one (.v (.int .u8 z)))) [] [] else none
  |_=>none)
 |_,_=>none
def IF (t:Nat) (x:Operand) (lo hi mx:Option Operand):Option R:=
 match K.Θ.get t,cb K env x with
 |some i,some l=>
  (match l with
  | .aJ t' xs=>(match K.sl t' with
   |some I=>(match K.Θ.get i.e with
    |some d=>(match lT K env lo,lT K env hi,lT K env mx with
     |some a,some b,some c=>bif ε i.tag 5&&ε (S.ty I.e).n d.size then(dF (I.to xs) (a.map (·.2)) (b.map (·.2)) (c.map (·.2))).bind λys=>k (.s (.one (.aJ t' (I.of ys)))) [] [] else none
     |_,_,_=>none)
    |none=>none)
   |none=>none)
  | .aM b o=>(match lo,hi,mx,K.Θ.get i.e with
   |none,none,none,some d=>bif ε i.tag 6&&(ε d.size 1&&ξ9 i.k 16777216) then k (.s (.one (.fD b o i.k))) [] [] else none
   |_,_,_,_=>none)
  | .v (.string s)=>(match lT K env lo,lT K env hi,mx with
   |some a,some b,none=>bif ε i.tag 3 then(eE s (a.map (·.2)) (b.map (·.2))).bind λu=>k (.s (.one (.v (.string u)))) [] [] else none
   |_,_,_=>none)
  |_=>none)
 |_,_=>none
def It (t:Nat) (ps:List (Nat×Operand)):Option R:=
 match K.Θ.get t with
 |some i=>
  bif ε i.tag 8 then(match vN K env i.fs ps (i.zero.cells.toList.map .v) with|some cs=>bif ig K.Θ (.build t ps.toArray)&&i.zero.cells.toList.all ξk then k (.s (.agg cs)) [] [] else none|none=>none)
  else bif ε i.tag 6 then(match K.Θ.get i.e with
   |some a=>(match vM K env a.size ps (i.zero.cells.toList.map .v) with|some cs=>bif i.zero.cells.toList.all ξk then k (.s (.agg cs)) [] [] else none|none=>none)
   |none=>none)
  else none
 |none=>none
def Iu (t n:Nat) (ps:List (Nat×Operand)):Option R:=
 match K.Θ.get t with
 |some i=>(match K.Θ.get i.e,w_ 0 ps with
  |some a,some xs=>(match g' K env xs with
   |some aka=>(match iP K g aka with
    |some (b,rs)=>(match uP K i.e b with
     |some ys=>bif ε i.tag 5&&(ε ys.length n&&(ε (S.ty i.e).n a.size&&(ε a.zero.cells.size a.size&&(ξ9 (n*a.size) 16777216&&ξ9 n 16777216)))) then k (.s (.one (.own nx))) (fu rs) [some (.row i.e ys)] else none
     |none=>none)
    |none=>none)
   |none=>none)
  |_,_=>none)
 |none=>none
def ID (t:Nat) (n c:Operand):Option R:=
 match K.Θ.get t with
 |some i=>(match K.Θ.get i.e with
  |some a=>(match jM K env n,jM K env c,K.cls i.e (a.zero.cells.toList.map .v) with
   |some n,some c,some z=>bif ε i.tag 5&&(ε (S.ty i.e).n a.size&&(ε a.zero.cells.size a.size&&a.zero.cells.toList.all ξk)) then(kI a.bytes n c z).bind λzs=>k (.s (.one (.own nx))) [] [some (.row i.e zs)] else none
   |_,_,_=>none)
  |none=>none)
 |none=>none
def Ir (ty:Nat) (x y:Operand):Option R:=
 match K.Θ.get ty with
 |some i=>(match K.Θ.get i.e with
  |some a=>(match cb K env x,cb K env y with
   |some d,some b=>(match d with
    | .own r=>(match b with
     | .own c=>bif ε r c then none else(match dO K g i.e (.own r),dO K g i.e (.own c) with
      |some xs,some ys=>bif ε i.tag 5&&(ε (S.ty i.e).n a.size&&(ε a.zero.cells.size a.size&&(ξ2 0 a.size&&ξ2 0 a.bytes))) then(app a.bytes xs ys).bind λzs=>k (.s (.one (.own nx))) (bif ε a.tag 5 then[(r,none)] else[(c,none),(r,none)]) [some (.row i.e zs)] else none
      |_,_=>none)
     |b=>(match dO K g i.e (.own r),dO K g i.e b with
      |some xs,some ys=>bif ε i.tag 5&&(ε (S.ty i.e).n a.size&&(ε a.zero.cells.size a.size&&(ξ2 0 a.size&&ξ2 0 a.bytes))) then(app a.bytes xs ys).bind λzs=>k (.s (.one (.own nx))) [(r,none)] [some (.row i.e zs)] else none
      |_,_=>none))
    | .v (.slice none 0 0)=>(match dO K g i.e b with
      |some ys=>bif ε i.tag 5&&(ε (S.ty i.e).n a.size&&(ε a.zero.cells.size a.size&&(ξ2 0 a.size&&ξ2 0 a.bytes))) then(app a.bytes [] ys).bind λzs=>k (.s (.one (.own nx))) (fu (jT b)) [some (.row i.e zs)] else none
      |none=>none)
    |_=>none)
   |_,_=>none)
  |none=>none)
 |none=>none
def iT (e:Nat) (a:IntKind):List (S.El e)->Option (Γa)
 |[]=>some []
 |y::ys=>(match K.bl e y with
  | .one (.v (.int k x))=>bif sameKind a k then(match iT e a ys with|some zs=>some (x::zs)|none=>none) else none
  |_=>none)
def yu (g:Nat->Option (Ob S)) (e:Nat) (c:IntKind) (n:Nat) (a:LV S):Option (Γa):=
 match a with
 | .v (.string s)=>bif sameKind c .u8&&ξ9 s.size n then some (s.data.toList.map λb=>(b.toNat:Int)) else none
 |a=>(match dO K g e a with|some ys=>iT K e c ys|none=>none)
def Iw (i a:TI) (b off n:Nat) (f:LV S):Option R:=
 match g b with
 |some (.box h cs)=>(match d_ cs off n with
  |some ls=>(match ki ls with
   |some (.i c gs)=>(match yu K g i.e c n f with
    |some zs=>(match b5 cs off [.bA c n (c5 gs zs)] with
     |some d=>bif ε i.tag 5&&(ε (S.ty i.e).n a.size&&(ε a.size 1&&ε gs.length n)) then k (.s (.one (.v (goInt (ξZ zs.length n))))) [(b,some (.box h d))] [] else none
     |none=>none)
    |none=>none)
   |_=>none)
  |none=>none)
 |_=>none
def Iv (ty:Nat) (x y:Operand):Option R:=
 match K.Θ.get ty with
 |some i=>(match K.Θ.get i.e with
  |some a=>(match cb K env x,cb K env y with
   |some (.fD b off n),some d=>Iw K g k i a b off n d
   |some (.own r),some (.aJ t ys)=>(match g r,dO K g i.e (.aJ t ys) with
    |some (.row e xs),some ys=>(match ζ3 e i.e with
     | .isTrue p=>bif ε i.tag 5&&ε (S.ty i.e).n a.size then k (.s (.one (.v (goInt (ξZ ys.length (jy p xs).length))))) [(r,some (.row i.e (c5 (jy p xs) ys)))] [] else none
     | .isFalse _=>none)
    |_,_=>none)
   |some (.own r),some (.own c)=>bif ε r c then none else(match g r,dO K g i.e (.own c) with
    |some (.row e xs),some ys=>(match ζ3 e i.e with
     | .isTrue p=>bif ε i.tag 5&&ε (S.ty i.e).n a.size then k (.s (.one (.v (goInt (ξZ ys.length (jy p xs).length))))) [(r,some (.row i.e (c5 (jy p xs) ys)))] [] else none
     | .isFalse _=>none)
    |_,_=>none)
   |_,_=>none)
  |none=>none)
 |none=>none
def IA (ty:Nat) (c:Go.Call) (x:Operand):Option R:=
 match K.Θ.get ty,cb K env x with
 |some i,some l=>(match l with
  | .aJ t xs=>(match K.sl t with|some I=>bif ε i.tag 5 then k (.s (.one (.v (.int .i64 ((I.to xs).length:Int))))) [] [] else none|none=>none)
  | .own r=>(match g r with|some (.row _ xs)=>bif ε i.tag 5 then k (.s (.one (.v (.int .i64 (xs.length:Int))))) [] [] else none|some (.cP _ _ bR)=>bif ε i.tag 5 then k (.s (.one (.v (.int .i64 (bR.length:Int))))) [] [] else none|_=>none)
  | .fD _ _ n=>bif ε i.tag 5 then k (.s (.one (.v (.int .i64 (n:Int))))) [] [] else none
  | .mp b=>(match g b with|some (.map _ _ m)=>bif ε i.tag 7 then k (.s (.one (.v (.int .i64 (m.length:Int))))) [] [] else none|_=>none)
  |_=>plain K env (.call c) λa=>k a [] [])
 |_,_=>none
def Is (o:BinOp) (t:Nat) (x y:Operand) (t':Nat):Option R:=
 match de K env x with
 |some (.s (.agg ls))=>(match de K env y with
  |some (.s (.agg ms))=>(match K.pA t ls ms with
   |some z=>(match o with
    | .eql=>k (.s (.one (.v (.bool z)))) [] []
    | .neq=>k (.s (.one (.v (.bool (!z))))) [] []
    |_=>none)
   |none=>none)
  |_=>none)
 |some (.s (.one l))=>
  bif l.xb&&isNil y then(match K.Θ.get t with
   |some i=>bif ε i.tag 4 then(match o with| .eql=>k (.s (.one (.v (.bool false)))) [] []| .neq=>k (.s (.one (.v (.bool true)))) [] []|_=>none) else none
   |none=>none)
  else(match l,cb K env y,y with
  | .v (.int c a),some (.v (.int d b)),.tmp _=>
   (match o with
   | .quo=>bif sameKind c d then(I8 c a b).bind λz=>k (.s (.one (.v (.int c z)))) [] [] else none
   | .rem=>bif sameKind c d then(Jt a b).bind λz=>k (.s (.one (.v (.int c z)))) [] [] else none
   | .shl=>(ma c a b).bind λz=>k (.s (.one (.v (.int c z)))) [] []
   | .shr=>(JL c a b).bind λz=>k (.s (.one (.v (.int c z)))) [] []
   |_=>plain K env (.binOp o t x y t') λa=>k a [] [])
  | .v (.string a),some (.v (.string b)),_=>
   (match o with
   | .add=>(jZ a b).bind λz=>k (.s (.one (.v (.string z)))) [] []
   |_=>plain K env (.binOp o t x y t') λa=>k a [] [])
  |_,_,_=>plain K env (.binOp o t x y t') λa=>k a [] [])
 |_=>none
def IC (t:Nat) (x y:Operand) (ok:Bool):Option R:=
 match K.Θ.get t,cb K env x,de K env y with
 |some i,some (.mp b),some (.s (.one (.v (.int h j))))=>(match K.Θ.get i.k,K.Θ.get i.e,g b with
  |some c,some f,some (.map d a m)=>
   bif ε i.tag 7&&(ε c.tag 2&&(sameKind (Dc.noKind c.k) d&&(sameKind h d&&(match f.zero with| .int l 0=>sameKind l a|_=>false)))) then
    k (bif ok then .bJ [.one (.v (.int a ((bG m j).getD 0))),.one (.v (.bool (bG m j).isSome))] else .s (.one (.v (.int a ((bG m j).getD 0))))) [] []
   else none
  |_,_,_=>none)
 |_,_,_=>none
def xE (t:Nat) (x y:Operand):Option R:=
 match K.Θ.get t,cb K env x,de K env y with
 |some i,some l,some (.s a)=>
  bif ε (dQ a.cells) i.size then
  (match l with
  | .aM b o=>(match g b with
   |some (.box f cs)=>(match b5 cs o a.cells with
    |some c=>k (.bJ []) [(b,some (.box f c))] []
    |none=>none)
   |_=>none)
  | .fa b o m j=>(match g b with
   |some (.box f cs)=>(match d_ cs o m with
    |some ls=>(match ki ls,a with
     |some (.i h gs),.one (.v (.int n x))=>(match b5 cs o [.bA h m (gs.set j x)] with|some c=>bif sameKind h n&&ε gs.length m then k (.bJ []) [(b,some (.box f c))] [] else none|none=>none)
     |some (.b bs),.one (.v (.bool x))=>(match b5 cs o [.cA m (bs.set j x)] with|some c=>bif ε bs.length m then k (.bJ []) [(b,some (.box f c))] [] else none|none=>none)
     |_,_=>none)
    |none=>none)
   |_=>none)
  | .d' e r j o=>(match g r with
   |some (.row d xs)=>bif ε e d then(xs[j]?).bind λz=>(match b5 (K.bl d z).cells o a.cells with
    |some c=>(match K.cls d c with
     |some p=>bif a.pure then k (.bJ []) [(r,some (.row d (xs.set j p)))] [] else none
     |none=>none)
    |none=>none) else none
   |_=>none)
  |_=>none)
  else none
 |_,_,_=>none
def xD (t:Nat) (x y z:Operand):Option R:=
 match K.Θ.get t,cb K env x,de K env y,de K env z with
 |some i,some (.mp b),some (.s (.one (.v (.int e j)))),some (.s (.one (.v (.int f u))))=>(match K.Θ.get i.k,g b with
  |some c,some (.map a d m)=>
   bif ε i.tag 7&&(ε c.tag 2&&(sameKind (Dc.noKind c.k) a&&(sameKind e a&&sameKind f d))) then k (.bJ []) [(b,some (.map a d (cp m j u)))] [] else none
  |_,_=>none)
 |_,_,_,_=>none
def xB (t t2:Nat) (l:LV S):Option R:=
 match K.Θ.get t,K.Θ.get t2 with
 |some i,some i2=>(match K.Θ.get i.e with
  |some a=>bif ε i.tag 5&&(ε i2.tag 3&&(ε a.tag 2&&sameKind (Dc.noKind a.k) .u8)) then
   (match dO K g i.e l with
   |some ys=>(match iT K i.e .u8 ys with|some zs=>k (.s (.one (.v (.string (strOf zs))))) [] []|none=>none)
   |none=>none) else none
  |none=>none)
 |_,_=>none
def qU (ty:Nat) (op:Op):Option R:=
 match op with
 | .move x=>(match de K env x with|some a=>k a [] []|none=>none)
 | .assign x=>
  (match x with
  | .const (.slice none 0 0)=>(match K.Θ.get ty with
   |some i=>bif ε i.tag 5 then k (.s (.one (.own nx))) [] [some (.row i.e [])] else none
   |none=>none)
  |x=>(match de K env x with|some a=>k a [] []|none=>none))
 | .extract x i=>(match de K env x with|some (.bJ aka)=>(match aka[i]? with|some a=>k (.s a) [] []|none=>none)|_=>none)
 | .nilCheck x=>
  (match cb K env x with
  |some (.aM b o)=>k (.s (.one (.aM b o))) [] []
  |some (.fa b o n j)=>k (.s (.one (.fa b o n j))) [] []
  |some (.d' e b j o)=>k (.s (.one (.d' e b j o))) [] []
  |some (.ptr t z o)=>k (.s (.one (.ptr t z o))) [] []
  |_=>none)
 | .pick c a b=>
  (match cb K env c with
  |some (.v (.bool t))=>bif t then(match de K env a with|some a=>k a [] []|none=>none) else(match de K env b with|some b=>k b [] []|none=>none)
  |_=>none)
 | .field t x f=>
  (match de K env x with
  |some (.s (.agg ls))=>(match nn K t f with
   |some (off,n,h)=>(match d_ ls off n with|some w=>(match jz h w with|some a=>k (.s a) [] []|none=>none)|none=>none)
   |none=>none)
  |_=>none)
 | .fieldAddr t x f=>
  (match nn K t f with
  |some (off,n,_)=>bif ε n 0 then none else(match cb K env x with
   |some (.aM b o)=>k (.s (.one (.aM b (o+off)))) [] []
   |some (.d' e r j o)=>k (.s (.one (.d' e r j (o+off)))) [] []
   |some (.ptr t' x' o)=>k (.s (.one (.ptr t' x' (o+off)))) [] []
   |_=>none)
  |none=>none)
 | .load t x=>
  (match K.Θ.get t with
  |some i=>(match cb K env x with|some l=>(match oh g l with|some T=>IB K nx k t T|none=>Ie K g i (λa=>k (.s a) [] []) l)|none=>none)
  |none=>none)
 | .alloc t=>(match K.Θ.get t with|some i=>bif i.zero.cells.toList.all ξk then k (.s (.one (.aM nx 0))) [] [some (.box t (i.zero.cells.toList.map .v))] else none|none=>none)
 | .box t x=>(match de K env x with|some (.s a)=>k (.s (.one (.aM nx 0))) [] [some (.box t a.cells)]|_=>none)
 | .build t ps=>It K env k t ps.toList
 | .makeFunc (.func f) fs cs=>
  (match g' K env fs.toList,g' K env cs.toList with
  |some p,some m=>k (.s (.one (.a7 nx))) [] [some (.a7 f p m)]
  |_,_=>none)
 | .makeMap t none=>
  (match K.Θ.get t with
  |some i=>(match K.Θ.get i.k,K.Θ.get i.e with
   |some a,some b=>bif ε i.tag 7&&(ε a.tag 2&&ε b.tag 2) then k (.s (.one (.mp nx))) [] [some (.map (Dc.noKind a.k) (Dc.noKind b.k) [])] else none
   |_,_=>none)
  |none=>none)
 | .makeSlice t n c=>bif Ur K t then IE K env nx k t n c else ID K env nx k t n c
 | .buildSlice t n ps=>Iu K env g nx k t n ps.toList
 | .indexAddr t x y=>(match nU K env x with|some r=>bif Pt g r then Iz K env g k t x y else xC K env g k t x y|none=>xC K env g k t x y)
 | .index t x y=>Iy K env k t x y
 | .slice t x lo hi mx=>IF K env k t x lo hi mx
 | .lookup t x y ok=>IC K env g k t x y ok
 | .binOp o t x y t'=>Is K env k o t x y t'
 | .makeInterface t x=>
  (match K.Θ.get t,cb K env x with
  |some i,some (.v u)=>bif ε i.tag 2 then k (.s (.one (.v (.iface t u)))) [] [] else none
  |_,_=>none)
 | .range t x=>
  (match K.Θ.get t,cb K env x with
  |some i,some (.v (.string s))=>bif ε i.tag 3 then k (.s (.one (.cZ nx))) [] [some (.cZ s 0)] else none
  |_,_=>none)
 | .next x true=>
  (match cb K env x with
  |some (.cZ i)=>(match g i with
   |some (.cZ s pos)=>bif decide (pos<s.size) then k (.bJ [.one (.v (.bool true)),.one (.v (goInt pos)),.one (.v (.int .i32 (ζ4 s pos).1))]) [(i,some (.cZ s (pos+(ζ4 s pos).2)))] []
    else k (.bJ [.one (.v (.bool false))]) [] []
   |_=>none)
  |_=>none)
 | .store t x y=>(match cb K env x with|some l=>(match oh g l,nU K env y with|some T,some q=>Ix K g k t q T|_,_=>xE K env g k t x y)|none=>xE K env g k t x y)
 | .mapUpdate t x y z=>xD K env g k t x y z
 | .insert t x y z=>xD K env g k t x y z
 | .call c=>
  (match c.callee with
  | .builtin .len=>(match c.args.toList,c.argTypes.toList with|[x],[ty]=>IA K env g k ty c x|_,_=>none)
  | .builtin .append=>(match c.args.toList,c.argTypes.toList with|[x,y],[ty,A]=>bif ε ty A then Ir K env g nx k ty x y else none|_,_=>none)
  | .builtin .copy=>(match c.args.toList,c.argTypes.toList with|[x,y],[ty,_]=>Iv K env g k ty x y|_,_=>none)
  |_=>plain K env (.call c) λa=>k a [] [])
 | .convert t t2 x=>
  (match cb K env x with
  |some (.own r)=>xB K g k t t2 (.own r)
  |some (.aJ t' d)=>xB K g k t t2 (.aJ t' d)
  |_=>plain K env (.convert t t2 x) λa=>k a [] [])
 |op=>plain K env op λa=>k a [] []
end
structure Pl where
 pl:Nat->Option Value
 ls:Option Nat
structure Pl.le (A A':Pl):Prop where
 at_: ∀(i:Nat) (p:Value),A.pl i=some p->A'.pl i=some p
 ls:A'.ls=A.ls
theorem Pl.le.refl (A:Pl):A.le A:=⟨λ_ _ h=>h,rfl⟩
def b4:Value->Option Nat
 | .pointer (some a)=>some a.block
 | .map r=>r
 | .slice (some a) _ _=>some a.block
 |_=>none
theorem gw {v:Value} {g:Nat} (h:v.ownBlock=some g):b4 v=some g:=by
 cases v<;>simp only[Value.ownBlock] at h<;>try cases h
 rename_i a n c;cases a<;>simp only[b4] at h ⊢ <;>first|exact h|cases h
section
variable {S:bm}
def LV.rel (A:Pl) (O:Γ) (w:World):LV S->Γb->Prop
 | .v u,xs=>xs=[u]/\u.oneCell'=true
 | .aJ t d,xs=> ∃x,xs=[x]/\(S.ty t).is O w x d/\(S.ty t).agg=false
 | .ptr t d off,xs=> ∃ad,xs=[.pointer (some (ad.add off))]/\(S.ty t).ptr.is O w (.pointer (some ad)) d
 | .aM i off,xs=> ∃b,A.pl i=some (.pointer (some ⟨b,0,none⟩))/\xs=[.pointer (some ⟨b,off,none⟩)]
 | .fa i off n j,xs=> ∃b,A.pl i=some (.pointer (some ⟨b,0,none⟩))/\xs=[.pointer (some ⟨b,off+j,none⟩)]/\j<n
 | .own i,xs=> ∃v,A.pl i=some v/\xs=[v]/\v.oneCell'=true
 | .d' e i j off,xs=> ∃b n c,A.pl i=some (.slice (some ⟨b,0,none⟩) n c)/\xs=[.pointer (some ⟨b,j*(S.ty e).n+off,none⟩)]
 | .fD i off n,xs=> ∃b,A.pl i=some (.pointer (some ⟨b,0,none⟩))/\xs=[.slice (some ⟨b,off,none⟩) n n]
 | .mp i,xs=> ∃b,A.pl i=some (.map (some b))/\xs=[.map (some b)]
 | .a7 i,xs=> ∃f u c,A.pl i=some (.func f u c)/\xs=[.func f u c]
 | .cW,xs=> ∃l,A.ls=some l/\xs=[.func (.yield l) #[] #[]]
 | .cZ i,xs=> ∃b,A.pl i=some (.pointer (some ⟨b,0,none⟩))/\xs=[.pointer (some ⟨b,0,none⟩)]
 | .bA k n gs,xs=>gs.length=n/\xs=gs.map (ξr k)
 | .cA n bs,xs=>bs.length=n/\xs=bs.map ξN
def bF (A:Pl) (O:Γ) (w:World):List (LV S)->Γb->Prop
 |[],xs=>xs=[]
 |l::ls,xs=> ∃ys zs,xs=ys++zs/\l.rel A O w ys/\bF A O w ls zs
def aB.rel (A:Pl) (O:Γ) (w:World):aB S->Value->Prop
 | .one l,x=>l.rel A O w [x]
 | .agg ls,x=> ∃xs,x= .agg xs.toArray/\bF A O w ls xs
def cI (A:Pl) (O:Γ) (w:World):List (aB S)->Γb->Prop
 |[],xs=>xs=[]
 |l::ls,xs=> ∃y ys,xs=y::ys/\l.rel A O w y/\cI A O w ls ys
def AV.rel (A:Pl) (O:Γ) (w:World):AV S->Value->Prop
 | .s a,x=>a.rel A O w x
 | .bJ aka,x=> ∃xs,x= .tuple xs.toArray/\cI A O w aka xs
variable {A A':Pl} {O O':Γ} {w w':World}
theorem adV {α:Type} {T:Ty α} {v:Value} {x:α} (a:T.agg=false) (h:T.is O w v x):v.oneCell'=true:=T.one (l3 a h) v π
theorem LV.rel.len {l:LV S} {xs:Γb} (h:l.rel A O w xs):xs.length=l.sz:=by
 cases l with
 |v u=>rw[h.1];rfl
 |aJ t d=>obtain⟨x,rfl,_⟩:=h;rfl
 |ptr t d o=>obtain⟨x,rfl,_⟩:=h;rfl
 |aM b o=>obtain⟨m,_,rfl⟩:=h;rfl
 |fa b o n j=>obtain⟨m,_,rfl,_⟩:=h;rfl
 |own r=>obtain⟨m,_,rfl,_⟩:=h;rfl
 |d' e r j o=>obtain⟨_,_,_,_,rfl⟩:=h;rfl
 |fD b o n=>obtain⟨m,_,rfl⟩:=h;rfl
 |mp b=>obtain⟨m,_,rfl⟩:=h;rfl
 |a7 b=>obtain⟨_,_,_,_,rfl⟩:=h;rfl
 |cW=>obtain⟨m,_,rfl⟩:=h;rfl
 |cZ b=>obtain⟨m,_,rfl⟩:=h;rfl
 |bA k n gs=>obtain⟨h1,rfl⟩:=h;simp[LV.sz,h1]
 |cA n gs=>obtain⟨h1,rfl⟩:=h;simp[LV.sz,h1]
theorem LV.rel.one {l:LV S} {xs:Γb} (h:l.rel A O w xs): ∀u∈xs,u.oneCell'=true:=by
 intro u hu;cases l with
 |v x=>obtain⟨rfl,h1⟩:=h;simp at hu;subst hu;exact h1
 |aJ t d=>obtain⟨x,rfl,h1,a⟩:=h;simp at hu;subst hu;exact adV a h1
 |ptr t d o=>obtain⟨x,rfl,_⟩:=h;simp at hu;subst hu;rfl
 |aM b o=>obtain⟨m,_,rfl⟩:=h;simp at hu;subst hu;rfl
 |fa b o n j=>obtain⟨m,_,rfl,_⟩:=h;simp at hu;subst hu;rfl
 |own r=>obtain⟨m,_,rfl,h1⟩:=h;simp at hu;subst hu;exact h1
 |d' e r j o=>obtain⟨_,_,_,_,rfl⟩:=h;simp at hu;subst hu;rfl
 |fD b o n=>obtain⟨m,_,rfl⟩:=h;simp at hu;subst hu;rfl
 |mp b=>obtain⟨m,_,rfl⟩:=h;simp at hu;subst hu;rfl
 |a7 b=>obtain⟨_,_,_,_,rfl⟩:=h;simp at hu;subst hu;rfl
 |cW=>obtain⟨m,_,rfl⟩:=h;simp at hu;subst hu;rfl
 |cZ b=>obtain⟨m,_,rfl⟩:=h;simp at hu;subst hu;rfl
 |bA k n gs=>obtain⟨_,rfl⟩:=h;obtain⟨x,_,rfl⟩:=ζL.1 hu;rfl
 |cA n gs=>obtain⟨_,rfl⟩:=h;obtain⟨x,_,rfl⟩:=ζL.1 hu;rfl
theorem LV.rel.tr {l:LV S} {xs:Γb} (h:l.rel A O w xs) (i:Tr O w O' w') (g:A.le A'):l.rel A' O' w' xs:=by
 cases l with
 |v u=>exact h
 |aJ t d=>obtain⟨x,h1,a,p⟩:=h;exact⟨x,h1,a.tr i,p⟩
 |ptr t d o=>obtain⟨x,h1,a⟩:=h;exact⟨x,h1,Ty.is.tr a i⟩
 |aM b o=>obtain⟨m,h1,a⟩:=h;exact⟨m,g.at_ _ _ h1,a⟩
 |fa b o n j=>obtain⟨m,h1,a⟩:=h;exact⟨m,g.at_ _ _ h1,a⟩
 |own r=>obtain⟨m,h1,a⟩:=h;exact⟨m,g.at_ _ _ h1,a⟩
 |d' e r j o=>obtain⟨b,n,c,h1,a⟩:=h;exact⟨b,n,c,g.at_ _ _ h1,a⟩
 |fD b o n=>obtain⟨m,h1,a⟩:=h;exact⟨m,g.at_ _ _ h1,a⟩
 |mp b=>obtain⟨m,h1,a⟩:=h;exact⟨m,g.at_ _ _ h1,a⟩
 |a7 b=>obtain⟨f,u,c,h1,a⟩:=h;exact⟨f,u,c,g.at_ _ _ h1,a⟩
 |cW=>obtain⟨m,h1,a⟩:=h;exact⟨m,g.ls.trans h1,a⟩
 |cZ b=>obtain⟨m,h1,a⟩:=h;exact⟨m,g.at_ _ _ h1,a⟩
 |bA k n gs=>exact h
 |cA n gs=>exact h
theorem jV (b:Tr O w O' w') (a:A.le A'): ∀ {ls:List (LV S)} {xs:Γb},bF A O w ls xs->bF A' O' w' ls xs
 |[],_,h=>h
 |_::_,_,⟨y,ys,h,h1,c⟩=>⟨y,ys,h,h1.tr b a,jV b a c⟩
theorem gR: ∀ {ls:List (LV S)} {xs:Γb},bF A O w ls xs->xs.length=dQ ls
 |[],_,h=>by rw[show _=[] from h];rfl
 |_::_,_,⟨y,ys,h,h1,a⟩=>by rw[h,φ,h1.len,gR a];rfl
theorem S6: ∀ {ls:List (LV S)} {xs:Γb},bF A O w ls xs-> ∀u∈xs,u.oneCell'=true
 |[],_,h,u,hu=>by rw[show _=[] from h] at hu;cases hu
 |_::_,_,⟨y,ys,h,h1,a⟩,u,hu=>by
  subst h;rcases τ.1 hu with hu|hu
  ·exact h1.one u hu
  ·exact S6 a u hu
theorem S3: ∀ {a b:List (LV S)} {x1 c:Γb},bF A O w a x1->bF A O w b c->bF A O w (a++b) (x1++c)
 |[],_,_,_,h,k=>by rw[show _=[] from h];exact k
 |_::_,_,_,_,⟨y,ys,h,h1,d⟩,k=>by subst h;exact⟨y,_,by rw[ζf],h1,S3 d k⟩
theorem aB.rel.tr {a:aB S} {x:Value} (h:a.rel A O w x) (c:Tr O w O' w') (b:A.le A'):a.rel A' O' w' x:=by
 cases a with
 |one l=>exact LV.rel.tr h c b
 |agg ls=>obtain⟨xs,h1,d⟩:=h;exact⟨xs,h1,jV c b d⟩
theorem lX (b:Tr O w O' w') (a:A.le A'): ∀ {ls:List (aB S)} {xs:Γb},cI A O w ls xs->cI A' O' w' ls xs
 |[],_,h=>h
 |_::_,_,⟨y,ys,h,h1,c⟩=>⟨y,ys,h,h1.tr b a,lX b a c⟩
theorem S2: ∀ {ls:List (aB S)} {xs:Γb} {k:Nat} {l:aB S},cI A O w ls xs->ls[k]? =some l-> ∃x,xs[k]? =some x/\l.rel A O w x
 |[],_,_,_,_,hk=>by simp at hk
 |_::_,_,0,l,⟨y,ys,h,h1,a⟩,hk=>by
  simp at hk;subst hk;subst h;exact⟨y,rfl,h1⟩
 |_::ls,_,k+1,l,⟨y,ys,h,h1,a⟩,hk=>by
  subst h;simpa using S2 (k:=k) a (by simpa using hk)
theorem yb: ∀ {ls:List (aB S)} {xs:Γb},cI A O w ls xs->xs.length=ls.length
 |[],_,h=>by rw[show _=[] from h];rfl
 |_::_,_,⟨y,ys,h,h1,a⟩=>by rw[h,ξw,yb a];rfl
theorem Js: ∀ {a b:List (aB S)} {x1 c:Γb},cI A O w a x1->cI A O w b c->cI A O w (a++b) (x1++c)
 |[],_,_,_,h,k=>by rw[show _=[] from h];exact k
 |_::_,_,_,_,⟨y,ys,h,h1,d⟩,k=>by subst h;exact⟨y,_,rfl,h1,Js d k⟩
theorem AV.rel.tr {a:AV S} {x:Value} (h:a.rel A O w x) (c:Tr O w O' w') (b:A.le A'):a.rel A' O' w' x:=by
 cases a with
 |s l=>exact aB.rel.tr h c b
 |bJ ls=>obtain⟨xs,h1,d⟩:=h;exact⟨xs,h1,lX c b d⟩
theorem aB.rel.cells {a:aB S} {x:Value} (h:a.rel A O w x):bF A O w a.cells x.cells.toList:=by
 cases a with
 |one l=>
  have h1:=LV.rel.one h x π;have:x.cells.toList=[x]:=by cases x<;>simp[ζh,ξk] at h1 ⊢
  rw[this];exact⟨[x],[],rfl,h,rfl⟩
 |agg ls=>
  obtain⟨xs,rfl,b⟩:=h;simpa[ζh,aB.cells] using b
theorem R6 {x:Value} (h1:x.oneCell'=true):x.cells.toList=[x]:=by cases x<;>simp[ζh,ξk] at h1 ⊢
def dd (A:Pl) (O:Γ) (w:World):Ob S->Value->Prop
 | .box t cs,p=> ∃b vs,p= .pointer (some ⟨b,0,none⟩)/\bM w b t vs/\bF A O w cs vs
 | .row e xs,p=>Dc.Own (S.ty e) e 0 O w p xs
 | .map a g m,p=> ∃b,p= .map (some b)/\iA a g w b m
 | .a7 f fs cs,p=> ∃us vs:Γb,p= .func (.func f) us.toArray vs.toArray/\cI A O w fs us/\cI A O w cs vs
 | .cZ s pos,p=> ∃b,p= .pointer (some ⟨b,0,none⟩)/\w.heap[b]? =some (.stringIter s pos)
 | .cP t e bR,p=> ∃b c cur,p= .slice (some ⟨b,0,none⟩) bR.length c/\w.heap[b]? =some (.cells cur t (0,0))/\bR.length<=c/\c<=maxLen/\cur.size=c/\(S.ty t).n=1/\
  (∀u∈cur.toList,u.oneCell'=true)/\(∀(j:Nat) (u:Value) (xs:List (S.El e)),cur[j]? =some u->bR[j]? =some (some xs)->Dc.Own (S.ty e) e 0 O w u xs/\u.ownBlock≠some b)/\
  ∀(i j:Nat) (u v:Value) (xs ys:List (S.El e)) (d:Nat),i≠j->cur[i]? =some u->cur[j]? =some v->bR[i]? =some (some xs)->bR[j]? =some (some ys)->u.ownBlock=some d->v.ownBlock≠some d
def gI (w:World):Ob S->Value->Nat->Prop
 | .cP _ e bR,p,d=> ∃(b c t':Nat) (cur:Array Value) (j:Nat) (u:Value) (xs:List (S.El e)),p= .slice (some ⟨b,0,none⟩) bR.length c/\w.heap[b]? =some (.cells cur t' (0,0))/\cur[j]? =some u/\bR[j]? =some (some xs)/\u.ownBlock=some d
 |_,_,_=>False
def cD (w:World) (X:Ob S) (p:Value) (b:Nat):Prop:=b4 p=some b\/gI w X p b
theorem eQ {w:World} {X:Ob S} {p:Value} {b:Nat} (hX:X.nt=true) (h:cD w X p b):b4 p=some b:=by
 rcases h with h|h
 ·exact h
 ·cases X with
  |cP t e bR=>cases hX
  |_=>cases h
theorem dd.adK {X:Ob S} {p:Value} {d:Nat} (h:dd A O w X p) (hi:gI w X p d):d∈O/\b4 p≠some d:=by
 cases X with
 |cP t e bR=>
  obtain⟨b,c,cur,rfl,n,_,_,_,_,_,h1,_⟩:=h;obtain⟨q,r,t',s,j,u,xs,g,a,i,k,f⟩:=hi;cases g;rw[n] at a;cases a;obtain⟨l,m⟩:=h1 j u xs i k;exact⟨l.mem d f,λo=>m (by cases o;exact f)⟩
 |_=>cases hi
theorem adL {w w':World} {X:Ob S} {p:Value} {d:Nat} (hk: ∀b,b4 p=some b->w'.heap[b]? =w.heap[b]?) (h:gI w' X p d):gI w X p d:=by
 cases X with
 |cP t e bR=>
  obtain⟨b,c,t',cur,j,u,xs,a,f,g⟩:=h;subst a;exact⟨b,c,t',cur,j,u,xs,rfl,(hk b rfl).symm.trans f,g⟩
 |_=>cases h
theorem ky {w w':World} {X:Ob S} {p:Value} {d:Nat} (hk: ∀b,b4 p=some b->w'.heap[b]? =w.heap[b]?) (h:cD w' X p d):cD w X p d:=h.imp id (adL hk)
structure bW (A:Pl) (O:Γ) (w:World) (g:Nat->Option (Ob S)):Prop where
 al: ∀(i:Nat) (X:Ob S),g i=some X-> ∃p,A.pl i=some p/\dd A O w X p/\ ∀b,b4 p=some b->b∈O
 f': ∀(i j:Nat) (X Y:Ob S) (p q:Value) (b:Nat),i≠j->g i=some X->g j=some Y->A.pl i=some p->A.pl j=some q->cD w X p b-> ¬cD w Y q b
theorem bW.dj {g:Nat->Option (Ob S)} (h:bW A O w g) (i j:Nat) (X Y:Ob S) (p q:Value) (b:Nat) (k:i≠j) (h1:g i=some X) (a:g j=some Y) (c:A.pl i=some p) (d:A.pl j=some q) (e:b4 p=some b):b4 q≠some b:=λf=>h.f' i j X Y p q b k h1 a c d (.inl e) (.inl f)
theorem bW.gE {g:Nat->Option (Ob S)} (h:bW A O w g) {i:Nat} {X:Ob S} {p:Value} {b:Nat} (hi:g i=some X) (hp:A.pl i=some p) (a:cD w X p b):b∈O:=by
 obtain⟨d,c,hR,hm⟩:=h.al i X hi;rw[hp] at c;cases c;rcases a with a|a
 ·exact hm b a
 ·exact(hR.adK a).1
theorem bW.less {g c:Nat->Option (Ob S)} (h:bW A O w g) (a: ∀i X,c i=some X->g i=some X):bW A O w c:=
 ⟨λi X k=>h.al i X (a i X k),λi j X Y p q b k0 d e=>h.f' i j X Y p q b k0 (a _ _ d) (a _ _ e)⟩
theorem bW.xr {g:Nat->Option (Ob S)} (hn: ∀i X,g i=some X->X.nt=true) (al: ∀(i:Nat) (X:Ob S),g i=some X-> ∃p,A.pl i=some p/\dd A O w X p/\ ∀b,b4 p=some b->b∈O)
  (dj: ∀(i j:Nat) (X Y:Ob S) (p q:Value) (b:Nat),i≠j->g i=some X->g j=some Y->A.pl i=some p->A.pl j=some q->b4 p=some b->b4 q≠some b):bW A O w g:=
 ⟨al,λi j X Y p q b h h1 a c d e f=>dj i j X Y p q b h h1 a c d (eQ (hn i X h1) e) (eQ (hn j Y a) f)⟩
theorem dd.keep {X:Ob S} {p:Value} (h:dd A O w X p) (a:Tr O w O' w') (k:A.le A') (q: ∀b,cD w X p b->w'.heap[b]? =w.heap[b]? /\b∈O'):dd A' O' w' X p:=by
 have hk: ∀b,b4 p=some b->w'.heap[b]? =w.heap[b]? /\b∈O':=λb d=>q b (.inl d);cases X with
 |box t cs=>
  obtain⟨b,vs,rfl,h1,i⟩:=h;exact⟨b,vs,rfl,(hk b rfl).1.trans h1,jV a k i⟩
 |row e xs=>exact Dc.Own.keep h a λg l=>hk g (gw l)
 |map E F m=>obtain⟨b,rfl,h1⟩:=h;exact⟨b,rfl,h1.of_heap (hk b rfl).1⟩
 |a7 f fs cs=>obtain⟨us,vs,h1,i,v⟩:=h;exact⟨us,vs,h1,lX a k i,lX a k v⟩
 |cZ s pos=>obtain⟨b,rfl,h1⟩:=h;exact⟨b,rfl,(hk b rfl).1.trans h1⟩
 |cP t e bR=>
  obtain⟨b,c,cur,rfl,d,x,y,z,B,C,r,D⟩:=h;exact⟨b,c,cur,rfl,(hk b rfl).1.trans d,x,y,z,B,C,λj u xs n o=>⟨Dc.Own.keep (r j u xs n o).1 a λg l=>q g (.inr ⟨b,c,t,cur,j,u,xs,rfl,d,n,o,l⟩),(r j u xs n o).2⟩,D⟩
def b9 (g:Nat->Option (Ob S)):Up S->Nat->Option (Ob S)
 |[],i=>g i
 |(j,X)::r,i=>b9 (λi=>bif ε j i then X else g i) r i
def news:Nat->AH S->Up S
 |_,[]=>[]
 |n,X::r=>(n,X)::news (n+1) r
structure k8 (A:Pl) (O:Γ) (w:World) (g:Nat->Option (Ob S)) (ef:Up S) (A':Pl) (O':Γ) (w':World):Prop where
 le:A.le A'
 tr:Tr O w O' w'
 ob:OB O' w'
 keep: ∀b,b∈O->(∀i X p,(i,X)∈ef->A.pl i=some p->b4 p≠some b)->w'.heap[b]? =w.heap[b]? /\b∈O'
 al: ∀i X,(i,some X)∈ef-> ∃p,A'.pl i=some p/\dd A' O' w' X p/\ ∀b,b4 p=some b->b∈O'/\(w.heap.size<=b\/ ∃j Y q,(j,Y)∈ef/\A.pl j=some q/\b4 q=some b)
 dj: ∀i j X Y p q b,i≠j->(i,some X)∈ef->(j,some Y)∈ef->A'.pl i=some p->A'.pl j=some q->b4 p=some b->b4 q≠some b
 nd: ∀i X Y,(i,X)∈ef->(i,Y)∈ef->X=Y
 lv: ∀i X p,(i,X)∈ef->A.pl i=some p-> ∃Z,g i=some Z
 pl: ∀i,A'.pl i=A.pl i\/(A.pl i=ζi/\ ∃X,(i,X)∈ef)
structure cf (A:Pl) (O:Γ) (w:World) (g:Nat->Option (Ob S)) (ef:Up S) (A':Pl) (O':Γ) (w':World):Prop where
 le:A.le A'
 tr:Tr O w O' w'
 ob:OB O' w'
 keep: ∀b,b∈O->(∀i X p,(i,X)∈ef->A.pl i=some p->b4 p≠some b)->w'.heap[b]? =w.heap[b]? /\b∈O'
 al: ∀i X,(i,some X)∈ef-> ∃p,A'.pl i=some p/\dd A' O' w' X p/\ ∀b,cD w' X p b->b∈O'/\(w.heap.size<=b\/ ∃j Y q Z,(j,Y)∈ef/\g j=some Z/\A.pl j=some q/\cD w Z q b)
 dj: ∀i j X Y p q b,i≠j->(i,some X)∈ef->(j,some Y)∈ef->A'.pl i=some p->A'.pl j=some q->cD w' X p b-> ¬cD w' Y q b
 nd: ∀i X Y,(i,X)∈ef->(i,Y)∈ef->X=Y
 lv: ∀i X p,(i,X)∈ef->A.pl i=some p-> ∃Z,g i=some Z
 pl: ∀i,A'.pl i=A.pl i\/(A.pl i=ζi/\ ∃X,(i,X)∈ef)
 nt: ∀i X Z,(i,some X)∈ef->g i=some Z->Z.nt=true->X.nt=true
theorem k8.up {g:Nat->Option (Ob S)} {ef:Up S} (h:k8 A O w g ef A' O' w') (hn: ∀i X,(i,some X)∈ef->X.nt=true):cf A O w g ef A' O' w' where
 le:=h.le
 tr:=h.tr
 ob:=h.ob
 keep:=h.keep
 al i X hi:=by
  obtain⟨p,h1,a,c⟩:=h.al i X hi;refine⟨p,h1,a,λb o=>?_⟩;obtain⟨d,e⟩:=c b (eQ (hn i X hi) o);refine⟨d,e.imp id ?_⟩;rintro ⟨j,Y,q,f,k,r⟩;obtain⟨Z,n⟩:=h.lv j Y q f k;exact⟨j,Y,q,Z,f,n,k,.inl r⟩
 dj i j X Y p q b l h1 a c d e m:=h.dj i j X Y p q b l h1 a c d (eQ (hn i X h1) e) (eQ (hn j Y a) m)
 nd:=h.nd
 lv:=h.lv
 pl:=h.pl
 nt i X Z h1 _ _:=hn i X h1
theorem ee {i:Nat}: ∀ {ef:Up S} {g:Nat->Option (Ob S)},(∀X,(i,X)∉ef)->b9 g ef i=g i
 |[],g,_=>rfl
 |(j,X)::r,g,h=>by
  simp only[b9];rw[ee (λY a=>h Y (ξ4 _ a))];have c:ε j i=false:=by
   cases b:ε j i with
   |false=>rfl
   |true=>exact absurd (π) (by have:=δ b;subst this;exact h X)
  rw[c];rfl
theorem me {i:Nat} {X:Option (Ob S)}: ∀ {ef:Up S} {g:Nat->Option (Ob S)},(i,X)∈ef->(∀Y,(i,Y)∈ef->Y=X)->b9 g ef i=X
 |(j,Y)::r,g,h,hu=>by
  simp only[b9]
  by_cases b: ∃Z,(i,Z)∈r
  ·obtain⟨Z,a⟩:=b;have:=hu Z (ξ4 _ a);subst this;exact me a λW c=>hu W (ξ4 _ c)
  ·rw[ee (λZ a=>b ⟨Z,a⟩)];rcases ξd.1 h with e|e
   ·cases e;simp
   ·exact absurd ⟨X,e⟩ b
theorem bW.cg {g:Nat->Option (Ob S)} {ef:Up S} (h:bW A O w g) (hO:OB O w) (e:cf A O w g ef A' O' w'):bW A' O' w' (b9 g ef):=by
 have out: ∀i X,(∀Y,(i,Y)∉ef)->b9 g ef i=some X->g i=some X:=λi X hi hX=>by rw[ee hi] at hX;exact hX
 have gI: ∀i X Y,(i,Y)∈ef->b9 g ef i=some X->(i,some X)∈ef:=λi X Y hi hX=>by
  rw[me hi λZ s=>e.nd i Z Y s hi] at hX;subst hX;exact hi
 have C: ∀i X p b,(∀Y,(i,Y)∉ef)->g i=some X->A.pl i=some p->cD w X p b-> ∀j Y q Z,(j,Y)∈ef->g j=some Z->A.pl j=some q-> ¬cD w Z q b:=by
  intro i X p b hi hX hp d j Y q Z f s l;exact h.f' i j X Z p q b (λJ=>by subst J;exact hi Y f) hX s hp l d
 have same: ∀i X p,(∀Y,(i,Y)∉ef)->g i=some X->A.pl i=some p-> ∀b,cD w X p b->w'.heap[b]? =w.heap[b]? /\b∈O':=λi X p hi hX hp b d=>
  e.keep b (h.gE hX hp d) λj Y q f l=>by
   obtain⟨Z,s⟩:=e.lv j Y q f l;exact λm=>C i X p b hi hX hp d j Y q Z f s l (.inl m)
 have back: ∀i X p b,(∀Y,(i,Y)∉ef)->g i=some X->A.pl i=some p->cD w' X p b->cD w X p b:=λi X p b hi hX hp=>ky λc I=>(same i X p hi hX hp c (.inl I)).1;have z: ∀i X p,g i=some X->A'.pl i=some p->A.pl i=some p:=λi X p hX hp=>by
  obtain⟨M,n,_⟩:=h.al i X hX;have:=e.le.at_ _ _ n;rw[hp] at this;cases this;exact n
 have B: ∀i j X Y p q b,(i,some X)∈ef->(∀Z,(j,Z)∉ef)->g j=some Y->A'.pl i=some p->A'.pl j=some q->cD w' X p b-> ¬cD w' Y q b:=by
  intro i j X Y p q b hi f a hp l d m;obtain⟨M,n,_,H⟩:=e.al i X hi;rw[hp] at n;cases n;have u:=z j Y q a l;have m:=back j Y q b f a u m;rcases(H b d).2 with N|⟨k,Z,r,V,hk,G,K,L⟩
  ·have:=hO b (h.gE a u m);omega
  ·exact C j Y q b f a u m k Z r V hk G K L
 constructor
 ·intro i X hX
  by_cases hi: ∃Y,(i,Y)∈ef
  ·obtain⟨Y,a⟩:=hi;obtain⟨p,h1,o,D⟩:=e.al i X (gI i X Y a hX);exact⟨p,h1,o,λb d=>(D b (.inl d)).1⟩
  ·have t: ∀Y,(i,Y)∉ef:=λY a=>hi ⟨Y,a⟩;have E:=out i X t hX;obtain⟨p,h1,o,D⟩:=h.al i X E;have hk:=same i X p t E h1;exact⟨p,e.le.at_ _ _ h1,o.keep e.tr e.le hk,λb d=>(hk b (.inl d)).2⟩
 ·intro i j X Y p q b F hX a hp l d
  by_cases hi: ∃Z,(i,Z)∈ef
  ·obtain⟨Z,s⟩:=hi;have h1:=gI i X Z s hX
   by_cases f: ∃Z,(j,Z)∈ef
   ·obtain⟨x,y⟩:=f;exact e.dj i j X Y p q b F h1 (gI j Y x y a) hp l d
   ·have v: ∀Y,(j,Y)∉ef:=λY a=>f ⟨Y,a⟩;exact B i j X Y p q b h1 v (out j Y v a) hp l d
  ·have t: ∀Y,(i,Y)∉ef:=λY a=>hi ⟨Y,a⟩;have h1:=out i X t hX
   by_cases f: ∃Z,(j,Z)∈ef
   ·obtain⟨x,y⟩:=f;intro m;exact B j i Y X q p b (gI j Y x y a) t h1 l hp m d
   ·have v: ∀Y,(j,Y)∉ef:=λY a=>f ⟨Y,a⟩;have o:=out j Y v a;have n:=z i X p h1 hp;have u:=z j Y q o l;exact λm=>h.f' i j X Y p q b F h1 o n u (back i X p b t h1 n d) (back j Y q b v o u m)
theorem cf.none {g:Nat->Option (Ob S)} (hO:OB O w):cf A O w g [] A O w:=
 ⟨Pl.le.refl A,Tr.refl O w,hO,λb a _=>⟨rfl,a⟩,(λ_ _ h=>nomatch h),(λ_ _ _ _ _ _ _ _ h=>nomatch h),(λ_ _ _ h=>nomatch h),(λ_ _ _ h=>nomatch h),(λ_=>.inl rfl),(λ_ _ _ h=>nomatch h)⟩
def Pl.put (A:Pl) (i:Nat) (p:Value):Pl:=⟨λj=>bif ε i j then some p else A.pl j,A.ls⟩
theorem Pl.ff (A:Pl) (i:Nat) (p:Value):(A.put i p).pl i=some p:=by simp[Pl.put]
theorem Pl.kT {A:Pl} {i j:Nat} {p:Value} (h:i≠j):(A.put i p).pl j=A.pl j:=by
 have:ε i j=false:=by
  cases a:ε i j with
  |false=>rfl
  |true=>exact absurd (δ a) h
 simp[Pl.put,this]
theorem Pl.kS {A:Pl} {i:Nat} {p:Value} (h:A.pl i=ζi):A.le (A.put i p):=
 ⟨λj q a=>(Pl.kT (λe=>by subst e;rw[h] at a;cases a)).trans a,rfl⟩
def cQ (A:Pl) (O:Γ) (w:World) (env:a1 S) (a:Act):Prop:= ∀s b,a1.get env s=some b->b.rel A O w (a.tmps.getD s undef)
theorem cQ.tr {env:a1 S} {a:Act} (h:cQ A O w env a) (e:Tr O w O' w') (c:A.le A'):cQ A' O' w' env a:=λs b d=>(h s b d).tr e c
def cN (K:Kit S) (O:Γ) (w:World):Prop:= ∀g t x,K.c_ g=some ⟨t,x⟩->(S.ty t).ptr.is O w (.pointer (some ⟨g,0,none⟩)) x
theorem cN.tr {K:Kit S} (h:cN K O w) (b:Tr O w O' w'):cN K O' w':=λg t x a=>Ty.is.tr (h g t x a) b
structure b6 (K:Kit S) (P:Program):Prop where
 Θ:K.Θ.ok P
 sl: ∀(t:Nat) (I:uz S t),K.sl t=some I->(S.ty t).agg=false/\(∀(O:Γ) (w:World) (v:Value) (x:S.El t),(S.ty t).is O w v x->(S.ty I.e).slice.is O w v (I.to x))/\ ∀(O:Γ) (w:World) (v:Value) (xs:List (S.El I.e)),(S.ty I.e).slice.is O w v xs->(S.ty t).is O w v (I.of xs)
 row: ∀(e:Nat) (I:ts S e),K.row e=some I->(S.ty I.t).agg=false/\ ∀(O:Γ) (w:World) (v:Value) (xs:List (S.El e)),(S.ty e).slice.is O w v xs->(S.ty I.t).is O w v (I.of xs)
 bl: ∀(A:Pl) (O:Γ) (w:World) (t:Nat) (x:S.El t) (cs:Γb),(S.ty t).rep O w cs x->bF A O w (K.bl t x).cells cs
 cls: ∀(A:Pl) (O:Γ) (w:World) (t:Nat) (ls:List (LV S)) (x:S.El t) (cs:Γb),K.cls t ls=some x->bF A O w ls cs->(S.ty t).rep O w cs x
 pA: ∀(A:Pl) (O:Γ) (w:World) (t:Nat) (ls ms:List (LV S)) (b:Bool) (xs ys:Γb) (ox oy:Operand),K.pA t ls ms=some b->bF A O w ls xs->bF A O w ms ys->
  (do eqGuard .eql t ox oy (.agg xs.toArray) (.agg ys.toArray);binOp .eql t (.agg xs.toArray) (.agg ys.toArray):Sem Value).run P w= .ok (.bool b) w/\
  (do eqGuard .neq t ox oy (.agg xs.toArray) (.agg ys.toArray);binOp .neq t (.agg xs.toArray) (.agg ys.toArray):Sem Value).run P w= .ok (.bool (!b)) w
variable {K:Kit S} {P:Program} {env:a1 S} {a:Act}
theorem dL (he:cQ A O w env a) (d:cN K O w) {x:Operand} {b:AV S} (h:de K env x=some b):b.rel A O w (a.eval x):=by
 cases x with
 |tmp t=>exact he t b h
 |const v=>
  simp only[de] at h;cases c:v.oneCell'<;>rw[c] at h
  ·cases h
  ·cases h;exact⟨rfl,c⟩
 |global g=>
  simp only[de] at h;split at h
  ·rename_i t x e;cases h;exact⟨⟨g,0,ζi⟩,rfl,d g t x e⟩
  ·cases h
 |func f=>simp only[de] at h;cases h;exact⟨rfl,rfl⟩
theorem lr (he:cQ A O w env a) (c:cN K O w): ∀ {l:List Operand} {aka:List (aB S)},g' K env l=some aka->cI A O w aka (l.map a.eval)
 |[],aka,h=>by cases h;rfl
 |x::r,aka,h=>by
  simp only[g'] at h;split at h
  ·rename_i b d;split at h
   ·rename_i e has;cases h;exact⟨_,_,rfl,dL he c d,lr he c has⟩
   ·cases h
  ·cases h
theorem cc (he:cQ A O w env a) (b:cN K O w) {x:Operand} {l:LV S} (h:cb K env x=some l):l.rel A O w [a.eval x]:=by
 unfold cb at h;split at h
 ·rename_i l' hl;cases h;exact dL he b hl
 ·cases h
theorem ij (he:cQ A O w env a) (b:cN K O w) {x:Operand} {n:Int} (h:jM K env x=some n): ∃k,a.eval x= .int k n:=by
 unfold jM at h;split at h
 ·rename_i k c hl;cases h;have:=(dL he b hl).1;simp at this;exact⟨k,this⟩
 ·cases h
theorem eg {u x:Value} (h:(LV.v u:LV S).rel A O w [x]):x=u:=by have:=h.1;simpa using this
theorem ad2 (he:cQ A O w env a): ∀l,Has a.tmps.size (lQ env l) a.defers a:=by
 intro l;refine⟨rfl,rfl,?_⟩
 induction l with
 |nil=>intro i v h;simp[lQ,Env.get] at h
 |cons s r d=>
  intro i v h;simp only[lQ] at h;split at h
  ·rename_i b g;split at h
   ·rename_i u hu;simp only[Env.get] at h;cases c:ε s i with
    |true=>
     rw[c] at h;have e:=δ c;subst e;simp only[cond_true,ι] at h;subst h;have f:=he s b g;unfold AV.known at hu;split at hu
     ·cases hu;exact eg (S:=S) (A:=A) (O:=O) (w:=w) f
     ·cases hu
    |false=>rw[c] at h;exact d i v h
   ·exact d i v h
  ·exact d i v h
def YO (a:Act) (bD:Value->World->Prop):Exit->Act->World->Prop
 | .panic b,a',w'=> ∃u,b=[{v:=u,recovered:=false}]/\a'=a/\bD u w'
 |_,_,_=>False
def iB (P:Program) (rr:Option Nat) (o:Oper) (a:Act) (w:World) (post bD:Value->World->Prop):Prop:=o.wpIn (fw rr) 0 P a w (λa' w'=> ∃v,a'=a.put o.dst v/\post v w') (YO a bD)
variable {rr:Option Nat} {o:Oper} {post bD:Value->World->Prop}
theorem Si {v:Value} (b: ∀c,o.op≠ .defer c) (d:(execOp a.eval o).run P w= .ok (.value v) w') (h:post v w'):iB P rr o a w post bD:=by
 refine⟨λ_ _=>trivial,?_⟩;rw[ξl _ _ _ b,d];exact⟨v,rfl,h⟩
theorem afj (b: ∀c,o.op≠ .defer c) (d:(execOp a.eval o).run P w= .ok .skip w') (h:post undef w'):iB P rr o a w post bD:=by
 refine⟨λ_ _=>trivial,?_⟩;rw[ξl _ _ _ b,d];exact⟨undef,rfl,h⟩
def Sound (K:Kit S) (P:Program) (_:Option Nat) (o:Oper) (env:a1 S) (g:Nat->Option (Ob S)) (nx:Nat) (b:AV S) (up:Up S) (nw:AH S):Prop:= ∀(rr:Option Nat) (A:Pl) (O:Γ) (w:World) (a:Act),cQ A O w env a->bW A O w g->OB O w->cN K O w->(∀j,j<nw.length->A.pl (nx+j)=ζi)->iB P rr o a w (λv w'=> ∃A' O',b.rel A' O' w' v/\cf A O w g (up++news nx nw) A' O' w') (λ_ _=>False)
end
section
variable {S:bm} {A:Pl} {O:Γ} {w:World}
def LV.arr:LV S->Option (Nat×(Nat->LV S))
 | .bA k n gs=>some (n,λj=>.v (.int k (ao gs j)))
 | .cA n bs=>some (n,λj=>.v (.bool (ck bs j)))
 |_=>none
theorem RX {k:IntKind} {gs:Γa} {j:Nat} (h:j<gs.length):(gs.map (ξr k))[j]? =some (.int k (ao gs j)):=by
 unfold ao;rw[ξo,ξ7 h];rfl
theorem RV {bs:List Bool} {j:Nat} (h:j<bs.length):(bs.map ξN)[j]? =some (.bool (ck bs j)):=by
 unfold ck;rw[ξo,ξ7 h];rfl
theorem abe {l:LV S} {n:Nat} {c:Nat->LV S} {ys:Γb} (h:l.arr=some (n,c)) (a:l.rel A O w ys):ys.length=n/\ ∀j,j<n-> ∃u,ys[j]? =some u/\(c j).rel A O w [u]:=by
 cases l with
 |bA k m gs=>cases h;obtain⟨h1,rfl⟩:=a;exact⟨by simp[h1],λj b=>⟨_,RX (by omega),rfl,rfl⟩⟩
 |cA m bs=>cases h;obtain⟨h1,rfl⟩:=a;exact⟨by simp[h1],λj b=>⟨_,RV (by omega),rfl,rfl⟩⟩
 |_=>cases h
theorem Nt {l:LV S} (h:l.arr=none):l.sz=1:=by cases l<;>first|rfl|cases h
theorem take_one {xs:Γb} {j:Nat} {u:Value} (h:xs[j]? =some u):(xs.drop j).take 1=[u]:=by
 obtain⟨hl,he⟩:=ν.1 h;rw[ξG hl,List.take_succ_cons,ζa,he]
def Nq (m:Nat) (c:Nat->LV S) (l:LV S) (rec:Nat->Nat->Option (List (LV S))) (off n:Nat):Option (List (LV S)):=
 bif ξ9 m off then rec (off-m) n
 else bif ε n 0 then some []
 else bif ε n 1 then some [c off]
 else bif ε off 0&&ξ9 m n then(match rec 0 (n-m) with|some r=>some (l::r)|none=>none)
 else none
def RZ (l:LV S) (rec:Nat->Nat->Option (List (LV S))) (off n:Nat):Option (List (LV S)):=
 match off with
 |o+1=>rec o n
 |0=>match n with
  |0=>some []
  |m+1=>match rec 0 m with|some r=>some (l::r)|none=>none
theorem abK {l:LV S} {m:Nat} {c:Nat->LV S} (h:l.arr=some (m,c)) (ls:List (LV S)) (off n:Nat):d_ (l::ls) off n=Nq m c l (d_ ls) off n:=by
 cases l<;>first|(cases h;rfl)|cases h
theorem abL {l:LV S} (h:l.arr=none) (ls:List (LV S)) (off n:Nat):d_ (l::ls) off n=RZ l (d_ ls) off n:=by
 cases l<;>first|(cases off<;>cases n<;>rfl)|cases h
theorem FB {m n:Nat} (h:ξ9 m n=false):n<m:=by
 rcases ξA n m with h1|h1
 ·exact h1
 ·rw[Nat.ble_eq.mpr h1] at h;cases h
theorem hc: ∀ {ls:List (LV S)} {off n:Nat} {i:List (LV S)} {xs:Γb},d_ ls off n=some i->bF A O w ls xs->bF A O w i ((xs.drop off).take n)/\off+n<=xs.length
 |[],off,n,i,xs,h,e=>by
  simp only[d_] at h;cases a:(ε n 0&&ε off 0)<;>rw[a] at h
  ·cases h
  ·cases h;simp only[μ] at a;have h1:=δ a.1;have d:=δ a.2;subst h1;subst d;rw[show xs=[] from e];exact⟨rfl,ξ3 _⟩
 |l::ls,off,n,i,xs,h,⟨ys,zs,v,h1,d⟩=>by
  subst v;cases f:l.arr with
  |none=>
   rw[abL f] at h;have hlen:=h1.len;rw[Nt f] at hlen
   match ys,hlen with
   |[y],_=>
   unfold RZ at h;split at h
   ·rename_i o;obtain⟨b,j⟩:=hc h d;exact⟨by simpa using b,by simp;omega⟩
   ·split at h
    ·cases h;exact⟨by simp[bF],by simp⟩
    ·rename_i m;split at h
     ·rename_i r e;cases h;obtain⟨b,j⟩:=hc e d;exact⟨⟨[y],zs.take m,by simp,h1,by simpa using b⟩,by simp;omega⟩
     ·cases h
  |some x=>
   obtain⟨m,c⟩:=x;rw[abK f] at h;obtain⟨hl,k⟩:=abe f h1;unfold Nq at h;cases a:ξ9 m off<;>rw[a] at h
   ·have p:=FB a;simp only[cond_false] at h;cases q:ε n 0<;>rw[q] at h
    rotate_left
    ·cases h;have:=δ q;subst this;exact⟨by simp[bF],by simp;omega⟩
    simp only[cond_false] at h;cases s:ε n 1<;>rw[s] at h
    ·simp only[cond_false] at h;cases g:(ε off 0&&ξ9 m n)<;>rw[g] at h
     ·cases h
     ·simp only[cond_true] at h;simp only[μ] at g;have p:=δ g.1;have hn:=ο g.2;subst p;split at h
      ·rename_i r e;cases h;obtain⟨b,j⟩:=hc e d;refine⟨⟨ys,_,?_,h1,b⟩,by simp at j ⊢;omega⟩;simp only[List.drop_zero];rw[ξY,hl,ξ5 (by omega)]
      ·cases h
    ·cases h;have:=δ s;subst this;obtain⟨u,hu,t⟩:=k off p;have k:(ys++zs)[off]? =some u:=by rw[ξH (by omega)];exact hu
     rw[take_one k];exact⟨⟨_,[],rfl,t,rfl⟩,by simp;omega⟩
   ·simp only[cond_true] at h;have hn:=ο a;obtain⟨b,j⟩:=hc h d;refine⟨?_,by simp;omega⟩;rw[ξJ,ξz (by omega),hl];exact b
theorem n3 {ys zs us:Γb} {m off:Nat} (hl:ys.length=m) (h:m<=off):putAt (ys++zs) off us=ys++putAt zs (off-m) us:=by
 subst hl;unfold putAt;rw[ξY,ξ5 h,ξJ,ξz (by omega)];simp
 congr 1
 omega
theorem xW {ys zs us vs:Γb} (hl:us.length=ys.length):putAt (ys++zs) 0 (us++vs)=us++putAt zs 0 vs:=by
 unfold putAt;simp only[ζa,ζ2,ξs,φ,ζf];rw[ξJ,ξz (by omega)];simp
 congr 1
 omega
theorem xY {xs:Γb} (off:Nat):putAt xs off []=xs:=by simp[putAt]
theorem oe {α:Type} (f:α->Value) (L:List α) (j:Nat) (x:α) (a:j<L.length):putAt (L.map f) j [f x]=(L.set j x).map f:=aee f L j x a
theorem q7 {ys zs us:Γb} {off:Nat} (h:off+us.length<=ys.length):putAt (ys++zs) off us=putAt ys off us++zs:=by
 unfold putAt;rw[List.take_append_of_le_length (by omega),List.drop_append_of_le_length (by omega)];simp
def IK (l:LV S) (ls:List (LV S)) (rec:Nat->List (LV S)->Option (List (LV S))) (off:Nat) (ns:List (LV S)):Option (List (LV S)):=
 match off with
 |o+1=>(match rec o ns with|some r=>some (l::r)|none=>none)
 |0=>match ns with
  |[]=>some (l::ls)
  |x::a=>bif ε x.sz 1 then(match rec 0 a with|some r=>some (x::r)|none=>none)
   else match x with
    | .bA k m gs=>(match rec (m-1) a with
     |some r=>(match d_ r (m-1) (dQ r-(m-1)) with
      |some rest=>bif ξ9 1 m then some (.bA k m gs::rest) else none
      |none=>none)
     |none=>none)
    | .cA m bs=>(match rec (m-1) a with
     |some r=>(match d_ r (m-1) (dQ r-(m-1)) with
      |some rest=>bif ξ9 1 m then some (.cA m bs::rest) else none
      |none=>none)
     |none=>none)
    |_=>none
theorem afF {l:LV S} (h:l.arr=none) (ls:List (LV S)) (off:Nat) (ns:List (LV S)):b5 (l::ls) off ns=IK l ls (b5 ls) off ns:=by
 cases l<;>first|(cases off<;>cases ns<;>rfl)|cases h
theorem afC {ys zs a u2:Γb} {m:Nat} (d:ys.length=1) (hm:a.length=m) (h1:1<=m) (hl:m-1+u2.length<=zs.length):putAt (ys++zs) 0 (a++u2)=a++(putAt zs (m-1) u2).drop (m-1):=by
 unfold putAt;simp only[ζa,ζ2,ξs,φ,hm,ζf]
 congr 1
 have c:(zs.take (m-1)).length=m-1:=by rw[ψ];omega
 have b: ∀(X Y:Γb) (n:Nat),X.length=n->(X++Y).drop n=Y:=λX Y n h=>by subst h;simp
 rw[b _ _ _ c,show m+u2.length=ys.length+(m-1+u2.length) by omega,ξJ];simp
theorem afG {l:LV S} {ls:List (LV S)} (j: ∀ {off:Nat} {ns f:List (LV S)} {xs us:Γb},b5 ls off ns=some f->bF A O w ls xs->bF A O w ns us->bF A O w f (putAt xs off us)/\off+us.length<=xs.length)
  (s:l.arr=none) {off:Nat} {ns f:List (LV S)} {ys zs us:Γb} (h:IK l ls (b5 ls) off ns=some f) (h1:l.rel A O w ys) (i:bF A O w ls zs) (hn:bF A O w ns us):bF A O w f (putAt (ys++zs) off us)/\off+us.length<=(ys++zs).length:=by
 have hlen:=h1.len;rw[Nt s] at hlen;have whole:bF A O w (l::ls) (ys++zs):=⟨ys,zs,rfl,h1,i⟩;unfold IK at h;split at h
 ·rename_i o;split at h
  ·rename_i r e;cases h;obtain⟨g,n⟩:=j e i hn;exact⟨⟨ys,_,by rw[n3 hlen (by omega)];rfl,h1,g⟩,by simp;omega⟩
  ·cases h
 ·split at h
  ·cases h;rw[show us=[] from hn,xY];exact⟨whole,by simp⟩
  ·rename_i x t;obtain⟨c,u2,rfl,b,q⟩:=hn;cases p:ε x.sz 1<;>rw[p] at h
   ·simp only[cond_false] at h;have fin: ∀ {m:Nat} {x:LV S} {r rest:List (LV S)},c.length=m->x.rel A O w c->b5 ls (m-1) t=some r->d_ r (m-1) (dQ r-(m-1))=some rest->ξ9 1 m=true->bF A O w (x::rest) (putAt (ys++zs) 0 (c++u2))/\0+(c++u2).length<=(ys++zs).length:=by
     intro m x r rest hm e hp d a;have a:=ο a;obtain⟨p1,p2⟩:=j hp i q;obtain⟨g,n⟩:=hc d p1;have v:=gR p1;refine⟨⟨c,_,?_,e,g⟩,by simp at n ⊢;omega⟩;rw[afC hlen hm a p2,ξ5 (by rw[ξe];omega)]
    split at h
    ·rename_i k m gs;split at h
     ·rename_i r hp;split at h
      ·rename_i rest d;cases a:ξ9 1 m<;>rw[a] at h
       ·cases h
       ·cases h;exact fin b.len b hp d a
      ·cases h
     ·cases h
    ·rename_i m gs;split at h
     ·rename_i r hp;split at h
      ·rename_i rest d;cases a:ξ9 1 m<;>rw[a] at h
       ·cases h
       ·cases h;exact fin b.len b hp d a
      ·cases h
     ·cases h
    ·cases h
   ·simp only[cond_true] at h;have u:=δ p;have hu:=b.len;split at h
    ·rename_i r e;cases h;obtain⟨g,n⟩:=j e i q;exact⟨⟨c,_,by rw[xW (by omega)],b,g⟩,by simp;omega⟩
    ·cases h
theorem jb: ∀ {ls:List (LV S)} {off:Nat} {ns n:List (LV S)} {xs us:Γb},b5 ls off ns=some n->bF A O w ls xs->bF A O w ns us->bF A O w n (putAt xs off us)/\off+us.length<=xs.length
 |[],off,ns,n,xs,us,h,g,hn=>by
  simp only[b5] at h;split at h
  ·cases d:ε off 0<;>rw[d] at h
   ·cases h
   ·cases h;have:=δ d;subst this;rw[show xs=[] from g,show us=[] from hn];exact⟨rfl,ξ3 _⟩
  ·cases h
 |l::ls,off,ns,n,xs,us,h,⟨ys,zs,z,h1,e⟩,hn=>by
  subst z;have hlen:=h1.len;cases l with
  |bA k m gs=>
   obtain⟨g1,rfl⟩:=h1;have hlen:(gs.map (ξr k)).length=m:=hlen;simp only[b5] at h;cases d:ξ9 m off<;>rw[d] at h
   ·have j:=FB d;simp only[cond_false] at h;split at h
    ·cases h;rw[show us=[] from hn,xY];exact⟨⟨_,_,rfl,⟨g1,rfl⟩,e⟩,by simp;omega⟩
    ·rename_i u x;cases hk:sameKind k u<;>rw[hk] at h
     ·cases h
     ·cases h;have y:=eU hk;subst y;obtain⟨t,u2,rfl,⟨rfl,_⟩,rfl⟩:=hn;have hm:putAt (gs.map (ξr k)++zs) off [ξr k x]=(gs.set off x).map (ξr k)++zs:=by
       rw[q7 (by simp;omega),oe _ _ _ _ (by omega)]
      refine⟨⟨(gs.set off x).map (ξr k),zs,hm,⟨by simp[g1],rfl⟩,e⟩,by simp;omega⟩
    ·rename_i u m' v B;cases f:(ε off 0&&ε m m')<;>rw[f] at h
     ·cases h
     ·simp only[cond_true] at h;simp only[μ] at f;have p:=δ f.1;have q:=δ f.2;subst p;subst q;split at h
      ·rename_i r g;cases h;obtain⟨t,u2,rfl,⟨g3,rfl⟩,s⟩:=hn;obtain⟨i,o⟩:=jb g e s;refine⟨⟨_,_,xW (by simp;omega),⟨g3,rfl⟩,i⟩,by simp at o ⊢;omega⟩
      ·cases h
    ·cases h
   ·simp only[cond_true] at h;have j:=ο d;split at h
    ·rename_i r g;cases h;obtain⟨i,o⟩:=jb g e hn;exact⟨⟨_,_,n3 hlen j,⟨g1,rfl⟩,i⟩,by simp at hlen ⊢;omega⟩
    ·cases h
  |cA m gs=>
   obtain⟨g1,rfl⟩:=h1;have hlen:(gs.map ξN).length=m:=hlen;simp only[b5] at h;cases d:ξ9 m off<;>rw[d] at h
   ·have j:=FB d;simp only[cond_false] at h;split at h
    ·cases h;rw[show us=[] from hn,xY];exact⟨⟨_,_,rfl,⟨g1,rfl⟩,e⟩,by simp;omega⟩
    ·rename_i x;cases h;obtain⟨t,u2,rfl,⟨rfl,_⟩,rfl⟩:=hn;have hm:putAt (gs.map ξN++zs) off [ξN x]=(gs.set off x).map ξN++zs:=by
      rw[q7 (by simp;omega),oe _ _ _ _ (by omega)]
     refine⟨⟨(gs.set off x).map ξN,zs,hm,⟨by simp[g1],rfl⟩,e⟩,by simp;omega⟩
    ·rename_i m' v B;cases f:(ε off 0&&ε m m')<;>rw[f] at h
     ·cases h
     ·simp only[cond_true] at h;simp only[μ] at f;have p:=δ f.1;have q:=δ f.2;subst p;subst q;split at h
      ·rename_i r g;cases h;obtain⟨t,u2,rfl,⟨g3,rfl⟩,s⟩:=hn;obtain⟨i,o⟩:=jb g e s;refine⟨⟨_,_,xW (by simp;omega),⟨g3,rfl⟩,i⟩,by simp at o ⊢;omega⟩
      ·cases h
    ·cases h
   ·simp only[cond_true] at h;have j:=ο d;split at h
    ·rename_i r g;cases h;obtain⟨i,o⟩:=jb g e hn;exact⟨⟨_,_,n3 hlen j,⟨g1,rfl⟩,i⟩,by simp at hlen ⊢;omega⟩
    ·cases h
  |_=>
   rw[afF rfl] at h;refine afG (λ{off ns n xs us} a b c=>jb a b c) rfl h h1 e hn
end
section
variable {S:bm} {K:Kit S} {P:Program} {rr:Option Nat} {o:Oper} {env:a1 S} {g:Nat->Option (Ob S)} {nx:Nat} {R:Type} {z:R} {k:AV S->Up S->AH S->Option R}
def Fm (K:Kit S) (P:Program) (o:Oper) (env:a1 S) (g:Nat->Option (Ob S)) (b:AV S):Prop:= ∀(A:Pl) (O:Γ) (w:World) (a:Act),cQ A O w env a->bW A O w g->OB O w->cN K O w-> ∃v,(execOp a.eval o).run P w= .ok (.value v) w/\b.rel A O w v
theorem Fm.sound {b:AV S} (f: ∀c,o.op≠ .defer c) (h:Fm K P o env g b):Sound K P rr o env g nx b [] []:=λ_ A O w a he i hO e _=>by
 obtain⟨v,h1,d⟩:=h A O w a he i hO e;exact Si f h1 ⟨A,O,d,cf.none hO⟩
def Good (K:Kit S) (P:Program) (rr:Option Nat) (o:Oper) (env:a1 S) (g:Nat->Option (Ob S)) (nx:Nat) (k:AV S->Up S->AH S->Option R) (z:R):Prop:= ∃a up nw,k a up nw=some z/\Sound K P rr o env g nx a up nw
theorem cS {a:AV S} (b: ∀c,o.op≠ .defer c) (hk:k a [] []=some z) (h:Fm K P o env g a):Good K P rr o env g nx k z:=⟨a,[],[],hk,h.sound b⟩
theorem FE {A:Pl} {O:Γ} {w:World} {i:TI} {ls:List (LV S)} {xs:Γb} {a:aB S} (h:jz (TI.gi i) ls=some a) (c:bF A O w ls xs):a.rel A O w (Dc.valOf i.isAgg xs)/\(i.isAgg=false->xs.length=1):=by
 unfold jz at h;unfold Dc.valOf;have e:TI.gi i=i.isAgg:=rfl;rw[e] at h;cases f:i.isAgg<;>rw[f] at h
 ·simp only[cond_false] at h ⊢;split at h
  ·rename_i l;cases b:ε l.sz 1<;>rw[b] at h
   ·cases h
   ·cases h;obtain⟨ys,zs,rfl,h1,d⟩:=c;have g:=δ b;have hl:=h1.len;rw[show zs=[] from d]
    match ys,hl.trans g with
    |[y],_=>exact⟨h1,λ_=>rfl⟩
  ·cases h
 ·cases h;exact⟨⟨xs,rfl,c⟩,λe=>by cases e⟩
theorem JE {w:World} {a:Act} {t:Nat} {x:Operand} {i:TI} {ad:Addr} {cs:Γb} (c:o.op= .load t x) (h:i.fits P t) (d:a.eval x= .pointer (some ad)) (hl:cs.length=i.size) (b:dJ w ad cs) (h1:i.isAgg=false->i.size=1):
  (execOp a.eval o).run P w= .ok (.value (Dc.valOf i.isAgg cs)) w:=by
 unfold execOp;rw[c];simp[d,l8 h hl b h1]
theorem hF (b d j:Nat):(⟨b,d,none⟩:Addr).add j=⟨b,d+j,none⟩:=by unfold ζ6;split<;>simp_all
theorem abj {w:World} {b t off n:Nat} {vs:Γb} (c:bM w b t vs) (hn:off+n<=vs.length):dJ w ⟨b,off,none⟩ ((vs.drop off).take n):=by
 intro j u a;rw[hF,c.cell];rw[ω] at a;split at a
 ·rw[ξ6] at a;exact a
 ·cases a
theorem NC {w:World} {ad:Addr} {cs:Γb} (h:dJ w ad cs) (off n:Nat):dJ w (ad.add off) ((cs.drop off).take n):=by
 intro j u a;rw[add_add];rw[ω] at a;split at a
 ·rw[ξ6] at a;exact h _ _ a
 ·cases a
theorem nV {α:Type} {T:Ty α} {e B:Nat} {O:Γ} {w:World} {b n c:Nat} {xs:List α} (h:Dc.Own T e B O w (.slice (some ⟨b,0,none⟩) n c) xs):
  ∃cs cur,w.heap[b]? =some (.cells cur e (0,0))/\cur.toList.take cs.length=cs/\bY T O w cs xs/\n=xs.length/\n<=c/\c<=maxLen/\cur.size=c*T.n/\B<=b:=by
 obtain⟨cs,⟨d,h1⟩,f⟩:=h.ex;rcases h1 with⟨a,_⟩|⟨l,cap,cur,a,g,i,hn,hm,j,k⟩
 ·cases a
 ·cases a;exact⟨cs,cur,i,by rw[d];exact k,f,rfl,hn,hm,j,g⟩
theorem gO {α:Type} {T:Ty α} {e B:Nat} {O:Γ} {w:World} {v:Value} {xs:List α} (h:Dc.Own T e B O w v xs):v= .slice none 0 0/\xs=[]\/ ∃b c,v= .slice (some ⟨b,0,none⟩) xs.length c:=by
 obtain⟨cs,⟨g,h1⟩,i⟩:=h.ex;rcases h1 with⟨a,f⟩|⟨d,cap,cur,a,j,k,hn,hm,l,m⟩
 ·exact .inl ⟨a,List.length_eq_zero_iff.1 f⟩
 ·exact .inr ⟨d,cap,a⟩
theorem afn {α:Type} {T:Ty α} {e B:Nat} {O:Γ} {w:World} {b n c j:Nat} {xs:List α} {x:α} (h:Dc.Own T e B O w (.slice (some ⟨b,0,none⟩) n c) xs) (d:xs[j]? =some x):
  ∃cs,T.rep O w cs x/\dJ w ⟨b,j*T.n,none⟩ cs:=by
 obtain⟨cs,cur,h1,g,a,_⟩:=nV h;refine⟨_,a.at_ d,λi u hi=>?_⟩;rw[hF,cell_of_row w b _ cur e (0,0) h1];have hlen:=T.len (a.at_ d);rw[ω] at hi;split at hi
 ·rw[ξ6] at hi;have k:=(ν.1 hi).1;have f:cs[j*T.n+i]? =cur.toList[j*T.n+i]? :=by
   conv=>lhs;rw[<-g]
   rw[ω,if_pos k]
  rw[f] at hi;simpa using hi
 ·cases hi
theorem HR {A:Pl} {O:Γ} {w:World}: ∀ {ls:List (LV S)} {k:IntKind} {gs:Γa} {xs:Γb},iU ls=some (k,gs)->bF A O w ls xs->xs=gs.map (ξr k)
 |[],_,_,_,h,_=>by cases h
 |l::r,k,gs,xs,h,⟨ys,zs,c,h1,a⟩=>by
  subst c;unfold iU at h;split at h
  rotate_left
  ·cases h
  rename_i d x g e;cases e;obtain⟨rfl,_⟩:=h1;split at h
  ·cases h;rw[show zs=[] from a];rfl
  ·split at h
   ·rename_i f i b;cases hk:sameKind d f<;>rw[hk] at h
    ·cases h
    ·cases h;rw[HR b a,eU hk];rfl
   ·cases h
theorem uK {A:Pl} {O:Γ} {w:World}: ∀ {ls:List (LV S)} {gs:List Bool} {xs:Γb},lx ls=some gs->bF A O w ls xs->xs=gs.map ξN
 |[],_,_,h,_=>by cases h
 |l::r,gs,xs,h,⟨ys,zs,c,h1,a⟩=>by
  subst c;unfold lx at h;split at h
  rotate_left
  ·cases h
  rename_i x d e;cases e;obtain⟨rfl,_⟩:=h1;split at h
  ·cases h;rw[show zs=[] from a];rfl
  ·split at h
   ·rename_i f b;cases h;rw[uK b a];rfl
   ·cases h
def iw.cells:iw->Γb
 | .i k gs=>gs.map (ξr k)
 | .b bs=>bs.map ξN
theorem ph {A:Pl} {O:Γ} {w:World} {ls:List (LV S)} {v:iw} {xs:Γb} (h:ki ls=some v) (a:bF A O w ls xs):xs=v.cells:=by
 unfold ki at h;split at h
 ·cases h;obtain⟨ys,zs,rfl,⟨_,rfl⟩,b⟩:=a;rw[show zs=[] from b];simp[iw.cells]
 ·cases h;obtain⟨ys,zs,rfl,⟨_,rfl⟩,b⟩:=a;rw[show zs=[] from b];simp[iw.cells]
 ·cases hi:iU ls with
  |some p=>
   simp only[hi,ι] at h;subst h;exact HR hi a
  |none=>
   simp only[hi] at h;cases c:lx ls with
   |some p=>
    simp only[c,ι] at h;subst h;exact uK c a
   |none=>simp only[c] at h;cases h
theorem Ns {A:Pl} {O:Γ} {w:World} {ls:List (LV S)} {k:IntKind} {gs:Γa} {xs:Γb} {j:Nat} (h:ki ls=some (.i k gs)) (b:bF A O w ls xs) (a:j<xs.length):xs[j]? =some (.int k (ao gs j)):=by
 have:=ph h b;subst this;exact RX (by simpa[iw.cells] using a)
theorem Nr {A:Pl} {O:Γ} {w:World} {ls:List (LV S)} {bs:List Bool} {xs:Γb} {j:Nat} (h:ki ls=some (.b bs)) (c:bF A O w ls xs) (a:j<xs.length):xs[j]? =some (.bool (ck bs j)):=by
 have:=ph h c;subst this;exact RV (by simpa[iw.cells] using a)
theorem adi {t:Nat} {x:Operand} {i:TI} {l:LV S} (Q:b6 K P) (U:o.op= .load t x) (hi:K.Θ.get t=some i) (R:cb K env x=some l) (h:Ie K g i (λa=>k (.s a) [] []) l=some z):Good K P rr o env g nx k z:=by
 have W: ∀c,o.op≠ .defer c:=λc=>by rw[U];simp
 have fin: ∀ {ls:List (LV S)} {F:aB S},jz (TI.gi i) ls=some F->k (.s F) [] []=some z->
   (∀(A:Pl) (O:Γ) (w:World) (a:Act),cQ A O w env a->bW A O w g->OB O w->cN K O w-> ∃ad xs,a.eval x= .pointer (some ad)/\bF A O w ls xs/\dJ w ad xs/\xs.length=i.size)->Good K P rr o env g nx k z:=by
  intro ls F h1 f H;refine cS W f λA O w a he D hO B=>?_;obtain⟨ad,xs,ao,aq,ar,aa⟩:=H A O w a he D hO B;obtain⟨C,G⟩:=FE h1 aq;exact⟨_,JE U (Q.Θ.fits hi) ao aa ar (λe=>aa▸G e),C⟩
 unfold Ie at h;split at h
 ·rename_i b q;split at h
  ·rename_i au cs L;split at h
   ·rename_i ls E;split at h
    ·rename_i F J;refine fin J h λA O w a he D hO B=>?_;obtain⟨m,h1,f⟩:=cc he B R;obtain⟨p,hp,⟨m',vs,rfl,I,d⟩,_⟩:=D.al b _ L;rw[h1] at hp;cases hp;obtain⟨C,G⟩:=hc E d;exact⟨_,_,by simpa using f,C,abj I G,by rw[ψ,ξe];omega⟩
    ·cases h
   ·cases h
  ·cases h
 ·rename_i b q n j;split at h
  ·rename_i au cs L;split at h
   ·rename_i ls E;have cell: ∀(u:Value),(∀(A:Pl) (O:Γ) (w:World) (xs:Γb),bF A O w ls xs->j<xs.length->xs[j]? =some u)->u.oneCell'=true->ε i.size 1&&!(TI.gi i)->k (.s (.one (.v u))) [] []=some z->Good K P rr o env g nx k z:=by
     intro u hu af V hk;simp only[μ,ξp] at V;have Y:=δ V.1;have ag:i.isAgg=false:=V.2;refine cS W hk λA O w a he D hO B=>?_;obtain⟨m,h1,f,N⟩:=cc he B R;obtain⟨p,hp,⟨m',vs,rfl,I,d⟩,_⟩:=D.al b _ L;rw[h1] at hp;cases hp;obtain⟨C,G⟩:=hc E d;have Z:=hu _ _ _ _ C (by rw[ψ,ξe];omega);rw[ω,if_pos N,ξ6] at Z;have ai:dJ w ⟨m,q+j,none⟩ [u]:=λi aw hi=>by
      match i,hi with
      |0,hi=>simp at hi;subst hi;rw[hF,I.cell];simpa using Z
      |i+1,hi=>simp at hi
     refine⟨_,JE (cs:=[u]) U (Q.Θ.fits hi) (by simpa using f) Y.symm ai (λ_=>Y),?_⟩;rw[ag];exact⟨rfl,af⟩
    split at h
    ·rename_i av gs ak;cases M:(ε i.size 1&&!(TI.gi i))<;>rw[M] at h
     ·cases h
     ·exact cell _ (λA O w xs d N=>Ns ak d N) rfl M h
    ·rename_i bs ah;cases M:(ε i.size 1&&!(TI.gi i))<;>rw[M] at h
     ·cases h
     ·exact cell _ (λA O w xs d N=>Nr ah d N) rfl M h
    ·cases h
   ·cases h
  ·cases h
 ·rename_i e r j q;split at h
  ·rename_i ae xs L;cases X:ε e ae<;>rw[X] at h
   ·cases h
   ·simp only[cond_true] at h;have aj:=δ X;subst aj;obtain⟨y,an,h⟩:=bind_some h;split at h
    ·rename_i ls E;split at h
     ·rename_i F J;refine fin J h λA O w a he D hO B=>?_;obtain⟨m,n,c,h1,f⟩:=cc he B R;obtain⟨p,hp,I,_⟩:=D.al r _ L;rw[h1] at hp;cases hp;obtain⟨cs,d,T⟩:=afn I an;obtain⟨C,G⟩:=hc E (Q.bl A O w e y cs d);have:=NC T q i.size;rw[hF] at this;exact⟨_,_,by simpa using f,C,this,by rw[ψ,ξe];omega⟩
     ·cases h
    ·cases h
  ·cases h
 ·rename_i t' y q;split at h
  ·rename_i ls E;split at h
   ·rename_i F J;refine fin J h λA O w a he D hO B=>?_;obtain⟨ad,h1,cs,⟨ab,es,f,_,_,d,T⟩,H⟩:=cc he B R;subst f;have H:Value.pointer (some ad)= .pointer (some ab):=H;cases H;obtain⟨C,G⟩:=hc E (Q.bl A O w t' y es d);exact⟨_,_,by simpa using h1,C,NC T.1 q i.size,by rw[ψ,ξe];omega⟩
   ·cases h
  ·cases h
 ·cases h
end
section
variable {S:bm} {K:Kit S} {P:Program} {rr:Option Nat} {o:Oper} {env:a1 S} {g:Nat->Option (Ob S)} {nx:Nat} {R:Type} {z:R} {k:AV S->Up S->AH S->Option R}
theorem p3 (d:b6 K P) (e: ∀c,o.op≠ .defer c) (h:plain K env o.op (λa=>k a [] [])=some z):Good K P rr o env g nx k z:=by
 unfold plain at h;cases b:ig K.Θ o.op<;>rw[b] at h
 ·cases h
 ·simp only[cond_true] at h;split at h
  ·rename_i v f;cases h1:v.oneCell'<;>rw[h1] at h
   ·cases h
   ·exact cS e h λA O w a he _ _ _=>⟨v,yj d.Θ (ad2 he _) b f,rfl,h1⟩
  ·cases h
theorem O2 (j:b6 K P) {x:Operand} (b:o.op= .move x\/o.op= .assign x) {d:AV S} (i:de K env x=some d) (h:k d [] []=some z):Good K P rr o env g nx k z:=by
 have f: ∀c,o.op≠ .defer c:=λc=>by rcases b with b|b<;>rw[b]<;>simp
 refine cS f h λA O w a he l hO e=>⟨a.eval x,?_,dL he e i⟩;unfold execOp;rcases b with b|b<;>rw[b]<;>rfl
theorem ac_ {x:Operand} {i:Nat} (d:o.op= .extract x i) {aka:List (aB S)} {b:aB S} (n:de K env x=some (.bJ aka)) (m:aka[i]? =some b) (h:k (.s b) [] []=some z):Good K P rr o env g nx k z:=by
 refine cS (λc=>by rw[d];simp) h λA O w a he p hO l=>?_;obtain⟨xs,h1,e⟩:=dL he l n;obtain⟨y,f,j⟩:=S2 e m;refine⟨y,?_,j⟩;unfold execOp;rw[d];simp[h1,η5,f]
theorem Sv {A:Pl} {O:Γ} {w:World} {l:LV S} {x:Value} (hp:l.xb=true) (h:l.rel A O w [x]): ∃ad,x= .pointer (some ad):=by
 cases l with
 |aM i q=>obtain⟨b,_,h⟩:=h;exact⟨_,by simpa using h⟩
 |fa i q n j=>obtain⟨b,_,h,_⟩:=h;exact⟨_,by simpa using h⟩
 |d' e i j q=>obtain⟨b,n,c,_,h⟩:=h;exact⟨_,by simpa using h⟩
 |ptr t d q=>obtain⟨ad,h,_⟩:=h;exact⟨_,by simpa using h⟩
 |_=>cases hp
theorem vT {x:Operand} (b:o.op= .nilCheck x) {l:LV S} (f:cb K env x=some l) (hp:l.xb=true) (h:k (.s (.one l)) [] []=some z):Good K P rr o env g nx k z:=by
 refine cS (λc=>by rw[b];simp) h λA O w a he i hO d=>?_;have hl:=cc he d f;obtain⟨ad,e⟩:=Sv hp hl;refine⟨a.eval x,?_,hl⟩;unfold execOp;rw[b];simp[e]
theorem acI (xs:Γb) (m n:Nat):xs.toArray.extract m (m+n)=((xs.drop m).take n).toArray:=by simp
theorem ac' (C:b6 K P) {t f:Nat} {x:Operand} (p:o.op= .field t x f) {ls r:List (LV S)} {off n:Nat} {l:Bool} {b:aB S} (J:de K env x=some (.s (.agg ls))) (d:nn K t f=some (off,n,l)) (hl:d_ ls off n=some r) (E:jz l r=some b) (h:k (.s b) [] []=some z):Good K P rr o env g nx k z:=by
 refine cS (λc=>by rw[p];simp) h λA O w a he R hO B=>?_;unfold nn at d;split at d
 rotate_left
 ·cases d
 rename_i i hi;cases q:ε i.tag 8<;>rw[q] at d
 ·cases d
 simp only[cond_true] at d;split at d
 rotate_left
 ·cases d
 rename_i Q u F;split at d
 rotate_left
 ·cases d
 rename_i j G;simp only[ι,ξO] at d;obtain⟨rfl,rfl,rfl⟩:=d;obtain⟨xs,h1,y⟩:=dL he B J;obtain⟨N,T⟩:=hc hl y;obtain⟨L,M⟩:=FE E N;refine⟨_,?_,L⟩;have H:=TD (P:=P) (w:=w) (cs:=xs.toArray) (v:=Dc.valOf j.isAgg ((xs.drop u).take j.size)) C.Θ hi (δ q) F G (by
  have e:(ε j.tag 8||ε j.tag 6)=j.isAgg:=rfl;rw[e];cases D:j.isAgg with
  |true=>
   rw[acI];rfl
  |false=>
   have hlen:=M D;rw[ψ,ξe] at hlen;have I:j.size=1:=by omega
   have m:u<xs.length:=by omega
   rw[I,take_one (ξ7 m)];simp[Dc.valOf,m])
 unfold execOp;rw[p];simp[h1,H]
theorem Hg (u:b6 K P) {t f:Nat} {x:Operand} (d:o.op= .fieldAddr t x f) {off n:Nat} {p:Bool} {l l':LV S} (C:cb K env x=some l) (b:nn K t f=some (off,n,p)) (hn:ε n 0=false)
  (hl: ∀(A:Pl) (O:Γ) (w:World) (x:Value),l.rel A O w [x]-> ∃ad,x= .pointer (some ad)/\l'.rel A O w [.pointer (some (ad.add off))]) (h:k (.s (.one l')) [] []=some z):Good K P rr o env g nx k z:=by
 refine cS (λc=>by rw[d];simp) h λA O w a he E hO r=>?_;unfold nn at b;split at b
 rotate_left
 ·cases b
 rename_i i hi;cases m:ε i.tag 8<;>rw[m] at b
 ·cases b
 simp only[cond_true] at b;split at b
 rotate_left
 ·cases b
 rename_i D F v;split at b
 rotate_left
 ·cases b
 rename_i j y;simp only[ι,ξO] at b;obtain⟨rfl,rfl,rfl⟩:=b;obtain⟨ad,h1,q⟩:=hl A O w _ (cc he r C);refine⟨_,?_,q⟩;have B:=TE (P:=P) (w:=w) (A:=ad) u.Θ hi (δ m) v y (by intro e;rw[e] at hn;cases hn);unfold execOp;rw[d];simp[h1,B]
theorem yk {w:World} {t:Nat} {a d:TI} (b:K.Θ.ok P) (h:K.Θ.get t=some a) (g:a.tag=5) (i:K.Θ.get a.e=some d) {ad:Addr} {n c:Nat} {k:IntKind} {j:Int} (f:0<=j) (l:j.toNat<n):
  (ξu t (.slice (some ad) n c) (.int k j)).run P w= .ok (.pointer (some (ad.add (j.toNat*d.size)))) w:=by
 have hu:=(b.fits h).slice g;simp only[η,ξu,asIntOf,κ,ζ,run_underlying hu];rw[if_pos ⟨f,by omega⟩];simp only[η,dW (b.fits i),ζ];rfl
theorem TF {w:World} {t:Nat} {a c:TI} (b:K.Θ.ok P) (g:K.Θ.get t=some a) (f:a.tag=6) (h:K.Θ.get a.e=some c) {ad:Addr} {k:IntKind} {j:Int} (d:0<=j) (i:j.toNat<a.k):
  (ξu t (.pointer (some ad)) (.int k j)).run P w= .ok (.pointer (some (ad.add (j.toNat*c.size)))) w:=by
 have hu:=(b.fits g).array f;simp only[η,ξu,asIntOf,κ,ζ,run_underlying hu,ξy];rw[if_pos ⟨d,by omega⟩];simp only[η,dW (b.fits h),ζ,ξy,κ]
theorem ahY {w:World} {t:Nat} {a f:TI} (o:K.Θ.ok P) (l:K.Θ.get t=some a) (h:a.tag=5) (m:K.Θ.get a.e=some f) {v:Value} {α:Type} {T:Ty α} {xs:List α} {y:α} {O1:Γ} {w1:World} (d:T.slice.is O1 w1 v xs) (hn:T.n=f.size) {k:IntKind} {j:Int} (g:0<=j) (b:xs[j.toNat]? =some y):
  ∃p,(ξu t v (.int k j)).run P w= .ok p w/\T.ptr.is O1 w1 p y:=by
 obtain⟨A,c,rfl,_,_⟩:=eW d;obtain⟨ad,rfl,hp⟩:=JP d b;have i:j.toNat<xs.length:=(ν.1 b).1;exact⟨_,yk o l h m g i,by rw[<-hn];exact hp⟩
theorem w8 {j:Int} {n m:Nat} (h:c6 j n=some m):j=(m:Int)/\m<n:=by
 unfold c6 at h;split at h
 ·cases h;omega
 ·cases h
theorem OX (F:b6 K P) {t:Nat} {x y:Operand} (G:o.op= .indexAddr t x y) (h:xC K env g k t x y=some z):Good K P rr o env g nx k z:=by
 have H: ∀c,o.op≠ .defer c:=λc=>by rw[G];simp
 unfold xC at h;split at h
 rotate_left
 ·cases h
 rename_i i l j hi L M;split at h
 ·rename_i t' xs;split at h
  rotate_left
  ·cases h
  rename_i I hI;split at h
  rotate_left
  ·cases h
  rename_i u C;cases d:(ε i.tag 5&&ε (S.ty I.e).n u.size)<;>rw[d] at h
  ·cases h
  simp only[cond_true,μ] at h d;obtain⟨ah,T,h⟩:=bind_some h;obtain⟨N,R⟩:=kF T;refine cS H h λA O w a he J hO s=>?_;obtain⟨v,f,af,_⟩:=cc he s L;obtain⟨E,hk⟩:=ij he s M;have ag:=(F.sl t' I hI).2.1 O w v xs af;obtain⟨q,aa,ab⟩:=ahY (P:=P) (w:=w) F.Θ hi (δ d.1) C ag (δ d.2) (k:=E) N R;have f:a.eval x=v:=by simpa using f
  refine⟨q,?_,?_⟩
  ·unfold execOp;rw[G];simp[f,hk,aa]
  ·obtain⟨cs,⟨ad,es,V,Y⟩,W⟩:=ab;have X:q= .pointer (some ad):=by rw[W,V];rfl
   exact⟨ad,by rw[X];rfl,cs,⟨ad,es,V,Y⟩,by rw[<-X,W]⟩
 ·rename_i r;split at h
  rotate_left
  ·cases h
  rename_i e xs ae;split at h
  rotate_left
  ·cases h
  rename_i u C;cases d:(ε i.tag 5&&ε (S.ty e).n u.size)<;>rw[d] at h
  ·cases h
  simp only[cond_true,μ] at h d;obtain⟨ah,T,h⟩:=bind_some h;obtain⟨N,R⟩:=kF T;have D:=(ν.1 R).1;refine cS H h λA O w a he J hO s=>?_;obtain⟨v,B,f,_⟩:=cc he s L;obtain⟨E,hk⟩:=ij he s M;obtain⟨p,hp,Z,_⟩:=J.al r _ ae;rw[B] at hp;cases hp;have f:a.eval x=v:=by simpa using f
  rcases gO Z with⟨rfl,rfl⟩|⟨m,c,rfl⟩
  ·simp at D
  ·have:=yk (P:=P) (w:=w) (ad:=⟨m,0,none⟩) (n:=xs.length) (c:=c) (k:=E) F.Θ hi (δ d.1) C N D;refine⟨.pointer (some ((⟨m,0,none⟩:Addr).add (j.toNat*u.size))),?_,m,_,c,B,?_⟩
   ·unfold execOp;rw[G];simp only[f,hk,η,this,ζ];rfl
   ·rw[hF,δ d.2];simp
 ·rename_i b q;split at h
  rotate_left
  ·cases h
  rename_i u C;split at h
  ·rename_i U m;cases d:(ε i.tag 6&&(ξ2 m i.k&&ξ2 0 u.size))<;>rw[d] at h
   ·cases h
   simp only[cond_true,μ] at h d;refine cS H h λA O w a he J hO s=>?_;obtain⟨m',B,f⟩:=cc he s L;have f:a.eval x= .pointer (some ⟨m',q,none⟩):=by simpa using f
   refine⟨.pointer (some ((⟨m',q,none⟩:Addr).add ((ζX m).toNat*u.size))),?_,m',B,?_⟩
   ·unfold execOp;rw[G];have hk:a.eval (Operand.const (ξr U (ζX m)))= .int U (ζX m):=rfl;simp only[f,hk];have:=TF (P:=P) (w:=w) (ad:=⟨m',q,none⟩) (k:=U) (j:=ζX m) F.Θ hi (δ d.1) C (ζ7 m) (ξL.mp d.2.1);simp only[η,this,ζ];rfl
   ·rw[hF];simp
  ·cases d:(ε i.tag 6&&ε u.size 1)<;>rw[d] at h
   ·cases h
   simp only[cond_true,μ] at h d;obtain⟨m,hm,Q⟩:=bind_some h;obtain⟨rfl,D⟩:=w8 hm;refine cS H Q λA O w a he J hO s=>?_;obtain⟨m',B,f⟩:=cc he s L;obtain⟨E,hk⟩:=ij he s M;have f:a.eval x= .pointer (some ⟨m',q,none⟩):=by simpa using f
   have:=TF (P:=P) (w:=w) (ad:=⟨m',q,none⟩) (k:=E) (j:=(m:Int)) F.Θ hi (δ d.1) C (ζ7 m) (by simpa using D);refine⟨.pointer (some ((⟨m',q,none⟩:Addr).add ((m:Int).toNat*u.size))),?_,m',B,?_,D⟩
   ·unfold execOp;rw[G];simp only[f,hk,η,this,ζ];rfl
   ·rw[hF,δ d.2];simp
 ·rename_i b q n;split at h
  rotate_left
  ·cases h
  rename_i u C;cases d:(ε i.tag 5&&ε u.size 1)<;>rw[d] at h
  ·cases h
  simp only[cond_true,μ] at h d;obtain⟨m,hm,Q⟩:=bind_some h;obtain⟨rfl,D⟩:=w8 hm;refine cS H Q λA O w a he J hO s=>?_;obtain⟨m',B,f⟩:=cc he s L;obtain⟨E,hk⟩:=ij he s M;have f:a.eval x= .slice (some ⟨m',q,none⟩) n n:=by simpa using f
  have:=yk (P:=P) (w:=w) (ad:=⟨m',q,none⟩) (n:=n) (c:=n) (k:=E) (j:=(m:Int)) F.Θ hi (δ d.1) C (ζ7 m) (by simpa using D);refine⟨.pointer (some ((⟨m',q,none⟩:Addr).add ((m:Int).toNat*u.size))),?_,m',B,?_,D⟩
  ·unfold execOp;rw[G];simp only[f,hk,η,this,ζ];rfl
  ·rw[hF,δ d.2];simp
 ·cases h
end
section
variable {S:bm} {K:Kit S} {P:Program} {rr:Option Nat} {o:Oper} {env:a1 S} {g:Nat->Option (Ob S)} {nx:Nat} {R:Type} {z:R} {k:AV S->Up S->AH S->Option R}
theorem q2 {A:Pl} {O:Γ} {w:World} {a:Act} (he:cQ A O w env a) (b:cN K O w) {x:Option Operand} {p:Option (IntKind×Int)} (h:lT K env x=some p):x.map a.eval=p.map gJ:=by
 cases x with
 |none=>cases h;rfl
 |some x=>
  simp only[lT] at h;split at h
  ·rename_i d n c;cases h;have:=(dL he b c).1;simp at this;simp[this,gJ]
  ·cases h
theorem adt (y:b6 K P) {t:Nat} {x:Operand} {lo hi mx:Option Operand} (C:o.op= .slice t x lo hi mx) (h:IF K env k t x lo hi mx=some z):Good K P rr o env g nx k z:=by
 have E: ∀c,o.op≠ .defer c:=λc=>by rw[C];simp
 unfold IF at h;split at h
 rotate_left
 ·cases h
 rename_i i l G L;split at h
 ·rename_i t' xs;split at h
  rotate_left
  ·cases h
  rename_i I hI;split at h
  rotate_left
  ·cases h
  rename_i M H;split at h
  rotate_left
  ·cases h
  rename_i p q r hp J U;cases d:(ε i.tag 5&&ε (S.ty I.e).n M.size)<;>rw[d] at h
  ·cases h
  simp only[cond_true,μ] at h d;obtain⟨ys,Z,D⟩:=bind_some h;refine cS E D λA O w a he Q hO f=>?_;obtain⟨v,j,W,T⟩:=cc he f L;have j:a.eval x=v:=by simpa using j
  obtain⟨N,V,Y⟩:=yi (P:=P) (w:=w) y.Θ G (δ d.1) H (δ d.2) ((y.sl t' I hI).2.1 O w v xs W) Z;refine⟨N,?_,N,rfl,(y.sl t' I hI).2.2 O w N ys Y,T⟩;unfold execOp;rw[C];simp only[η,j,q2 he f hp,q2 he f J,q2 he f U,V];rfl
 ·rename_i b q;split at h
  rotate_left
  ·cases h
  rename_i M H;cases d:(ε i.tag 6&&(ε M.size 1&&ξ9 i.k 16777216))<;>rw[d] at h
  ·cases h
  simp only[cond_true,μ] at h d;refine cS E h λA O w a he Q hO f=>?_;obtain⟨m,R,j⟩:=cc he f L;have j:a.eval x= .pointer (some ⟨m,q,none⟩):=by simpa using j
  refine⟨.slice (some ⟨m,q,none⟩) i.k i.k,?_,m,R,rfl⟩;have hu:=(y.Θ.fits G).array (δ d.1);have B:=od (P:=P) (w:=w) (b:=false) (n:=i.k) (c:=i.k) (lo:=none) (hi:=none) (mx:=none) (ξ3 _) (by simp) (by simp) (by simp) (by simp) (by simp);simp only[ξc,ξI] at B;unfold execOp;rw[C];simp only[ξc,η,j,ξv,run_underlying hu,ζ,ξy,κ,B,dW (y.Θ.fits H)];have e:(⟨m,q,none⟩:Addr).add 0=⟨m,q,none⟩:=by unfold ζ6;simp
  simp[e]
 ·rename_i s;split at h
  rotate_left
  ·cases h
  rename_i p q hp J;cases d:ε i.tag 3<;>rw[d] at h
  ·cases h
  simp only[cond_true] at h;obtain⟨u,hu,D⟩:=bind_some h;refine cS E D λA O w a he Q hO f=>?_;have j:=eg (cc he f L);refine⟨_,?_,rfl,rfl⟩;unfold eE at hu;split at hu
  rotate_left
  ·cases hu
  rename_i F;cases hu;have X:=(y.Θ.fits G).string (δ d);have B:=od (P:=P) (w:=w) (b:=false) (n:=s.size) (c:=s.size) (lo:=p) (hi:=q) (mx:=none) (ξ3 _) F.1 F.2.1 (by simpa using F.2.2) (by simp) (by simp);simp only[ξc,ξI] at B;unfold execOp;rw[C];simp only[η,j,q2 he f hp,q2 he f J,ξc,ξv,ζw,run_underlying X,ζ];simp[B]
 ·cases h
theorem O4 {c x y:Operand} (d:o.op= .pick c x y) {t:Bool} {e:AV S} (j:cb K env c=some (.v (.bool t))) (i:(bif t then de K env x else de K env y)=some e) (h:k e [] []=some z):Good K P rr o env g nx k z:=by
 refine cS (λc=>by rw[d];simp) h λA O w a he l hO b=>?_;have f:=eg (cc he b j);cases t with
 |true=>
  refine⟨a.eval x,?_,dL he b i⟩;unfold execOp;rw[d];simp[f,asBool]
 |false=>
  refine⟨a.eval y,?_,dL he b i⟩;unfold execOp;rw[d];simp[f,asBool]
theorem Sq {y:Int} {f:LV S->Option R}: ∀ {ls:List (LV S)} {n:Nat},xR f y n ls=some z-> ∃(l:LV S) (j:Nat),j<ls.length/\y=((n+j:Nat):Int)/\f l=some z/\ ∀(A:Pl) (O:Γ) (w:World) (xs:Γb),bF A O w ls xs-> ∃u,xs[j]? =some u/\l.rel A O w [u]
 |[],n,h=>by cases h
 |l::ls,n,h=>by
  unfold xR at h;cases b:ε l.sz 1<;>rw[b] at h
  ·cases h
  have c:=δ b;simp only[cond_true] at h;cases d:(y==(n:Int))<;>rw[d] at h
  ·obtain⟨l',j,o,h1,g,i⟩:=Sq (ls:=ls) h;refine⟨l',j+1,by simp;omega,by omega,g,?_⟩;rintro A O w xs ⟨ys,zs,rfl,a,e⟩;have hl:=a.len;rw[c] at hl;obtain⟨u,k,m⟩:=i _ _ _ _ e;refine⟨u,?_,m⟩;rw[ξE (by omega),hl];simpa using k
  ·refine⟨l,0,by simp,by simpa using eq_of_beq d,h,?_⟩;rintro A O w xs ⟨ys,zs,rfl,a,e⟩;have hl:=a.len;rw[c] at hl
   match ys,hl with
   |[u],_=>exact⟨u,rfl,a⟩
theorem ade (r:b6 K P) {t:Nat} {x y:Operand} (C:o.op= .index t x y) (h:Iy K env k t x y=some z):Good K P rr o env g nx k z:=by
 have I: ∀c,o.op≠ .defer c:=λc=>by rw[C];simp
 unfold Iy at h;split at h
 rotate_left
 ·cases h
 rename_i i j hi L;split at h
 ·rename_i ls D;split at h
  rotate_left
  ·cases h
  rename_i p J;cases d:(ε i.tag 6&&(ε i.k (dQ ls)&&(ε p.size 1&&!(TI.gi p))))<;>rw[d] at h
  ·cases h
  simp only[cond_true,μ,ξp] at h d;have R:=δ d.1;have B:=δ d.2.1;have h1:=δ d.2.2.1;have U:p.isAgg=false:=d.2.2.2;have fin: ∀ {l:LV S} {q:Nat},j=(q:Int)->k (.s (.one l)) [] []=some z->(∀(A:Pl) (O:Γ) (w:World) (xs:Γb),bF A O w ls xs-> ∃u,xs[q]? =some u/\l.rel A O w [u])->Good K P rr o env g nx k z:=by
   intro l q E F G;refine cS I F λA O w a he W hO f=>?_;obtain⟨xs,Q,e⟩:=dL he f D;obtain⟨M,hk⟩:=ij he f L;obtain⟨u,hu,Y⟩:=G _ _ _ _ e;refine⟨u,?_,Y⟩;have Z:=(r.Θ.fits hi).array R;have ab:q<i.k:=by
    have H:=(ν.1 hu).1;rw[gR e,<-B] at H;exact H
   unfold execOp;rw[C];simp only[η,Q,hk,ηj,asIntOf,κ,ζ,run_underlying Z];rw[if_pos ⟨by omega,by omega⟩];have T:=HT (P:=P) (w:=w) (r.Θ.fits J);have X:(ε p.tag 8||ε p.tag 6)=false:=U;subst E;simp[part,dW (r.Θ.fits J),T,X,h1,hu]
  split at h
  ·rename_i M gs v;obtain⟨m,hm,e⟩:=bind_some h;obtain⟨m1,m2⟩:=w8 hm;exact fin m1 e λA O w xs n=>⟨_,Ns v n (by rw[gR n,<-B];exact m2),rfl,rfl⟩
  ·rename_i bs v;obtain⟨m,hm,e⟩:=bind_some h;obtain⟨m1,m2⟩:=w8 hm;exact fin m1 e λA O w xs n=>⟨_,Nr v n (by rw[gR n,<-B];exact m2),rfl,rfl⟩
  ·obtain⟨l,q,ad,E,F,G⟩:=Sq h;exact fin (by rw[E,ξs]) F G
 ·rename_i s D;cases d:ε i.tag 3<;>rw[d] at h
  ·cases h
  simp only[cond_true] at h;obtain⟨u,hu,e⟩:=bind_some h;refine cS I e λA O w a he W hO f=>?_;have aa:a.eval x= .string s:=eg (S:=S) (A:=A) (O:=O) (w:=w) (dL he f D);obtain⟨M,hk⟩:=ij he f L;refine⟨_,?_,rfl,rfl⟩;unfold fg at hu;split at hu
  ·rename_i N;obtain⟨b,V,rfl⟩:=ζm.1 hu;unfold execOp;rw[C];simp only[η,aa,hk,ηj,asIntOf,κ,ζ,run_underlying ((r.Θ.fits hi).string (δ d)),if_pos N,V]
  ·cases hu
 ·cases h
end
section
variable {S:bm} {K:Kit S} {P:Program} {rr:Option Nat} {o:Oper} {env:a1 S} {g:Nat->Option (Ob S)} {nx:Nat} {R:Type} {z:R} {k:AV S->Up S->AH S->Option R}
theorem po {b:BinOp} {t t':Nat} {x y:Operand} (c:o.op= .binOp b t x y t') {w:World} {a:Act} {u v r:Value} (d:a.eval x=u) (e:a.eval y=v)
  (h:(do eqGuard b t x y u v;binOp b t u v:Sem Value).run P w= .ok r w):(execOp a.eval o).run P w= .ok (.value r) w:=by
 unfold execOp;rw[c];simp only[η] at h ⊢;rw[d,e,h];rfl
theorem ac3 (D:b6 K P) {b:BinOp} {t t':Nat} {x y:Operand} (C:o.op= .binOp b t x y t') (h:Is K env k b t x y t'=some z):Good K P rr o env g nx k z:=by
 have j: ∀c,o.op≠ .defer c:=λc=>by rw[C];simp
 have pl:plain K env (.binOp b t x y t') (λa=>k a [] [])=some z->Good K P rr o env g nx k z:=λh=>p3 D j (by rw[C];exact h);unfold Is at h;split at h
 ·rename_i ls E;split at h
  rotate_left
  ·cases h
  rename_i ms p;split at h
  rotate_left
  ·cases h
  rename_i q f;split at h
  ·refine cS j h λA O w a he B hO d=>?_;obtain⟨xs,h1,H⟩:=dL he d E;obtain⟨ys,e,u⟩:=dL he d p;exact⟨_,po C h1 e (D.pA A O w t ls ms q xs ys x y f H u).1,rfl,rfl⟩
  ·refine cS j h λA O w a he B hO d=>?_;obtain⟨xs,h1,H⟩:=dL he d E;obtain⟨ys,e,u⟩:=dL he d p;exact⟨_,po C h1 e (D.pA A O w t ls ms q xs ys x y f H u).2,rfl,rfl⟩
  ·cases h
 ·rename_i l E;have hl:cb K env x=some l:=by unfold cb;rw[E]
  cases hn:(l.xb&&isNil y)<;>rw[hn] at h
  ·simp only[cond_false] at h;split at h
   ·rename_i F m G n t5 p;have two: ∀ {r:Value} {A:Pl} {O:Γ} {w:World} {a:Act},cQ A O w env a->cN K O w->(do eqGuard b t x (.tmp t5) (.int F m) (.int G n);binOp b t (.int F m) (.int G n):Sem Value).run P w= .ok r w->(execOp a.eval o).run P w= .ok (.value r) w:=by
     intro r A O w a he d M;exact po C (eg (cc he d hl)) (eg (cc he d p)) M
    split at h
    ·cases hk:sameKind F G<;>rw[hk] at h
     ·cases h
     ·have I:=eU hk;subst I;obtain⟨q,f,e⟩:=bind_some h;exact cS j e λA O w a he B hO d=>⟨_,two he d (ah2 f),rfl,rfl⟩
    ·cases hk:sameKind F G<;>rw[hk] at h
     ·cases h
     ·have I:=eU hk;subst I;obtain⟨q,f,e⟩:=bind_some h;exact cS j e λA O w a he B hO d=>⟨_,two he d (ah3 f),rfl,rfl⟩
    ·obtain⟨q,f,e⟩:=bind_some h;exact cS j e λA O w a he B hO d=>⟨_,two he d (ah7 f),rfl,rfl⟩
    ·obtain⟨q,f,e⟩:=bind_some h;exact cS j e λA O w a he B hO d=>⟨_,two he d (ah8 f),rfl,rfl⟩
    ·exact pl h
   ·rename_i m n p;split at h
    ·obtain⟨q,f,e⟩:=bind_some h;exact cS j e λA O w a he B hO d=>⟨_,po C (eg (cc he d hl)) (eg (cc he d p)) (ah5 f),rfl,rfl⟩
    ·exact pl h
   ·exact pl h
  ·simp only[cond_true] at h;simp only[μ] at hn;have p:y= .const (.pointer none):=by
    have:=hn.2;unfold isNil at this;split at this
    ·rfl
    ·cases this
   subst p;split at h
   rotate_left
   ·cases h
   rename_i i hi;cases u:ε i.tag 4<;>rw[u] at h
   ·cases h
   simp only[cond_true] at h;have ev: ∀ {r:Value},(∀ad,mY K.Θ b t (.pointer (some ad)) (.pointer none)=some r)->r.oneCell'=true->k (.s (.one (.v r))) [] []=some z->Good K P rr o env g nx k z:=by
    intro r L h1 h;refine cS j h λA O w a he B hO d=>?_;obtain⟨ad,J⟩:=Sv hn.1 (cc he d hl);exact⟨r,po C J rfl (TC (P:=P) (w:=w) (ox:=x) (oy:=.const (.pointer none)) D.Θ (L ad)),rfl,h1⟩
   split at h
   ·exact ev (λad=>by simp[mY,hi,u]) rfl h
   ·exact ev (λad=>by simp[mY,hi,u]) rfl h
   ·cases h
 ·cases h
theorem adj (L:b6 K P) {t:Nat} {x y:Operand} {ok:Bool} (r:o.op= .lookup t x y ok) (h:IC K env g k t x y ok=some z):Good K P rr o env g nx k z:=by
 have Q: ∀c,o.op≠ .defer c:=λc=>by rw[r];simp
 unfold IC at h;split at h
 rotate_left
 ·cases h
 rename_i i b C j hi W X;split at h
 rotate_left
 ·cases h
 rename_i v u B d m U T N;generalize s:(ε i.tag 7&&(ε v.tag 2&&(sameKind (Dc.noKind v.k) B&&(sameKind C B&&(match u.zero with| .int D 0=>sameKind D d|_=>false)))))=q at h;cases q
 ·cases h
 simp only[cond_true] at h;simp only[μ] at s;obtain⟨I,F,G,H,f⟩:=s;have Z:u.zero= .int d 0:=by
  split at f
  ·rename_i D e;rw[e,eU f]
  ·cases f
 have E:=eU H;subst E;refine cS Q h λA O w a he R hO n=>?_;obtain⟨m',J,l⟩:=cc he n W;obtain⟨p,hp,⟨m2,rfl,M⟩,_⟩:=R.al b _ N;rw[J] at hp;cases hp;have l:a.eval x= .map (some m'):=by simpa using l
 have Y:a.eval y= .int C j:=eg (S:=S) (A:=A) (O:=O) (w:=w) (dL he n X);have V:=ah1 (P:=P) L.Θ hi (δ I) U (δ F) T (eU G) Z M j ok;refine⟨bif ok then .tuple #[.int d ((bG m j).getD 0),.bool (bG m j).isSome] else .int d ((bG m j).getD 0),?_,?_⟩
 ·unfold execOp;rw[r];simp only[η,l,Y,V];rfl
 ·cases ok with
  |false=>exact⟨rfl,rfl⟩
  |true=>exact⟨_,rfl,_,_,rfl,⟨rfl,rfl⟩,_,_,rfl,⟨rfl,rfl⟩,rfl⟩
theorem adb (f:b6 K P) {t:Nat} {x:Operand} {u:Value} {i:TI} (b:o.op= .makeInterface t x) (hi:K.Θ.get t=some i) (d:i.tag=2) (l:cb K env x=some (.v u)) (h:k (.s (.one (.v (.iface t u)))) [] []=some z):Good K P rr o env g nx k z:=by
 refine cS (λc=>by rw[b];simp) h λA O w a he m hO e=>?_;have j:=eg (cc he e l);refine⟨_,?_,rfl,rfl⟩;unfold execOp;rw[b];simp[j,Instr.makeInterface,run_underlying ((f.Θ.fits hi).int d)]
theorem rl {c:Go.Call} {b:Builtin} {a:Act} {w w':World} {v:Value} (e:o.op= .call c) (d:c.callee= .builtin b)
  (h: ∀cs:Array Bool,(builtin b c.argTypes o.type cs (c.args.map a.eval)).run P w= .ok (.value v) w'):(execOp a.eval o).run P w= .ok (.value v) w':=by
 unfold execOp;rw[e];simp only[η,resolve,d,κ,ζ,invoke];exact h _
theorem adg (E:b6 K P) {ty:Nat} {c:Go.Call} {x:Operand} (G:o.op= .call c) (S:c.callee= .builtin .len) (R:c.args.toList=[x]) (V:c.argTypes.toList=[ty]) (h:IA K env g k ty c x=some z):Good K P rr o env g nx k z:=by
 have B: ∀c,o.op≠ .defer c:=λc=>by rw[G];simp
 have J:c.args= #[x]:=fJ R;have L:c.argTypes= #[ty]:=fJ V;have len: ∀ {a:Act} {w:World} {u:Value} {n:Nat},a.eval x=u->(ξM #[ty] o.type #[u]).run P w= .ok (goInt n) w->(execOp a.eval o).run P w= .ok (.value (goInt n)) w:=by
  intro a w u n hu C;refine rl G S λcs=>?_;rw[J,L];simp only[builtin,η];have e:(#[x].map a.eval)= #[u]:=by simp[hu]
  rw[e,C];rfl
 have sl: ∀ {i:TI} {w:World} {A:Option Addr} {n m:Nat},K.Θ.get ty=some i->i.tag=5->(ξM #[ty] o.type #[.slice A n m]).run P w= .ok (goInt n) w:=by
  intro i w A n m hi M;simp[ξM,run_underlying ((E.Θ.fits hi).slice M)]
 unfold IA at h;split at h
 rotate_left
 ·cases h
 rename_i i l hi D;split at h
 ·rename_i t xs;split at h
  rotate_left
  ·cases h
  rename_i I hI;cases f:ε i.tag 5<;>rw[f] at h
  ·cases h
  refine cS B h λA O w a he s hO j=>?_;obtain⟨v,d,U,_⟩:=cc he j D;obtain⟨A',F,rfl,_⟩:=eW ((E.sl t I hI).2.1 O w v xs U);have d:a.eval x= .slice A' (I.to xs).length F:=by simpa using d
  exact⟨_,len d (sl hi (δ f)),rfl,rfl⟩
 ·rename_i r;split at h
  rotate_left
  ·rename_i t' e bR C;cases f:ε i.tag 5<;>rw[f] at h
   ·cases h
   refine cS B h λA O w a he s hO j=>?_;obtain⟨v,y,d,_⟩:=cc he j D;obtain⟨p,hp,⟨b,c,cur,rfl,_⟩,_⟩:=s.al r _ C;rw[y] at hp;cases hp;have d:a.eval x= .slice (some ⟨b,0,none⟩) bR.length c:=by simpa using d
   exact⟨_,len d (sl hi (δ f)),rfl,rfl⟩
  ·cases h
  rename_i e xs C;cases f:ε i.tag 5<;>rw[f] at h
  ·cases h
  refine cS B h λA O w a he s hO j=>?_;obtain⟨v,y,d,_⟩:=cc he j D;obtain⟨p,hp,N,_⟩:=s.al r _ C;rw[y] at hp;cases hp;obtain⟨A',F,rfl,_⟩:=N.form;have d:a.eval x= .slice A' xs.length F:=by simpa using d
  exact⟨_,len d (sl hi (δ f)),rfl,rfl⟩
 ·rename_i b q n;cases f:ε i.tag 5<;>rw[f] at h
  ·cases h
  refine cS B h λA O w a he s hO j=>?_;obtain⟨m,y,d⟩:=cc he j D;have d:a.eval x= .slice (some ⟨m,q,none⟩) n n:=by simpa using d
  exact⟨_,len d (sl hi (δ f)),rfl,rfl⟩
 ·rename_i b;split at h
  rotate_left
  ·cases h
  rename_i X Y m f;cases H:ε i.tag 7<;>rw[H] at h
  ·cases h
  refine cS B h λA O w a he s hO j=>?_;obtain⟨m',y,d⟩:=cc he j D;obtain⟨p,hp,⟨m2,rfl,es,W,Q,T⟩,_⟩:=s.al b _ f;rw[y] at hp;cases hp;have d:a.eval x= .map (some m'):=by simpa using d
  have hlen:es.size=m.length:=by
   have:=congrArg ηi T;simpa using this
  refine⟨_,len d (n:=m.length) ?_,rfl,rfl⟩;simp[ξM,run_underlying ((E.Θ.fits hi).map (δ H)),getObj,ζo,Q,hlen]
 ·exact p3 E B (by rw[G];exact h)
end
section
variable {S:bm} {A A':Pl} {O O' O1:Γ} {w w':World} {g:Nat->Option (Ob S)}
theorem c0 {i j:Nat} {X Y:Option (Ob S)} (h:(j,Y)∈[(i,X)]):j=i/\Y=X:=by simpa using h
theorem ace {b nx:Nat} {X:Ob S} {p:Value} (hO:OB O w) (f:A.pl nx=none) (m:Fr [] w w') (o:Tr O w (b::O) w') (n:OB (b::O) w') (s:w.heap.size<=b) (hX:dd (A.put nx p) (b::O) w' X p) (hp: ∀c,b4 p=some c->c=b):
  k8 A O w g [(nx,some X)] (A.put nx p) (b::O) w' where
 le:=Pl.kS f
 tr:=o
 ob:=n
 keep c a _:=⟨m.block c (hO c a) (by simp),ξ4 _ a⟩
 al i Y h:=by
  obtain⟨rfl,e⟩:=c0 h;cases e;exact⟨p,Pl.ff A _ p,hX,λc a=>by rw[hp c a];exact⟨π,.inl s⟩⟩
 dj i j Y Z q r c k h1 d:=by
  obtain⟨rfl,_⟩:=c0 h1;obtain⟨rfl,_⟩:=c0 d;exact absurd rfl k
 nd i Y Z h1 d:=(c0 h1).2.trans (c0 d).2.symm
 lv i Y q h l:=by
  obtain⟨rfl,_⟩:=c0 h;rw[f] at l;cases l
 pl i:=by
  rcases ζ3 nx i with k|rfl
  ·exact .inl (Pl.kT k)
  ·exact .inr ⟨f,_,π⟩
theorem qT {i j:Nat} {X Y:Ob S} (hX:X.nt=true) (h:(j,some Y)∈[(i,some X)]):Y.nt=true:=by
 obtain⟨_,e⟩:=c0 h;cases e;exact hX
theorem mV {b nx:Nat} {X:Ob S} {p:Value} (hO:OB O w) (f:A.pl nx=none) (a:Fr [] w w') (e:Tr O w (b::O) w') (d:OB (b::O) w') (i:w.heap.size<=b) (hX:dd (A.put nx p) (b::O) w' X p) (hp: ∀c,b4 p=some c->c=b) (j:X.nt=true:=by rfl):
 cf A O w g [(nx,some X)] (A.put nx p) (b::O) w':=(ace hO f a e d i hX hp).up λ_ _ h=>qT j h
theorem acf {nx:Nat} {X:Ob S} {p:Value} (hO:OB O w) (d:A.pl nx=none) (hX:dd (A.put nx p) O w X p) (hp:b4 p=none):
  k8 A O w g [(nx,some X)] (A.put nx p) O w where
 le:=Pl.kS d
 tr:=Tr.refl O w
 ob:=hO
 keep c a _:=⟨rfl,a⟩
 al i Y h:=by
  obtain⟨rfl,e⟩:=c0 h;cases e;exact⟨p,Pl.ff A _ p,hX,λc a=>by rw[hp] at a;cases a⟩
 dj i j Y Z q r c f h1 b:=by
  obtain⟨rfl,_⟩:=c0 h1;obtain⟨rfl,_⟩:=c0 b;exact absurd rfl f
 nd i Y Z h1 b:=(c0 h1).2.trans (c0 b).2.symm
 lv i Y q h k:=by
  obtain⟨rfl,_⟩:=c0 h;rw[d] at k;cases k
 pl i:=by
  rcases ζ3 nx i with f|rfl
  ·exact .inl (Pl.kT f)
  ·exact .inr ⟨d,_,π⟩
theorem N1 {nx:Nat} {X:Ob S} {p:Value} (hO:OB O w) (a:A.pl nx=none) (hX:dd (A.put nx p) O w X p) (hp:b4 p=none) (b:X.nt=true:=by rfl):
 cf A O w g [(nx,some X)] (A.put nx p) O w:=(acf hO a hX hp).up λ_ _ h=>qT b h
theorem ach {i b:Nat} {X Z:Ob S} {p:Value} (hO:OB O w) (l:b∈O) (m:g i=some Z) (hp:A.pl i=some p) (k:b4 p=some b) (f:Fr [b] w w') (hX:dd A O w' X p):
  k8 A O w g [(i,some X)] A O w' where
 le:=Pl.le.refl A
 tr:=f.tr (gM l)
 ob:=f.ob hO
 keep c a h:=⟨f.block c (hO c a) (by
  have:=h i _ p π hp;rw[k] at this;simp at this ⊢;exact λe=>this e.symm),a⟩
 al j Y h:=by
  obtain⟨rfl,e⟩:=c0 h;cases e;exact⟨p,hp,hX,λc a=>by
   rw[k] at a;cases a;exact⟨l,.inr ⟨_,_,p,π,hp,k⟩⟩⟩
 dj i j Y Z q r c n h1 d:=by
  obtain⟨rfl,_⟩:=c0 h1;obtain⟨rfl,_⟩:=c0 d;exact absurd rfl n
 nd i Y Z h1 d:=(c0 h1).2.trans (c0 d).2.symm
 lv j Y q h o:=by
  obtain⟨rfl,_⟩:=c0 h;exact⟨Z,m⟩
 pl _:=.inl rfl
theorem mW {i b:Nat} {X Z:Ob S} {p:Value} (hO:OB O w) (c:b∈O) (d:g i=some Z) (hp:A.pl i=some p) (f:b4 p=some b) (a:Fr [b] w w') (hX:dd A O w' X p) (e:X.nt=true:=by rfl):
 cf A O w g [(i,some X)] A O w':=(ach hO c d hp f a hX).up λ_ _ h=>qT e h
theorem acg {i:Nat} {X Z:Ob S} {p:Value} (hO:OB O w) (n:g i=some Z) (hp:A.pl i=some p) (m:Tr O w O w') (l:OB O w') (f: ∀k,k<w.heap.size->b4 p≠some k->w'.heap[k]? =w.heap[k]?) (hX:dd A O w' X p) (hm: ∀b,b4 p=some b->b∈O):
  k8 A O w g [(i,some X)] A O w' where
 le:=Pl.le.refl A
 tr:=m
 ob:=l
 keep c a h:=⟨f c (hO c a) (h i _ p π hp),a⟩
 al j Y h:=by
  obtain⟨rfl,e⟩:=c0 h;cases e;exact⟨p,hp,hX,λc a=>⟨hm c a,.inr ⟨_,_,p,π,hp,a⟩⟩⟩
 dj i j Y Z q r c o h1 d:=by
  obtain⟨rfl,_⟩:=c0 h1;obtain⟨rfl,_⟩:=c0 d;exact absurd rfl o
 nd i Y Z h1 d:=(c0 h1).2.trans (c0 d).2.symm
 lv j Y q h s:=by
  obtain⟨rfl,_⟩:=c0 h;exact⟨Z,n⟩
 pl _:=.inl rfl
theorem N2 {i:Nat} {X Z:Ob S} {p:Value} (hO:OB O w) (e:g i=some Z) (hp:A.pl i=some p) (d:Tr O w O w') (c:OB O w') (a: ∀k,k<w.heap.size->b4 p≠some k->w'.heap[k]? =w.heap[k]?) (hX:dd A O w' X p) (hm: ∀b,b4 p=some b->b∈O) (f:X.nt=true:=by rfl):
 cf A O w g [(i,some X)] A O w':=(acg hO e hp d c a hX hm).up λ_ _ h=>qT f h
theorem aca {e:Nat} {ef0:Up S} {nx:Nat} {v n:Value} {zs:List (S.El e)} (hO:OB O w) (o:A.pl nx=none) (a: ∀i X,(i,X)∈ef0->X=none/\A.pl i=some v/\ ∃Z,g i=some Z) (h1:(∃i,(i,none)∈ef0)\/v.ownBlock=none)
  (h:dD (S.ty e) e 0 O w v zs O' w' n):k8 A O w g (ef0++[(nx,some (.row e zs))]) (A.put nx n) O' w' where
 le:=Pl.kS o
 tr:=h.tr
 ob:=h.ob
 keep c m hk:=⟨h.fr c (hO c m) (λe=>by
  rcases h1 with⟨i,hi⟩|hn
  ·exact hk i none v (ξn _ hi) (a i none hi).2.1 (gw e)
  ·rw[hn] at e;cases e),h.sub c m⟩
 al i Y hi:=by
  rcases τ.1 hi with hi|hi
  ·have:=(a i _ hi).1;cases this
  ·obtain⟨rfl,e⟩:=c0 hi;cases e;refine⟨n,Pl.ff A _ n,h.own,λc m=>?_⟩;have t:n.ownBlock=some c:=by
    rcases gO h.own with⟨rfl,_⟩|⟨b,z,rfl⟩
    ·cases m
    ·exact m
   refine⟨h.own.mem c t,?_⟩;rcases ξA c w.heap.size with y|x
   ·right;have s:v.ownBlock=some c:=by
     rcases Decidable.em (v.ownBlock=some c) with e|e
     ·exact e
     ·exact absurd t (h.ne c y e)
    rcases h1 with⟨i,hi⟩|hn
    ·exact⟨i,none,v,ξn _ hi,(a i none hi).2.1,gw s⟩
    ·rw[hn] at s;cases s
   ·exact .inl x
 dj i j Y Z q r c p d f:=by
  rcases τ.1 d with d|d
  ·have:=(a i _ d).1;cases this
  ·rcases τ.1 f with f|f
   ·have:=(a j _ f).1;cases this
   ·obtain⟨rfl,_⟩:=c0 d;obtain⟨rfl,_⟩:=c0 f;exact absurd rfl p
 nd i Y Z d f:=by
  have no: ∀X,(nx,X)∉ef0:=λX hX=>by have:=(a nx X hX).2.1;rw[o] at this;cases this
  rcases τ.1 d with k|k<;>rcases τ.1 f with l|l
  ·exact(a i _ k).1.trans (a i _ l).1.symm
  ·rw[(c0 l).1] at k;exact absurd k (no _)
  ·rw[(c0 k).1] at l;exact absurd l (no _)
  ·exact(c0 k).2.trans (c0 l).2.symm
 lv i Y q hi u:=by
  rcases τ.1 hi with hi|hi
  ·exact(a i _ hi).2.2
  ·obtain⟨rfl,_⟩:=c0 hi;rw[o] at u;cases u
 pl i:=by
  rcases ζ3 nx i with p|rfl
  ·exact .inl (Pl.kT p)
  ·exact .inr ⟨o,_,ξh _ π⟩
theorem ab' {e:Nat} {ef0:Up S} {nx:Nat} {v b:Value} {zs:List (S.El e)} (hO:OB O w) (c:A.pl nx=none) (a: ∀i X,(i,X)∈ef0->X=none/\A.pl i=some v/\ ∃Z,g i=some Z) (h1:(∃i,(i,none)∈ef0)\/v.ownBlock=none)
  (h:dD (S.ty e) e 0 O w v zs O' w' b):cf A O w g (ef0++[(nx,some (.row e zs))]) (A.put nx b) O' w':=(aca hO c a h1 h).up λi X hi=>by
 rcases τ.1 hi with hi|hi
 ·have:=(a i _ hi).1;cases this
 ·exact qT rfl hi
def c' (A:Pl) (rs O:Γ):Γ:=O.filter λb=>rs.all λr=>match A.pl r with|some p=>(match b4 p with|some c=>!(ε c b)|none=>true)|none=>true
theorem hT {rs:Γ} {b:Nat}:b∈c' A rs O↔b∈O/\ ∀r∈rs,∀p,A.pl r=some p->b4 p≠some b:=by
 unfold c';rw[ξP,ζj];refine and_congr_right λ_=>⟨λh r a p hp d=>?_,λh r a=>?_⟩
 ·have:=h r a;simp[hp,d] at this
 ·split
  ·rename_i p hp;split
   ·rename_i c e;have:=h r a p hp;rw[e] at this;cases f:ε c b with
    |false=>rfl
    |true=>exact absurd (δ f) (by simpa using this)
   ·rfl
  ·rfl
theorem eI {rs:Γ}:Sub (c' A rs O) O:=λb a=>(hT.1 a).1
theorem eb {rs:Γ} {i:Nat} {X:Option (Ob S)}:(i,X)∈(fu rs:Up S)↔i∈rs/\X=none:=by
 induction rs with
 |nil=>simp[fu]
 |cons r rs a=>
  simp only[fu,ξd,a,ξO];constructor
  ·rintro (⟨rfl,rfl⟩|⟨h,rfl⟩)
   ·exact⟨.inl rfl,rfl⟩
   ·exact⟨.inr h,rfl⟩
  ·rintro ⟨rfl|h,rfl⟩
   ·exact .inl ⟨rfl,rfl⟩
   ·exact .inr ⟨h,rfl⟩
theorem N0 {rs:Γ} (hO:OB O w) (hl: ∀r∈rs,∃Z,g r=some Z):cf A O w g (fu rs) A (c' A rs O) w where
 le:=Pl.le.refl A
 tr:=Tr.less eI
 ob:=λb d=>hO b (eI b d)
 keep c e h:=⟨rfl,hT.2 ⟨e,λr f p hp=>h r none p (eb.2 ⟨f,rfl⟩) hp⟩⟩
 al i Y h:=by have:=(eb.1 h).2;cases this
 dj i j Y Z q r c _ h:=by have:=(eb.1 h).2;cases this
 nd i Y Z h1 a:=(eb.1 h1).2.trans (eb.1 a).2.symm
 lv i Y q h _:=hl i (eb.1 h).1
 pl _:=.inl rfl
 nt i X Z h _ _:=by have:=(eb.1 h).2;cases this
theorem cf.Nf {rs:Γ} {ef:Up S} (h1:cf A O w g (fu rs) A O1 w) (f:cf A O1 w g ef A' O' w') (hn: ∀i X,(i,X)∈ef->i∉rs):cf A O w g (fu rs++ef) A' O' w' where
 le:=f.le
 tr:=h1.tr.trans f.tr
 ob:=f.ob
 keep c k h:=by
  obtain⟨_,d⟩:=h1.keep c k λi X p hi hp=>h i X p (ξn _ hi) hp;exact f.keep c d λi X p hi hp=>h i X p (ξh _ hi) hp
 al i Y h:=by
  rcases τ.1 h with h|h
  ·have:=(eb.1 h).2;cases this
  ·obtain⟨p,d,e,m⟩:=f.al i Y h;exact⟨p,d,e,λc k=>⟨(m c k).1,(m c k).2.imp id λ⟨j,Z,q,V,o,s⟩=>⟨j,Z,q,V,ξh _ o,s⟩⟩⟩
 dj i j Y Z q r c n d e:=by
  rcases τ.1 d with d|d
  ·have:=(eb.1 d).2;cases this
  ·rcases τ.1 e with e|e
   ·have:=(eb.1 e).2;cases this
   ·exact f.dj i j Y Z q r c n d e
 nd i Y Z d e:=by
  rcases τ.1 d with d|d<;>rcases τ.1 e with e|e
  ·exact h1.nd i Y Z d e
  ·exact absurd (eb.1 d).1 (hn i _ e)
  ·exact absurd (eb.1 e).1 (hn i _ d)
  ·exact f.nd i Y Z d e
 lv i Y q h l:=by
  rcases τ.1 h with h|h
  ·exact h1.lv i Y q h l
  ·exact f.lv i Y q h l
 pl i:=(f.pl i).imp id λ⟨a,X,b⟩=>⟨a,X,ξh _ b⟩
 nt i X Z h:=by
  rcases τ.1 h with h|h
  ·have:=(eb.1 h).2;cases this
  ·exact f.nt i X Z h
variable {K:Kit S} {P:Program}
theorem He (c:b6 K P) (m:bW A O w g) {l l':LV S} {rs all:Γ} {xs:Γb} (h:iQ K g l=some (l',rs)) (a:l.rel A O w xs) (s: ∀r∈rs,r∈all):l'.rel A (c' A all O) w xs/\l'.pure=true/\ ∀r∈rs,∃Z,g r=some Z:=by
 have less:Tr O w (c' A all O) w:=Tr.less eI;cases l with
 |own r=>
  simp only[iQ] at h;split at h
  rotate_left
  ·cases h
  rename_i e ys f;split at h
  rotate_left
  ·cases h
  rename_i I hI;cases h;obtain⟨v,h1,rfl,y⟩:=a;obtain⟨p,hp,i,hm⟩:=m.al r _ f;rw[h1] at hp;cases hp;refine⟨⟨v,rfl,?_,(c.row e I hI).1⟩,rfl,λz d=>by simp at d;subst d;exact⟨_,f⟩⟩;refine(c.row e I hI).2 _ _ _ _ (Dc.Own.share i eI λb j o=>?_);exact(hT.1 o).2 r (s r (by simp)) v h1 (gw j)
 |v u=>cases h;exact⟨a,rfl,λr h=>by cases h⟩
 |aJ t x=>cases h;exact⟨LV.rel.tr a less (Pl.le.refl A),rfl,λr h=>by cases h⟩
 |ptr t x q=>cases h;exact⟨LV.rel.tr a less (Pl.le.refl A),rfl,λr h=>by cases h⟩
 |bA k n gs=>cases h;exact⟨a,rfl,λr h=>by cases h⟩
 |cA n gs=>cases h;exact⟨a,rfl,λr h=>by cases h⟩
 |_=>cases h
theorem OS (d:b6 K P) (e:bW A O w g): ∀ {ls b:List (LV S)} {rs all:Γ} {xs:Γb},kC K g ls=some (b,rs)->bF A O w ls xs->(∀r∈rs,r∈all)->bF A (c' A all O) w b xs/\b.all LV.pure=true/\ ∀r∈rs,∃Z,g r=some Z
 |[],b,rs,all,xs,h,a,c=>by cases h;exact⟨a,rfl,λr h=>by cases h⟩
 |l::ls,b,rs,all,xs,h,⟨ys,zs,p,h1,o⟩,c=>by
  simp only[kC] at h;split at h
  rotate_left
  ·cases h
  rename_i q t m;split at h
  rotate_left
  ·cases h
  rename_i s u n;cases h;obtain⟨f,a2,a3⟩:=He d e m h1 (λr a=>c r (ξn _ a));obtain⟨i,j,k⟩:=OS d e n o (λr a=>c r (ξh _ a));exact⟨⟨ys,zs,p,f,i⟩,by simp[a2,j],λr a=>(τ.1 a).elim (a3 r) (k r)⟩
theorem ON (d:b6 K P) (e:bW A O w g) {a a':aB S} {rs all:Γ} {x:Value} (h:jL K g a=some (a',rs)) (b:a.rel A O w x) (f: ∀r∈rs,r∈all):a'.rel A (c' A all O) w x/\a'.pure=true/\ ∀r∈rs,∃Z,g r=some Z:=by
 cases a with
 |one l=>
  simp only[jL] at h;split at h
  ·rename_i j k c;cases h;exact He d e c b f
  ·cases h
 |agg ls=>
  simp only[jL] at h;split at h
  ·rename_i j k c;cases h;obtain⟨ys,rfl,b⟩:=b;obtain⟨i,a2,a3⟩:=OS d e c b f;exact⟨⟨ys,rfl,i⟩,a2,a3⟩
  ·cases h
theorem lL (d:b6 K P) (e:bW A O w g): ∀ {ls b:List (aB S)} {rs all:Γ} {xs:Γb},iP K g ls=some (b,rs)->cI A O w ls xs->(∀r∈rs,r∈all)->cI A (c' A all O) w b xs/\b.all aB.pure=true/\ ∀r∈rs,∃Z,g r=some Z
 |[],b,rs,all,xs,h,a,c=>by cases h;exact⟨a,rfl,λr h=>by cases h⟩
 |l::ls,b,rs,all,xs,h,⟨ys,zs,p,h1,o⟩,c=>by
  simp only[iP] at h;split at h
  rotate_left
  ·cases h
  rename_i q t m;split at h
  rotate_left
  ·cases h
  rename_i s u n;cases h;obtain⟨f,a2,a3⟩:=ON d e m h1 (λr a=>c r (ξn _ a));obtain⟨i,j,k⟩:=lL d e n o (λr a=>c r (ξh _ a));exact⟨⟨ys,zs,p,f,i⟩,by simp[a2,j],λr a=>(τ.1 a).elim (a3 r) (k r)⟩
theorem OQ {l l':LV S} {rs:Γ} (h:iQ K g l=some (l',rs)):l'.pure=true:=by
 cases l with
 |own r=>
  simp only[iQ] at h;split at h
  ·split at h
   ·cases h;rfl
   ·cases h
  ·cases h
 |_=>first|(cases h;rfl)|cases h
theorem OT: ∀ {ls a:List (LV S)} {rs:Γ},kC K g ls=some (a,rs)->a.all LV.pure=true
 |[],_,_,h=>by cases h;rfl
 |l::ls,_,_,h=>by
  simp only[kC] at h;split at h
  ·rename_i d f b;split at h
   ·rename_i e i c;cases h;simp[OQ b,OT c]
   ·cases h
  ·cases h
theorem OO: ∀ {ls b:List (aB S)} {rs:Γ},iP K g ls=some (b,rs)->b.all aB.pure=true
 |[],_,_,h=>by cases h;rfl
 |l::ls,_,_,h=>by
  simp only[iP] at h;split at h
  ·rename_i d i a;split at h
   ·rename_i f j c;cases h;have:d.pure=true:=by
     cases l with
     |one l=>
      simp only[jL] at a;split at a
      ·rename_i e;cases a;exact OQ e
      ·cases a
     |agg ls=>
      simp only[jL] at a;split at a
      ·rename_i e;cases a;exact OT e
      ·cases a
    simp[this,OO c]
   ·cases h
  ·cases h
end
section
variable {S:bm} {K:Kit S} {P:Program} {rr:Option Nat} {o:Oper} {env:a1 S} {g:Nat->Option (Ob S)} {nx:Nat} {R:Type} {z:R} {k:AV S->Up S->AH S->Option R}
theorem gg {b:AV S} {up:Up S} {nw:AH S} (i: ∀c,o.op≠ .defer c) (hk:k b up nw=some z)
  (h: ∀(A:Pl) (O:Γ) (w:World) (a:Act),cQ A O w env a->bW A O w g->OB O w->cN K O w->(∀j,j<nw.length->A.pl (nx+j)=none)-> ∃v w' A' O',(execOp a.eval o).run P w= .ok (.value v) w'/\b.rel A' O' w' v/\cf A O w g (up++news nx nw) A' O' w'):Good K P rr o env g nx k z:=
 ⟨b,up,nw,hk,λ_ A O w a he m hO f l=>by
  obtain⟨v,w',A',O',h1,d,e⟩:=h A O w a he m hO f l;exact Si i h1 ⟨A',O',d,e⟩⟩
theorem vU {up:Up S} (e: ∀c,o.op≠ .defer c) (hk:k (.bJ []) up []=some z)
  (h: ∀(A:Pl) (O:Γ) (w:World) (a:Act),cQ A O w env a->bW A O w g->OB O w->cN K O w-> ∃w' A' O',(execOp a.eval o).run P w= .ok .skip w'/\cf A O w g up A' O' w'):Good K P rr o env g nx k z:=
 ⟨.bJ [],up,[],hk,λ_ A O w a he f hO d i=>by
  obtain⟨w',A',O',h1,b⟩:=h A O w a he f hO d;exact afj e h1 ⟨A',O',⟨[],rfl,rfl⟩,by simpa[news] using b⟩⟩
theorem q_ {A:Pl} {O:Γ} {w:World}: ∀ {xs:Γb},xs.all ξk=true->bF A O w (xs.map (LV.v (S:=S))) xs
 |[],_=>rfl
 |x::xs,h=>by
  simp only[List.all_cons,μ] at h;exact⟨[x],xs,rfl,⟨rfl,h.1⟩,q_ h.2⟩
theorem ac1 (d:b6 K P) {t:Nat} {i:TI} (b:o.op= .alloc t) (hi:K.Θ.get t=some i) (l:i.zero.cells.toList.all ξk=true) (h:k (.s (.one (.aM nx 0))) [] [some (.box t (i.zero.cells.toList.map .v))]=some z):Good K P rr o env g nx k z:=by
 refine gg (λc=>by rw[b];simp) h λA O w a he n hO m f=>?_;have hn:=jN hO t i.zero.cells.toList;have j:=f 0 (by simp);refine⟨_,_,_,_,?_,⟨w.heap.size,Pl.ff A nx (.pointer (some ⟨w.heap.size,0,none⟩)),rfl⟩,
  mV (p:=.pointer (some ⟨w.heap.size,0,none⟩)) hO j hn.fr hn.tr hn.ob hn.ge ⟨w.heap.size,_,rfl,hn.bL,q_ l⟩ (λc e=>by cases e;rfl)⟩
 simp only[execOp,b,ηh,η,mm (d.Θ.fits hi),ζ];rfl
theorem ac4 {t:Nat} {x:Operand} {b:aB S} (e:o.op= .box t x) (m:de K env x=some (.s b)) (h:k (.s (.one (.aM nx 0))) [] [some (.box t b.cells)]=some z):Good K P rr o env g nx k z:=by
 refine gg (λc=>by rw[e];simp) h λA O w a he n hO f j=>?_;have l:=aB.rel.cells (dL he f m);have hn:=jN hO t (a.eval x).cells.toList;have d:=j 0 (by simp);refine⟨_,_,_,_,?_,⟨w.heap.size,Pl.ff A nx (.pointer (some ⟨w.heap.size,0,none⟩)),rfl⟩,
  mV (p:=.pointer (some ⟨w.heap.size,0,none⟩)) hO d hn.fr hn.tr hn.ob hn.ge ⟨w.heap.size,_,rfl,hn.bL,jV hn.tr (Pl.kS d) l⟩ (λc i=>by cases i;rfl)⟩
 simp only[execOp,e,Instr.box,η];rfl
theorem adk {f:Nat} {fs cs:Array Operand} {d b:List (aB S)} (j:o.op= .makeFunc (.func f) fs cs) (h1:g' K env fs.toList=some d) (n:g' K env cs.toList=some b) (h:k (.s (.one (.a7 nx))) [] [some (.a7 f d b)]=some z):Good K P rr o env g nx k z:=by
 refine gg (λc=>by rw[j];simp) h λA O w a he t hO e p=>?_;have i:=p 0 (by simp);have q:=lr he e h1;have r:=lr he e n;have hle:A.le (A.put nx (.func (.func f) (fs.toList.map a.eval).toArray (cs.toList.map a.eval).toArray)):=Pl.kS i;refine⟨.func (.func f) (fs.toList.map a.eval).toArray (cs.toList.map a.eval).toArray,w,_,O,?_,⟨_,_,_,Pl.ff A nx (.func (.func f) (fs.toList.map a.eval).toArray (cs.toList.map a.eval).toArray),rfl⟩,
  N1 hO i ⟨_,_,rfl,lX (Tr.refl O w) hle q,lX (Tr.refl O w) hle r⟩ rfl⟩
 simp only[execOp,j,ζY,η,κ,ζ];have l:fs.map a.eval=(fs.toList.map a.eval).toArray:=by rw[<-ξg]
 have m:cs.map a.eval=(cs.toList.map a.eval).toArray:=by rw[<-ξg]
 rw[l,m]
theorem adl {t:Nat} {d e:IntKind} (b:o.op= .makeMap t none) (h:k (.s (.one (.mp nx))) [] [some (.map d e [])]=some z):Good K P rr o env g nx k z:=by
 refine gg (λc=>by rw[b];simp) h λA O w a he n hO m i=>?_;have j:=i 0 (by simp);have hn:Dh O w w.heap.size (w.alloc (.map #[] 0)):=⟨heap_alloc_new _ _,⟨rfl,rfl,rfl,by simp,λk hk _=>ξV _ _ _ hk⟩,
  ⟨rfl,rfl,rfl,by simp,λk hk l=>⟨by simp;exact⟨by omega,l⟩,ξV _ _ _ hk⟩⟩,λk hk=>by
   simp at hk ⊢;rcases hk with rfl|hk
   ·omega
   ·have:=hO k hk;omega,ξ3 _⟩
 refine⟨.map (some w.heap.size),_,_,_,?_,⟨w.heap.size,Pl.ff A nx (.map (some w.heap.size)),rfl⟩,
  mV (p:=.map (some w.heap.size)) hO j hn.fr hn.tr hn.ob hn.ge ⟨w.heap.size,rfl,hn.is d e⟩ (λc f=>by cases f;rfl)⟩
 simp only[execOp,b,η,ξc];rw[show(Instr.makeMap t none).run P w= .ok (.map (some w.heap.size)) (w.alloc (.map #[] 0)) from rfl];rfl
theorem adp {x:Operand} {e:Nat} (b:o.op= .assign x) (i:x= .const (.slice none 0 0)) (h:k (.s (.one (.own nx))) [] [some (.row e [])]=some z):Good K P rr o env g nx k z:=by
 subst i;refine gg (λc=>by rw[b];simp) h λA O w a he l hO j d=>?_;have f:=d 0 (by simp);refine⟨.slice none 0 0,w,_,O,?_,⟨_,Pl.ff A nx (.slice none 0 0),rfl,rfl⟩,N1 hO f Dc.Own.iZ rfl⟩;unfold execOp;rw[b];rfl
theorem adq (l:b6 K P) {t:Nat} {x:Operand} {s:ByteArray} {i:TI} (e:o.op= .range t x) (hi:K.Θ.get t=some i) (f:i.tag=3) (r:cb K env x=some (.v (.string s))) (h:k (.s (.one (.cZ nx))) [] [some (.cZ s 0)]=some z):Good K P rr o env g nx k z:=by
 refine gg (λc=>by rw[e];simp) h λA O w a he u hO j m=>?_;have n:=m 0 (by simp);have q:=eg (cc he j r);have d:Fr [] w {w with heap:=w.heap.push (.stringIter s 0)}:=⟨rfl,rfl,rfl,by simp,λk hk _=>by simp only;rw[Array.getElem?_push_lt hk,σ hk]⟩;refine⟨.pointer (some ⟨w.heap.size,0,none⟩),{w with heap:=w.heap.push (.stringIter s 0)},_,_,?_,⟨w.heap.size,Pl.ff A nx (.pointer (some ⟨w.heap.size,0,none⟩)),rfl⟩,
  mV (p:=.pointer (some ⟨w.heap.size,0,none⟩)) hO n d (JY d (ξ3 _)) (λc b=>by simp at b ⊢;rcases b with rfl|b;omega;have:=hO c b;omega) (ξ3 _) ⟨w.heap.size,rfl,by simp⟩ (λc b=>by cases b;rfl)⟩
 simp only[execOp,e,η,q,Instr.range,run_underlying ((l.Θ.fits hi).string f),ζ,κ];simp[newObj,ζo]
theorem ado {x:Operand} {i pos:Nat} {s:ByteArray} (u:o.op= .next x true) (C:cb K env x=some (.cZ i)) (hi:g i=some (.cZ s pos))
  (h:(bif decide (pos<s.size) then k (.bJ [.one (.v (.bool true)),.one (.v (goInt pos)),.one (.v (.int .i32 (ζ4 s pos).1))]) [(i,some (.cZ s (pos+(ζ4 s pos).2)))] [] else k (.bJ [.one (.v (.bool false))]) [] [])=some z):Good K P rr o env g nx k z:=by
 have y: ∀c,o.op≠ .defer c:=λc=>by rw[u];simp
 cases n:decide (pos<s.size)<;>rw[n] at h
 ·have t: ¬pos<s.size:=by simpa using n
  refine cS y h λA O w a he q hO l=>?_;obtain⟨m,j,d⟩:=cc he l C;obtain⟨p,hp,⟨b,rfl,f⟩,_⟩:=q.al i _ hi;rw[j] at hp;cases hp;have d:a.eval x= .pointer (some ⟨m,0,none⟩):=by simpa using d
  refine⟨.tuple #[.bool false],?_,_,rfl,_,_,rfl,⟨rfl,rfl⟩,rfl⟩;have r:(getObj m).run P w= .ok (.stringIter s pos) w:=by simp[getObj,ζo,f]
  simp only[execOp,u,η,d,ηk,r,ζ,if_neg t,κ]
 ·have t:pos<s.size:=by simpa using n
  refine gg y h λA O w a he q hO l F=>?_;obtain⟨m,j,d⟩:=cc he l C;obtain⟨p,hp,⟨b,rfl,f⟩,hm⟩:=q.al i _ hi;rw[j] at hp;cases hp;have d:a.eval x= .pointer (some ⟨m,0,none⟩):=by simpa using d
  have hl:m<w.heap.size:=(ξb.1 f).1;have D:Fr [m] w {w with heap:=w.heap.setIfInBounds m (.stringIter s (pos+(ζ4 s pos).2))}:=⟨rfl,rfl,rfl,by simp,λk hk B=>by simp at B;simp only;rw[ξ (λe=>B e.symm)]⟩;refine⟨.tuple #[.bool true,goInt pos,.int .i32 (ζ4 s pos).1],_,_,_,?_,⟨_,rfl,_,_,rfl,⟨rfl,rfl⟩,_,_,rfl,⟨rfl,rfl⟩,_,_,rfl,⟨rfl,rfl⟩,rfl⟩,
   mW hO (hm m rfl) hi j rfl D ⟨m,rfl,by simp[hl]⟩⟩
  have r:(getObj m).run P w= .ok (.stringIter s pos) w:=by simp[getObj,ζo,f]
  have E: ∀o:Obj,(setObj m o).run P w= .ok () {w with heap:=w.heap.setIfInBounds m o}:=λo=>by simp[setObj,ζo,f]
  simp only[execOp,u,η,d,ηk,r,ζ,if_pos t,E,κ]
end
end Go.Vx
end
