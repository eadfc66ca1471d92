/- A part of the proof that ModelDoes returns true for every input: the machine of values, its soundness, the program as plain functions, the law. Conditions: those of the given rows. -/
import Derived.ControlIn
import Derived.CallsIn
import Derived.WalkKit
import Derived.RangeFuncNested
import Derived.RangeFuncLeaves
import Derived.Laws.Cells
import Derived.Laws.Rows
import Derived.Laws.Tables
import Derived.Deep.MidRow
import Derived.IntWalk
import Derived.Deep.LoopGhost
import Derived.Scope
import Derived.OrdersIn
import Derived.Maps.AppendAt
import Derived.OwnWalk
import Derived.Laws.StructEq
import Derived.Laws.MakeOwn
import Derived.Laws.OwnMore
import Derived.Lib.AppendZerosOnto
import Derived.Lib.Overlaps
import Derived.Laws.Externs
import Derived.Laws.LoneSync
import Derived.Laws.AppendOwn
import Derived.MapKept
import Derived.Laws.BytesString
import Derived.Lib.BufferWrite
set_option linter.unusedVariables false
set_option linter.unusedSimpArgs false
noncomputable section
set_option maxRecDepth 1000000
set_option maxHeartbeats 12000000
open Array renaming getD_eq_getD_getElem?→θ,getElem?_setIfInBounds_ne→ξ,getElem?_eq_getElem→σ,all_eq_true_iff_forall_mem→ξ8,getElem?_eq_some_iff→ξb,toList_map→ξh,mapM_eq_mapM_toList→ξF,length_toList→ξK,replicate→ζY
open Bool renaming and_eq_true→μ,not_eq_true'→ξt,false_or→ζh,not_true→ζC,false_eq_true→ζE,or_eq_true→ζX,not_false→η2,true_and→η8
open Go.Act renaming eval→ζv,put→ζH
open Go.Addr renaming add_zero'→ξU,add→ζ6
open Go.Builtin renaming firstCells→ξ2,lenOf→ξk,copy_→ξl,zeroCells→ξu,append_→ξD,len_→ξM
open Go.Deferred renaming ofValue→ξX
open Go.Exit renaming inBlock→ζp
open Go.Extern.SlicesOverlaps renaming overlaps→ζP
open Go.Instr renaming sureAddr→ξq,indexAt→ξw,sliceAt→ξx,fill→ζb,sliceBound→ζm,slice→ζx,storeAt→ζB,keyThatStays→ζG,sliceBounds→ζL,loadAt→ζN,buildSlice→ζR,mapUpdate→ζZ,makeFunc→η1,checkKey→η3,fieldAt→η6,extract→η7,findNow→η9,findKey→ηa,lookup→ηf,build→ηg,field→ηh,alloc→ηi,index→ηk,next→ηl
open Go.IntKind renaming i64→ζW
open Go.MapKept renaming run_findKey→ζz,heap_set→ζS
open Go.Op renaming equalIn→ζI,intDiv→ζT,equal→η4,shift→η5
open Go.Oper renaming semAt_eq→ξp,uponIn→ξS
open Go.Region renaming ready→ξB,binds→ζq,wanted→ζA
open Go.Result renaming andThen_ok→ε
open Go.RowKit.Below renaming heap_alloc→ξW
open Go.Sem renaming run_bind→η,run_pure→κ,run→ζj,run_map→ζU
open Go.StepsIn renaming of_steps→ζQ,mono→ηb
open Go.Utf8 renaming decode→ζ4
open Go.Value renaming oneCell'→ξm,int→ξn,bool→ξN,slice→ξT,cells→ζi
open Go.World renaming frozen?→ζD,shape?→ηe
open Int renaming natCast_nonneg→ζ7,toNat_natCast→ζM,ofNat→η0
open List renaming getElem?_eq_some_iff→ν,mem_cons_self→π,mem_append→τ,length_append→χ,length_take→ψ,getElem?_take→ω,mem_cons_of_mem→ξ4,take_of_length_le→ξ5,getElem?_drop→ξ6,getElem?_eq_getElem→ξ7,getElem?_cons_zero→ξa,mem_cons→ξd,length_drop→ξe,eq_nil_of_length_eq_zero→ξf,getElem?_cons_succ→ξg,mem_append_right→ξi,mem_append_left→ξj,map_cons→ξo,getElem?_map→ξs,length_cons→ξy,drop_eq_nil_of_le→ξz,getElem?_append_right→ξE,drop_eq_getElem_cons→ξG,getElem?_append_left→ξH,drop_append→ξJ,mem_filter→ξP,drop_of_length_le→ξR,getElem?_toArray→ξV,map_toArray→ξY,take_append→ξZ,mem_of_getElem?→ζ1,range'→ζ2,nil_append→ζ3,mapM_cons→ζ8,replicate→ζ9,take_zero→ζa,any_eq_false→ζc,ext_getElem?→ζd,getElem?_set→ζe,append_assoc→ζg,all_eq_true→ζl,map_nil→ζr,getElem?_append→ζw,replicate_succ→ζy,findIdx?_cons→ζF,range→ζJ,flatten_cons→ζK,mem_map→ζO,headD_cons→ζV,length→ηj
open List.cons renaming injEq→ζu
open Nat renaming eq_of_beq_eq_true→δ,beq→ζ,le_of_ble_eq_true→ο,lt_of_lt_of_le→φ,blt→ξ1,le_refl→ξ3,ble→ξ9,mul_le_mul_right→ξr,zero_add→ξv,lt_or_ge→ξA,succ_mul→ξC,blt_eq→ξL,le_mul_of_pos_right→ξQ,min→ζ0,le_trans→ζ5,decEq→ζf,min_eq_right→ζn,add_zero→ζs,min_eq_left→ζt,add_comm→ηc,le_total→ηd
open Option renaming getD_some→υ,map_some→ξ0,map_none→ξc,getD_none→ξI,none→ζk,map_eq_some_iff→ζo
open Option.some renaming injEq→ι
open Prod.mk renaming injEq→ξO
section

abbrev Γ:=List Nat
abbrev Γa:=List Int
abbrev Γb:=List Go.Value
abbrev Γc:=List (Int×Int)
abbrev Γd:=List (Int×Go.Value)
namespace Go.Dc
open Go.RowKit
abbrev Env:=List (Nat×Value)
def Env.get:Env->Nat->Option Value
 |[],_=>none
 |(i,v)::r,j=>bif ζ i j then some v else Env.get r j
structure Has (N:Nat) (E:Env) (ds:List Deferred) (a:Act):Prop where
 size:a.tmps.size=N
 defers:a.defers=ds
 get: ∀i v,E.get i=some v->a.tmps.getD i undef=v
def agree:Env->Env->Prop
 |[],_=>True
 |(i,v)::r,E=>E.get i=some v/\agree r E
theorem aaE {E' E:Env} (h:agree E' E): ∀ {i v},E'.get i=some v->E.get i=some v:=by
 induction E' with
 |nil=>intro i v a;simp[Env.get] at a
 |cons p r e=>
  obtain⟨j,u⟩:=p;obtain⟨c,d⟩:=h;intro i v a;simp only[Env.get] at a;cases b:ζ j i with
  |true=>
   rw[b] at a;simp only[cond_true,ι] at a;have:=δ b;subst this;subst a;exact c
  |false=>rw[b] at a;exact e d a
theorem Has.weaken {N E E' ds a} (h:Has N E ds a) (b:agree E' E):Has N E' ds a:=⟨h.size,h.defers,λi v c=>h.get i v (aaE b c)⟩
def ev (E:Env):Operand->Option Value
 | .tmp t=>E.get t
 | .const v=>some v
 | .global g=>some (.pointer (some ⟨g,0,none⟩))
 | .func f=>some (.func (.func f) #[] #[])
theorem Has.eval {N E ds a x v} (h:Has N E ds a) (b:ev E x=some v):a.eval x=v:=by
 cases x with
 |tmp t=>exact h.get t v b
 |const u=>simpa[ev,ζv] using b
 |global g=>simpa[ev,ζv] using b
 |func f=>simpa[ev,ζv] using b
theorem Has.put {N E ds a d v} (h:Has N E ds a) (c:ξ1 d N=true):Has N ((d,v)::E) ds (a.put (some d) v):=by
 have f:d<a.tmps.size:=by rw[h.size];exact ξL.mp c
 refine⟨by simp[ζH,h.size],h.defers,λi u hu=>?_⟩;simp only[Env.get] at hu;simp only[ζH];cases b:ζ d i with
 |true=>
  rw[b] at hu;have:=δ b;subst this;simp only[cond_true,ι] at hu;simp[f,hu]
 |false=>
  rw[b] at hu;simp only[cond_false] at hu;have g:d≠i:=λe=>by subst e;simp at b
  have:=h.get i u hu;simp only[θ] at this ⊢;rw[ξ g];exact this
structure TI where
 tag:Nat
 k:Nat:=0
 e:Nat:=0
 fs:List (Nat×Nat):=[]
 size:Nat:=1
 bytes:Nat:=8
 zero:Value:=.bool false
def Pe:IntKind->Nat
 | .i8=>0| .i16=>1| .i32=>2| .i64=>3| .u8=>4| .u16=>5| .u32=>6| .u64=>7
def noKind:Nat->IntKind
 |0=>.i8|1=>.i16|2=>.i32|3=>.i64|4=>.u8|5=>.u16|6=>.u32|_=>.u64
theorem ad0 (k:IntKind):noKind (Pe k)=k:=by cases k<;>rfl
def iC:TypeDesc->Nat×Nat×Nat×List (Nat×Nat)
 | .bool=>(1,0,0,[])
 | .int k=>(2,Pe k,0,[])
 | .string=>(3,0,0,[])
 | .pointer e=>(4,0,e,[])
 | .slice e=>(5,0,e,[])
 | .array n e=>(6,n,e,[])
 | .map k e=>(7,k,e,[])
 | .struct fs=>(8,0,0,fs.toList.map λf=>(f.type,f.offset))
 | .func _ _ _=>(9,0,0,[])
 | .interface _=>(10,0,0,[])
 |_=>(0,0,0,[])
abbrev cE:=List (Nat×TI)
def cE.get:cE->Nat->Option TI
 |[],_=>none
 |(i,v)::r,j=>bif ζ i j then some v else cE.get r j
def TI.fits (P:Program) (t:Nat) (i:TI):Prop:=(P.underlying t).map iC=some (i.tag,i.k,i.e,i.fs)/\(P.info? t).map (λx=>(x.size,x.bytes,x.zero))=some (i.size,i.bytes,some i.zero)
def cE.ok (P:Program):cE->Prop
 |[]=>True
 |(t,i)::r=>i.fits P t/\cE.ok P r
theorem cE.ok.fits {P:Program} {Θ:cE} (h:Θ.ok P): ∀ {t i},Θ.get t=some i->i.fits P t:=by
 induction Θ with
 |nil=>intro t i hi;simp[cE.get] at hi
 |cons p r d=>
  obtain⟨j,u⟩:=p;obtain⟨b,c⟩:=h;intro t i hi;simp only[cE.get] at hi;cases a:ζ j t with
  |true=>
   rw[a] at hi;have:=δ a;subst this;simp only[cond_true,ι] at hi;subst hi;exact b
  |false=>rw[a] at hi;exact d c hi
section
variable {P:Program} {t:Nat} {i:TI}
theorem TI.fits.desc (h:i.fits P t): ∃d,P.underlying t=some d/\iC d=(i.tag,i.k,i.e,i.fs):=by
 obtain⟨a,_⟩:=h;cases hu:P.underlying t with
 |none=>rw[hu] at a;cases a
 |some d=>rw[hu] at a;exact⟨d,rfl,by simpa using a⟩
theorem TI.fits.info (h:i.fits P t): ∃x,P.info? t=some x/\x.size=i.size/\x.bytes=i.bytes/\x.zero=some i.zero:=by
 obtain⟨_,a⟩:=h;cases hu:P.info? t with
 |none=>rw[hu] at a;cases a
 |some x=>rw[hu] at a;simp only[ξ0,ι,ξO] at a;exact⟨x,rfl,a.1,a.2.1,a.2.2⟩
theorem TI.fits.bool (h:i.fits P t) (c:i.tag=1):P.underlying t=some .bool:=by
 obtain⟨d,a,b⟩:=h.desc;rw[a];cases d<;>simp[iC,c] at b<;>try rfl
 all_goals omega
theorem TI.fits.int (h:i.fits P t) (c:i.tag=2):P.underlying t=some (.int (noKind i.k)):=by
 obtain⟨d,b,a⟩:=h.desc;rw[b];cases d<;>simp[iC,c] at a<;>try omega
 rw[<-a.1,ad0]
theorem TI.fits.string (h:i.fits P t) (c:i.tag=3):P.underlying t=some .string:=by
 obtain⟨d,a,b⟩:=h.desc;rw[a];cases d<;>simp[iC,c] at b<;>try rfl
 all_goals omega
theorem TI.fits.pointer (h:i.fits P t) (c:i.tag=4):P.underlying t=some (.pointer i.e):=by
 obtain⟨d,b,a⟩:=h.desc;rw[b];cases d<;>simp[iC,c] at a<;>try omega
 rw[a.2.1]
theorem TI.fits.slice (h:i.fits P t) (c:i.tag=5):P.underlying t=some (.slice i.e):=by
 obtain⟨d,b,a⟩:=h.desc;rw[b];cases d<;>simp[iC,c] at a<;>try omega
 rw[a.2.1]
theorem TI.fits.array (h:i.fits P t) (c:i.tag=6):P.underlying t=some (.array i.k i.e):=by
 obtain⟨d,b,a⟩:=h.desc;rw[b];cases d<;>simp[iC,c] at a<;>try omega
 rw[a.1,a.2.1]
theorem TI.fits.map (h:i.fits P t) (c:i.tag=7):P.underlying t=some (.map i.k i.e):=by
 obtain⟨d,b,a⟩:=h.desc;rw[b];cases d<;>simp[iC,c] at a<;>try omega
 rw[a.1,a.2.1]
theorem TI.fits.struct (h:i.fits P t) (c:i.tag=8): ∃fs,P.underlying t=some (.struct fs)/\fs.toList.map (λf=>(f.type,f.offset))=i.fs:=by
 obtain⟨d,b,a⟩:=h.desc;rw[b];cases d<;>simp[iC,c] at a<;>try omega
 exact⟨_,rfl,a.2.2⟩
end
end Go.Dc
end
section
namespace Go.Dc
open Go.RowKit
def Ge (op:BinOp) (k:IntKind) (a b:Int):Option Value:=
 match op with
 | .add=>some (.int k (k.wrap (a+b)))
 | .sub=>some (.int k (k.wrap (a-b)))
 | .mul=>some (.int k (k.wrap (a*b)))
 | .and=>some (.int k (bits .and k a b))
 | .or=>some (.int k (bits .or k a b))
 | .xor=>some (.int k (bits .xor k a b))
 | .andNot=>some (.int k (bits .andNot k a b))
 | .eql=>some (.bool (a==b))
 | .neq=>some (.bool (a !=b))
 | .lss=>some (.bool (decide (a<b)))
 | .leq=>some (.bool (decide (a<=b)))
 | .gtr=>some (.bool (decide (a>b)))
 | .geq=>some (.bool (decide (a>=b)))
 |_=>none
def sameKind:IntKind->IntKind->Bool
 | .i8,.i8| .i16,.i16| .i32,.i32| .i64,.i64| .u8,.u8| .u16,.u16| .u32,.u32| .u64,.u64=>true
 |_,_=>false
theorem e5 {a b:IntKind} (h:sameKind a b=true):a=b:=by cases a<;>cases b<;>first|rfl|(simp[sameKind] at h)
def ny (Θ:cE) (op:BinOp) (t:TypeId) (x y:Value):Option Value:=
 match x,y with
 | .int k a,.int c b=>bif sameKind k c then Ge op k a b else none
 | .bool a,.bool b=>
  match Θ.get t with
  |some i=>bif ζ i.tag 1 then(match op with| .eql=>some (.bool (a==b))| .neq=>some (.bool (!(a==b)))|_=>none) else none
  |none=>none
 | .string a,.string b=>match op with| .eql=>some (.bool (a.toList==b.toList))| .neq=>some (.bool (!(a.toList==b.toList)))|_=>none
 | .slice a _ _,.slice none _ _=>
  match Θ.get t with
  |some i=>bif ζ i.tag 5 then(match op with| .eql=>some (.bool a.isNone)| .neq=>some (.bool (!a.isNone))|_=>none) else none
  |none=>none
 | .pointer a,.pointer none=>
  match Θ.get t with
  |some i=>bif ζ i.tag 4 then(match op with| .eql=>some (.bool a.isNone)| .neq=>some (.bool (!a.isNone))|_=>none) else none
  |none=>none
 |_,_=>none
def ajD:Operand->Bool
 | .const (.int _ n)=>n==0
 |_=>true
def vw (op:BinOp) (x:Value) (y:Operand):Option Value:=
 match x,y with
 | .int k a,.const (.int c b)=>
  match op with
  | .quo=>bif sameKind k c&&!(b==0) then some (.int k (k.wrap (a.tdiv b))) else none
  | .rem=>bif sameKind k c&&!(b==0) then some (.int k (a.tmod b)) else none
  | .shl=>bif !(decide (b<0)) then some (.int k (k.wrap (a*2^(min b.toNat k.bits)))) else none
  | .shr=>bif !(decide (b<0)) then some (.int k (a.fdiv (2^(min b.toNat k.bits)))) else none
  |_=>none
 |_,_=>none
def Gj (op:UnOp) (x:Value):Option Value:=
 match op,x with
 | .not,.bool b=>some (.bool (!b))
 | .neg,.int k n=>some (.int k (k.wrap (0-n)))
 |_,_=>none
def Gg (Θ:cE) (src dst:TypeId) (x:Value):Option Value:=
 match Θ.get src,Θ.get dst with
 |some i,some j=>
  match x with
  | .int _ n=>bif ζ j.tag 2 then some (.int (noKind j.k) ((noKind j.k).wrap n)) else none
  | .string s=>bif ζ i.tag 3&&ζ j.tag 3 then some (.string s) else none
  |_=>none
 |_,_=>none
def Gi (Θ:cE) (t:TypeId) (x:Value):Option Value:=
 match Θ.get t with
 |some i=>
  match x with
  | .slice _ n _=>bif ζ i.tag 5 then some (.int .i64 n) else none
  | .string s=>bif ζ i.tag 3 then some (.int .i64 s.size) else none
  |_=>none
 |none=>none
def N3 (x y:Value):Option Value:=
 match x,y with
 | .int k a,.int c b=>bif sameKind k c then some (.int k (if b<a then b else a)) else none
 |_,_=>none
def N2 (x y:Value):Option Value:=
 match x,y with
 | .int k a,.int c b=>bif sameKind k c then some (.int k (if b>a then b else a)) else none
 |_,_=>none
def g_ (E:Env):List Operand->Option (Γb)
 |[]=>some []
 |x::r=>match ev E x,g_ E r with|some v,some vs=>some (v::vs)|_,_=>none
def kJ (fs:List (Nat×Nat)) (Θ:cE) (E:Env):List (Nat×Operand)->Array Value->Option (Array Value)
 |[],cs=>some cs
 |(i,x)::r,cs=>
  match fs[i]?,ev E x with
  |some (t,off),some v=>
   match Θ.get t with
   |some a=>
    bif ζ v.cells.size a.size&&ξ9 (off+v.cells.size) cs.size then kJ fs Θ E r (v.cells.zipIdx.foldl (λcs (c,j)=>cs.setIfInBounds (off+j) c) cs)
    else none
   |none=>none
  |_,_=>none
def Gf (Θ:cE) (E:Env) (c:Callee) (args:List Operand) (a:List TypeId):Option Value:=
 match c with
 | .builtin b=>
  match b with
  | .len=>match args,a with|[x],[t]=>(match ev E x with|some v=>Gi Θ t v|none=>none)|_,_=>none
  | .min=>match args with|[x,y]=>(match ev E x,ev E y with|some u,some v=>N3 u v|_,_=>none)|_=>none
  | .max=>match args with|[x,y]=>(match ev E x,ev E y with|some u,some v=>N2 u v|_,_=>none)|_=>none
  | .cap=>
   match args,a with
   |[x],[t]=>
    match Θ.get t,ev E x with
    |some i,some (.slice _ _ c)=>bif ζ i.tag 5 then some (.int .i64 c) else none
    |_,_=>none
   |_,_=>none
  |_=>none
 |_=>none
def iV (Θ:cE) (E:Env) (op:Op):Option Value:=
 match op with
 | .move x| .assign x=>ev E x
 | .pick c a b=>match ev E c with|some (.bool t)=>(match t with|true=>ev E a|false=>ev E b)|_=>none
 | .binOp o t x y _=>
  match ev E x,ev E y with
  |some u,some v=>
   match vw o u y with
   |some z=>some z
   |none=>ny Θ o t u v
  |_,_=>none
 | .unOp o _ x=>match ev E x with|some v=>Gj o v|none=>none
 | .convert s d x=>match ev E x with|some v=>Gg Θ s d v|none=>none
 | .extract x i=>match ev E x with|some (.tuple vs)=>vs[i]? |_=>none
 | .makeFunc fn first g=>match g_ E first.toList,g_ E g.toList with|some f,some c=>some (.func fn f.toArray c.toArray)|_,_=>none
 | .field t x f=>
  match Θ.get t,ev E x with
  |some i,some (.agg cs)=>
   bif ζ i.tag 8 then
    match i.fs[f]? with
    |some (e,off)=>
     match Θ.get e with
     |some j=>bif ζ j.tag 8||ζ j.tag 6 then some (.agg (cs.extract off (off+j.size))) else cs[off]?
     |none=>none
    |none=>none
   else none
  |_,_=>none
 | .fieldAddr t x f=>
  match Θ.get t,ev E x with
  |some i,some (.pointer (some a))=>
   bif ζ i.tag 8 then
    match i.fs[f]? with
    |some (e,off)=>
     match Θ.get e with
     |some j=>bif ζ j.size 0 then none else some (.pointer (some (a.add off)))
     |none=>none
    |none=>none
   else none
  |_,_=>none
 | .build t parts=>
  match Θ.get t with
  |some i=>bif ζ i.tag 8 then(match kJ i.fs Θ E parts.toList i.zero.cells with|some cs=>some (.agg cs)|none=>none) else none
  |none=>none
 | .nilCheck x=>match ev E x with|some (.pointer (some a))=>some (.pointer (some a))|some (.func (.func f) u v)=>some (.func (.func f) u v)|_=>none
 | .call c=>Gf Θ E c.callee c.args.toList c.argTypes.toList
 |_=>none
section
variable {P:Program} {Θ:cE} {N:Nat} {E:Env} {ds:List Deferred} {a:Act} {w:World}
theorem ahq {op:BinOp} {k:IntKind} {x y:Int} {v:Value} {t:TypeId} {ox oy:Operand} (h:Ge op k x y=some v):
  (do eqGuard op t ox oy (.int k x) (.int k y);binOp op t (.int k x) (.int k y):Sem Value).run P w= .ok v w:=by
 cases op<;>simp[Ge] at h<;>subst h<;>simp[go_sem]
 all_goals simp[Op.intArith]
theorem Gc {t:TypeId} {x y:Value} {r:Bool} (h: ∀d,(ζI (d+1) t x y).run P w= .ok r w):(η4 t x y).run P w= .ok r w:=h 9999
theorem ab6 {t:TypeId} {x y:Bool} (h:P.underlying t=some .bool):(η4 t (.bool x) (.bool y)).run P w= .ok (x==y) w:=
 Gc λd=>by simp[ζI,run_underlying h]
theorem ab8 {t e:TypeId} {A:Option Addr} {n c m d:Nat} (h:P.underlying t=some (.slice e)):(η4 t (.slice A n c) (.slice none m d)).run P w= .ok A.isNone w:=
 Gc λd=>by cases A<;>simp[ζI,run_underlying h]
theorem ab7 {t e:TypeId} {A:Option Addr} (h:P.underlying t=some (.pointer e)):(η4 t (.pointer A) (.pointer none)).run P w= .ok A.isNone w:=
 Gc λd=>by cases A<;>simp[ζI,run_underlying h]
theorem Tg (g:Θ.ok P) {op:BinOp} {x y v:Value} {t:TypeId} {ox oy:Operand} (h:ny Θ op t x y=some v):
  (do eqGuard op t ox oy x y;binOp op t x y:Sem Value).run P w= .ok v w:=by
 unfold ny at h;split at h
 .rename_i k a j b;cases f:sameKind k j with
  |true=>rw[f] at h;have:=e5 f;subst this;exact ahq h
  |false=>rw[f] at h;cases h
 .rename_i a b;cases hi:Θ.get t with
  |none=>rw[hi] at h;cases h
  |some i=>
   rw[hi] at h;simp only at h;cases e:ζ i.tag 1 with
   |false=>rw[e] at h;cases h
   |true=>
    rw[e] at h;have hu:=(g.fits hi).bool (δ e);cases op<;>simp at h<;>subst h<;>simp[go_sem,binOp,ab6 hu]
 .rename_i a b;cases op<;>simp at h<;>subst h<;>simp[binOp,Op.stringOp,eqGuard_at_string]
 .rename_i A n c m d;cases hi:Θ.get t with
  |none=>rw[hi] at h;cases h
  |some i=>
   rw[hi] at h;simp only at h;cases e:ζ i.tag 5 with
   |false=>rw[e] at h;cases h
   |true=>
    rw[e] at h;have hu:=(g.fits hi).slice (δ e);cases op<;>simp at h<;>subst h<;>simp[go_sem,binOp,ab8 hu]
 .rename_i A;cases hi:Θ.get t with
  |none=>rw[hi] at h;cases h
  |some i=>
   rw[hi] at h;simp only at h;cases e:ζ i.tag 4 with
   |false=>rw[e] at h;cases h
   |true=>
    rw[e] at h;have hu:=(g.fits hi).pointer (δ e);cases op<;>simp at h<;>subst h<;>simp[go_sem,binOp,ab7 hu]
 .cases h
theorem aht {op:BinOp} {x v:Value} {t:TypeId} {ox oy:Operand} {y:Value} (e:ev E oy=some y) (h:vw op x oy=some v):
  (do eqGuard op t ox oy x y;binOp op t x y:Sem Value).run P w= .ok v w:=by
 unfold vw at h;split at h
 .rename_i k a f b;simp only[ev,ι] at e;subst e;cases op<;>simp at h
  .cases d:sameKind k f<;>rw[d] at h
   .cases h
   .have:=e5 d;subst this;cases c:(b==0)<;>rw[c] at h
    .simp at h;subst h;have:b≠0:=by simpa using c
     simp[go_sem,ζT,this]
    .cases h
  .cases d:sameKind k f<;>rw[d] at h
   .cases h
   .have:=e5 d;subst this;cases c:(b==0)<;>rw[c] at h
    .simp at h;subst h;have:b≠0:=by simpa using c
     simp[go_sem,ζT,this]
    .cases h
  .cases c:decide (b<0)<;>rw[c] at h
   .simp at h;subst h;have: ¬b<0:=by simpa using c
    simp[go_sem,η5,this]
   .cases h
  .cases c:decide (b<0)<;>rw[c] at h
   .simp at h;subst h;have: ¬b<0:=by simpa using c
    simp[go_sem,η5,this]
   .cases h
 .cases h
theorem ahv {op:UnOp} {x v:Value} (h:Gj op x=some v):(Op.unary op x).run P w= .ok v w:=by
 unfold Gj at h;split at h<;>simp at h<;>subst h<;>simp[Op.unary,Op.intArith]
theorem ahs (b:Θ.ok P) {s d:TypeId} {x v:Value} (h:Gg Θ s d x=some v):(convert s d x).run P w= .ok v w:=by
 unfold Gg at h;split at h
 .rename_i i j hi g;split at h
  .rename_i k n;cases a:ζ j.tag 2<;>rw[a] at h
   .cases h
   .simp at h;subst h;have c:=(b.fits g).int (δ a);obtain⟨u,e,_⟩:=(b.fits hi).desc;simp[convert,run_underlying c,run_underlying e,Conv.intToInt]
  .rename_i s;cases a:ζ i.tag 3<;>rw[a] at h
   .cases h
   .cases f:ζ j.tag 3<;>rw[f] at h
    .cases h
    .simp at h;subst h;have c:=(b.fits g).string (δ f);have e:=(b.fits hi).string (δ a);simp[convert,run_underlying c,run_underlying e]
  .cases h
 .cases h
theorem ahu (d:Θ.ok P) {t ty:TypeId} {x v:Value} (h:Gi Θ t x=some v):(ξM #[t] ty #[x]).run P w= .ok v w:=by
 unfold Gi at h;split at h
 .rename_i i hi;split at h
  .rename_i A n c;cases a:ζ i.tag 5<;>rw[a] at h
   .cases h
   .simp at h;subst h;have b:=(d.fits hi).slice (δ a);simp[ξM,run_underlying b,goInt]
  .rename_i s;cases a:ζ i.tag 3<;>rw[a] at h
   .cases h
   .simp at h;subst h;have b:=(d.fits hi).string (δ a);simp[ξM,run_underlying b,goInt]
  .cases h
 .cases h
theorem pj (h:Has N E ds a): ∀ {l:List Operand} {vs:Γb},g_ E l=some vs->l.map a.eval=vs:=by
 intro l
 induction l with
 |nil=>intro vs b;simp[g_] at b;subst b;rfl
 |cons x r e=>
  intro vs b;simp only[g_] at b;split at b
  .rename_i v us d c;simp at b;subst b;simp[h.eval d,e c]
  .cases b
theorem dW {t:TypeId} {i:TI} (h:i.fits P t):(sizeOf t).run P w= .ok i.size w:=by
 obtain⟨x,b,a,_⟩:=h.info;simp[sizeOf,typeInfo,b,a]
theorem HZ {t:TypeId} {i:TI} (h:i.fits P t):(isAgg t).run P w= .ok (ζ i.tag 8||ζ i.tag 6) w:=by
 obtain⟨d,b,a⟩:=h.desc;simp only[isAgg,η,run_underlying b,ε];cases d<;>simp[iC] at a<;>rw[<-a.1]<;>rfl
theorem mQ {t:TypeId} {i:TI} (h:i.fits P t):(zeroValue t).run P w= .ok i.zero w:=by
 obtain⟨x,a,_,_,b⟩:=h.info;simp[zeroValue,typeInfo,a,b]
theorem ae1 {t off:Nat} {i:TI} {cs:Array Value} {v:Value} (h:i.fits P t)
  (a:(bif ζ i.tag 8||ζ i.tag 6 then some (.agg (cs.extract off (off+i.size))) else cs[off]?)=some v):(part t cs off).run P w= .ok v w:=by
 simp only[part,η,HZ h,ε];cases b:(ζ i.tag 8||ζ i.tag 6)<;>rw[b] at a
 .simp only[cond_false] at a;simp[a]
 .simp only[cond_true,ι] at a;simp[dW h,a]
theorem Hk {fs:Array Field} {l:List (Nat×Nat)} (hl:fs.toList.map (λf=>(f.type,f.offset))=l) {f t off:Nat} (h:l[f]? =some (t,off)):
  ∃g,fs[f]? =some g/\g.type=t/\g.offset=off:=by
 subst hl;rw[ξs] at h;cases a:fs.toList[f]? with
 |none=>rw[a] at h;cases h
 |some g=>
  rw[a] at h;simp at h;exact⟨g,by simpa using a,h.1,h.2⟩
theorem ach (n:Θ.ok P) {fs:Array Field} {l:List (Nat×Nat)} (hl:fs.toList.map (λf=>(f.type,f.offset))=l) (h:Has N E ds a) {places:Array (Nat×Nat)}
  (hp: ∀(f t off:Nat) (i:TI),l[f]? =some (t,off)->Θ.get t=some i->places[f]? =some (off,i.size)):
  ∀ {ps:List (Nat×Operand)} {cs c:Array Value},kJ l Θ E ps cs=some c->ζb (places[·]?) cs (ps.map λp=>(p.1,a.eval p.2))=some c:=by
 intro ps
 induction ps with
 |nil=>intro cs c b;simpa[kJ,ζb] using b
 |cons p r m=>
  obtain⟨f,x⟩:=p;intro cs c b;simp only[kJ] at b;split at b
  .rename_i t off v j k;cases hi:Θ.get t with
   |none=>rw[hi] at b;cases b
   |some i=>
    rw[hi] at b;simp only at b;cases d:(ζ v.cells.size i.size&&ξ9 (off+v.cells.size) cs.size)<;>rw[d] at b
    .cases b
    .simp only[μ] at d;have e:=δ d.1;have g:=ο d.2;simp only[ξo,ζb,hp f t off i j hi,h.eval k];rw[if_neg (by simp only[e,ne_eq,not_true_eq_false,decide_false,ζh,decide_eq_true_eq];rw[e] at g;omega)];exact m b
  .cases b
theorem adG (s:Θ.ok P): ∀(fs:List Field),(∀f∈fs,∃i:TI,i.fits P f.type)-> ∃ps:List (Nat×Nat),(fs.mapM (λf=>do pure (f.offset,<-sizeOf f.type):Field->Sem (Nat×Nat))).run P w= .ok ps w/\
  ∀(k:Nat) (f:Field) (i:TI),fs[k]? =some f->i.fits P f.type->ps[k]? =some (f.offset,i.size):=by
 intro fs
 induction fs with
 |nil=>intro _;exact⟨[],by simp,λk f i h=>by simp at h⟩
 |cons f r q=>
  intro b;obtain⟨ps,e,l⟩:=q λg m=>b g (ξ4 _ m);obtain⟨i,hi⟩:=b f π;refine⟨(f.offset,i.size)::ps,?_,?_⟩
  .simp only[ζ8,η,dW hi,ε,κ,e]
  .intro k g j a c;cases k with
   |zero=>
    simp only[ξa,ι] at a ⊢;subst a;obtain⟨x,p,n,_⟩:=hi.info;obtain⟨y,d,o,_⟩:=c.info;rw[p] at d;cases d;rw[<-n,<-o]
   |succ k=>simpa using l k g j (by simpa using a) c
def p' (Θ:cE):List (Nat×Nat)->Bool
 |[]=>true
 |(t,_)::r=>(Θ.get t).isSome&&p' Θ r
theorem acf (b:Θ.ok P): ∀(fs:List Field),p' Θ (fs.map λf=>(f.type,f.offset))=true-> ∀f∈fs,∃i:TI,i.fits P f.type:=by
 intro fs
 induction fs with
 |nil=>intro _ f a;cases a
 |cons g r c=>
  intro h f a;simp only[ξo,p',μ] at h;rcases ξd.1 a with rfl|a
  .obtain⟨i,hi⟩:=Option.isSome_iff_exists.1 h.1;exact⟨i,b.fits hi⟩
  .exact c h.2 f a
theorem run_build (b:Θ.ok P) (h:Has N E ds a) {t:TypeId} {i:TI} {ps:Array (Nat×Operand)} {cs:Array Value} (hi:Θ.get t=some i) (q:i.tag=8) (o:p' Θ i.fs=true)
  (l:kJ i.fs Θ E ps.toList i.zero.cells=some cs):(ηg t (ps.map λ(k,x)=>(k,a.eval x))).run P w= .ok (.agg cs) w:=by
 obtain⟨fs,hu,hl⟩:=(b.fits hi).struct q;obtain⟨pl,d,e⟩:=adG (P:=P) (w:=w) b fs.toList (acf b _ (by rw[hl];exact o));simp only[ηg,η,mQ (b.fits hi),ε,run_underlying hu];rw[ξF];simp only[ζU,d];have c:=ach (places:=pl.toArray) b hl h (λf t off j c p=>by
  obtain⟨g,n,rfl,rfl⟩:=Hk hl c;have:=e f g j (by simpa using n) (b.fits p);simpa using this) l
 simp only[ε];rw[ξh];have m:ζb (λx=>pl.toArray[x]?) i.zero.cells (ps.toList.map λx=>(x.1,a.eval x.2))=some cs:=c;rw[m];rfl
theorem Th (b:Θ.ok P) {t f a off:Nat} {i j:TI} {cs:Array Value} {v:Value} (hi:Θ.get t=some i) (h:i.tag=8) (c:i.fs[f]? =some (a,off)) (e:Θ.get a=some j)
  (k:(bif ζ j.tag 8||ζ j.tag 6 then some (.agg (cs.extract off (off+j.size))) else cs[off]?)=some v):(ηh t (.agg cs) f).run P w= .ok v w:=by
 obtain⟨fs,hu,hl⟩:=(b.fits hi).struct h;obtain⟨g,d,rfl,rfl⟩:=Hk hl c;simp[ηh,run_underlying hu,d,asAgg,ae1 (b.fits e) k]
theorem Ti (b:Θ.ok P) {t f a off:Nat} {i j:TI} {A:Addr} (hi:Θ.get t=some i) (h:i.tag=8) (c:i.fs[f]? =some (a,off)) (e:Θ.get a=some j)
  (k:j.size≠0):(η6 t (.pointer (some A)) f).run P w= .ok (.pointer (some (A.add off))) w:=by
 obtain⟨fs,hu,hl⟩:=(b.fits hi).struct h;obtain⟨g,d,rfl,rfl⟩:=Hk hl c;simp[η6,run_underlying hu,d,ξq,fieldPlace,dW (b.fits e),k]
theorem fS {α:Type} {x:Array α} {l:List α} (h:x.toList=l):x=l.toArray:=by rw[<-h]
theorem ahr (q:Θ.ok P) (h:Has N E ds a) {c:Call} {ty:TypeId} {v:Value} (b:Gf Θ E c.callee c.args.toList c.argTypes.toList=some v):
  (do let d<-resolve a.eval c ty;invoke d.target d.args:Sem Next).run P w= .ok (.value v) w:=by
 obtain⟨r,args,s⟩:=c;simp only at b;unfold Gf at b;split at b
 .split at b
  .split at b
   .rename_i x t f g;have e:=fS f;have j:=fS g;subst e;subst j;split at b
    .rename_i u hu;simp[resolve,invoke,builtin,h.eval hu,ahu q b]
    .cases b
   .cases b
  .split at b
   .rename_i x y f;have e:=fS f;subst e;split at b
    .rename_i u z hu o;unfold N3 at b;split at b
     .rename_i k m p n;cases l:sameKind k p<;>rw[l] at b
      .cases b
      .simp only[cond_true,ι] at b;subst b;simp[resolve,invoke,builtin,h.eval hu,h.eval o,Builtin.min_,Builtin.min2]
     .cases b
    .cases b
   .cases b
  .split at b
   .rename_i x y f;have e:=fS f;subst e;split at b
    .rename_i u z hu o;unfold N2 at b;split at b
     .rename_i k m p n;cases l:sameKind k p<;>rw[l] at b
      .cases b
      .simp only[cond_true,ι] at b;subst b;simp[resolve,invoke,builtin,h.eval hu,h.eval o,Builtin.max_,Builtin.max2]
     .cases b
    .cases b
   .cases b
  .split at b
   .rename_i x t f g;have e:=fS f;have j:=fS g;subst e;subst j;split at b
    .rename_i i A n c hi hu;cases g:ζ i.tag 5<;>rw[g] at b
     .cases b
     .simp only[cond_true,ι] at b;subst b;simp[resolve,invoke,builtin,h.eval hu,Builtin.cap_,run_underlying ((q.fits hi).slice (δ g)),goInt]
    .cases b
   .cases b
  .cases b
 .cases b
def im (Θ:cE):Op->Bool
 | .build t _=>match Θ.get t with|some i=>p' Θ i.fs|none=>false
 |_=>true
theorem yr (p:Θ.ok P) (h:Has N E ds a) {o:Oper} {v:Value} (B:im Θ o.op=true) (g:iV Θ E o.op=some v):(execOp a.eval o).run P w= .ok (.value v) w:=by
 unfold iV at g;unfold execOp;split at g
 .rename_i x k;rw[k];simp[h.eval g]
 .rename_i x k;rw[k];simp[h.eval g]
 .rename_i c x y k;rw[k];split at g
  .rename_i t n;cases t
   .simp[h.eval n,h.eval g,asBool]
   .simp[h.eval n,h.eval g,asBool]
  .cases g
 .rename_i b t x y _ k;rw[k];split at g
  .rename_i u J l F;simp only[h.eval l,h.eval F];cases r:vw b u y with
   |some z=>
    rw[r] at g;simp only[ι] at g;subst g;have:=aht (P:=P) (w:=w) (t:=t) (ox:=x) F r;simp only[η] at this ⊢;rw[this];rfl
   |none=>
    rw[r] at g;have:=Tg (P:=P) (w:=w) (ox:=x) (oy:=y) p g;simp only[η] at this ⊢;rw[this];rfl
  .cases g
 .rename_i b t x k;rw[k];split at g
  .rename_i u l;simp[h.eval l,ahv g]
  .cases g
 .rename_i s d x k;rw[k];split at g
  .rename_i u l;simp[h.eval l,ahs p g]
  .cases g
 .rename_i x i k;rw[k];split at g
  .rename_i vs l;simp[h.eval l,η7,g]
  .cases g
 .rename_i fn f c k;rw[k];split at g
  .rename_i u z q n;simp only[ι] at g;subst g;have G:f.map a.eval=u.toArray:=by rw[<-pj h q,<-ξh]
   have H:c.map a.eval=z.toArray:=by rw[<-pj h n,<-ξh]
   simp[η1,G,H]
  .cases g
 .rename_i t x f k;rw[k];split at g
  .rename_i i cs hi l;cases m:ζ i.tag 8<;>rw[m] at g
   .cases g
   .simp only[cond_true] at g;split at g
    .rename_i I off q;split at g
     .rename_i j C;simp[h.eval l,Th p hi (δ m) q C g]
     .cases g
    .cases g
  .cases g
 .rename_i t x f k;rw[k];split at g
  .rename_i i A hi l;cases m:ζ i.tag 8<;>rw[m] at g
   .cases g
   .simp only[cond_true] at g;split at g
    .rename_i I off q;split at g
     .rename_i j C;cases D:ζ j.size 0<;>rw[D] at g
      .simp only[cond_false,ι] at g;subst g;simp[h.eval l,Ti p hi (δ m) q C (by intro e;rw[e] at D;cases D)]
      .cases g
     .cases g
    .cases g
  .cases g
 .rename_i t ps k;rw[k] at B;rw[k];split at g
  .rename_i i hi;simp only[im,hi] at B;cases m:ζ i.tag 8<;>rw[m] at g
   .cases g
   .simp only[cond_true] at g;split at g
    .rename_i cs n;simp only[ι] at g;subst g;have:=run_build (P:=P) (w:=w) p h hi (δ m) B n;simp only[η,this];rfl
    .cases g
  .cases g
 .rename_i x k;rw[k];split at g
  .rename_i A l;simp only[ι] at g;subst g;simp[h.eval l]
  .rename_i f u z l;simp only[ι] at g;subst g;simp[h.eval l]
  .cases g
 .rename_i c k;rw[k];have:=ahr (P:=P) (w:=w) (ty:=o.type) p h g;simp only[η] at this ⊢;exact this
 .cases g
end
def fw (r:Option Nat):Fence:= {fn:=λ_=>True,depth:=none,alive:=false,round:=r}
theorem aco:fw none=Fence.wide:=rfl
def want (N:Nat) (ops:Array Oper) (E:Env) (g:Option (Nat×Bool)):Option Bool:=
 match g with
 |none=>some true
 |some (j,b)=>
  match ops[j]? with
  |some o=>
   match o.dst with
   |some d=>
    bif ξ1 d N then
     match E.get d with
     |some (.bool c)=>some (match c,b with|true,true=>true|false,false=>true|_,_=>false)
     |some (.tuple _)=>some false
     |_=>none
    else none
   |none=>none
  |none=>none
theorem gX {N:Nat} {ops:Array Oper} {E:Env} {ds:List Deferred} {a:Act} {o:Oper} {b:Bool} (h:Has N E ds a) (hw:want N ops E o.guard=some b):
  ζA o (yielded ops a.tmps)=b:=by
 unfold want at hw;unfold ζA;split at hw
 .rename_i f;rw[f];simpa using hw
 .rename_i j c f;rw[f];simp only;split at hw
  .rename_i p hp;split at hw
   .rename_i d i;cases hN:ξ1 d N<;>rw[hN] at hw
    .cases hw
    .simp only[cond_true] at hw;split at hw
     .rename_i z g;have e:d<a.tmps.size:=by rw[h.size];exact ξL.mp hN
      have:=h.get d _ g;rw[θ,σ e] at this;simp only[υ] at this;simp only[ι] at hw;subst hw;simp[yielded,hp,i,e,this];cases z<;>cases c<;>rfl
     .rename_i z g;have e:d<a.tmps.size:=by rw[h.size];exact ξL.mp hN
      have:=h.get d _ g;rw[θ,σ e] at this;simp only[υ] at this;simp only[ι] at hw;subst hw;simp[yielded,hp,i,e,this]
     .cases hw
   .cases hw
  .cases hw
section
variable (P:Program) (r:Option Nat) (N:Nat)
def WO (ops:Array Oper) (Q:Exit->Act->World->Prop) (l:Γ) (E:Env) (ds:List Deferred) (w:World):Prop:= ∀a,Has N E ds a->wpOpsIn (fw r) 0 P ops Q l a w
def WC (c:Code) (Q:Exit->Act->World->Prop) (E:Env) (ds:List Deferred) (w:World):Prop:= ∀a,Has N E ds a->c.wpIn (fw r) 0 P Q a w
def WQ (Q:Exit->Act->World->Prop) (e:Exit) (E:Env) (ds:List Deferred) (w:World):Prop:= ∀a,Has N E ds a->Q e a w
end
section
variable {P:Program} {r:Option Nat} {N:Nat} {Θ:cE} {ops:Array Oper} {Q:Exit->Act->World->Prop} {l:Γ} {E E':Env} {ds:List Deferred} {w:World} {c x y:Code} {id:Nat}
theorem aJ (h:WC P r N x (Exit.then (y.wpIn (fw r) 0 P Q) Q) E ds w):WC P r N (.seq x y) Q E ds w:=λa b=>wpIn_seq (h a b)
theorem fx (h:WC P r N x (ζp id Q) E ds w):WC P r N (.block id x) Q E ds w:=λa b=>wpIn_block (h a b)
theorem dh (h:WQ N Q .normal E ds w):WC P r N .skip Q E ds w:=λa b=>wpIn_skip (h a b)
theorem ki (h:WQ N Q (.exit id) E ds w):WC P r N (.exit id) Q E ds w:=λa b=>wpIn_exit (h a b)
theorem cO (h:WQ N Q .ret E ds w):WC P r N .ret Q E ds w:=λa b=>wpIn_ret (h a b)
theorem iF {o:Operand} (c:ev E o=some (.bool true)) (h:WC P r N x Q E ds w):WC P r N (.cond o x y) Q E ds w:=λa b=>wpIn_cond_true (b.eval c) (h a b)
theorem hF {o:Operand} (c:ev E o=some (.bool false)) (h:WC P r N y Q E ds w):WC P r N (.cond o x y) Q E ds w:=λa b=>wpIn_cond_false (b.eval c) (h a b)
theorem aR {ops:Array Oper} (hl:ζJ ops.size=l) (h:WO P r N ops Q l E ds w):WC P r N (.region id ops false) Q E ds w:=
 λa b=>wpIn_region (by rw[hl];exact h a b)
theorem aQ (h:WQ N Q .normal E ds w):WO P r N ops Q [] E ds w:=λa b=>h a b
theorem aK (h:WC P r N y Q E ds w):WQ N (Exit.then (y.wpIn (fw r) 0 P Q) Q) .normal E ds w:=λa b=>h a b
def nz (N:Nat) (Θ:cE) (ops:Array Oper):Γ->Env->Option Env
 |[],E=>some E
 |i::l,E=>
  match ops[i]? with
  |some o=>
   match o.dst with
   |some d=>
    bif ξ1 d N then
     match want N ops E o.guard with
     |some true=>bif im Θ o.op then(match iV Θ E o.op with|some v=>nz N Θ ops l ((d,v)::E)|none=>none) else none
     |some false=>nz N Θ ops l ((d,undef)::E)
     |none=>none
    else none
   |none=>none
  |none=>none
theorem ahU {a:Act} {o:Oper} {v:Value} (f:Θ.ok P) (h:Has N E ds a) (e:im Θ o.op=true) (b:iV Θ E o.op=some v):(o.semAt (fw r).round a.eval).run P w= .ok (.value v) w:=by
 rw[ξp]
 .exact yr f h e b
 .intro c d;rw[d] at b;simp[iV] at b
theorem ahT (n:Θ.ok P): ∀ {m:Γ} {E c:Env},nz N Θ ops m E=some c-> ∀a,Has N E ds a->(∀a',Has N c ds a'->wpOpsIn (fw r) 0 P ops Q l a' w)->wpOpsIn (fw r) 0 P ops Q (m++l) a w:=by
 intro m
 induction m with
 |nil=>intro E c he a b h;simp only[nz,ι] at he;subst he;exact h a b
 |cons i m g=>
  intro E c he a b h;simp only[nz] at he;split at he
  .rename_i o j;split at he
   .rename_i d e;cases hN:ξ1 d N<;>rw[hN] at he
    .cases he
    .simp only[cond_true] at he;simp only[List.cons_append,wpOpsIn,j];split at he
     .rename_i hw;rw[if_pos (gX b hw)];cases f:im Θ o.op<;>rw[f] at he
      .cases he
      .simp only[cond_true] at he;split at he
       .rename_i v k;refine⟨λ_ _=>trivial,?_⟩;rw[ahU n b f k];simp only[ξS,e];exact g he _ (b.put hN) h
       .cases he
     .rename_i hw;rw[if_neg (by rw[gX b hw];simp)];refine⟨λ_ _=>trivial,?_⟩;rw[e];exact g he _ (b.put hN) h
     .cases he
   .cases he
  .cases he
theorem aA (f:Θ.ok P) (m:Γ) {b:Env} (E':Env) (he:nz N Θ ops m E=some b) (c:agree E' b) (h:WO P r N ops Q l E' ds w):WO P r N ops Q (m++l) E ds w:=
 λa d=>ahT f he a d λa' e=>h a' (e.weaken c)
theorem dZ {i d:Nat} {o:Oper} {v:Value} {w':World} (g:ops[i]? =some o) (hw:want N ops E o.guard=some true) (f:o.dst=some d) (hN:ξ1 d N=true)
  (e: ∀c,o.op≠ .defer c) (j: ∀a,Has N E ds a->(execOp a.eval o).run P w= .ok (.value v) w') (h:WO P r N ops Q l ((d,v)::E) ds w'):WO P r N ops Q (i::l) E ds w:=by
 intro a b;simp only[wpOpsIn,g];rw[if_pos (gX b hw)];refine⟨λ_ _=>trivial,?_⟩;rw[ξp _ _ _ e,j a b];simp only[ξS,f];exact h _ (b.put hN)
theorem U0 {i:Nat} {o:Oper} {w':World} (f:ops[i]? =some o) (hw:want N ops E o.guard=some true) (e:o.dst=none)
  (d: ∀c,o.op≠ .defer c) (g: ∀a,Has N E ds a->(execOp a.eval o).run P w= .ok .skip w') (h:WO P r N ops Q l E ds w'):WO P r N ops Q (i::l) E ds w:=by
 intro a b;simp only[wpOpsIn,f];rw[if_pos (gX b hw)];refine⟨λ_ _=>trivial,?_⟩;rw[ξp _ _ _ d,g a b];simp only[ξS,e,ζH];exact h _ b
theorem Kj {i d f:Nat} {o:Oper} {args:Array Value} {w':World} {R:Ending->World->Prop} (t:ops[i]? =some o) (hw:want N ops E o.guard=some true) (p:o.dst=some d) (hN:ξ1 d N=true)
  (k: ∀c,o.op≠ .defer c) (x: ∀a,Has N E ds a->(execOp a.eval o).run P w= .ok (.enter f args) w') (n:Calls P f args w' R)
  (h: ∀e b8,R e b8-> ∃v,e= .returned v/\WO P r N ops Q l ((d,v)::E) ds b8):WO P r N ops Q (i::l) E ds w:=by
 intro a b;simp only[wpOpsIn,t];rw[if_pos (gX b hw)];refine⟨λ_ _=>trivial,?_⟩;rw[ξp _ _ _ k,x a b];simp only[ξS];refine⟨λh=>by simp[fw] at h,?_⟩;refine⟨trivial,λcs _=>?_⟩;obtain⟨e,b8,fr,u,j,q,hl⟩:=n cs;obtain⟨v,rfl,s⟩:=h e b8 u;refine⟨.returned v,b8,fr,?_,?_,q,hl⟩
 .simp only[p];exact s _ (b.put hN)
 .have:=(comesIn_wide (P:=P) (m:=lone (Frame.enter P f args .normal) cs w') (m':=lone fr cs b8) (e:=.returned v)).2 j;refine ηb (λm _=>?_) (ζQ j);intro g _;exact⟨λh=>by simp[fw] at h,Or.inl trivial,λ_ _=>trivial,λ_ h=>by simp[fw] at h⟩
end
structure Tr (O:Γ) (w:World) (O':Γ) (w':World):Prop where
 os:w'.os=w.os
 tape:w'.tape=w.tape
 output:w'.output=w.output
 size:w.heap.size<=w'.heap.size
 keep: ∀k,k<w.heap.size->k∉O->k∉O'/\w'.heap[k]? =w.heap[k]?
theorem Tr.refl (O:Γ) (w:World):Tr O w O w:=⟨rfl,rfl,rfl,ξ3 _,λ_ _ h=>⟨h,rfl⟩⟩
theorem Tr.trans {O O' a:Γ} {w w' b8:World} (h:Tr O w O' w') (k:Tr O' w' a b8):Tr O w a b8:=
 ⟨k.os.trans h.os,k.tape.trans h.tape,k.output.trans h.output,ζ5 h.size k.size,λi hi d=>
  let⟨b,c⟩:=h.keep i hi d
  let⟨e,f⟩:=k.keep i (φ hi h.size) b
  ⟨e,f.trans c⟩⟩
theorem Tr.less {O O':Γ} {w:World} (h: ∀k,k∈O'->k∈O):Tr O w O' w:=⟨rfl,rfl,rfl,ξ3 _,λk _ a=>⟨λh'=>a (h k h'),rfl⟩⟩
def Sub (O O':Γ):Prop:= ∀k,k∈O->k∈O'
theorem Sub.refl (O:Γ):Sub O O:=λ_ h=>h
theorem Sub.trans {A B C:Γ} (h:Sub A B) (k:Sub B C):Sub A C:=λx a=>k x (h x a)
theorem Sub.cons {O O':Γ} (h:Sub O O') (b:Nat):Sub O (b::O'):=λk a=>ξ4 _ (h k a)
theorem hx {b:Nat} {O:Γ} (h:b∈O): ∀k,k∈[b]->k∈O:=λk a=>by simp at a;subst a;exact h
def OB (O:Γ) (w:World):Prop:= ∀k,k∈O->k<w.heap.size
structure Fr (S:Γ) (w w':World):Prop where
 os:w'.os=w.os
 tape:w'.tape=w.tape
 output:w'.output=w.output
 size:w.heap.size<=w'.heap.size
 block: ∀k,k<w.heap.size->k∉S->w'.heap[k]? =w.heap[k]?
theorem Fr.refl (S:Γ) (w:World):Fr S w w:=⟨rfl,rfl,rfl,ξ3 _,λ_ _ _=>rfl⟩
theorem Fr.trans {S:Γ} {w w' b8:World} (h:Fr S w w') (k:Fr S w' b8):Fr S w b8:=
 ⟨k.os.trans h.os,k.tape.trans h.tape,k.output.trans h.output,ζ5 h.size k.size,λi hi a=>(k.block i (φ hi h.size) a).trans (h.block i hi a)⟩
theorem Fr.more {S S':Γ} {w w':World} (h:Fr S w w') (b: ∀k,k∈S->k∈S'):Fr S' w w':=⟨h.os,h.tape,h.output,h.size,λi hi a=>h.block i hi λh'=>a (b i h')⟩
theorem Fr.tr {S O:Γ} {w w':World} (h:Fr S w w') (b: ∀k,k∈S->k∈O):Tr O w O w':=⟨h.os,h.tape,h.output,h.size,λi hi a=>⟨a,h.block i hi λh'=>a (b i h')⟩⟩
theorem Fr.eo {O:Γ} {w w':World} (h:Fr [] w w'):Tr O w O w':=h.tr λ_ a=>by cases a
theorem Fr.ob {S O:Γ} {w w':World} (h:Fr S w w') (a:OB O w):OB O w':=λk b=>φ (a k b) h.size
theorem Fr.below {w w':World} (h:Fr [] w w'):Below w.heap.size w w':=⟨h.os,h.tape,h.output,h.size,λk a=>h.block k a (by simp)⟩
theorem Fr.drew (S:Γ) (w:World):Fr S w w.drew:=⟨rfl,rfl,rfl,ξ3 _,λ_ _ _=>rfl⟩
def bK (w:World) (b t:Nat) (cs:Γb):Prop:=w.heap[b]? =some (.cells cs.toArray t (0,0))
theorem bK.lt {w:World} {b t:Nat} {cs:Γb} (h:bK w b t cs):b<w.heap.size:=by
 rcases ξA b w.heap.size with c|a
 .exact c
 .unfold bK at h;rw[Array.getElem?_eq_none a] at h;cases h
theorem bK.fr {S:Γ} {w w':World} {b t:Nat} {cs:Γb} (h:bK w b t cs) (c:Fr S w w') (a:b∉S):bK w' b t cs:=(c.block b h.lt a).trans h
theorem bK.b6 {w w':World} {b t:Nat} {cs:Γb} (h:bK w b t cs) (a:Fr [] w w'):bK w' b t cs:=h.fr a (by simp)
theorem bK.cell {w:World} {b t:Nat} {cs:Γb} (h:bK w b t cs) (j:Nat):w.cell? ⟨b,j,none⟩=cs[j]? :=by
 rw[cell_of_row w b j cs.toArray t (0,0) h];simp
structure kr (O:Γ) (w:World) (b t:Nat) (cs:Γb) (w':World):Prop where
 bI:bK w' b t cs
 fr:Fr [] w w'
 tr:Tr O w (b::O) w'
 ob:OB (b::O) w'
 ge:w.heap.size<=b
theorem kU {O:Γ} {w:World} (b:OB O w) (t:Nat) (cs:Γb):kr O w w.heap.size t cs (w.alloc (.cells cs.toArray t)):=
 ⟨heap_alloc_new _ _,⟨rfl,rfl,rfl,by simp,λk a _=>ξW _ _ _ a⟩,
  ⟨rfl,rfl,rfl,by simp,λk a c=>⟨by simp;exact⟨by omega,c⟩,ξW _ _ _ a⟩⟩,
  λk a=>by simp at a ⊢;rcases a with rfl|a;omega;have:=b k a;omega,ξ3 _⟩
structure Ty (α:Type) where
 agg:Bool
 n:Nat
 rep:Γ->World->Γb->α->Prop
 tr: ∀ {O w O' w' cs x},Tr O w O' w'->rep O w cs x->rep O' w' cs x
 len: ∀ {O w cs x},rep O w cs x->cs.length=n
 one: ∀ {O w cs x},rep O w cs x-> ∀u∈cs,u.oneCell'=true
 e6:agg=false->n=1
def Ty.mk' {α:Type} (T:Ty α) (cs:Γb):Value:=bif T.agg then .agg cs.toArray else cs.headD undef
def Ty.is {α:Type} (T:Ty α) (O:Γ) (w:World) (v:Value) (x:α):Prop:= ∃cs,T.rep O w cs x/\v=T.mk' cs
theorem Ty.is.tr {α:Type} {T:Ty α} {O O':Γ} {w w':World} {v:Value} {x:α} (h:T.is O w v x) (b:Tr O w O' w'):T.is O' w' v x:=
 let⟨cs,a,c⟩:=h;⟨cs,T.tr b a,c⟩
theorem Ty.cells {α:Type} {T:Ty α} {O:Γ} {w:World} {cs:Γb} {x:α} (h:T.rep O w cs x):(T.mk' cs).cells.toList=cs:=by
 unfold Ty.mk';cases a:T.agg with
 |true=>simp[ζi]
 |false=>
  have hl:=T.len h;rw[T.e6 a] at hl
  match cs,hl with
  |[c],_=>
   have:=T.one h c (by simp);simp only[cond_false,ζV];cases c<;>simp[ζi,ξm] at this ⊢
def Ty.int (k:IntKind):Ty Int where
 agg:=false
 n:=1
 rep _ _ cs x:=cs=[.int k x]
 tr _ h:=h
 len h:=by subst h;rfl
 one h u hu:=by subst h;simp at hu;subst hu;rfl
 e6 _:=rfl
def Ty.bool:Ty Bool where
 agg:=false
 n:=1
 rep _ _ cs x:=cs=[.bool x]
 tr _ h:=h
 len h:=by subst h;rfl
 one h u hu:=by subst h;simp at hu;subst hu;rfl
 e6 _:=rfl
def Ty.str:Ty ByteArray where
 agg:=false
 n:=1
 rep _ _ cs x:=cs=[.string x]
 tr _ h:=h
 len h:=by subst h;rfl
 one h u hu:=by subst h;simp at hu;subst hu;rfl
 e6 _:=rfl
theorem dx {k:IntKind} {O:Γ} {w:World} {v:Value} {x:Int}:(Ty.int k).is O w v x↔v= .int k x:=
 ⟨λ⟨cs,h,a⟩=>by subst h;exact a,λh=>⟨_,rfl,h⟩⟩
theorem jE {O:Γ} {w:World} {v:Value} {x:Bool}:Ty.bool.is O w v x↔v= .bool x:=
 ⟨λ⟨cs,h,a⟩=>by subst h;exact a,λh=>⟨_,rfl,h⟩⟩
def Ty.pair {α β:Type} (A:Ty α) (B:Ty β):Ty (α×β) where
 agg:=true
 n:=A.n+B.n
 rep O w cs x:= ∃c1 c2,cs=c1++c2/\A.rep O w c1 x.1/\B.rep O w c2 x.2
 tr c:=λ⟨c1,c2,h,a,b⟩=>⟨c1,c2,h,A.tr c a,B.tr c b⟩
 len:=λ⟨c1,c2,h,a,b⟩=>by subst h;rw[χ,A.len a,B.len b]
 one:=λ⟨c1,c2,h,a,b⟩ u hu=>by
  subst h;rcases τ.1 hu with hu|hu
  .exact A.one a u hu
  .exact B.one b u hu
 e6 h:=by cases h
def Ty.ei {α β:Type} (T:Ty α) (f:β->α):Ty β where
 agg:=T.agg
 n:=T.n
 rep O w cs x:=T.rep O w cs (f x)
 tr:=T.tr
 len:=T.len
 one:=T.one
 e6:=T.e6
def dJ (w:World) (ad:Addr) (cs:Γb):Prop:= ∀j u,cs[j]? =some u->w.cell? (ad.add j)=some u
theorem fA (a:Addr) (n:Nat):(a.add n).block=a.block:=by unfold ζ6;split<;>rfl
theorem add_add (a:Addr) (i j:Nat):(a.add i).add j=a.add (i+j):=by
 unfold ζ6
 by_cases hi:i=0<;>by_cases b:j=0<;>simp[hi,b,Nat.add_assoc]
theorem Np {w w':World} {p:Addr} (h:w'.heap[p.block]? =w.heap[p.block]?):w'.cell? p=w.cell? p:=World.cell?_of_block (w:=w) h
theorem dJ.keep {w w':World} {ad:Addr} {cs:Γb} (h:dJ w ad cs) (a:w'.heap[ad.block]? =w.heap[ad.block]?):dJ w' ad cs:=
 λj u hu=>(Np (by rw[fA];exact a)).trans (h j u hu)
def lk (w:World) (ad:Addr) (cs:Γb):Prop:=dJ w ad cs/\ ∀j,j<cs.length->w.frozen? (ad.add j)=false
theorem lk.keep {w w':World} {ad:Addr} {cs:Γb} (h:lk w ad cs) (a:w'.heap[ad.block]? =w.heap[ad.block]?):lk w' ad cs:=
 ⟨h.1.keep a,λj b=>(World.frozen?_of_block (w:=w) (by rw[fA];exact a)).trans (h.2 j b)⟩
def Ty.ptr {α:Type} (T:Ty α):Ty α where
 agg:=false
 n:=1
 rep O w cs x:= ∃ad es,cs=[.pointer (some ad)]/\ad.block<w.heap.size/\ad.block∉O/\T.rep O w es x/\lk w ad es
 tr a:=λ⟨ad,es,h,b,d,e,c⟩=>
  let⟨f,g⟩:=a.keep ad.block b d
  ⟨ad,es,h,φ b a.size,f,T.tr a e,c.keep g⟩
 len:=λ⟨_,_,h,_⟩=>by subst h;rfl
 one:=λ⟨_,_,h,_⟩ u hu=>by subst h;simp at hu;subst hu;rfl
 e6 _:=rfl
def Ty.slice {α:Type} (T:Ty α):Ty (List α) where
 agg:=false
 n:=1
 rep O w cs xs:= ∃A c,cs=[.slice A xs.length c]/\(xs.length<=c/\c<=maxLen)/\
  ∀k x,xs[k]? =some x-> ∃ad es,A=some ad/\ad.block<w.heap.size/\ad.block∉O/\T.rep O w es x/\lk w (ad.add (k*T.n)) es
 tr a:=λ⟨A,c,h,e,j⟩=>⟨A,c,h,e,λk x f=>by
  obtain⟨ad,es,d,b,g,i,he⟩:=j k x f;obtain⟨l,m⟩:=a.keep ad.block b g;exact⟨ad,es,d,φ b a.size,l,T.tr a i,he.keep (by rw[fA];exact m)⟩⟩
 len:=λ⟨_,_,h,_⟩=>by subst h;rfl
 one:=λ⟨_,_,h,_⟩ u hu=>by subst h;simp at hu;subst hu;rfl
 e6 _:=rfl
theorem dr {α:Type} {T:Ty α} {O:Γ} {w:World} {v:Value} {xs:List α} (h:T.slice.is O w v xs): ∃A c,v= .slice A xs.length c/\xs.length<=c/\c<=maxLen:=by
 obtain⟨cs,⟨A,c,a,hl,_⟩,b⟩:=h;subst a;exact⟨A,c,b,hl⟩
theorem fR {α:Type} (T:Ty α) (O:Γ) (w:World):T.slice.is O w (.slice none 0 0) []:=
 ⟨_,⟨none,0,rfl,⟨ξ3 _,by unfold maxLen;omega⟩,λk x h=>by simp at h⟩,rfl⟩
theorem ah2 {α:Type} {T:Ty α} {O:Γ} {w:World} {A:Option Addr} {n c lo hi m:Nat} {xs:List α} (h:T.slice.is O w (.slice A n c) xs) (r:lo<=hi) (s:hi<=n) (t:hi<=m) (u:m<=c):
  T.slice.is O w (.slice (if m=lo then A else A.map (·.add (lo*T.n))) (hi-lo) (m-lo)) ((xs.take hi).drop lo):=by
 obtain⟨cs,⟨A',d,l,hl,q⟩,b⟩:=h;subst l;have b:ξT A n c= .slice A' xs.length d:=b;injection b with e f g;subst e;subst f;subst g;have hlen:((xs.take hi).drop lo).length=hi-lo:=by rw[ξe,ψ];omega
 refine⟨_,⟨_,m-lo,by rw[hlen],⟨by rw[hlen];omega,by omega⟩,λk x a=>?_⟩,rfl⟩;have v:k<hi-lo:=by
  have:=(ν.1 a).1;omega
 rw[ξ6,ω] at a;rw[if_pos (by omega)] at a;obtain⟨ad,es,i,j,o,p,he⟩:=q (lo+k) x a;subst i;rw[if_neg (by omega)];refine⟨ad.add (lo*T.n),es,rfl,by rw[fA];exact j,by rw[fA];exact o,p,?_⟩;rw[add_add,<-Nat.add_mul];exact he
theorem JM {α:Type} {T:Ty α} {O:Γ} {w:World} {A:Option Addr} {n c k:Nat} {xs:List α} {x:α} (h:T.slice.is O w (.slice A n c) xs) (l:xs[k]? =some x):
  ∃ad,A=some ad/\T.ptr.is O w (.pointer (some (ad.add (k*T.n)))) x:=by
 obtain⟨cs,⟨A',b,j,hl,p⟩,a⟩:=h;subst j;have a:ξT A n c= .slice A' xs.length b:=a;injection a with d e f;subst d;subst e;subst f;obtain⟨ad,es,g,i,m,o,he⟩:=p k x l;exact⟨ad,g,_,⟨_,es,rfl,by rw[fA];exact i,by rw[fA];exact m,o,he⟩,rfl⟩
theorem hA {α:Type} {T:Ty α} {O:Γ} {w:World} {cs:Γb} {x:α} (a:T.agg=false) (h:T.rep O w cs x): ∃s,cs=[s]/\T.is O w s x:=by
 have hl:=T.len h;rw[T.e6 a] at hl
 match cs,hl with
 |[c],_=>exact⟨c,rfl,[c],h,by simp[Ty.mk',a]⟩
theorem gf {α:Type} {T:Ty α} {O:Γ} {w:World} {s:Value} {x:α} (a:T.agg=false) (h:T.is O w s x):T.rep O w [s] x:=by
 obtain⟨cs,b,d⟩:=h;have hl:=T.len b;rw[T.e6 a] at hl
 match cs,hl with
 |[c],_=>
  simp only[Ty.mk',a,cond_false,ζV] at d;subst d;exact b
def mv {α:Type} (A:Ty α) (O:Γ) (w:World) (v:Value) (r:α):Prop:=A.is O w v r
def S8 {α β:Type} (A:Ty α) (B:Ty β) (O:Γ) (w:World) (v:Value) (r:α×β):Prop:= ∃a b,v= .tuple #[a,b]/\A.is O w a r.1/\B.is O w b r.2
def S9 {α β γ:Type} (A:Ty α) (B:Ty β) (C:Ty γ) (O:Γ) (w:World) (v:Value) (r:α×β×γ):Prop:= ∃a b c,v= .tuple #[a,b,c]/\A.is O w a r.1/\B.is O w b r.2.1/\C.is O w c r.2.2
def gi {β:Type} (R:Γ->World->Value->β->Prop) (O:Γ) (w:World) (r:β) (e:Ending) (w':World):Prop:= ∃v,e= .returned v/\R O w' v r/\Fr [] w w'
def idx {α:Type} (xs:List α) (i:Int):Option α:=if 0<=i then xs[i.toNat]? else none
theorem nN {α:Type} {xs:List α} {i:Int} {x:α} (h:idx xs i=some x):0<=i/\xs[i.toNat]? =some x:=by
 unfold idx at h;split at h
 .exact⟨by assumption,h⟩
 .cases h
def my (k:IntKind) (x y:Int):Option Int:=if y<0 then none else some (k.wrap (x*2^(min y.toNat k.bits)))
def JI (k:IntKind) (x y:Int):Option Int:=if y<0 then none else some (x.fdiv (2^(min y.toNat k.bits)))
def I' (k:IntKind) (x y:Int):Option Int:=if y=0 then none else some (k.wrap (x.tdiv y))
def Jw (x y:Int):Option Int:=if y=0 then none else some (x.tmod y)
theorem iR {α:Type} {c:Bool} {a b r:α} (h:(bif c then a else b)=r):(c=true/\a=r)\/(c=false/\b=r):=by
 cases c
 .exact .inr ⟨rfl,h⟩
 .exact .inl ⟨rfl,h⟩
theorem bind_some {α β:Type} {x:Option α} {f:α->Option β} {r:β} (h:x.bind f=some r): ∃y,x=some y/\f y=some r:=Option.bind_eq_some_iff.1 h
theorem hG {j n:Nat} (h:j<n) (hn:n<=maxLen):ζW.wrap ((j:Int)+1)=((j+1:Nat):Int):=by
 unfold maxLen at hn;rw[IntWalk.i64_in]
 .omega
 .omega
theorem drop_cons {α:Type} {l:List α} {j:Nat} {x:α} {r:List α} (h:l.drop j=x::r):j<l.length/\l[j]? =some x/\l.drop (j+1)=r:=by
 have b:j<l.length:=by
  rcases ξA j l.length with a|a
  .exact a
  .rw[ξz a] at h;cases h
 rw[ξG b] at h;injection h with a c;exact⟨b,by rw[ξ7 b,a],c⟩
theorem drop_nil {α:Type} {l:List α} {j:Nat} (h:l.drop j=[]):l.length<=j:=by
 rcases ξA j l.length with a|a
 .rw[ξG a] at h;cases h
 .exact a
theorem Fr.own {w0 w w':World} {b:Nat} (a:Fr [] w0 w) (h:Fr [b] w w') (d:w0.heap.size<=b):Fr [] w0 w':=
 ⟨h.os.trans a.os,h.tape.trans a.tape,h.output.trans a.output,ζ5 a.size h.size,λk c _=>
  (h.block k (φ c a.size) (by simp;omega)).trans (a.block k c (by simp))⟩
def TI.isAgg (i:TI):Bool:=ζ i.tag 8||ζ i.tag 6
def valOf (agg:Bool) (cs:Γb):Value:=bif agg then .agg cs.toArray else cs.headD undef
theorem j' {P:Program} {w:World} {t:Nat} {i:TI} {ad:Addr} {cs:Γb} (h:i.fits P t) (hl:cs.length=i.size) (d:dJ w ad cs) (e:i.isAgg=false->i.size=1):
  (ζN t (.pointer (some ad))).run P w= .ok (valOf i.isAgg cs) w:=by
 simp only[ζN,ξq,η,κ,ε,loadVar,HZ h];cases a:i.isAgg with
 |true=>
  have b:(ζ i.tag 8||ζ i.tag 6)=true:=a;rw[b];simp only[if_true,η,dW h,ε];have:=run_loadCells_list (P:=P) w ad cs d;rw[hl] at this;rw[this];rfl
 |false=>
  have b:(ζ i.tag 8||ζ i.tag 6)=false:=a;rw[b];rw[e a] at hl
  match cs,hl with
  |[c],_=>
   have:=d 0 c rfl;simp[load,ζj,ξU] at this ⊢;rw[this];rfl
def putAt (cs:Γb) (off:Nat) (vs:Γb):Γb:=cs.take off++vs++cs.drop (off+vs.length)
theorem kc {w:World} {b t:Nat} {dA new:Array Value} (h:w.heap[b]? =some (.cells dA t (0,0))):Fr [b] w (w.setRow b new):=
 ⟨rfl,rfl,rfl,by simp,λk _ a=>by
  simp only[World.setRow,Array.getElem?_modify];rw[if_neg (by simp at a;omega)]⟩
theorem To {P:Program} {w:World} {t b c off:Nat} {i:TI} {v:Value} {cs:Γb} (h:i.fits P t) (a:bK w b c cs) (f:v.cells.size=i.size) (d: ∀u∈v.cells.toList,u.oneCell'=true)
  (hl:off+i.size<=cs.length): ∃w',(ζB t (.pointer (some ⟨b,off,none⟩)) v).run P w= .ok () w'/\bK w' b c (putAt cs off v.cells.toList)/\Fr [b] w w':=by
 have e:=run_storeCells_at (P:=P) b off c v.cells.toList 0 cs.toArray w a (by simp;omega) d;refine⟨w.setRow b (putAt cs off v.cells.toList).toArray,?_,?_,kc a⟩
 .simp only[ζB,ξq,η,κ,ε,storeVar,dW h,f,ne_eq,not_true_eq_false,if_false];simpa[putAt] using e
 .unfold bK;rw[setRow_heap w b _ _ _ _ a]
section
variable {P:Program} {r:Option Nat} {N:Nat} {Θ:cE} {ops:Array Oper} {Q:Exit->Act->World->Prop} {l:Γ} {E:Env} {ds:List Deferred} {w:World} {i d:Nat} {o:Oper} {O:Γ}
theorem oA (n:Θ.ok P) (j:ops[i]? =some o) (hw:want N ops E o.guard=some true) (g:o.dst=some d) (hN:ξ1 d N=true) {t:Nat} {e:TI} (c:o.op= .alloc t) (k:Θ.get t=some e)
  (zs:Γb) (m:e.zero.cells.toList=zs) (f:OB O w) (h: ∀b w',kr O w b t zs w'->WO P r N ops Q l ((d,.pointer (some ⟨b,0,none⟩))::E) ds w'):WO P r N ops Q (i::l) E ds w:=by
 refine dZ j hw g hN (by rw[c];simp) (λa _=>?_) (h w.heap.size _ (kU f t zs));simp only[execOp,c,ηi,η,mQ (n.fits k),ε];subst m;rfl
theorem ld (j:ops[i]? =some o) (hw:want N ops E o.guard=some true) (g:o.dst=some d) (hN:ξ1 d N=true) {t:Nat} {x:Operand} (c:o.op= .box t x)
  {v:Value} (k:ev E x=some v) (cs:Γb) (m:v.cells.toList=cs) (e:OB O w) (h: ∀b w',kr O w b t cs w'->WO P r N ops Q l ((d,.pointer (some ⟨b,0,none⟩))::E) ds w'):WO P r N ops Q (i::l) E ds w:=by
 refine dZ j hw g hN (by rw[c];simp) (λa f=>?_) (h w.heap.size _ (kU e t cs));simp only[execOp,c,Instr.box,η,f.eval k];subst m;rfl
theorem cS (C:Θ.ok P) (y:ops[i]? =some o) (hw:want N ops E o.guard=some true) (q:o.dst=some d) (hN:ξ1 d N=true) {t b D off:Nat} {x:Operand} {c:TI} (k:o.op= .load t x) (z:Θ.get t=some c)
  (B:ev E x=some (.pointer (some ⟨b,off,none⟩))) {cs:Γb} (n:bK w b D cs) (us:Γb) (hu:(cs.drop off).take c.size=us) (hl:us.length=c.size) (f:c.isAgg=true\/c.size=1)
  (v:Value) (A:valOf c.isAgg us=v) (h:WO P r N ops Q l ((d,v)::E) ds w):WO P r N ops Q (i::l) E ds w:=by
 subst A;refine dZ y hw q hN (by rw[k];simp) (λa m=>?_) h;have p:dJ w ⟨b,off,none⟩ us:=λj u g=>by
  have:(⟨b,off,none⟩:Addr).add j=⟨b,off+j,none⟩:=by unfold ζ6;split<;>simp_all
  rw[this,n.cell];subst hu;have s:j<c.size:=by have:=(ν.1 g).1;omega
  rw[ω,if_pos s,ξ6] at g;exact g
 simp only[execOp,k,η,m.eval B,j' (C.fits z) hl p (λe=>by rcases f with f|f;rw[e] at f;cases f;exact f)];rfl
theorem eZ (F:Θ.ok P) (s:ops[i]? =some o) (hw:want N ops E o.guard=some true) (p:o.dst=none) {t b g off:Nat} {x y:Operand} {c:TI} (f:o.op= .store t x y) (A:Θ.get t=some c)
  (C:ev E x=some (.pointer (some ⟨b,off,none⟩))) {v:Value} (D:ev E y=some v) {cs:Γb} (k:bK w b g cs) (vs:Γb) (B:v.cells.toList=vs) (hn:vs.length=c.size)
  (j: ∀u∈vs,u.oneCell'=true) (hl:ξ9 (off+c.size) cs.length=true) (d:Γb) (n:putAt cs off vs=d)
  (h: ∀w',bK w' b g d->Fr [b] w w'->WO P r N ops Q l E ds w'):WO P r N ops Q (i::l) E ds w:=by
 subst B;subst n;obtain⟨w',z,m,q⟩:=To (P:=P) (v:=v) (off:=off) (F.fits A) k (by simpa using hn) j (ο hl);refine U0 s hw p (by rw[f];simp) (λa e=>?_) (h w' m q);simp only[execOp,f,e.eval C,e.eval D,η,z];rfl
theorem ajj (A:Θ.ok P) (s:ops[i]? =some o) (hw:want N ops E o.guard=some true) (m:o.dst=some d) (hN:ξ1 d N=true) {t:Nat} {x:Operand} {b:TI} (g:o.op= .load t x) (u:Θ.get t=some b)
  {p:Value} (z:ev E x=some p) {α:Type} {T:Ty α} {y:α} (hp:T.ptr.is O w p y) (hn:T.n=b.size) (f:T.agg=b.isAgg)
  (h: ∀v,T.is O w v y->WO P r N ops Q l ((d,v)::E) ds w):WO P r N ops Q (i::l) E ds w:=by
 obtain⟨cs,⟨ad,es,k,_,_,j,he⟩,c⟩:=hp;subst k;have c:p= .pointer (some ad):=c;subst c;refine dZ s hw m hN (by rw[g];simp) (λa q=>?_) (h (valOf b.isAgg es) ⟨es,j,by rw[<-f];rfl⟩);simp only[execOp,g,η,q.eval z,j' (A.fits u) ((T.len j).trans hn) he.1 (λe=>by rw[<-hn];exact T.e6 (by rw[f];exact e))];rfl
theorem Kk (s:Θ.ok P) (F:ops[i]? =some o) (hw:want N ops E o.guard=some true) (D:o.dst=some d) (hN:ξ1 d N=true) {t:Nat} {x y:Operand} {b u:TI} (m:o.op= .indexAddr t x y) (G:Θ.get t=some b)
  (C:b.tag=5) (H:Θ.get b.e=some u) {v:Value} (I:ev E x=some v) {k:IntKind} {j:Int} (J:ev E y=some (.int k j)) {α:Type} {T:Ty α} {xs:List α} {z:α} {O1:Γ} {w1:World} (q:T.slice.is O1 w1 v xs) (hn:T.n=u.size)
  (B:0<=j) (g:xs[j.toNat]? =some z) (h: ∀p,T.ptr.is O1 w1 p z->WO P r N ops Q l ((d,p)::E) ds w):WO P r N ops Q (i::l) E ds w:=by
 obtain⟨A,c,rfl,_,_⟩:=dr q;obtain⟨ad,rfl,hp⟩:=JM q g;have K:j.toNat<xs.length:=(ν.1 g).1;refine dZ F hw D hN (by rw[m];simp) (λa f=>?_) (h _ hp);have hu:=(s.fits G).slice C;simp only[execOp,m,η,f.eval I,f.eval J,ξw,asIntOf,κ,ε,run_underlying hu];rw[if_pos ⟨B,by omega⟩];simp only[η,dW (s.fits H),ε,hn];rfl
theorem jx (n:ops[i]? =some o) (hw:want N ops E o.guard=some true) (k:o.dst=some d) (hN:ξ1 d N=true) {f:FuncId} {args:Array Operand} {q:Array TypeId} (b:o.op= .call {callee:=.value (.func f),args:=args,argTypes:=q})
  (m: ∀(vs:Array Value) (u:World),(callFunc f vs).run P u= .ok (.enter f vs) u)
  {vs:Γb} (p:g_ E args.toList=some vs) {R:Ending->World->Prop} (j:Calls P f vs.toArray w R)
  (h: ∀e w',R e w'-> ∃v,e= .returned v/\WO P r N ops Q l ((d,v)::E) ds w'):WO P r N ops Q (i::l) E ds w:=by
 refine Kj n hw k hN (by rw[b];simp) (λa g=>?_) j h;have c:args.map a.eval=vs.toArray:=by rw[<-pj g p,<-ξh]
 simp only[execOp,b,η,resolve,ζv,ξX,κ,ε,invoke,c];simpa using m vs.toArray w
end
section
variable {P:Program} {r:Option Nat} {N:Nat} {Q:Exit->Act->World->Prop} {E:Env} {ds:List Deferred} {w:World}
theorem adD {F:Fence} {n:Nat} {a:Act} {c:Code} (I:Nat->Act->World->Prop) (m:Nat) (h:I m a w)
  (round: ∀m a w,I m a w->c.wpIn F n P (Exit.then (λa' w'=> ∃k,k<m/\I k a' w') Q) a w):(Code.loop c).wpIn F n P Q a w:=by
 refine wpIn_loop (λa w=> ∃m,I m a w) (λa w=>leastOf (λm=>I m a w)) ⟨m,h⟩ ?_;intro a w hI;refine wpIn_mono (round _ a w (leastOf_spec hI).1) ?_;intro e a' w' b;cases e with
 |normal=>
  obtain⟨f,g,d⟩:=b;exact show(∃n,I n a' w')/\leastOf (λn=>I n a' w')<leastOf (λn=>I n a w) from⟨⟨f,d⟩,Nat.lt_of_le_of_lt ((leastOf_spec ⟨f,d⟩).2 f d) g⟩
 |exit id=>exact b
 |goto l=>exact b
 |ret=>exact b
 |panic i=>exact b
 |outgrown=>exact b
def Next (N:Nat) (I:Nat->Env->World->Prop) (m:Nat) (ds:List Deferred) (a:Act) (w:World):Prop:= ∃k,k<m/\ ∃E',Has N E' ds a/\I k E' w
theorem kj {c:Code} (I:Nat->Env->World->Prop) (m:Nat) (E':Env) (d:agree E' E) (g:I m E' w)
  (round: ∀m E w,I m E w->WC P r N c (Exit.then (Next N I m ds) Q) E ds w):WC P r N (.loop c) Q E ds w:=by
 intro a f;refine adD (λm a w=> ∃E',Has N E' ds a/\I m E' w) m ⟨E',f.weaken d,g⟩ ?_;rintro m a w ⟨b,e,hI⟩;exact round m b w hI a e
theorem jy {I:Nat->Env->World->Prop} {m:Nat} (k:Nat) (E':Env) (d:k<m) (b:agree E' E) (hI:I k E' w):WQ N (Exit.then (Next N I m ds) Q) .normal E ds w:=
 λa c=>⟨k,d,E',c.weaken b,hI⟩
def k9 (E:Env):List ResultVar->Option (Γb)
 |[]=>some []
 | .tmp t::l=>match E.get t,k9 E l with|some v,some vs=>some (v::vs)|_,_=>none
 | .cell _ _::_=>none
def h7:Γb->Value
 |[v]=>v
 |vs=>.tuple vs.toArray
theorem SV {fn:Func} {a:Act} {vs:Γb} (h:Has N E ds a) (e:k9 E fn.results.toList=some vs):(results fn a.tmps).run P w= .ok (h7 vs) w:=by
 have key: ∀(F:ResultVar->Sem Value) (_: ∀t,F (.tmp t)=pure (a.tmps.getD t undef)) (l:List ResultVar) (vs:Γb),k9 E l=some vs->(l.mapM F).run P w= .ok vs w:=by
  intro F d l
  induction l with
  |nil=>intro vs c;simp[k9] at c;subst c;simp
  |cons x l g=>
   intro vs c;cases x with
   |tmp t=>
    simp only[k9] at c;split at c
    .rename_i v us f hl;simp only[ι] at c;subst c;simp only[ζ8,d,η,κ,ε,g us hl,h.get t v f]
    .cases c
   |cell b t=>simp[k9] at c
 unfold results;rw[ξF];simp only[η,ζU];rw[key _ (λt=>rfl) _ _ e];simp only[ε,κ]
 congr 1
 match vs with
 |[]=>rfl
 |[v]=>rfl
 |v::u::vs=>simp[h7]
theorem dv {fn:Func} {R:Ending->World->Prop} {vs:Γb} (c:k9 E fn.results.toList=some vs) (h:R (.returned (h7 vs)) w):WQ N (bodyPostM (fw none) 0 P fn R) .ret E [] w:=by
 intro a b;show LeavesInM (fw none) 0 P fn a.tmps R a.defers .returning w;rw[b.defers];exact⟨_,SV b c,h⟩
theorem U7 {fn:Func} {R:Ending->World->Prop} {vs:Γb} (c:k9 E fn.results.toList=some vs) (h:R (.returned (h7 vs)) w):WQ N (bodyPostM (fw none) 0 P fn R) .normal E [] w:=by
 intro a b;show LeavesInM (fw none) 0 P fn a.tmps R a.defers .returning w;rw[b.defers];exact⟨_,SV b c,h⟩
def pr:Nat->Γb->Env
 |_,[]=>[]
 |i,v::l=>(i,v)::pr (i+1) l
theorem aaK: ∀(l:Γb) (i j:Nat) (v:Value),(pr i l).get j=some v->i<=j/\l[j-i]? =some v:=by
 intro l
 induction l with
 |nil=>intro i j v h;simp[pr,Env.get] at h
 |cons u l c=>
  intro i j v h;simp only[pr,Env.get] at h;cases a:ζ i j with
  |true=>
   rw[a] at h;have:=δ a;subst this;simp only[cond_true,ι] at h;subst h;simp
  |false=>
   rw[a] at h;obtain⟨d,b⟩:=c (i+1) j v h;have e:j-i=(j-(i+1))+1:=by omega
   refine⟨by omega,?_⟩;rw[e,ξg];exact b
theorem e8 {f:FuncId} {fn:Func} {c:Code} {args:Γb} {R:Ending->World->Prop} (d:P.funcs[f]? =some fn) (b:fn.body=some c) (hN:fn.ntmps=N) (hl:ξ9 args.length N=true)
  (h:WC P none N c (bodyPostM (fw none) 0 P fn R) (pr 0 args) [] w):Calls P f args.toArray w R:=by
 refine(callsIn_wide (n:=0)).1 (callsIn_of_wp_marks d b trivial (h _ ⟨?_,rfl,?_⟩))
 .have:=ο hl;simp[hN];omega
 .intro i v hi;obtain⟨_,a⟩:=aaK args 0 i v hi;simp only[Nat.sub_zero] at a;have e:=(ν.1 a).1;have g:i<args.toArray.size:=by simpa using e
  rw[θ,Array.getElem?_append_left g];simp[a]
theorem iH {id:Nat} (h:WQ N Q .normal E ds w):WQ N (ζp id Q) .normal E ds w:=h
theorem kk {id:Nat} (h:WQ N Q .normal E ds w):WQ N (ζp id Q) (.exit id) E ds w:=λa b=>by
 show if id=id then Q .normal a w else Q (.exit id) a w;rw[if_pos rfl];exact h a b
theorem yW {id:Nat} (h:WQ N Q .ret E ds w):WQ N (ζp id Q) .ret E ds w:=h
theorem eQ {K:Act->World->Prop} (h:WQ N Q .ret E ds w):WQ N (Exit.then K Q) .ret E ds w:=h
theorem fI {K:Act->World->Prop} {id:Nat} (h:WQ N Q (.exit id) E ds w):WQ N (Exit.then K Q) (.exit id) E ds w:=h
theorem eJ {x y:Code} {o:Operand} {b:Bool} (c:ev E o=some (.bool b)) (a:b=true) (h:WC P r N x Q E ds w):WC P r N (.cond o x y) Q E ds w:=by subst a;exact iF c h
theorem eP {x y:Code} {o:Operand} {b:Bool} (c:ev E o=some (.bool b)) (a:b=false) (h:WC P r N y Q E ds w):WC P r N (.cond o x y) Q E ds w:=by subst a;exact hF c h
theorem yV {ops:Array Oper} {l:Γ} {i d:Nat} {o:Oper} (g:ops[i]? =some o) (hw:want N ops E o.guard=some true) (b:o.dst=some d) (hN:ξ1 d N=true) {f:FuncId} {args:Array Operand} {n:Array TypeId} (j:o.op= .call {callee:=.value (.func f),args:=args,argTypes:=n})
  (c: ∀(vs:Array Value) (u:World),(callFunc f vs).run P u= .ok (.enter f vs) u)
  {vs:Γb} (m:g_ E args.toList=some vs) {β:Type} {R:Γ->World->Value->β->Prop} {O:Γ} {y:β} (a:Calls P f vs.toArray w (gi R O w y))
  (h: ∀v w',R O w' v y->Fr [] w w'->WO P r N ops Q l ((d,v)::E) ds w'):WO P r N ops Q (i::l) E ds w:=
 jx g hw b hN j c m a λ_ _ ⟨v,he,k,e⟩=>⟨v,he,h v _ k e⟩
end
structure SP where
 p:World->Value->Prop
 st: ∀ {w w' v},Fr [] w w'->p w v->p w' v
def SP.eq (v:Value):SP:=⟨λ_ u=>u=v,λ_ h=>h⟩
def rows (a:Act):Env->Prop
 |[]=>True
 |(i,v)::r=>a.tmps.getD i undef=v/\rows a r
theorem b4 {a:Act}: ∀ {E:Env},rows a E-> ∀i v,E.get i=some v->a.tmps.getD i undef=v
 |[],_,i,v,h=>by simp[Env.get] at h
 |(j,u)::r,c,i,v,h=>by
  simp only[Env.get] at h;cases b:ζ j i with
  |true=>
   rw[b] at h;have:=δ b;subst this;simp only[cond_true,ι] at h;subst h;exact c.1
  |false=>rw[b] at h;exact b4 c.2 i v h
def cQ (o:Oper):Γ:=(o.after.toList.filter (ζq .any)).map (·.on)
structure cv where
 d:Nat
 lK:Γ
 base:Γ
def hK (i:Nat):Γ->Bool
 |[]=>true
 |j::l=>ξ1 j i&&hK i l
def yD (l:Γ):Γ->Bool
 |[]=>true
 |j::r=>l.contains j&&yD l r
def u' (ops:Array Oper) (i s:Nat):List cv->Nat->Bool
 |[],_=>true
 |p::r,k=>(!(ζ p.d s)||ζ k i||((ops[k]?).map (λo=>(cQ o).contains i)).getD false)&&u' ops i s r (k+1)
def pv (ops:Array Oper) (i:Nat) (all:List cv):Γ->Bool
 |[]=>true
 |s::r=>u' ops i s all 0&&pv ops i all r
def n9 (N:Nat) (ops:Array Oper) (all:List cv):List cv->Nat->Bool
 |[],_=>true
 |p::r,i=>
  (match ops[i]? with
   |some o=>(match o.dst with|some d=>ζ d p.d|none=>false)&&hK i (cQ o)&&yD (cQ o) p.lK
   |none=>false)&&ξ1 p.d N&&pv ops i all p.base&&!(r.any λq=>ζ q.d p.d)&&n9 N ops all r (i+1)
section
variable {P:Program} {r:Option Nat} {N:Nat} {ops:Array Oper} {Q:Exit->Act->World->Prop} {ds:List Deferred}
def e1 (P:Program) (r:Option Nat) (ops:Array Oper) (Q:Exit->Act->World->Prop) (i d:Nat) (a:Act) (w:World) (post:Value->World->Prop):Prop:= ∀K:Act->World->Prop,(∀v w',post v w'->K (a.put (some d) v) w')->wpOpIn (fw r) 0 P ops Q i K a w
theorem k3 {all:List cv}: ∀ {l:List cv} {k:Nat},n9 N ops all l k=true-> ∀j p,l[j]? =some p->
  (∃o,ops[k+j]? =some o/\o.dst=some p.d/\(∀x∈cQ o,x<k+j)/\(∀x∈p.lK,x∈cQ o))/\p.d<N/\pv ops (k+j) all p.base=true/\ ∀f g,j<f->l[f]? =some g->g.d≠p.d:=by
 intro l
 induction l with
 |nil=>intro k h j p hp;simp at hp
 |cons q l i=>
  intro k h j p hp;simp only[n9,μ] at h;obtain⟨⟨⟨⟨n,w⟩,z⟩,A⟩,B⟩:=h;cases j with
  |zero=>
   simp only[ξa,ι] at hp;subst hp;refine⟨?_,ξL.mp w,z,?_⟩
   .split at n
    .rename_i o r;simp only[μ] at n;obtain⟨⟨t,C⟩,D⟩:=n;refine⟨o,r,?_,?_,?_⟩
     .split at t
      .rename_i d E;rw[E,δ t]
      .cases t
     .have: ∀l:Γ,hK k l=true-> ∀x∈l,x<k:=by
       intro l
       induction l with
       |nil=>intro _ x a;cases a
       |cons y l i=>
        intro hl x a;simp only[hK,μ] at hl;rcases ξd.1 a with rfl|a
        .exact ξL.mp hl.1
        .exact i hl.2 x a
      exact this _ C
     .have: ∀(m l:Γ),yD m l=true-> ∀x∈l,x∈m:=by
       intro m l
       induction l with
       |nil=>intro _ x a;cases a
       |cons y l i=>
        intro hl x a;simp only[yD,μ] at hl;rcases ξd.1 a with rfl|a
        .simpa using hl.1
        .exact i hl.2 x a
      exact this _ _ D
    .cases n
   .intro f g F s e;cases f with
    |zero=>omega
    |succ f=>
     simp only[ξg] at s;have hm:=ζ1 s;have u:(l.any λG=>ζ G.d q.d)=false:=by simpa using A
     rw[ζc] at u;have:=u g hm;rw[e] at this;simp at this
  |succ j=>
   simp only[ξg] at hp;obtain⟨⟨o,r,v,a2,a3⟩,b,c,d⟩:=i B j p hp;have e:k+1+j=k+(j+1):=by omega
   rw[e] at r a2 c;refine⟨⟨o,r,v,a2,a3⟩,b,c,?_⟩;intro f g F s;cases f with
   |zero=>omega
   |succ f=>exact d f g (by omega) (by simpa using s)
theorem Nf {i:Nat} {all:List cv}: ∀ {l:Γ},pv ops i all l=true-> ∀s∈l,∀k p,all[k]? =some p->p.d=s->k=i\/ ∃o,ops[k]? =some o/\i∈cQ o:=by
 have key: ∀(s:Nat) (l:List cv) (m:Nat),u' ops i s l m=true-> ∀k p,l[k]? =some p->p.d=s->m+k=i\/ ∃o,ops[m+k]? =some o/\i∈cQ o:=by
  intro s l
  induction l with
  |nil=>intro m _ k p hp;simp at hp
  |cons q l c=>
   intro m h k p hp b;simp only[u',μ] at h;cases k with
   |zero=>
    simp only[ξa,ι] at hp;subst hp;have a:=h.1;simp only[ζX,ξt] at a;rcases a with(a|a)|a
    .rw[b] at a;rw[Nat.beq_refl] at a;cases a
    .exact .inl (by have:=δ a;omega)
    .right;cases g:ops[m]? with
     |none=>rw[g] at a;simp at a
     |some o=>
      rw[g] at a;simp only[ξ0,υ] at a;exact⟨o,rfl,by simpa using a⟩
   |succ k=>
    have:=c (m+1) h.2 k p (by simpa using hp) b;have e:m+1+k=m+(k+1):=by omega
    rwa [e] at this
 intro l
 induction l with
 |nil=>intro _ s b;cases b
 |cons x l c=>
  intro h s b k p hp f;simp only[pv,μ] at h;rcases ξd.1 b with rfl|b
  .simpa using key _ all 0 h.1 k p hp f
  .exact c h.2 s b k p hp f
def eB (listed:Array Bool):Nat->Nat
 |0=>0
 |n+1=>eB listed n+(if listed.getD n true=false then 1 else 0)
theorem Ij {listed:Array Bool} {i:Nat} (hi:i<listed.size) (hl:listed.getD i true=false): ∀n,eB (listed.setIfInBounds i true) n+(if i<n then 1 else 0)=eB listed n:=by
 intro n
 induction n with
 |zero=>simp[eB]
 |succ n a=>
  simp only[eB]
  by_cases c:i=n
  .subst c;have e:(listed.setIfInBounds i true).getD i true=true:=by simp[θ,hi]
   rw[e,hl];have: ¬i<i:=by omega
   simp only[this,if_false] at a;simp;omega
  .have e:(listed.setIfInBounds i true).getD n true=listed.getD n true:=by
    simp only[θ,ξ c]
   rw[e]
   by_cases b:i<n
   .simp only[b,if_true] at a;simp only[show i<n+1 by omega,if_true];omega
   .simp only[b,if_false] at a;simp only[show ¬i<n+1 by omega,if_false];omega
theorem nT {listed:Array Bool}: ∀n,eB listed n=0-> ∀i,i<n->listed.getD i true=true:=by
 intro n
 induction n with
 |zero=>intro _ i hi;omega
 |succ n c=>
  intro h i hi;simp only[eB] at h;rcases ξA i n with a|a
  .exact c (by omega) i a
  .have:i=n:=by omega
   subst this;cases b:listed.getD i true with
   |true=>rfl
   |false=>rw[b] at h;simp at h
theorem q3 {listed:Array Bool}: ∀n,eB listed n≠0-> ∃i,i<n/\listed.getD i true=false/\ ∀j,j<i->listed.getD j true=true:=by
 intro n
 induction n with
 |zero=>intro h;exact absurd rfl h
 |succ n f=>
  intro h
  by_cases a:eB listed n=0
  .simp only[eB,a,ξv] at h;have b:listed.getD n true=false:=by
    cases b:listed.getD n true with
    |true=>rw[b] at h;simp at h
    |false=>rfl
   exact⟨n,by omega,b,λj e=>nT n a j e⟩
  .obtain⟨i,g,c,d⟩:=f a;exact⟨i,by omega,c,d⟩
theorem jf {o:Oper} {x:Nat}:x∈cQ o↔ ∃e∈o.after,ζq .any e=true/\e.on=x:=by
 simp[cQ,and_assoc]
def po (a:List cv) (Φ:List SP) (k:Nat) (F:Nat->cv->SP->Prop):Prop:=
 match a,Φ with
 |p::ps,b::c=>F k p b/\po ps c (k+1) F
 |_,_=>True
theorem M6: ∀ {c:List cv} {Φ:List SP} {k:Nat} {F:Nat->cv->SP->Prop},po c Φ k F-> ∀(i:Nat) (p:cv) (a:SP),c[i]? =some p->Φ[i]? =some a->F (k+i) p a
 |[],_,_,_,_,i,p,a,hp,_=>by simp at hp
 |_::_,[],_,_,_,i,p,a,_,b=>by simp at b
 |q::d,f::g,k,F,h,i,p,a,hp,b=>by
  cases i with
  |zero=>
   simp only[ξa,ι] at hp b;subst hp;subst b;exact h.1
  |succ i=>
   have:=M6 h.2 i p a (by simpa using hp) (by simpa using b);have e:k+1+i=k+(i+1):=by omega
   rwa [e] at this
theorem M5 {b:List cv} {Φ:List SP} {F:Nat->cv->SP->Prop} (h:po b Φ 0 F) (i:Nat) (p:cv) (a:SP) (hp:b[i]? =some p) (c:Φ[i]? =some a):F i p a:=by
 have:=M6 h i p a hp c
 rwa [ξv] at this
theorem Fz {k:Nat}: ∀ {l:Γ},hK k l=true-> ∀x∈l,x<k
 |[],_,x,a=>by cases a
 |y::l,hl,x,a=>by
  simp only[hK,μ] at hl;rcases ξd.1 a with rfl|a
  .exact ξL.mp hl.1
  .exact Fz hl.2 x a
def Fw (l:Γ):Γ->Γ
 |[]=>l
 |x::xs=>Fw (bif l.contains x then l else x::l) xs
theorem MZ: ∀(xs l:Γ) (x:Nat),x∈Fw l xs->x∈l\/x∈xs
 |[],l,x,h=>.inl h
 |y::ys,l,x,h=>by
  rcases MZ ys _ x h with h|h
  .cases a:l.contains y with
   |true=>rw[a] at h;exact .inl h
   |false=>
    rw[a] at h;rcases ξd.1 h with e|h
    .exact .inr (by rw[e];exact π)
    .exact .inl h
  .exact .inr (ξ4 _ h)
def lH (ops:Array Oper):Nat->Γ->Γ
 |0,l=>l
 |n+1,l=>lH ops n (Fw l (l.map λi=>match ops[i]? with|some o=>cQ o|none=>[]).flatten)
theorem lI {listed:Array Bool} (c: ∀(k:Nat) (o:Oper),ops[k]? =some o->listed.getD k true=true-> ∀x∈cQ o,listed.getD x true=true): ∀(n:Nat) (l:Γ),(∀i∈l,listed.getD i true=true)-> ∀i∈lH ops n l,listed.getD i true=true
 |0,l,h,i,hi=>h i hi
 |n+1,l,h,i,hi=>lI c n _ (λj a=>by
  rcases MZ _ _ _ a with a|a
  .exact h j a
  .obtain⟨m,hm,b⟩:=List.mem_flatten.1 a;obtain⟨k,d,rfl⟩:=ζO.1 hm;split at b
   .rename_i o e;exact c k o e (h k d) j b
   .cases b) i hi
def rM (ops:Array Oper) (m:Nat):Bool:=(ζJ ops.size).all λi=>ξ1 i m||match ops[i]? with|some o=>((ζJ i).all λj=>(lH ops 12 (cQ o)).contains j)&&hK i (cQ o)|none=>false
theorem yI {m:Nat} (h:rM ops m=true) (i:Nat) (hi:m<=i) (hn:i<ops.size): ∃o,ops[i]? =some o/\(∀j,j<i->j∈lH ops 12 (cQ o))/\ ∀j∈cQ o,j<i:=by
 have:=ζl.1 h i (by simpa using hn);simp only[ζX] at this;rcases this with a|a
 .have:=ξL.mp a;omega
 .rw[σ hn] at a;simp only[μ,ζl,List.mem_range,List.contains_iff_mem] at a;exact⟨_,σ hn,λj b=>a.1 j b,Fz a.2⟩
theorem wpOpIn_mono {K d:Act->World->Prop} {i:Nat} {a:Act} {w:World} (h: ∀a w,K a w->d a w) (b:wpOpIn (fw r) 0 P ops Q i K a w):wpOpIn (fw r) 0 P ops Q i d a w:=by
 unfold wpOpIn at*
 split
 .rename_i c;rw[c] at b;exact h _ _ b
 .rename_i o c;rw[c] at b;simp only at b;split
  .rename_i hw;rw[if_pos hw] at b;exact Oper.wpIn_mono h b
  .rename_i hw;rw[if_neg hw] at b;exact⟨b.1,h _ _ b.2⟩
theorem yK {m:Nat} (C:rM ops m=true): ∀(c i:Nat) (listed:Array Bool) (a:Act) (w:World),m<=i->i+c=ops.size->listed.size=ops.size->(∀k,k<i->listed.getD k true=true)->(∀k,i<=k->k<ops.size->listed.getD k true=false)->(∀(k:Nat) (o:Oper),ops[k]? =some o->listed.getD k true=true-> ∀x∈cQ o,listed.getD x true=true)->
  wpOpsIn (fw r) 0 P ops Q (ζ2 i c) a w->wpAnyIn (fw r) 0 P .any ops Q c listed a w:=by
 intro c
 induction c with
 |zero=>
  intro i listed a w hm hi D d l _ h;refine⟨?_,h⟩;unfold ξB;rw[List.filter_eq_nil_iff];intro k b;have:=d k (by simp at b;omega);simp[this]
 |succ c S=>
  intro i listed a w hm hi D d l A h;have p:i<ops.size:=by omega
  obtain⟨o,B,U,z⟩:=yI C i hm p;have R: ∀k∈ξB .any ops listed,k=i:=by
   intro k b;unfold ξB at b;rw[ξP] at b;obtain⟨K,f⟩:=b;have L:k<ops.size:=by simpa using K
   rcases Nat.lt_trichotomy k i with s|rfl|I
   .have:=d k s;rw[this] at f;simp at f
   .rfl
   .exfalso;obtain⟨o',N,G,H⟩:=yI C k (by omega) L;rw[N] at f;simp only[μ,ξt,ξ0,υ,ξ8] at f;have y:=l i (ξ3 _) p;have F:=lI A 12 (cQ o') (λx g=>by
     obtain⟨e,he,t,O⟩:=jf.1 g;have n:=f.2 e he;rw[t] at n;simp only[ζC,ζh] at n;have V:=H x g;have v:e.on<listed.size:=by omega
     rw[<-O];simp only[θ,σ v,υ] at n ⊢;exact n) i (G i I)
    rw[F] at y;cases y
  refine⟨λM=>?_,λk b=>?_⟩
  .exfalso;have:i∈ξB .any ops listed:=by
    unfold ξB;rw[ξP];refine⟨by simpa using p,?_⟩;rw[l i (ξ3 _) p,B];simp only[η2,η8,ξ0,υ,ξ8];intro e he;cases t:ζq .any e with
    |false=>simp
    |true=>
     by_cases s:e.on<i
     .have:=d e.on s;have v:e.on<listed.size:=by omega
      simp only[θ,σ v,υ] at this ⊢;simp[this]
     .exact absurd (z _ (jf.2 ⟨e,he,t,rfl⟩)) s
   rw[M] at this;cases this
  .have:=R k b;subst this;rw[show ζ2 k (c+1)=k::ζ2 (k+1) c from rfl,wpOpsIn_cons] at h;refine wpOpIn_mono (λa w hw=>S (k+1) _ a w (by omega) (by omega) (by simpa using D) (λj q=>?_) (λj q J=>?_) (λj T u q x g=>?_) hw) h
   .by_cases e:j=k
    .subst e;simp[θ,show j<listed.size by omega]
    .have:=d j (by omega);simp only[θ,ξ (show k≠j by omega)] at this ⊢;exact this
   .have:=l j (by omega) J;simp only[θ,ξ (show k≠j by omega)] at this ⊢;exact this
   .have E:listed.getD x true=true:=by
     by_cases e:j=k
     .subst e;rw[B] at u;cases u;exact d x (z x g)
     .refine A j T u ?_ x g;simp only[θ,ξ (show k≠j from λh=>e h.symm)] at q ⊢;exact q
    by_cases e:x=k
    .subst e;simp[θ,show x<listed.size by omega]
    .simp only[θ,ξ (show k≠x from λh=>e h.symm)] at E ⊢;exact E
theorem yS {id:Nat} {E:Env} {w:World} (hm:P.follows .mixedOrders=true) (b:List cv) (Φ:List SP) (hlen:ξ9 b.length ops.size=true) (ak:rM ops b.length=true) (aU:Φ.length=b.length) (ab:n9 N ops b b 0=true)
  (aR:po b Φ 0 λi p f=> ∀a w',Fr [] w w'->a.tmps.size=N->a.defers=ds->(∀s,p.base.contains s=true-> ∀v,E.get s=some v->a.tmps.getD s undef=v)->
   (∀(j:Nat),p.lK.contains j=true-> ∀(q:cv) (D:SP),b[j]? =some q->Φ[j]? =some D->D.p w' (a.tmps.getD q.d undef))->e1 P r ops Q i p.d a w' (λv b8=>f.p b8 v/\Fr [] w' b8))
  (aq: ∀a w',Fr [] w w'->a.tmps.size=N->a.defers=ds->(∀s v,E.get s=some v->(b.any λp=>ζ p.d s)=false->a.tmps.getD s undef=v)->
   (∀(i:Nat) (p:cv) (f:SP),b[i]? =some p->Φ[i]? =some f->f.p w' (a.tmps.getD p.d undef))->wpOpsIn (fw r) 0 P ops Q (ζ2 b.length (ops.size-b.length)) a w'):
  WC P r N (.region id ops true) Q E ds w:=by
 have hle:=ο hlen;intro a ag;refine wpIn_region_draw λt=>?_;simp only[Region.schedule,hm,Bool.true_or,if_true];refine wpAnyIn_sound ops.size t _ a _ ?_;have key: ∀(fuel:Nat) (listed:Array Bool) (a:Act) (w':World),listed.size=ops.size->eB listed b.length+(ops.size-b.length)=fuel->(∀k,b.length<=k->k<ops.size->listed.getD k true=false)->Fr [] w w'->a.tmps.size=N->a.defers=ds->
   (∀(k:Nat) (o:Oper),ops[k]? =some o->listed.getD k true=true-> ∀x∈cQ o,listed.getD x true=true)->
   (∀s v,E.get s=some v->(∀(k:Nat) (p:cv),b[k]? =some p->p.d=s->listed.getD k true=false)->a.tmps.getD s undef=v)->
   (∀(i:Nat) (p:cv) (f:SP),b[i]? =some p->Φ[i]? =some f->listed.getD i true=true->f.p w' (a.tmps.getD p.d undef))->
   wpAnyIn (fw r) 0 P .any ops Q fuel listed a w':=by
  intro fuel
  induction fuel with
  |zero=>
   intro listed a w' ad hl af L hN S H M V;have K:eB listed b.length=0:=by omega
   have B:=nT _ K;have aA:ops.size-b.length=0:=by omega
   refine yK ak 0 b.length listed a w' (ξ3 _) (by omega) ad (λk c=>B k c) af H ?_;have T:=aq a w' L hN S (λs v y g=>M s v y λk p hp e=>by
    rw[ζc] at g;have:=g p (ζ1 hp);rw[e] at this;simp at this) λi p f hp J=>V i p f hp J (B i (ν.1 hp).1)
   rw[aA] at T;exact T
  |succ fuel al=>
   intro listed a w' ad hl af L hN S H M V
   by_cases K:eB listed b.length=0
   .have B:=nT _ K;refine yK ak (fuel+1) b.length listed a w' (ξ3 _) (by omega) ad (λk c=>B k c) af H ?_;have T:=aq a w' L hN S (λs v y g=>M s v y λk p hp e=>by
     rw[ζc] at g;have:=g p (ζ1 hp);rw[e] at this;simp at this) λi p f hp J=>V i p f hp J (B i (ν.1 hp).1)
    rw[show ops.size-b.length=fuel+1 by omega] at T;exact T
   refine⟨λaO=>?_,λi hi=>?_⟩
   .exfalso;obtain⟨i,m,F,G⟩:=q3 b.length K;have Y:i<b.length:=m;obtain⟨⟨o,l,_,R,_⟩,_⟩:=k3 ab i b[i] (ξ7 Y);simp only[ξv] at l R;have:i∈ξB .any ops listed:=by
     unfold ξB;rw[ξP];refine⟨by simp;omega,?_⟩;rw[F,l];simp only[η2,η8,ξ0,υ,ξ8];intro e he;cases O:ζq .any e with
     |false=>simp
     |true=>
      have z:=R e.on (jf.2 ⟨e,he,O,rfl⟩);have:=G e.on z;have W:e.on<listed.size:=by omega
      simp only[θ,σ W,υ] at this ⊢;simp[this]
    rw[aO] at this;cases this
   .unfold ξB at hi;rw[ξP] at hi;obtain⟨aE,I⟩:=hi;have aF:i<ops.size:=by simpa using aE
    have Y:i<b.length:=by
     rcases ξA i b.length with h|au
     .exact h
     .exfalso;obtain⟨o,l,B,az⟩:=yI ak i au aF;rw[l] at I;simp only[μ,ξt,ξ0,υ,ξ8] at I;obtain⟨k,m,F,_⟩:=q3 b.length K;have ay:=lI H 12 (cQ o) (λx A=>by
       obtain⟨e,he,O,aM⟩:=jf.1 A;have G:=I.2 e he;rw[O] at G;simp only[ζC,ζh] at G;have aT:=az x A;have W:e.on<listed.size:=by omega
       rw[<-aM];simp only[θ,σ W,υ] at G ⊢;exact G) k (B k (by omega))
      rw[ay] at F;cases F
    have aH:i<Φ.length:=by omega
    have hp:=ξ7 Y;have J:=ξ7 aH;obtain⟨⟨o,l,aS,R,aD⟩,aB,ao,_⟩:=k3 ab i b[i] hp;simp only[ξv] at l R ao;rw[l] at I;simp only[μ,ξt,ξ0,υ,ξ8] at I;obtain⟨aa,aN⟩:=I;have an: ∀x∈cQ o,listed.getD x true=true:=by
     intro x A;obtain⟨e,he,O,rfl⟩:=jf.1 A;have m:=aN e he;rw[O] at m;simp only[ζC,ζh] at m;have z:=R e.on A;have W:e.on<listed.size:=by omega
     simp only[θ,σ W,υ] at m ⊢;exact m
    refine M5 aR i _ _ hp J a w' L hN S ?_ ?_ _ ?_
    .intro s aP v y;have aj:s∈b[i].base:=by simpa using aP
     refine M s v y λk p ai ah=>?_;rcases Nf ao s aj k p ai ah with rfl|⟨o',U,aG⟩
     .exact aa
     .cases c:listed.getD k true with
      |false=>rfl
      |true=>rw[H k o' U c i aG] at aa;cases aa
    .intro j aI q D C X;have Z:j∈b[i].lK:=by simpa using aI
     exact V j q D C X (an j (aD j Z))
    .rintro v b8 ⟨y,ar⟩;have aC:b[i].d<a.tmps.size:=by rw[hN];exact aB
     have ax:i<listed.size:=by omega
     have ae: ∀k,(listed.setIfInBounds i true).getD k true=true↔k=i\/listed.getD k true=true:=by
      intro k
      by_cases c:i=k
      .subst c;simp[θ,ax]
      .simp only[θ,ξ c];constructor
       .exact λh=>.inr h
       .rintro (h|h)
        .exact absurd h.symm c
        .exact h
     have aw: ∀s,s≠b[i].d->(a.put (some b[i].d) v).tmps.getD s undef=a.tmps.getD s undef:=by
      intro s aj;simp only[ζH,θ,ξ (Ne.symm aj)]
     have aQ:(a.put (some b[i].d) v).tmps.getD b[i].d undef=v:=by
      simp[ζH,θ,aC]
     have aK:=Ij ax aa b.length;simp only[Y,if_true] at aK;refine al _ _ b8 (by simpa using ad) (by omega) (λk c aJ=>by
      have:=af k c aJ;simp only[θ,ξ (show i≠k by omega)] at this ⊢;exact this) (L.trans ar) (by simp[ζH,hN]) S ?_ ?_ ?_
     .intro k o' U c x A;rw[ae] at c ⊢;right;rcases c with rfl|c
      .rw[l] at U;cases U;exact an x A
      .exact H k o' U c x A
     .intro s u hu g;have m:s≠b[i].d:=λe=>by
       have:=g i _ hp e.symm;have F:=(ae i).2 (.inl rfl);rw[F] at this;cases this
      rw[aw s m];refine M s u hu λk p ai ah=>?_;have:=g k p ai ah;cases c:listed.getD k true with
      |false=>rfl
      |true=>rw[(ae k).2 (.inr c)] at this;cases this
     .intro j q D C X Z;rw[ae] at Z
      by_cases av:j=i
      .subst av;rw[hp] at C;rw[J] at X;cases C;cases X;rw[aQ];exact y
      .have aL:listed.getD j true=true:=Z.resolve_left av;have g:q.d≠b[i].d:=by
        rcases ξA i j with z|au
        .exact(k3 ab i _ hp).2.2.2 j q z C
        .exact λe=>(k3 ab j q C).2.2.2 i _ (by omega) hp e.symm
       rw[aw _ g];exact D.st ar (V j q D C X aL)
 refine key ops.size _ a _ (by simp) ?_ (λk _ c=>by simp[θ,c]) (Fr.drew [] w) ag.size ag.defers ?_ ?_ ?_
 .have: ∀n,n<=ops.size->eB (ζY ops.size false) n=n:=by
   intro n
   induction n with
   |zero=>intro _;rfl
   |succ n al=>
    intro hn;simp only[eB,al (by omega)];have:(ζY ops.size false).getD n true=false:=by simp[θ,show n<ops.size by omega]
    simp[this]
  rw[this _ hle];omega
 .intro k o l c;have z:=(ξb.1 l).1;simp[θ,z] at c
 .intro s v y _;exact ag.get s v y
 .intro i p f hp _ hi;have z:i<ops.size:=by have:=(ν.1 hp).1;omega
  simp[θ,z] at hi
theorem l_ {i d:Nat} {o:Oper} {a:Act} {w w':World} {v:Value} {b:Bool} {post:Value->World->Prop} (h:ops[i]? =some o) (hw:ζA o (yielded ops a.tmps)=b) (g:o.dst=some d)
  (e:if b=true then(∀c,o.op≠ .defer c)/\(execOp a.eval o).run P w= .ok (.value v) w' else v=undef/\w'=w) (hp:post v w'):e1 P r ops Q i d a w post:=by
 intro K f;simp only[wpOpIn,h];cases b with
 |true=>
  simp only[if_true] at e;rw[if_pos hw];refine⟨λ_ _=>trivial,?_⟩;rw[ξp _ _ _ e.1,e.2];simp only[ξS,g];exact f v w' hp
 |false=>
  obtain⟨rfl,rfl⟩:=(show v=undef/\w'=w by simpa using e);rw[if_neg (by rw[hw];simp)];refine⟨λ_ _=>trivial,?_⟩;rw[g];exact f _ _ hp
variable {Θ:cE}
theorem cX (k:Θ.ok P) {E:Env} {i d:Nat} {o:Oper} {a:Act} {w:World} {v:Value} (e:Has N E ds a) (j:ops[i]? =some o) (hw:want N ops E o.guard=some true) (g:o.dst=some d) (h:im Θ o.op=true)
  (b:iV Θ E o.op=some v):e1 P r ops Q i d a w (λu w'=>u=v/\Fr [] w w'):=
 l_ j (gX e hw) g (by
  simp only[if_true];exact⟨λc f=>by rw[f] at b;simp[iV] at b,yr k e h b⟩) ⟨rfl,Fr.refl _ _⟩
theorem n7 (A:Θ.ok P) {E:Env} {i d:Nat} {o:Oper} {a:Act} {w:World} (h:Has N E ds a) (q:ops[i]? =some o) (hw:want N ops E o.guard=some true) (n:o.dst=some d) {t b B off:Nat} {x:Operand} {c:TI} (k:o.op= .load t x) (s:Θ.get t=some c)
  (z:ev E x=some (.pointer (some ⟨b,off,none⟩))) {cs:Γb} (l:bK w b B cs) (us:Γb) (hu:(cs.drop off).take c.size=us) (hl:us.length=c.size) (f:c.isAgg=true\/c.size=1)
  (v:Value) (y:valOf c.isAgg us=v):e1 P r ops Q i d a w (λu w'=>u=v/\Fr [] w w'):=by
 subst y;have m:dJ w ⟨b,off,none⟩ us:=λj u g=>by
  have:(⟨b,off,none⟩:Addr).add j=⟨b,off+j,none⟩:=by unfold ζ6;split<;>simp_all
  rw[this,l.cell];subst hu;have p:j<c.size:=by have:=(ν.1 g).1;omega
  rw[ω,if_pos p,ξ6] at g;exact g
 refine l_ q (gX h hw) n (v:=valOf c.isAgg us) (w':=w) ?_ ⟨rfl,Fr.refl _ _⟩;simp only[if_true];refine⟨by rw[k];simp,?_⟩;simp only[execOp,k,η,h.eval z,j' (A.fits s) hl m (λe=>by rcases f with f|f;rw[e] at f;cases f;exact f)];rfl
theorem ael {E:Env} {i d:Nat} {o:Oper} {a:Act} {w:World} (b:Has N E ds a) (t:ops[i]? =some o) (hw:want N ops E o.guard=some true) (n:o.dst=some d) {f:FuncId} {args:Array Operand} {C:Array TypeId} (c:o.op= .call {callee:=.value (.func f),args:=args,argTypes:=C})
  (p: ∀(vs:Array Value) (u:World),(callFunc f vs).run P u= .ok (.enter f vs) u)
  {vs:Γb} (B:g_ E args.toList=some vs) {β:Type} {R:Γ->World->Value->β->Prop} {O:Γ} {y:β} (l:Calls P f vs.toArray w (gi R O w y)):
  e1 P r ops Q i d a w (λu w'=>R O w' u y/\Fr [] w w'):=by
 intro K k;simp only[wpOpIn,t];rw[if_pos (gX b hw)];refine⟨λ_ _=>trivial,?_⟩;have j:args.map a.eval=vs.toArray:=by rw[<-pj b B,<-ξh]
 have z:(execOp a.eval o).run P w= .ok (.enter f vs.toArray) w:=by
  simp only[execOp,c,η,resolve,ζv,ξX,κ,ε,invoke,j];simpa using p vs.toArray w
 rw[ξp _ _ _ (by rw[c];simp),z];simp only[ξS];refine⟨λh=>by simp[fw] at h,trivial,λcs _=>?_⟩;obtain⟨e,b8,fr,⟨v,rfl,x,s⟩,A,q,hl⟩:=l cs;refine⟨.returned v,b8,fr,?_,?_,q,hl⟩
 .simp only[n];exact k v b8 ⟨x,s⟩
 .refine ηb (λm _=>?_) (ζQ A);intro g _;exact⟨λh=>by simp[fw] at h,Or.inl trivial,λ_ _=>trivial,λ_ h=>by simp[fw] at h⟩
theorem e1.weaken {i d:Nat} {a:Act} {w:World} {p q:Value->World->Prop} (h:e1 P r ops Q i d a w p) (c: ∀v w',p v w'->q v w'):e1 P r ops Q i d a w q:=
 λK b=>h K λv w' hp=>b v w' (c v w' hp)
end
def bN {α:Type} (T:Ty α) (O:Γ) (w:World):Γb->List α->Prop
 |cs,[]=>cs=[]
 |cs,x::xs=> ∃c r,cs=c++r/\T.rep O w c x/\bN T O w r xs
section
variable {α:Type} {T:Ty α} {O O':Γ} {w w':World}
theorem bN.tr (a:Tr O w O' w'): ∀ {xs:List α} {cs:Γb},bN T O w cs xs->bN T O' w' cs xs
 |[],_,h=>h
 |_::_,_,⟨c,r,h,b,d⟩=>⟨c,r,h,T.tr a b,bN.tr a d⟩
theorem bN.len: ∀ {xs:List α} {cs:Γb},bN T O w cs xs->cs.length=xs.length*T.n
 |[],_,h=>by rw[show _=[] from h];simp
 |_::xs,_,⟨c,r,h,a,b⟩=>by subst h;rw[χ,T.len a,bN.len b,ξy,ξC];omega
theorem bN.one: ∀ {xs:List α} {cs:Γb},bN T O w cs xs-> ∀u∈cs,u.oneCell'=true
 |[],_,h,u,hu=>by rw[show _=[] from h] at hu;cases hu
 |_::xs,_,⟨c,r,h,a,b⟩,u,hu=>by
  subst h;rcases τ.1 hu with hu|hu
  .exact T.one a u hu
  .exact bN.one b u hu
theorem bN.app: ∀ {xs ys:List α} {cs ds:Γb},bN T O w cs xs->bN T O w ds ys->bN T O w (cs++ds) (xs++ys)
 |[],_,_,_,h,k=>by rw[show _=[] from h];exact k
 |_::xs,_,_,_,⟨c,r,h,a,b⟩,k=>by subst h;exact⟨c,r++_,by simp,a,bN.app b k⟩
theorem bN.at_: ∀ {xs:List α} {cs:Γb} {k:Nat} {x:α},bN T O w cs xs->xs[k]? =some x->T.rep O w ((cs.drop (k*T.n)).take T.n) x
 |[],_,_,_,_,a=>by simp at a
 |y::xs,_,0,x,⟨c,r,h,b,d⟩,a=>by
  subst h;simp at a;subst a;simp[<-T.len b];exact b
 |y::xs,_,k+1,x,⟨c,r,h,b,d⟩,a=>by
  subst h;have f:=bN.at_ d (by simpa using a);have e:(k+1)*T.n=c.length+k*T.n:=by rw[T.len b,ξC];omega
  rw[e,<-List.drop_drop,List.drop_left];exact f
theorem rH {ad:Addr} {n c:Nat} {xs:List α} (h:T.slice.is O w (.slice (some ad) n c) xs):n=xs.length/\ ∃cs,bN T O w cs xs/\dJ w ad cs:=by
 obtain⟨cs,⟨A,g,r,hl,f⟩,d⟩:=h;subst r;have d:ξT (some ad) n c= .slice A xs.length g:=d;injection d with i l m;subst i;subst l;subst m;refine⟨rfl,?_⟩;clear hl;have key: ∀(ys:List α) (off:Nat),(∀k x,ys[k]? =some x-> ∃es,T.rep O w es x/\dJ w (ad.add ((off+k)*T.n)) es)-> ∃cs,bN T O w cs ys/\dJ w (ad.add (off*T.n)) cs:=by
  intro ys
  induction ys with
  |nil=>intro off _;exact⟨[],rfl,λj u hu=>by simp at hu⟩
  |cons y ys v=>
   intro off a;obtain⟨es,b,he⟩:=a 0 y rfl;obtain⟨cs,s,t⟩:=v (off+1) (λk x f=>by
    obtain⟨es,o,p⟩:=a (k+1) x (by simpa using f)
    exact⟨es,o,by have e:off+1+k=off+(k+1):=by omega
                  rw[e];exact p⟩)
   refine⟨es++cs,⟨es,cs,rfl,b,s⟩,λj u hu=>?_⟩;have hlen:=T.len b
   by_cases B:j<T.n
   .rw[ξH (by omega)] at hu;have:=he j u hu;simpa using this
   .rw[ξE (by omega)] at hu;have:=t _ u hu;rw[add_add] at this ⊢;have e:(off+1)*T.n+(j-es.length)=off*T.n+j:=by rw[ξC];omega
    rwa [e] at this
 have:=key xs 0 (λk x a=>by
  obtain⟨z,es,q,_,_,b,he⟩:=f k x a;cases q;exact⟨es,b,by simpa using he.1⟩)
 simpa[ξU] using this
theorem aiK {g t:Nat} {cur:Array Value} {p:Addr} (a:w.heap[g]? =some (.cells cur t (0,0))) (hp:p.block=g):w.frozen? p=false:=by
 simp[ζD,hp,a]
theorem ou {g cap t:Nat} {cur:Array Value} {xs:List α} {cs:Γb} (a:w.heap[g]? =some (.cells cur t (0,0))) (l:g∉O) (d:bN T O w cs xs) (f:cur.toList.take cs.length=cs) (h:xs.length<=cap) (hm:cap<=maxLen):
  T.slice.is O w (.slice (some ⟨g,0,none⟩) xs.length cap) xs:=by
 have i:g<w.heap.size:=(ξb.1 a).1;refine⟨_,⟨_,cap,rfl,⟨h,hm⟩,λk x c=>⟨_,_,rfl,i,l,bN.at_ d c,λj u hu=>?_,λj b=>aiK a (by rw[fA,fA])⟩⟩,rfl⟩;have hlen:=bN.len d;have m:k<xs.length:=(ν.1 c).1;have b:j<T.n:=by
  have:=(ν.1 hu).1;rw[ψ] at this;omega
 rw[ω,if_pos b,ξ6] at hu;rw[add_add];have e:(⟨g,0,none⟩:Addr).add (k*T.n+j)=⟨g,k*T.n+j,none⟩:=by unfold ζ6;split<;>simp_all
 rw[e,cell_of_row w g _ cur t (0,0) a];rw[<-f,ω] at hu;split at hu
 .simpa using hu
 .cases hu
end
structure Own {α:Type} (T:Ty α) (e B:Nat) (O:Γ) (w:World) (v:Value) (xs:List α):Prop where
 ex: ∃cs,w.ownsRow B e T.n v xs.length cs/\bN T O w cs xs
 mem: ∀g,v.ownBlock=some g->g∈O
section
variable {α:Type} {T:Ty α} {e B:Nat} {O O':Γ} {w w':World} {v:Value} {xs ys:List α}
theorem Own.f':Own T e B O w (.slice none 0 0) []:=⟨⟨[],World.ownsRow_nil w B e T.n,rfl⟩,λg h=>by cases h⟩
theorem Own.lt (h:Own T e B O w v xs): ∀g,v.ownBlock=some g->B<=g/\g<w.heap.size:=by
 obtain⟨cs,a,_⟩:=h.ex;exact a.lt
theorem Own.form (h:Own T e B O w v xs): ∃A c,v= .slice A xs.length c/\xs.length<=c/\c<=maxLen:=by
 obtain⟨cs,⟨_,a⟩,_⟩:=h.ex;rcases a with⟨rfl,b⟩|⟨g,cap,cur,rfl,_,_,d,f,_⟩
 .exact⟨none,0,by rw[b],by omega,by unfold maxLen;omega⟩
 .exact⟨_,cap,rfl,d,f⟩
theorem Own.keep (h:Own T e B O w v xs) (k:Tr O w O' w') (c: ∀g,v.ownBlock=some g->w'.heap[g]? =w.heap[g]? /\g∈O'):Own T e B O' w' v xs:=by
 obtain⟨cs,⟨f,a⟩,i⟩:=h.ex;refine⟨⟨cs,⟨f,?_⟩,i.tr k⟩,λg b=>(c g b).2⟩;rcases a with a|⟨g,cap,cur,d,b,j,r⟩
 .exact .inl a
 .refine .inr ⟨g,cap,cur,d,b,?_,r⟩;have:=(c g (by rw[d];rfl)).1;rw[this];exact j
theorem Own.b6 (h:Own T e B O w v xs) (a:Fr [] w w'):Own T e B O w' v xs:=h.keep a.eo λg b=>⟨a.block g (h.lt g b).2 (by simp),h.mem g b⟩
theorem Own.new {b t:Nat} {cs:Γb} (h:Own T e B O w v xs) (hn:kr O w b t cs w'):Own T e B (b::O) w' v xs:=
 h.keep hn.tr λg a=>⟨hn.fr.block g (h.lt g a).2 (by simp),ξ4 _ (h.mem g a)⟩
theorem Own.st {b:Nat} (h:Own T e B O w v xs) (c:Fr [b] w w') (hi:b∈O) (d:v.ownBlock≠some b):Own T e B O w' v xs:=
 h.keep (c.tr (hx hi)) λg a=>⟨c.block g (h.lt g a).2 (by simp;rintro rfl;exact d a),h.mem g a⟩
theorem Own.Rk {b t:Nat} {cs:Γb} (h:Own T e B O w v xs) (hn:kr O w b t cs w'):v.ownBlock≠some b:=λhe=>by have:=(h.lt b he).2;have:=hn.ge;omega
theorem Own.share (h:Own T e B O w v xs) (j:Sub O' O) (hn: ∀g,v.ownBlock=some g->g∉O'):T.slice.is O' w v xs:=by
 obtain⟨cs,⟨k,b⟩,a⟩:=h.ex;rcases b with⟨rfl,hl⟩|⟨g,cap,cur,rfl,m,i,c,d,l,f⟩
 .have:xs=[]:=ξf hl;subst this;exact fR _ _ _
 .exact ou i (hn g rfl) (a.tr (Tr.less j)) (by rw[bN.len a];exact f) c d
end
theorem i_ {w w':World} {v:Value} (h:w.grownBy w' v.ownBlock): ∀k,k<w.heap.size->v.ownBlock≠some k->w'.heap[k]? =w.heap[k]? :=λk a b=>h.block k a λe=>b e.symm
section
variable {P:Program} {r:Option Nat} {N:Nat} {Θ:cE} {ops:Array Oper} {Q:Exit->Act->World->Prop} {l:Γ} {E:Env} {ds:List Deferred} {w:World} {i d:Nat} {o:Oper} {O:Γ}
structure dI {α:Type} (T:Ty α) (e B:Nat) (O:Γ) (w:World) (v:Value) (zs:List α) (O':Γ) (w':World) (a:Value):Prop where
 own:Own T e B O' w' a zs
 tr:Tr O w O' w'
 ob:OB O' w'
 sub:Sub O O'
 fr: ∀k,k<w.heap.size->v.ownBlock≠some k->w'.heap[k]? =w.heap[k]?
 ne: ∀b,b<w.heap.size->v.ownBlock≠some b->a.ownBlock≠some b
theorem dI.bI {α:Type} {T:Ty α} {e B:Nat} {O':Γ} {w':World} {v c:Value} {zs:List α} (h:dI T e B O w v zs O' w' c) {b t:Nat} {cs:Γb} (a:bK w b t cs) (hn:v.ownBlock≠some b):bK w' b t cs:=
 (h.fr b a.lt hn).trans a
theorem dI.other {α β:Type} {T:Ty α} {S:Ty β} {e B b:Nat} {O':Γ} {w':World} {v c u:Value} {zs:List α} {ys:List β} (h:dI T e B O w v zs O' w' c) (hu:Own S b B O w u ys)
  (hn: ∀g,u.ownBlock=some g->v.ownBlock≠some g):Own S b B O' w' u ys:=
 hu.keep h.tr λg a=>⟨h.fr g (hu.lt g a).2 (hn g a),h.sub g (hu.mem g a)⟩
theorem dI.b6 {α:Type} {T:Ty α} {e:Nat} {w0:World} {O':Γ} {w':World} {v d:Value} {zs xs:List α} (h:dI T e w0.heap.size O w v zs O' w' d) (c:Own T e w0.heap.size O w v xs) (a:Fr [] w0 w):Fr [] w0 w':=
 ⟨h.tr.os.trans a.os,h.tr.tape.trans a.tape,h.tr.output.trans a.output,ζ5 a.size h.tr.size,λk b _=>
  (h.fr k (φ b a.size) (λe=>by have:=(c.lt k e).1;omega)).trans (a.block k b (by simp))⟩
theorem S_ (K:Θ.ok P) {t ty:Nat} {m f:TI} (af:Θ.get t=some m) (M:m.tag=5) (ag:Θ.get m.e=some f) {α:Type} {T:Ty α} (hn:T.n=f.size) (aq:0<f.size) (ak:f.zero.cells.size=f.size)
  {B:Nat} {v u:Value} {xs ys:List α} (S:B<=w.heap.size) (s:OB O w) (l:Own T m.e B O w v xs) (hu:T.slice.is O w u ys) (hlen:(xs.length+ys.length)*f.bytes<=140737488355328) (U:1<=f.bytes):
  ∃o w' O',(ξD #[t,t] ty #[v,u]).run P w= .ok o w'/\dI T m.e B O w v (xs++ys) O' w' o:=by
 have ah:=K.fits ag;obtain⟨x,E,ab,V,al⟩:=ah.info;have D:=(K.fits af).slice M;obtain⟨A,c,rfl,_,_⟩:=dr hu;obtain⟨cs,C,H⟩:=l.ex;have Q:xs.length+ys.length<=maxLen:=by
  unfold maxLen;have:xs.length+ys.length<=(xs.length+ys.length)*f.bytes:=ξQ _ U;omega
 rcases A with _|ad
 ·
  have aa:ys=[]:=by
   cases ys with
   |nil=>rfl
   |cons y ys=>
    obtain⟨an,⟨A',L,W,_,aj⟩,ai⟩:=hu;subst W;obtain⟨_,_,R,_⟩:=aj 0 y rfl;subst R;have:ξT none (y::ys).length c= .slice (some _) (y::ys).length L:=ai;injection this with e;cases e
  subst aa;refine⟨v,w,O,?_,⟨by simpa using l,Tr.refl _ _,s,Sub.refl _,λ_ _ _=>rfl,λ_ _ h=>h⟩⟩;rcases C.2 with⟨rfl,hl⟩|⟨g,cap,cur,rfl,_,_,Z,_⟩
  .simp[ξD,run_underlying D,sizeOf,typeInfo,E,ξk,ξ2]
  .simp[ξD,run_underlying D,sizeOf,typeInfo,E,ξk,ξ2,Z,storeCells]
 .obtain⟨_,us,q,X⟩:=rH hu;obtain⟨o,w',I,r,a,_,N⟩:=run_append_own_at (P:=P) w B t ty m.e x f.zero T.n f.bytes D E al (ab.trans hn.symm) V (ak.trans hn.symm) (by omega) v xs.length cs C ad ys.length c us (bN.len q) X (bN.one q) Q hlen S;have G:(xs++ys).length=xs.length+ys.length:=χ;have Y:=r.lt;have ao:=C.lt;rcases N with J|z
  .refine⟨o,w',O,I,⟨⟨⟨_,by rw[G];exact r,?_⟩,λg p=>l.mem g (by rw[<-J];exact p)⟩,?_,λk d=>φ (s k d) a.size,Sub.refl _,i_ a,λb _ F=>by rw[J];exact F⟩⟩
   .have j:Tr O w O w':=⟨a.os,a.tape,a.output,a.size,λk d i=>⟨i,i_ a k d λe=>i (l.mem k e)⟩⟩;exact(H.tr j).app (q.tr j)
   .exact⟨a.os,a.tape,a.output,a.size,λk d i=>⟨i,i_ a k d λe=>i (l.mem k e)⟩⟩
  .have ae:=(Y _ z).2;have j:Tr O w (w.heap.size::O) w':=⟨a.os,a.tape,a.output,a.size,λk d i=>⟨by simp;exact⟨by omega,i⟩,i_ a k d λe=>i (l.mem k e)⟩⟩;refine⟨o,w',w.heap.size::O,I,⟨⟨⟨_,by rw[G];exact r,?_⟩,λg p=>by rw[z] at p;cases p;exact π⟩,j,?_,Sub.cons (Sub.refl _) _,i_ a,λb F _=>by rw[z];simp;omega⟩⟩
   .exact(H.tr j).app (q.tr j)
   .intro k d;rcases ξd.1 d with rfl|d
    .exact ae
    .exact φ (s k d) a.size
theorem U1 (L:Θ.ok P) (A:ops[i]? =some o) (hw:want N ops E o.guard=some true) (z:o.dst=some d) (hN:ξ1 d N=true) {t:Nat} {x y:Operand} {c b:TI}
  (j:o.op= .call {callee:=.builtin .append,args:= #[x,y],argTypes:= #[t,t]}) (F:Θ.get t=some c) (k:c.tag=5) (G:Θ.get c.e=some b) {α:Type} {T:Ty α} (hn:T.n=b.size) (C:0<b.size) (K:b.zero.cells.size=b.size) (s:1<=b.bytes)
  {B:Nat} {v u:Value} {xs ys:List α} (I:ev E x=some v) (J:ev E y=some u) (m:B<=w.heap.size) (p:OB O w) (H:Own T c.e B O w v xs) (hu:T.slice.is O w u ys) (hlen:(xs.length+ys.length)*b.bytes<=140737488355328)
  (h: ∀f w' O',dI T c.e B O w v (xs++ys) O' w' f->WO P r N ops Q l ((d,f)::E) ds w'):WO P r N ops Q (i::l) E ds w:=by
 obtain⟨f,w',O',D,q⟩:=S_ (P:=P) (ty:=o.type) L F k G hn C K m p H hu hlen s;refine dZ A hw z hN (by rw[j];simp) (λa g=>?_) (h f w' O' q);simp only[execOp,j,η,resolve,κ,ε,invoke,builtin,ξY,ξo,ζr,g.eval I,g.eval J,D]
theorem ahE {k a:IntKind} {x y z:Int} {t:TypeId} {ox oy:Operand} (h:my k x y=some z):(do eqGuard .shl t ox oy (.int k x) (.int a y);binOp .shl t (.int k x) (.int a y):Sem Value).run P w= .ok (.int k z) w:=by
 unfold my at h;split at h
 .cases h
 .rename_i b;cases h;simp[go_sem,η5,b]
theorem ahF {k a:IntKind} {x y z:Int} {t:TypeId} {ox oy:Operand} (h:JI k x y=some z):(do eqGuard .shr t ox oy (.int k x) (.int a y);binOp .shr t (.int k x) (.int a y):Sem Value).run P w= .ok (.int k z) w:=by
 unfold JI at h;split at h
 .cases h
 .rename_i b;cases h;simp[go_sem,η5,b]
theorem ahz {k:IntKind} {x y z:Int} {t:TypeId} {ox oy:Operand} (h:I' k x y=some z):(do eqGuard .quo t ox oy (.int k x) (.int k y);binOp .quo t (.int k x) (.int k y):Sem Value).run P w= .ok (.int k z) w:=by
 unfold I' at h;split at h
 .cases h
 .rename_i a;cases h;simp[go_sem,ζT,a]
theorem ahA {k:IntKind} {x y z:Int} {t:TypeId} {ox oy:Operand} (h:Jw x y=some z):(do eqGuard .rem t ox oy (.int k x) (.int k y);binOp .rem t (.int k x) (.int k y):Sem Value).run P w= .ok (.int k z) w:=by
 unfold Jw at h;split at h
 .cases h
 .rename_i a;cases h;simp[go_sem,ζT,a]
end
section
variable {P:Program} {r:Option Nat} {N:Nat} {Θ:cE} {ops:Array Oper} {Q:Exit->Act->World->Prop} {l:Γ} {E:Env} {ds:List Deferred} {w:World} {i d:Nat} {o:Oper} {O:Γ}
theorem Te {a:Act} {x:Operand} {args:Array Operand} {h:Array TypeId} {g:FuncId} {first cap:Array Value} {vs:Γb} (b:Has N E ds a) (d:o.op= .call {callee:=.value x,args:=args,argTypes:=h})
  (f:ev E x=some (.func (.func g) first cap)) (e:g_ E args.toList=some vs) (he: ∀(vs:Array Value) (u:World),(callFunc g vs).run P u= .ok (.enter g vs) u):
  (execOp a.eval o).run P w= .ok (.enter g (first.toList++vs++cap.toList).toArray) w:=by
 have c:args.map a.eval=vs.toArray:=by rw[<-pj b e,<-ξh]
 simp only[execOp,d,η,resolve,b.eval f,ξX,κ,ε,invoke,c];rw[he];simp
theorem U3 (m:ops[i]? =some o) (hw:want N ops E o.guard=some true) (f:o.dst=some d) (hN:ξ1 d N=true) {x:Operand} {args:Array Operand} {s:Array TypeId} (b:o.op= .call {callee:=.value x,args:=args,argTypes:=s})
  {g:FuncId} {first cap vs:Γb} (q:ev E x=some (.func (.func g) first.toArray cap.toArray)) (p:g_ E args.toList=some vs) (he: ∀(vs:Array Value) (u:World),(callFunc g vs).run P u= .ok (.enter g vs) u)
  {β:Type} {R:Γ->World->Value->β->Prop} {y:β} (e:Calls P g (first++vs++cap).toArray w (gi R O w y)) (h: ∀v w',R O w' v y->Fr [] w w'->WO P r N ops Q l ((d,v)::E) ds w'):WO P r N ops Q (i::l) E ds w:=
 Kj m hw f hN (by rw[b];simp) (λa c=>by simpa using Te (w:=w) c b q p he) e λ_ _ ⟨v,j,n,k⟩=>⟨v,j,h v _ n k⟩
theorem ahb {α:Type} {T:Ty α} {v:Value} {x:α} (h:T.is O w v x):T.rep O w v.cells.toList x:=by
 obtain⟨cs,a,rfl⟩:=h;rw[Ty.cells a];exact a
def nR:Nat->Γb->List (Nat×Value)
 |_,[]=>[]
 |k,v::r=>(k,v)::nR (k+1) r
def j3 (E:Env):Nat->List (Nat×Operand)->Option (Γb)
 |_,[]=>some []
 |k,(j,x)::r=>bif ζ j k then(match ev E x,j3 E (k+1) r with|some v,some vs=>some (v::vs)|_,_=>none) else none
theorem ae2 {a:Act} (h:Has N E ds a): ∀ {ps:List (Nat×Operand)} {k:Nat} {vs:Γb},j3 E k ps=some vs->ps.map (λp=>(p.1,a.eval p.2))=nR k vs:=by
 intro ps
 induction ps with
 |nil=>intro k vs b;simp[j3] at b;subst b;rfl
 |cons p r f=>
  obtain⟨j,x⟩:=p;intro k vs b;simp only[j3] at b;cases c:ζ j k with
  |false=>rw[c] at b;cases b
  |true=>
   rw[c] at b;simp only[cond_true] at b;split at b
   .rename_i v us e d;simp only[ι] at b;subst b;have:=δ c;subst this;simp[nR,h.eval e,f d]
   .cases b
theorem Hh: ∀(c:Γb) (k off:Nat) (cs:Array Value),off+k+c.length<=cs.size->((c.zipIdx k).foldl (λcs p=>cs.setIfInBounds (off+p.2) p.1) cs).toList=putAt cs.toList (off+k) c:=by
 intro c
 induction c with
 |nil=>intro k off cs _;simp[putAt]
 |cons x c s=>
  intro k off cs h;simp only[List.zipIdx_cons,List.foldl_cons];rw[s (k+1) off _ (by simp at h ⊢;omega)];simp only[Array.toList_setIfInBounds,putAt];have l:off+k<cs.toList.length:=by simp at h ⊢;omega
  apply ζd;intro j;simp only[ζw,ω,ξ6,ζe,χ,ψ,List.length_set,ξy,List.getElem?_cons];have hm:min (off+k) cs.toList.length=off+k:=by omega
  have r:min (off+(k+1)) cs.toList.length=off+k+1:=by omega
  rw[hm,r]
  by_cases e:j<off+k
  .have f:j<off+k+1:=by omega
   have a:j<off+k+1+c.length:=by omega
   have b:j<off+k+(c.length+1):=by omega
   have i: ¬off+k=j:=by omega
   have d:j<off+(k+1):=by omega
   simp[e,f,a,b,i,d]
  .by_cases f:j=off+k
   .subst f;have a:off+k<off+k+1+c.length:=by omega
    have d:off+k<off+(k+1):=by omega
    simp at l;simp[a,d,l]
   .have g: ¬j<off+k+1:=by omega
    have m:j-(off+k)≠0:=by omega
    have n:j-(off+k)-1=j-(off+k+1):=by omega
    by_cases a:j<off+k+1+c.length
    .have b:j<off+k+(c.length+1):=by omega
     simp[e,g,a,b,m,n]
    .have b: ¬j<off+k+(c.length+1):=by omega
     have i: ¬off+k=off+(k+1)+c.length+(j-(off+k+1+c.length)):=by omega
     have d:off+(k+1)+c.length+(j-(off+k+1+c.length))=j:=by omega
     have o:off+k+(c.length+1)+(j-(off+k+(c.length+1)))=j:=by omega
     have q: ¬off+k=j:=by omega
     simp only[d,o];simp[e,g,a,b,q]
theorem acg {size:Nat}: ∀(vs:Γb) (k:Nat) (cs:Array Value),(∀v∈vs,v.cells.size=size)->cs.size=(k+vs.length)*size->
  ∃a,ζb (λi=>some (i*size,size)) cs (nR k vs)=some a/\a.toList=cs.toList.take (k*size)++(vs.map λv=>v.cells.toList).flatten:=by
 intro vs
 induction vs with
 |nil=>intro k cs _ b;exact⟨cs,rfl,by simp at b;rw[ξ5 (by simp;omega)];simp⟩
 |cons v vs o=>
  intro k cs f b;have g:=f v (by simp);have hbound:k*size+v.cells.size<=cs.size:=by
   rw[b,g,ξy,<-ξC];exact ξr _ (by omega)
  have d:=Hh v.cells.toList 0 (k*size) cs (by simp;omega);have m:(v.cells.zipIdx.foldl (λcs (c,j)=>cs.setIfInBounds (k*size+j) c) cs)=((v.cells.toList.zipIdx 0).foldl (λcs p=>cs.setIfInBounds (k*size+p.2) p.1) cs):=by
   rw[<-Array.foldl_toList,Array.toList_zipIdx]
  have n:((v.cells.toList.zipIdx 0).foldl (λcs p=>cs.setIfInBounds (k*size+p.2) p.1) cs).size=cs.size:=by
   have:=congrArg ηj d;simp only[ξK,putAt,χ,ψ,ξe] at this;omega
  obtain⟨a,h,l⟩:=o (k+1) ((v.cells.toList.zipIdx 0).foldl (λcs p=>cs.setIfInBounds (k*size+p.2) p.1) cs) (λu hu=>f u (by simp[hu])) (by
   rw[n,b,ξy]
   congr 1
   omega)
  refine⟨a,?_,?_⟩
  .simp only[nR,ζb];rw[if_neg (by simp[g];omega),m];exact h
  .rw[l,d];simp only[putAt,ζs,ξo,ζK];have e:(k+1)*size=(cs.toList.take (k*size)++v.cells.toList).length:=by
    simp only[χ,ψ,ξK,ξC];omega
   rw[e,List.take_left];simp
def lr {α:Type} (T:Ty α) (O:Γ) (w:World):Γb->List α->Prop
 |[],[]=>True
 |v::vs,x::xs=>T.is O w v x/\lr T O w vs xs
 |_,_=>False
theorem lr.rep {α:Type} {T:Ty α}: ∀ {vs:Γb} {xs:List α},lr T O w vs xs->bN T O w (vs.map λv=>v.cells.toList).flatten xs/\vs.length=xs.length/\ ∀v∈vs,v.cells.size=T.n
 |[],[],_=>⟨rfl,rfl,λv h=>by cases h⟩
 |v::vs,x::xs,⟨b,c⟩=>by
  obtain⟨d,e,f⟩:=lr.rep c;have a:=ahb b;refine⟨⟨_,_,by simp,a,d⟩,by simp[e],λu hu=>?_⟩;rcases ξd.1 hu with rfl|hu
  .simpa using T.len a
  .exact f u hu
def ht (vs:Γb):Γb:=(vs.map λv=>v.cells.toList).flatten
theorem JD (h:Θ.ok P) {a:Act} (o:Has N E ds a) {t n:Nat} {f b:TI} (u:Θ.get t=some f) (m:f.tag=5) (y:Θ.get f.e=some b) (B:b.zero.cells.size=b.size)
  {ps:Array (Nat×Operand)} {vs:Γb} (s:j3 E 0 ps.toList=some vs) (p: ∀v∈vs,v.cells.size=b.size) (hlen:vs.length=n) (A:n*b.size<=16777216):
  (ζR t n (ps.map λ(i,x)=>(i,a.eval x))).run P w= .ok (.slice (some ⟨w.heap.size,0,none⟩) n n) (w.alloc (.cells (ht vs).toArray f.e)):=by
 have g:=h.fits y;obtain⟨j,d,l⟩:=acg (size:=b.size) vs 0 ((Array.range (n*b.size)).map ((if n*b.size=0 then #[] else b.zero.cells)[· %(if n*b.size=0 then #[] else b.zero.cells).size]!)) (λv z=>p v z) (by simp[hlen]);have r:(ps.map λ(i,x)=>(i,a.eval x)).toList=nR 0 vs:=by
  rw[ξh];exact ae2 o s
 have q: ¬n*b.size>2^24:=by omega
 have k:j=(ht vs).toArray:=by
  apply Array.toList_inj.1;rw[l];simp[ht]
 subst k;simp only[ζR,η,run_underlying ((h.fits u).slice m),ε,dW g];rw[if_neg q];rw[r]
 by_cases c:n*b.size=0
 .rw[if_pos c] at d;rw[if_pos c];simp only[η,κ,ε];rw[d];rfl
 .rw[if_neg c] at d;rw[if_neg c];simp only[η,mQ g,κ,ε];rw[d];rfl
structure Lit {α:Type} (T:Ty α) (e:Nat) (O:Γ) (w:World) (b n:Nat) (xs:List α) (w':World):Prop where
 new: ∃cs,kr O w b e cs w'/\bN T (b::O) w' cs xs/\cs.length=n*T.n
 len:xs.length=n
 le:n<=maxLen
theorem Lit.fr {α:Type} {T:Ty α} {e b n:Nat} {w':World} {xs:List α} (h:Lit T e O w b n xs w'):Fr [] w w':=let⟨_,h,_⟩:=h.new;h.fr
theorem Lit.data {α:Type} {T:Ty α} {e b n:Nat} {w':World} {xs:List α} (h:Lit T e O w b n xs w') (a:OB O w):T.slice.is O w' (.slice (some ⟨b,0,none⟩) n n) xs:=by
 obtain⟨cs,hn,f,hl⟩:=h.new;have:=ou (cap:=n) (O:=O) hn.bI (λd=>by have:=a _ d;have:=hn.ge;omega) (f.tr (Tr.less λk c=>ξ4 _ c)) (by simp) (by rw[h.len];exact ξ3 _) h.le
 rwa [h.len] at this
theorem Lit.own {α:Type} {T:Ty α} {e b n B:Nat} {w':World} {xs:List α} (h:Lit T e O w b n xs w') (a:B<=w.heap.size):Own T e B (b::O) w' (.slice (some ⟨b,0,none⟩) n n) xs:=by
 obtain⟨cs,hn,d,hl⟩:=h.new;refine⟨⟨cs,⟨by rw[hl,h.len],.inr ⟨b,n,cs.toArray,by rw[h.len],ζ5 a hn.ge,hn.bI,by rw[h.len];exact ξ3 _,h.le,by simp[hl],by rw[h.len,<-hl];simp⟩⟩,d⟩,λg c=>?_⟩;cases c;exact π
theorem Q2 (b:OB O w) {α:Type} {T:Ty α} {vs:Γb} {xs:List α} {n:Nat} (c:lr T O w vs xs) (hlen:vs.length=n) (hm:n<=maxLen) (e:Nat):Lit T e O w w.heap.size n xs (w.alloc (.cells (ht vs).toArray e)):=by
 obtain⟨a,hl,_⟩:=c.rep;have hn:=kU b e (ht vs);exact⟨⟨_,hn,a.tr hn.tr,by rw[show(ht vs).length=_ from a.len,<-hl,hlen]⟩,by omega,hm⟩
theorem mN (D:Θ.ok P) (u:ops[i]? =some o) (hw:want N ops E o.guard=some true) (q:o.dst=some d) (hN:ξ1 d N=true) {t n:Nat} {f c:TI} {ps:Array (Nat×Operand)} (g:o.op= .buildSlice t n ps) (z:Θ.get t=some f) (k:f.tag=5) (A:Θ.get f.e=some c)
  {α:Type} {T:Ty α} (hn:T.n=c.size) (C:c.zero.cells.size=c.size) {vs:Γb} (x:j3 E 0 ps.toList=some vs) {xs:List α} (j:lr T O w vs xs) (hlen:vs.length=n) (y:ξ9 (n*c.size) 16777216=true) (hm:ξ9 n 16777216=true) (m:OB O w)
  (h: ∀b w',Lit T f.e O w b n xs w'->WO P r N ops Q l ((d,.slice (some ⟨b,0,none⟩) n n)::E) ds w'):WO P r N ops Q (i::l) E ds w:=by
 have s:n<=maxLen:=by have:=ο hm;unfold maxLen;omega
 refine dZ u hw q hN (by rw[g];simp) (λa p=>?_) (h w.heap.size _ (Q2 m j hlen s f.e));simp only[execOp,g,η];rw[JD D p z k A C x (λv B=>(j.rep.2.2 v B).trans hn) hlen (ο y)];rfl
theorem aeo (D:Θ.ok P) {a:Act} (h:Has N E ds a) (s:ops[i]? =some o) (hw:want N ops E o.guard=some true) (p:o.dst=some d) {t n:Nat} {f c:TI} {ps:Array (Nat×Operand)} (k:o.op= .buildSlice t n ps) (z:Θ.get t=some f) (m:f.tag=5) (A:Θ.get f.e=some c)
  {α:Type} {T:Ty α} (hn:T.n=c.size) (C:c.zero.cells.size=c.size) {vs:Γb} (x:j3 E 0 ps.toList=some vs) {xs:List α} (l:lr T O w vs xs) (hlen:vs.length=n) (y:ξ9 (n*c.size) 16777216=true) (hm:ξ9 n 16777216=true) (g:OB O w):
  e1 P r ops Q i d a w (λu w'=>T.slice.is O w' u xs/\Fr [] w w'):=by
 have q:n<=maxLen:=by have:=ο hm;unfold maxLen;omega
 have j:=Q2 g l hlen q f.e;refine l_ s (gX h hw) p (b:=true) (v:=.slice (some ⟨w.heap.size,0,none⟩) n n) (w':=w.alloc (.cells (ht vs).toArray f.e)) ?_ ⟨j.data g,j.fr⟩;simp only[if_true];refine⟨by rw[k];simp,?_⟩;simp only[execOp,k,η];rw[JD D h z m A C x (λv B=>(l.rep.2.2 v B).trans hn) hlen (ο y)];rfl
def rD (Θ:cE) (w:World) (E:Env):List ResultVar->Γb->Prop
 |[],vs=>vs=[]
 | .tmp t::l,vs=> ∃v us,vs=v::us/\E.get t=some v/\rD Θ w E l us
 | .cell a t::l,vs=> ∃v us,vs=v::us/\(∃b d cs c,E.get a=some (.pointer (some ⟨b,0,none⟩))/\bK w b d cs/\Θ.get t=some c/\cs.length=c.size/\(c.isAgg=true\/c.size=1)/\valOf c.isAgg cs=v)/\rD Θ w E l us
theorem ahB {fn:Func} {a:Act} {vs:Γb} (y:Θ.ok P) (h:Has N E ds a) (r:rD Θ w E fn.results.toList vs):(results fn a.tmps).run P w= .ok (h7 vs) w:=by
 have key: ∀(F:ResultVar->Sem Value) (_: ∀t,F (.tmp t)=pure (a.tmps.getD t undef)) (_: ∀b t,F (.cell b t)=do loadVar t (<-asAddr (a.tmps.getD b undef))) (l:List ResultVar) (vs:Γb),rD Θ w E l vs->(l.mapM F).run P w= .ok vs w:=by
  intro F m n l
  induction l with
  |nil=>intro vs f;rw[show vs=[] from f];simp
  |cons x l k=>
   intro vs f;cases x with
   |tmp t=>
    obtain⟨v,us,rfl,g,hl⟩:=f;simp only[ζ8,m,η,κ,ε,k us hl,h.get t v g]
   |cell c t=>
    obtain⟨v,us,rfl,⟨b,z,cs,A,g,o,s,hlen,d,f⟩,hl⟩:=f;have p:dJ w ⟨b,0,none⟩ cs:=λj u q=>by
     have:(⟨b,0,none⟩:Addr).add j=⟨b,j,none⟩:=by unfold ζ6;split<;>simp_all
     rw[this,o.cell];exact q
    have i:=j' (P:=P) (y.fits s) hlen p (λe=>by rcases d with d|d;rw[e] at d;cases d;exact d);simp only[ζN,ξq,η,κ,ε] at i;simp only[ζ8,n,η,h.get c _ g,asAddr,κ,ε,i,f,k us hl]
 unfold results;rw[ξF];simp only[η,ζU];rw[key _ (λt=>rfl) (λb t=>rfl) _ _ r];simp only[ε,κ]
 congr 1
 match vs with
 |[]=>rfl
 |[v]=>rfl
 |v::u::vs=>simp[h7]
theorem lh {fn:Func} {R:Ending->World->Prop} {vs:Γb} (d:Θ.ok P) (c:rD Θ w E fn.results.toList vs) (h:R (.returned (h7 vs)) w):WQ N (bodyPostM (fw none) 0 P fn R) .ret E [] w:=by
 intro a b;show LeavesInM (fw none) 0 P fn a.tmps R a.defers .returning w;rw[b.defers];exact⟨_,ahB d b c,h⟩
end
def app {α:Type} (bytes:Nat) (xs ys:List α):Option (List α):=if(xs.length+ys.length)*bytes<=140737488355328 then some (xs++ys) else none
theorem u1 {α:Type} {bytes:Nat} {xs ys zs:List α} (h:app bytes xs ys=some zs):(xs.length+ys.length)*bytes<=140737488355328/\zs=xs++ys:=by
 unfold app at h;split at h
 .cases h;exact⟨by assumption,rfl⟩
 .cases h
section
variable {P:Program} {r:Option Nat} {N:Nat} {Θ:cE} {ops:Array Oper} {Q:Exit->Act->World->Prop} {l:Γ} {E:Env} {ds:List Deferred} {w:World} {i d:Nat} {o:Oper} {O:Γ}
theorem mL (G:Θ.ok P) (p:ops[i]? =some o) (hw:want N ops E o.guard=some true) (m:o.dst=some d) (hN:ξ1 d N=true) {t:Nat} {x y:Operand} {b a:TI}
  (q:o.op= .call {callee:=.builtin .append,args:= #[x,y],argTypes:= #[t,t]}) (z:Θ.get t=some b) (f:b.tag=5) (A:Θ.get b.e=some a) {α:Type} {T:Ty α} (hn:T.n=a.size) (s:ξ1 0 a.size=true) (F:a.zero.cells.size=a.size) (k:ξ9 1 a.bytes=true)
  {w0:World} {v u:Value} {xs ys zs:List α} (C:ev E x=some v) (D:ev E y=some u) (g:Fr [] w0 w) (j:OB O w) (B:Own T b.e w0.heap.size O w v xs) (hu:T.slice.is O w u ys) (hlen:app a.bytes xs ys=some zs)
  (h: ∀c w' O',dI T b.e w0.heap.size O w v zs O' w' c->WO P r N ops Q l ((d,c)::E) ds w'):WO P r N ops Q (i::l) E ds w:=by
 obtain⟨hle,rfl⟩:=u1 hlen;exact U1 G p hw m hN q z f A hn (ο s) F (ο k) C D g.size j B hu hle h
end
def Dj (u v:Value):Prop:= ∀g,u.ownBlock=some g->v.ownBlock≠some g
theorem aby (v:Value):Dj v (.slice none 0 0):=λg _ h=>by cases h
theorem adZ (b:Nat):(ξT none 0 0).ownBlock≠some b:=λh=>by cases h
structure Bk (n0:Nat) (O:Γ) (w w':World):Prop where
 os:w'.os=w.os
 tape:w'.tape=w.tape
 output:w'.output=w.output
 size:w.heap.size<=w'.heap.size
 keep: ∀k,k<w.heap.size->w'.heap[k]? =w.heap[k]? \/(k∈O/\n0<=k/\ ∃o:Obj,w.heap[k]? =some o/\o.isCells=false)
theorem Bk.tr {n0:Nat} {O:Γ} {w w':World} (h:Bk n0 O w w'):Tr O w O w':=⟨h.os,h.tape,h.output,h.size,λk d a=>⟨a,by
 rcases h.keep k d with b|⟨c,_⟩
 .exact b
 .exact absurd c a⟩⟩
theorem Bk.ob {n0:Nat} {O:Γ} {w w':World} (h:Bk n0 O w w') (a:OB O w):OB O w':=λk b=>φ (a k b) h.size
theorem Ng {n0 l:Nat} {O:Γ} {w:World} {o:Obj} (o':Obj) (hl:w.heap[l]? =some o) (b:o.isCells=false) (a:l∈O) (hn:n0<=l):Bk n0 O w (w.putObj l o'):=
 ⟨rfl,rfl,rfl,by simp,λk c=>by
  by_cases e:k=l
  .subst e;exact .inr ⟨a,hn,o,hl,b⟩
  .exact .inl (World.putObj_heap_other e)⟩
def Rec (w:World) (l:Nat) (o:Obj):Prop:=w.heap[l]? =some o/\o.isCells=false
section
variable {w w':World} {l:Nat} {o:Obj} {O:Γ}
theorem Rec.lt (h:Rec w l o):l<w.heap.size:=(ξb.1 h.1).1
end
def mark (D:Nat):Deferred:= {target:=.collected D,args:= #[]}
def dn {α:Type} (xs:List α) (lo hi mx:Option Int):Option (List α):=
 if 0<=lo.getD 0/\lo.getD 0<=hi.getD (xs.length:Int)/\hi.getD (xs.length:Int)<=xs.length/\hi.getD (xs.length:Int)<=mx.getD (xs.length:Int)/\mx.getD (xs.length:Int)<=xs.length/\(mx.isSome=true->hi.isSome=true) then
  some ((xs.take (hi.getD (xs.length:Int)).toNat).drop (lo.getD 0).toNat) else none
def jN (E:Env):Option Operand->Option (Option (IntKind×Int))
 |none=>some none
 |some x=>match ev E x with|some (.int k i)=>some (some (k,i))|_=>none
def gN (p:IntKind×Int):Value:=.int p.1 p.2
theorem nA {N:Nat} {E:Env} {ds:List Deferred} {a:Act} (h:Has N E ds a) {x:Option Operand} {p:Option (IntKind×Int)} (b:jN E x=some p):x.map a.eval=p.map gN:=by
 cases x with
 |none=>simp[jN] at b;subst b;rfl
 |some x=>
  simp only[jN] at b;split at b
  .rename_i k i hi;simp only[ι] at b;subst b;simp[h.eval hi,gN]
  .cases b
theorem ahn {P:Program} {w:World} {k:IntKind} {i:Int} {y:Nat} {code:BoundsCode} (a:0<=i) (b:i<=y):(ζm (.int k i) y code).run P w= .ok i.toNat w:=by
 simp[ζm,asIntOf,a,b]
section
variable {P:Program} {r:Option Nat} {N:Nat} {Θ:cE} {ops:Array Oper} {Q:Exit->Act->World->Prop} {l:Γ} {E:Env} {ds:List Deferred} {w:World} {i d:Nat} {o:Oper} {O:Γ}
theorem oj {b:Bool} {n c:Nat} {lo hi mx:Option (IntKind×Int)} (o:n<=c) (d:0<=(lo.map (·.2)).getD (0:Int)) (f:(lo.map (·.2)).getD (0:Int)<=(hi.map (·.2)).getD (n:Int)) (g:(hi.map (·.2)).getD (n:Int)<=(mx.map (·.2)).getD (c:Int)) (j:(mx.map (·.2)).getD (c:Int)<=(c:Int)) (e:mx.isSome=true->hi.isSome=true):
  (ζL b n c (lo.map gN) (hi.map gN) (mx.map gN)).run P w= .ok (((lo.map (·.2)).getD (0:Int)).toNat,((hi.map (·.2)).getD (n:Int)).toNat,((mx.map (·.2)).getD (c:Int)).toNat) w:=by
 have a: ∀(k:IntKind) (i:Int) (y:Nat) (code:BoundsCode),0<=i->i<=y->(ζm (.int k i) y code).run P w= .ok i.toNat w:=λk i y code=>ahn;unfold ζL;rcases mx with _|⟨q,m⟩<;>rcases hi with _|⟨p,h⟩<;>rcases lo with _|⟨kl,l⟩<;>simp only[ξc,ξ0,ξI,υ,Option.isSome_none,Option.isSome_some,gN,ζE] at* <;>
  simp only[η,κ,ε]
 .simp
 .rw[a _ _ _ _ d (by omega)];simp
 .rw[a _ _ _ _ (by omega) (by omega)];simp
 .rw[a _ _ _ _ (by omega) (by omega)];simp only[ε];rw[a _ _ _ _ d (by omega)];simp
 .simp at e
 .simp at e
 .rw[a _ _ _ _ (by omega) (by omega)];simp only[ε];rw[a _ _ _ _ (by omega) (by omega)];simp
 .rw[a _ _ _ _ (by omega) (by omega)];simp only[ε];rw[a _ _ _ _ (by omega) (by omega)];simp only[ε];rw[a _ _ _ _ d (by omega)];simp
theorem yq (g:Θ.ok P) {t:Nat} {d h:TI} (p:Θ.get t=some d) (l:d.tag=5) (q:Θ.get d.e=some h) {α:Type} {T:Ty α} (hn:T.n=h.size) {v:Value} {xs ys:List α} {O1:Γ} {w1:World} (f:T.slice.is O1 w1 v xs) {lo hi mx:Option (IntKind×Int)}
  (a:dn xs (lo.map (·.2)) (hi.map (·.2)) (mx.map (·.2))=some ys): ∃i,(ξx t v (lo.map gN) (hi.map gN) (mx.map gN)).run P w= .ok i w/\T.slice.is O1 w1 i ys:=by
 obtain⟨A,c,rfl,hl,hm⟩:=dr f;unfold dn at a;split at a
 .rename_i o;obtain⟨j,k,r,s,u,x⟩:=o;simp only[ι] at a;have hu:=(g.fits p).slice l;have m:=oj (P:=P) (w:=w) (b:=true) (n:=xs.length) (c:=c) (lo:=lo) (hi:=hi) (mx:=mx) hl j k (by cases mx<;>simp_all<;>omega) (by cases mx<;>simp_all<;>omega) (by cases mx<;>cases hi<;>simp_all);refine⟨.slice (if((mx.map (·.2)).getD (c:Int)).toNat=((lo.map (·.2)).getD (0:Int)).toNat then A else A.map (·.add (((lo.map (·.2)).getD (0:Int)).toNat*T.n))) (((hi.map (·.2)).getD (xs.length:Int)).toNat-((lo.map (·.2)).getD (0:Int)).toNat) (((mx.map (·.2)).getD (c:Int)).toNat-((lo.map (·.2)).getD (0:Int)).toNat),?_,?_⟩
  .simp only[ξx,η,run_underlying hu,ε,ζx,m,dW (g.fits q),κ,hn]
  .subst a;exact ah2 f (by omega) (by omega) (by cases mx<;>simp_all<;>omega) (by cases mx<;>simp_all<;>omega)
 .cases a
theorem ajf (G:Θ.ok P) (y:ops[i]? =some o) (hw:want N ops E o.guard=some true) (p:o.dst=some d) (hN:ξ1 d N=true) {t:Nat} {x:Operand} {lo hi mx:Option Operand} {f j:TI} (g:o.op= .slice t x lo hi mx) (A:Θ.get t=some f)
  (k:f.tag=5) (B:Θ.get f.e=some j) {v:Value} (F:ev E x=some v) {l' h' m':Option (IntKind×Int)} (s:jN E lo=some l') (q:jN E hi=some h') (u:jN E mx=some m') {α:Type} {T:Ty α} {xs ys:List α} (hn:T.n=j.size) {O1:Γ} {w1:World} (C:T.slice.is O1 w1 v xs)
  (m:dn xs (l'.map (·.2)) (h'.map (·.2)) (m'.map (·.2))=some ys) (h: ∀c,T.slice.is O1 w1 c ys->WO P r N ops Q l ((d,c)::E) ds w):WO P r N ops Q (i::l) E ds w:=by
 obtain⟨c,z,D⟩:=yq (w:=w) G A k B hn C m;refine dZ y hw p hN (by rw[g];simp) (λa b=>?_) (h c D);simp only[execOp,g,η,b.eval F,nA b s,nA b q,nA b u,z];rfl
theorem rV {E:Env} {a:Act} {w:World} {m c:Nat} (hN:a.tmps.size=N) (b:a.defers=ds) (d:rows a E) (hl:ζ2 m c=l) (h:WO P r N ops Q l E ds w):wpOpsIn (fw r) 0 P ops Q (ζ2 m c) a w:=by
 rw[hl];exact h a ⟨hN,b,b4 d⟩
theorem JT {w w':World} {b:Nat} (a:Fr [] w w') (e:w.heap.size<=b):Tr O w (b::O) w':=⟨a.os,a.tape,a.output,a.size,λk c d=>⟨by simp;exact⟨by omega,d⟩,a.block k c (by simp)⟩⟩
end
def nV {α:Type} (bytes:Nat) (l c:Int) (z:α):Option (List α):=if 0<=l/\l<=c/\(bytes:Int)*c<=281474976710656/\c<=281474976710656 then some (ζ9 l.toNat z) else none
theorem adK {z:Array Value}: ∀(n k j:Nat),j<k*n->z.size=n->(madeCells z (k*n)).toList[j]? =z.toList[j%n]? :=by
 intro n k j a b;have hn:0<n:=by
  rcases Nat.eq_zero_or_pos n with h|h
  .subst h;simp at a
  .exact h
 have hm:j%n<z.size:=by rw[b];exact Nat.mod_lt _ hn
 have e:z[j%n]? =some z[j%n]:=σ hm;have c:z[j%n]! =z[j%n]:=getElem!_pos z (j%n) hm;simp[madeCells,a,b,e,c]
theorem acm {cs:Γb} {n:Nat} (hl:cs.length=n): ∀(k j:Nat),j<k*n->((ζ9 k cs).flatten)[j]? =cs[j%n]? :=by
 intro k
 induction k with
 |zero=>intro j a;simp at a
 |succ k b=>
  intro j a;simp only[ζy,ζK];rw[ξC] at a
  by_cases h:j<n
  .rw[ξH (by omega),Nat.mod_eq_of_lt h]
  .rw[ξE (by omega),hl,b (j-n) (by omega),Nat.mod_eq_sub_mod (by omega:n<=j)]
theorem ahc {α:Type} {T:Ty α} {O:Γ} {w:World} {cs:Γb} {z:α} (h:T.rep O w cs z): ∀k,bN T O w (ζ9 k cs).flatten (ζ9 k z):=by
 intro k
 induction k with
 |zero=>rfl
 |succ k a=>exact⟨cs,_,by simp[ζy],h,a⟩
section
variable {P:Program} {r:Option Nat} {N:Nat} {Θ:cE} {ops:Array Oper} {Q:Exit->Act->World->Prop} {l:Γ} {E:Env} {ds:List Deferred} {w:World} {i d:Nat} {o:Oper} {O:Γ}
def cg {α:Type} (xs ys:List α):List α:=ys.take xs.length++xs.drop ys.length
theorem bN.take {α:Type} {T:Ty α}: ∀ {xs:List α} {cs:Γb} (k:Nat),bN T O w cs xs->bN T O w (cs.take (k*T.n)) (xs.take k)
 |[],_,k,h=>by rw[show _=[] from h];simp[bN]
 |x::xs,_,0,_=>by simp[bN]
 |x::xs,_,k+1,⟨c,r,h,a,b⟩=>by
  subst h;refine⟨c,r.take (k*T.n),?_,a,bN.take k b⟩;have:=T.len a;rw[ξC,ηc,ξZ,ξ5 (by omega)]
  congr 2
  omega
theorem bN.drop {α:Type} {T:Ty α}: ∀ {xs:List α} {cs:Γb} (k:Nat),bN T O w cs xs->bN T O w (cs.drop (k*T.n)) (xs.drop k)
 |[],_,k,h=>by rw[show _=[] from h];simp[bN]
 |x::xs,_,0,h=>by simpa using h
 |x::xs,_,k+1,⟨c,r,h,a,b⟩=>by
  subst h;have:=T.len a;rw[ξC,ηc,ξJ,ξR (by omega),ζ3];have e:T.n+k*T.n-c.length=k*T.n:=by omega
  rw[e];exact bN.drop k b
theorem wrote {α:Type} {T:Ty α} {e B g cap n:Nat} {w:World} {cur new:Array Value} {cs:Γb} {zs:List α} (l:OB O w) (c:g∈O) (j:B<=g) (d:w.heap[g]? =some (.cells cur e (0,0))) (t:new.size=cur.size) (m:cur.size=cap*T.n) (o:cap<=maxLen) (hn:zs.length=n) (q:n<=cap)
  (s: ∀w',Tr O w O w'->bN T O w' cs zs) (u:new.toList.take (n*T.n)=cs):dI T e B O w (.slice (some ⟨g,0,none⟩) n cap) zs O (w.setRow g new) (.slice (some ⟨g,0,none⟩) n cap):=by
 have a:=kc (new:=new) d;have i:=a.tr (hx c);have p:(w.setRow g new).heap[g]? =some (.cells new e (0,0)):=setRow_heap w g _ _ _ _ d;have f:=s _ i;subst hn;exact⟨⟨⟨cs,⟨f.len,.inr ⟨g,cap,new,rfl,j,p,q,o,by rw[t,m],u⟩⟩,f⟩,λk b=>by cases b;exact c⟩,i,a.ob l,Sub.refl _,
  λk b r=>a.block k b (by simp;rintro rfl;exact r rfl),λ_ _ h=>h⟩
def Src {α:Type} (T:Ty α) (O:Γ) (w:World) (u:Value) (ys:List α):Prop:=(∃c,u= .slice none 0 c/\ys=[])\/ ∃ad c us,u= .slice (some ad) ys.length c/\bN T O w us ys/\dJ w ad us
theorem Src.xV {α:Type} {T:Ty α} {O:Γ} {w:World} {u:Value} {ys:List α} (hu:T.slice.is O w u ys):Src T O w u ys:=by
 obtain⟨A,c,rfl,l,_⟩:=dr hu;rcases A with _|ad
 .have g:ys=[]:=by
   cases ys with
   |nil=>rfl
   |cons y ys=>
    obtain⟨k,⟨A',a,d,_,j⟩,i⟩:=hu;subst d;obtain⟨_,_,b,_⟩:=j 0 y rfl;subst b;have:ξT none (y::ys).length c= .slice (some _) (y::ys).length a:=i;injection this with e;cases e
  subst g;exact .inl ⟨c,rfl,rfl⟩
 .obtain⟨_,us,h,f⟩:=rH hu;exact .inr ⟨ad,c,us,rfl,h,f⟩
theorem ahm (I:Θ.ok P) {t ty:Nat} {m f:TI} (X:Θ.get t=some m) (J:m.tag=5) (Y:Θ.get m.e=some f) {α:Type} {T:Ty α} (hn:T.n=f.size) (af:0<f.size) (aa:f.zero.cells.size=f.size)
  {B:Nat} {v u:Value} {xs ys:List α} (M:B<=w.heap.size) (s:OB O w) (l:Own T m.e B O w v xs) (hu:Src T O w u ys) (hlen:(xs.length+ys.length)*f.bytes<=140737488355328) (N:1<=f.bytes):
  ∃o w' O',(ξD #[t,t] ty #[v,u]).run P w= .ok o w'/\dI T m.e B O w v (xs++ys) O' w' o:=by
 have Z:=I.fits Y;obtain⟨x,C,V,Q,ab⟩:=Z.info;have A:=(I.fits X).slice J;obtain⟨cs,z,F⟩:=l.ex;have L:xs.length+ys.length<=maxLen:=by
  unfold maxLen;have:xs.length+ys.length<=(xs.length+ys.length)*f.bytes:=ξQ _ N;omega
 rcases hu with⟨c,rfl,rfl⟩|⟨ad,c,us,rfl,q,R⟩
 .refine⟨v,w,O,?_,⟨by simpa using l,Tr.refl _ _,s,Sub.refl _,λ_ _ _=>rfl,λ_ _ h=>h⟩⟩;rcases z.2 with⟨rfl,hl⟩|⟨g,cap,cur,rfl,_,_,U,_⟩
  .simp[ξD,run_underlying A,sizeOf,typeInfo,C,ξk,ξ2]
  .simp[ξD,run_underlying A,sizeOf,typeInfo,C,ξk,ξ2,U,storeCells]
 .obtain⟨o,w',G,r,a,_,K⟩:=run_append_own_at (P:=P) w B t ty m.e x f.zero T.n f.bytes A C ab (V.trans hn.symm) Q (aa.trans hn.symm) (by omega) v xs.length cs z ad ys.length c us (bN.len q) R (bN.one q) L hlen M;have E:(xs++ys).length=xs.length+ys.length:=χ;have S:=r.lt;have ae:=z.lt;rcases K with H|y
  .refine⟨o,w',O,G,⟨⟨⟨_,by rw[E];exact r,?_⟩,λg p=>l.mem g (by rw[<-H];exact p)⟩,?_,λk d=>φ (s k d) a.size,Sub.refl _,i_ a,λb _ D=>by rw[H];exact D⟩⟩
   .have j:Tr O w O w':=⟨a.os,a.tape,a.output,a.size,λk d i=>⟨i,i_ a k d λe=>i (l.mem k e)⟩⟩;exact(F.tr j).app (q.tr j)
   .exact⟨a.os,a.tape,a.output,a.size,λk d i=>⟨i,i_ a k d λe=>i (l.mem k e)⟩⟩
  .have W:=(S _ y).2;have j:Tr O w (w.heap.size::O) w':=⟨a.os,a.tape,a.output,a.size,λk d i=>⟨by simp;exact⟨by omega,i⟩,i_ a k d λe=>i (l.mem k e)⟩⟩;refine⟨o,w',w.heap.size::O,G,⟨⟨⟨_,by rw[E];exact r,?_⟩,λg p=>by rw[y] at p;cases p;exact π⟩,j,?_,Sub.cons (Sub.refl _) _,i_ a,λb D _=>by rw[y];simp;omega⟩⟩
   .exact(F.tr j).app (q.tr j)
   .intro k d;rcases ξd.1 d with rfl|d
    .exact W
    .exact φ (s k d) a.size
theorem Tb (y:Θ.ok P) {t t' ty:Nat} {a z:TI} (S:Θ.get t=some a) (F:a.tag=5) (U:Θ.get a.e=some z) {α:Type} {T:Ty α} (hn:T.n=z.size) {B:Nat} {v u:Value} {xs ys:List α} (o:OB O w) (l:Own T a.e B O w v xs) (hu:Src T O w u ys):
  ∃w',(ξl #[t,t'] ty #[v,u]).run P w= .ok (goInt (ζ0 ys.length xs.length)) w'/\dI T a.e B O w v (cg xs ys) O w' v:=by
 have f:=y.fits U;have i:=(y.fits S).slice F;obtain⟨cs,⟨X,D⟩,R⟩:=l.ex;have Y: ∀k:Nat,goInt k= .int .i64 k:=λ_=>rfl;rcases D with⟨rfl,hl⟩|⟨g,cap,cur,rfl,I,r,q,E,G,H⟩
 ·
  have:xs=[]:=ξf hl;subst this;refine⟨w,?_,⟨by simpa[cg] using l,Tr.refl _ _,o,Sub.refl _,λ_ _ _=>rfl,λ_ _ h=>h⟩⟩;rcases hu with⟨c,rfl,rfl⟩|⟨ad,c,us,rfl,_,_⟩
  .simp[ξl,run_underlying i,ξk,ξ2,dW f]
  .have L:(loadCells ad 0).run P w= .ok #[] w:=by simpa using run_loadCells_list (P:=P) w ad [] (by simp)
   simp[ξl,run_underlying i,ξk,ξ2,dW f,L]
 .rcases hu with⟨c,rfl,rfl⟩|⟨ad,c,us,rfl,p,K⟩
  .skip
   refine⟨w,?_,⟨by simpa[cg] using l,Tr.refl _ _,o,Sub.refl _,λ_ _ _=>rfl,λ_ _ h=>h⟩⟩;simp[ξl,run_underlying i,ξk,ξ2,dW f,storeCells]
  .obtain⟨m,hm⟩: ∃m,m=ζ0 ys.length xs.length:=⟨_,rfl⟩;have Q:m<=ys.length:=by rw[hm];exact Nat.min_le_left _ _
   have N:m<=xs.length:=by rw[hm];exact Nat.min_le_right _ _
   have J: ∀j v,(us.take (m*T.n))[j]? =some v->w.cell? (ad.add j)=some v:=λj v d=>by
    rw[ω] at d;split at d
    .exact K j v d
    .cases d
   have ab:us.length=ys.length*T.n:=p.len;have Z:m*T.n<=ys.length*T.n:=ξr _ Q;have aa:m*T.n<=xs.length*T.n:=ξr _ N;have W:xs.length*T.n<=cap*T.n:=ξr _ q;have b:(us.take (m*T.n)).length=m*T.n:=by rw[ψ];omega
   have s:=run_loadCells_list (P:=P) w ad _ J;rw[b] at s;have x:=run_storeCells_at P g 0 a.e (us.take (m*T.n)) 0 cur w r (by rw[b];omega) (λu hu=>p.one u (List.mem_of_mem_take hu));rw[b] at x;refine⟨w.setRow g (cur.toList.take (0+0)++us.take (m*T.n)++cur.toList.drop (0+0+m*T.n)).toArray,?_,wrote (cs:=us.take (m*T.n)++cs.drop (m*T.n)) o (l.mem g rfl) I r ?_ (by rw[G]) E ?_ q ?_ ?_⟩
   .have M:ζ0 ys.length xs.length=m:=hm.symm;simp only[ξl,η,ξV,ξa,ξg,run_underlying i,ε,ξk,κ,M,dW f,ξ2];rw[<-hn,s];simp only[ε,x,η,κ]
   .simp only[List.size_toArray,χ,ψ,ξe,ξK];omega
   .simp only[cg,χ,ψ,ξe];omega
   .intro w' V;have A:ys.take xs.length=ys.take m:=by
     rw[hm];rcases ηd ys.length xs.length with h|h
     .rw[ξ5 h,show ζ0 ys.length xs.length=ys.length from ζt h,ξ5 (ξ3 _)]
     .rw[show ζ0 ys.length xs.length=xs.length from ζn h]
    have C:xs.drop ys.length=xs.drop m:=by
     rw[hm];rcases ηd ys.length xs.length with h|h
     .rw[show ζ0 ys.length xs.length=ys.length from ζt h]
     .rw[ξR h,ξR (by rw[show ζ0 ys.length xs.length=xs.length from ζn h];exact ξ3 _)]
    unfold cg;rw[A,C];exact(bN.app (p.take m) (R.drop m)).tr V
   .simp only[ζs,ζa,ζ3,ξv];rw[ξZ,b,ξ5 (by rw[b];omega)]
    congr 1
    rw[<-H,List.drop_take]
theorem ahp (i:Θ.ok P) {t t' ty:Nat} {a b:TI} (f:Θ.get t=some a) (c:a.tag=5) (g:Θ.get a.e=some b) {α:Type} {T:Ty α} (hn:T.n=b.size) {B:Nat} {v u:Value} {xs ys:List α} (d:OB O w) (h:Own T a.e B O w v xs) (hu:T.slice.is O w u ys):
 ∃w',(ξl #[t,t'] ty #[v,u]).run P w= .ok (goInt (ζ0 ys.length xs.length)) w'/\dI T a.e B O w v (cg xs ys) O w' v:=Tb i f c g hn d h (.xV hu)
theorem adH {α:Type} (f:α->Value) (L:List α) (j:Nat) (x:α) (h:j<L.length):putAt (L.map f) j [f x]=(L.set j x).map f:=by
 unfold putAt;apply ζd;intro k;simp only[ζw,χ,ψ,List.length_map,ω,ξs,ξ6,ξy,List.length_nil,ζe]
 by_cases g:k<j
 .have a:k<min j L.length:=by omega
  have b: ¬j=k:=by omega
  have c:k<min j L.length+1:=by omega
  simp[g,a,b,c]
 .by_cases a:k=j
  .subst a;have d: ¬k<min k L.length:=by omega
   have c:k<min k L.length+1:=by omega
   have e:k-min k L.length=0:=by omega
   simp[g,d,c,e,h]
  .have d: ¬k<min j L.length+1:=by omega
   have b: ¬j=k:=by omega
   have e:j+1+(k-(min j L.length+1))=k:=by omega
   simp[d,b,e]
end
theorem kd {α:Type} {T:Ty α} {O:Γ} {w:World} {n c:Nat} {xs:List α} (h:T.slice.is O w (.slice none n c) xs):xs=[]:=by
 cases xs with
 |nil=>rfl
 |cons y ys=>
  obtain⟨i,⟨A',a,d,_,g⟩,f⟩:=h;subst d;obtain⟨_,_,b,_⟩:=g 0 y rfl;subst b;have:ξT none n c= .slice (some _) (y::ys).length a:=f;injection this with e;cases e
def hW {α:Type} (bytes:Nat) (xs:List α) (j:Int) (ys:List α):Option (List α):=
 if 0<=j/\j<=xs.length/\(xs.length+ys.length)*bytes<=1099511627776 then some (xs.take j.toNat++ys++xs.drop j.toNat) else none
theorem O2 {α:Type} {bytes:Nat} {xs ys zs:List α} {j:Int} (h:hW bytes xs j ys=some zs):0<=j/\j<=xs.length/\(xs.length+ys.length)*bytes<=1099511627776/\zs=xs.take j.toNat++ys++xs.drop j.toNat:=by
 unfold hW at h;split at h
 .rename_i a;cases h;exact⟨a.1,a.2.1,a.2.2,rfl⟩
 .cases h
def eR {α:Type} (T:Ty α) (e B:Nat) (O:Γ) (w:World) (v:Value) (zs:List α) (b:Ending) (w':World):Prop:= ∃a O',b= .returned a/\dI T e B O w v zs O' w' a
section
variable {P:Program} {r:Option Nat} {N:Nat} {ops:Array Oper} {Q:Exit->Act->World->Prop} {l:Γ} {E:Env} {ds:List Deferred} {w:World} {i d:Nat} {o:Oper} {O:Γ}
theorem U5 (k:ops[i]? =some o) (hw:want N ops E o.guard=some true) (g:o.dst=some d) (hN:ξ1 d N=true) {f:FuncId} {args:Array Operand} {p:Array TypeId} (m:o.op= .call {callee:=.value (.func f),args:=args,argTypes:=p})
  (j: ∀(vs:Array Value) (u:World),(callFunc f vs).run P u= .ok (.enter f vs) u) {vs:Γb} (n:g_ E args.toList=some vs) {α:Type} {T:Ty α} {e B:Nat} {v:Value} {zs:List α} (c:Calls P f vs.toArray w (eR T e B O w v zs))
  (h: ∀a w' O',dI T e B O w v zs O' w' a->WO P r N ops Q l ((d,a)::E) ds w'):WO P r N ops Q (i::l) E ds w:=
 jx k hw g hN m j n c λ_ _ ⟨a,O',he,b⟩=>⟨a,he,h a _ O' b⟩
end
def Plain (w:World) (u:Value):Prop:= ∀ad n c,u= .slice (some ad) n c->ad.spot=none/\ ∃cur t,w.heap[ad.block]? =some (.cells cur t (0,0))
theorem Own.plain {α:Type} {T:Ty α} {e B:Nat} {O:Γ} {w:World} {v:Value} {xs:List α} (h:Own T e B O w v xs):Plain w v:=by
 intro ad n c b;obtain⟨cs,⟨_,a⟩,_⟩:=h.ex;rcases a with⟨a,_⟩|⟨g,cap,cur,a,_,d,_⟩
 .rw[b] at a;cases a
 .rw[b] at a;cases a;exact⟨rfl,cur,e,d⟩
theorem fg (g i j:Nat):(⟨g,i,none⟩:Addr).add j=⟨g,i+j,none⟩:=by unfold ζ6;split<;>simp_all
section
variable {P:Program} {r:Option Nat} {N:Nat} {Θ:cE} {ops:Array Oper} {Q:Exit->Act->World->Prop} {l:Γ} {E:Env} {ds:List Deferred} {w:World} {i d:Nat} {o:Oper} {O:Γ}
theorem Td (f:Θ.ok P) {t:Nat} {a g:TI} (j:Θ.get t=some a) (h:a.tag=5) (l:Θ.get a.e=some g) {A:Option Addr} {n c lo:Nat} {k:IntKind} (i:n<=c) (m:lo<=n):
  (ξx t (.slice A n c) (some (.int k lo)) none none).run P w= .ok (.slice (if c=lo then A else A.map (·.add (lo*g.size))) (n-lo) (c-lo)) w:=by
 have hu:=(f.fits j).slice h;have d:=oj (P:=P) (w:=w) (b:=true) (n:=n) (c:=c) (lo:=some (k,(lo:Int))) (hi:=none) (mx:=none) i (by simp) (by simp;omega) (by simp;omega) (by simp) (by simp);simp only[ξ0,ξc,υ,ξI,gN,ζM] at d;simp only[ξx,η,run_underlying hu,ε,ζx,d,dW (f.fits l),κ]
theorem Tc (f:Θ.ok P) {t:Nat} {a l:TI} (i:Θ.get t=some a) (g:a.tag=5) (j:Θ.get a.e=some l) {ad:Addr} {n c hi:Nat} {k:IntKind} (h:n<=c) (m:hi<=c):
  (ξx t (.slice (some ad) n c) none (some (.int k hi)) none).run P w= .ok (.slice (some ad) hi c) w:=by
 have hu:=(f.fits i).slice g;have d:=oj (P:=P) (w:=w) (b:=true) (n:=n) (c:=c) (lo:=none) (hi:=some (k,(hi:Int))) (mx:=none) h (by simp) (by simp) (by simp;omega) (by simp) (by simp);simp only[ξ0,ξc,υ,ξI,gN,ζM] at d;simp only[ξx,η,run_underlying hu,ε,ζx,d,dW (f.fits j),κ];simp[ξU]
theorem rU (D:Θ.ok P) (u:ops[i]? =some o) (hw:want N ops E o.guard=some true) (p:o.dst=some d) (hN:ξ1 d N=true) {t:Nat} {x y:Operand} {b j:TI} (g:o.op= .slice t x (some y) none none) (v:Θ.get t=some b)
  (m:b.tag=5) (z:Θ.get b.e=some j) {A:Option Addr} {n c lo:Nat} {k:IntKind} (B:ev E x=some (.slice A n c)) (C:ev E y=some (.int k lo)) (s:n<=c) (q:lo<=n)
  (h:WO P r N ops Q l ((d,.slice (if c=lo then A else A.map (·.add (lo*j.size))) (n-lo) (c-lo))::E) ds w):WO P r N ops Q (i::l) E ds w:=by
 refine dZ u hw p hN (by rw[g];simp) (λa f=>?_) h;simp only[execOp,g,η,f.eval B,ξ0,ξc,f.eval C,Td D v m z s q];rfl
theorem re (F:Θ.ok P) {a:Act} (f:Has N E ds a) (s:ops[i]? =some o) (hw:want N ops E o.guard=some true) (m:o.dst=some d) {t:Nat} {x y:Operand} {h g:TI} (j:o.op= .slice t x (some y) none none) (z:Θ.get t=some h)
  (l:h.tag=5) (B:Θ.get h.e=some g) {A:Option Addr} {n c lo:Nat} {k:IntKind} (C:ev E x=some (.slice A n c)) (D:ev E y=some (.int k lo)) (q:n<=c) (p:lo<=n):
  e1 P r ops Q i d a w (λu w'=>u= .slice (if c=lo then A else A.map (·.add (lo*g.size))) (n-lo) (c-lo)/\Fr [] w w'):=by
 refine l_ s (gX f hw) m (b:=true) (v:=.slice (if c=lo then A else A.map (·.add (lo*g.size))) (n-lo) (c-lo)) (w':=w) ?_ ⟨rfl,Fr.refl _ _⟩;simp only[if_true];refine⟨by rw[j];simp,?_⟩;simp only[execOp,j,η,f.eval C,ξ0,ξc,f.eval D,Td F z l B q p];rfl
theorem Ki (B:Θ.ok P) (s:ops[i]? =some o) (hw:want N ops E o.guard=some true) (m:o.dst=some d) (hN:ξ1 d N=true) {t:Nat} {x y:Operand} {b C:TI} (g:o.op= .slice t x none (some y) none) (u:Θ.get t=some b)
  (j:b.tag=5) (v:Θ.get b.e=some C) {ad:Addr} {n c hi:Nat} {k:IntKind} (z:ev E x=some (.slice (some ad) n c)) (A:ev E y=some (.int k hi)) (q:n<=c) (p:hi<=c)
  (h:WO P r N ops Q l ((d,.slice (some ad) hi c)::E) ds w):WO P r N ops Q (i::l) E ds w:=by
 refine dZ s hw m hN (by rw[g];simp) (λa f=>?_) h;simp only[execOp,g,η,f.eval z,ξ0,ξc,f.eval A,Tc B u j v q p];rfl
theorem Kh (p:Θ.ok P) (D:ops[i]? =some o) (hw:want N ops E o.guard=some true) (A:o.dst=some d) (hN:ξ1 d N=true) {t t':Nat} {x y:Operand} {f q:TI}
  (n:o.op= .call {callee:=.builtin .copy,args:= #[x,y],argTypes:= #[t,t']}) (H:Θ.get t=some f) (v:f.tag=5) (I:Θ.get f.e=some q) {g of c j b sc e:Nat} {ad:Addr} {cur:Array Value} {us:Γb}
  (M:ev E x=some (.slice (some ⟨g,of,none⟩) c j)) (O:ev E y=some (.slice (some ad) b sc)) (B:w.heap[g]? =some (.cells cur e (0,0))) (L:dJ w ad us) (K:us.length=b*q.size) (s: ∀u∈us,u.oneCell'=true) (hle:b<=c) (R:of+us.length<=cur.size)
  (h: ∀z,WO P r N ops Q l ((d,z)::E) ds (w.setRow g (cur.toList.take of++us++cur.toList.drop (of+us.length)).toArray)):WO P r N ops Q (i::l) E ds w:=by
 have J:=(p.fits H).slice v;refine dZ D hw A hN (by rw[n];simp) (λa k=>?_) (h (goInt b));have m:=run_loadCells_list (P:=P) w ad us L;rw[K] at m;have G:=run_storeCells_at P g of e us 0 cur w B (by omega) s;have C:ζ0 b c=b:=ζt hle;have F:(ξl #[t,t'] o.type #[.slice (some ⟨g,of,none⟩) c j,.slice (some ad) b sc]).run P w= .ok (goInt b) (w.setRow g (cur.toList.take of++us++cur.toList.drop (of+us.length)).toArray):=by
  simp only[ξl,η,ξV,ξa,ξg,run_underlying J,ε,ξk,κ,C,dW (p.fits I),ξ2];rw[m];simp only[ε,G,η,κ,ζs]
 simp only[execOp,n,η,resolve,κ,ε,invoke,builtin,ξY,ξo,ζr,k.eval M,k.eval O,F]
theorem aje (p:Θ.ok P) (D:ops[i]? =some o) (hw:want N ops E o.guard=some true) (A:o.dst=some d) (hN:ξ1 d N=true) {t t':Nat} {x y:Operand} {f q:TI}
  (n:o.op= .call {callee:=.builtin .copy,args:= #[x,y],argTypes:= #[t,t']}) (H:Θ.get t=some f) (v:f.tag=5) (I:Θ.get f.e=some q) {g of b j c sc e:Nat} {ad:Addr} {cur:Array Value} {us:Γb}
  (M:ev E x=some (.slice (some ⟨g,of,none⟩) b j)) (O:ev E y=some (.slice (some ad) c sc)) (B:w.heap[g]? =some (.cells cur e (0,0))) (L:dJ w ad us) (K:us.length=b*q.size) (s: ∀u∈us,u.oneCell'=true) (hle:b<=c) (R:of+us.length<=cur.size)
  (h: ∀z,WO P r N ops Q l ((d,z)::E) ds (w.setRow g (cur.toList.take of++us++cur.toList.drop (of+us.length)).toArray)):WO P r N ops Q (i::l) E ds w:=by
 have J:=(p.fits H).slice v;refine dZ D hw A hN (by rw[n];simp) (λa k=>?_) (h (goInt b));have m:=run_loadCells_list (P:=P) w ad us L;rw[K] at m;have G:=run_storeCells_at P g of e us 0 cur w B (by omega) s;have C:ζ0 c b=b:=ζn hle;have F:(ξl #[t,t'] o.type #[.slice (some ⟨g,of,none⟩) b j,.slice (some ad) c sc]).run P w= .ok (goInt b) (w.setRow g (cur.toList.take of++us++cur.toList.drop (of+us.length)).toArray):=by
  simp only[ξl,η,ξV,ξa,ξg,run_underlying J,ε,ξk,κ,C,dW (p.fits I),ξ2];rw[m];simp only[ε,G,η,κ,ζs]
 simp only[execOp,n,η,resolve,κ,ε,invoke,builtin,ξY,ξo,ζr,k.eval M,k.eval O,F]
theorem ajc (g:Θ.ok P) (H:ops[i]? =some o) (hw:want N ops E o.guard=some true) (G:o.dst=some d) (hN:ξ1 d N=true) {t m:Nat} {x y:Operand} {f b j:TI}
  (u:o.op= .call {callee:=.builtin .append,args:= #[x,y],argTypes:= #[t,m]}) (L:Θ.get t=some f) (B:f.tag=5) (M:Θ.get f.e=some b) (O:Θ.get m=some j) (A:j.tag=2) (I:ξ1 0 b.size=true) {ad:Addr} {n c k:Nat} {v:IntKind} {us:Γb}
  (T:ev E x=some (.slice (some ad) n c)) (V:ev E y=some (.int v k)) (S:dJ w ad us) (R:us.length=n*b.size) (z:0<k) (s:c<n+k) (F:(n+k)*b.bytes<=140737488355328) (C:ξ9 1 b.bytes=true)
  (h:WO P r N ops Q l ((d,.slice (some ⟨w.heap.size,0,none⟩) (n+k) (grownCap w (n+k) c f.e))::E) ds (w.drew.alloc (.cells (us.toArray++ξu b.zero.cells k++ξu b.zero.cells (grownCap w (n+k) c f.e-(n+k))) f.e))):WO P r N ops Q (i::l) E ds w:=by
 obtain⟨x',U,K,q,W⟩:=(g.fits M).info;have Z:0<b.size:=ξL.mp I;have D:=ο C;have Y:n+k<=(n+k)*b.bytes:=ξQ _ D;have X:k*b.bytes<=(n+k)*b.bytes:=ξr _ (by omega);have hold:(ξ2 x'.size n (.slice (some ad) n c)).run P w.drew= .ok us.toArray w.drew:=by
  rw[K];have:=run_loadCells_list (P:=P) w.drew ad us S;rw[R] at this;simpa[ξ2] using this
 have J:=Lib.run_append_grow_zeros (P:=P) (ty:=o.type) w t m f.e x' b.zero v (noKind j.k) ((g.fits L).slice B) ((g.fits O).int A) U W (some ad) n c us hold k z (by omega) s (by omega) (by rw[q];omega) (by rw[q];exact growslice_fits s F);refine dZ H hw G hN (by rw[u];simp) (λa p=>?_) h;simp only[execOp,u,η,resolve,κ,ε,invoke,builtin,ξY,ξo,ζr,p.eval T,p.eval V,J]
theorem ajk (u:Θ.ok P) (O:ops[i]? =some o) (hw:want N ops E o.guard=some true) (F:o.dst=some d) (hN:ξ1 d N=true) {f t v:Nat} {m z:TI} {fn:Func} {x y:Operand} {Y:Array TypeId} (s:o.op= .call {callee:=.value (.func f),args:= #[x,y],argTypes:=Y})
  (G:P.funcs[f]? =some fn) (L:(fn.name== "runtime.NumGoroutine")=false) (C:fn.body.isNone=true) (hn:Extern.findNext fn=none) (he:Extern.find fn=some (ζP #[t,t] #[v]))
  (U:Θ.get t=some m) (B:m.tag=5) (V:Θ.get m.e=some z) {ad:Addr} {g of k b lb j e:Nat} {cur c:Array Value} {n:Nat} (W:ev E x=some (.slice (some ad) k b)) (X:ev E y=some (.slice (some ⟨g,of,none⟩) lb j)) (M:ad.block≠g)
  (p:w.heap[ad.block]? =some (.cells c n (0,0))) (J:w.heap[g]? =some (.cells cur e (0,0))) (K:cur.size≠0)
  (h:WO P r N ops Q l ((d,.bool false)::E) ds w):WO P r N ops Q (i::l) E ds w:=by
 refine dZ O hw F hN (by rw[s];simp) (λa q=>?_) h;have S:w.shape? ad.block=some (n,c.size):=by simp[ηe,p]
 have T:w.shape? g=some (e,cur.size):=by simp[ηe,J]
 have H:w.frozen? ad=false:=by simp[ζD,p]
 have I:w.frozen? {block:=ad.block,off:=c.size}=false:=by simp[ζD,p]
 have R:=Lib.run_overlaps_apart (P:=P) w t v m.e ((u.fits U).slice B) z.size (λw=>dW (u.fits V)) ad ⟨g,of,none⟩ k b lb j M n e c.size cur.size S T K H I;have D:(callFunc f #[.slice (some ad) k b,.slice (some ⟨g,of,none⟩) lb j]).run P w= .ok (.value (.bool false)) w:=by
  rw[run_callFunc_extern G L C hn he,R];rfl
 have A:(#[x,y]:Array Operand).map a.eval= #[.slice (some ad) k b,.slice (some ⟨g,of,none⟩) lb j]:=by simp[q.eval W,q.eval X]
 simp only[execOp,s,η,resolve,ζv,ξX,κ,ε,invoke];rw[show(#[x,y]:Array Operand).map (ζv a)=_ from A];simpa using D
theorem ahk {cs:Γb} {z:Array Value} (a b:Nat) {s:Nat} (c:z.size=s): ∃Z,(cs.toArray++ξu z a++ξu z b).toList=cs++Z/\Z.length=(a+b)*s:=by
 refine⟨(ξu z a).toList++(ξu z b).toList,by simp,?_⟩;simp only[χ,ξK,size_zeroCells,c,Nat.add_mul]
theorem Kl {α:Type} {T:Ty α} {e B g cap n0:Nat} {w':World} {new:Array Value} {cs:Γb} {zs:List α} (i:OB O w) (c:g∈O) (f:B<=g) (a:Fr [g] w w') (l:w'.heap[g]? =some (.cells new e (0,0))) (p:new.size=cap*T.n) (j:cap<=maxLen) (m:zs.length<=cap)
  (d:bN T O w' cs zs) (q:new.toList.take (zs.length*T.n)=cs):dI T e B O w (.slice (some ⟨g,0,none⟩) n0 cap) zs O w' (.slice (some ⟨g,0,none⟩) zs.length cap):=
 ⟨⟨⟨cs,⟨d.len,.inr ⟨g,cap,new,rfl,f,l,m,j,p,q⟩⟩,d⟩,λk b=>by cases b;exact c⟩,a.tr (hx c),a.ob i,Sub.refl _,
   λk b o=>a.block k b (by simp;rintro rfl;exact o rfl),λ_ _ h=>h⟩
theorem OM {α:Type} {T:Ty α} {e B G cap:Nat} {w':World} {v:Value} {new:Array Value} {cs:Γb} {zs:List α} (i:OB O w) (g:w.heap.size<=G) (q:B<=w.heap.size) (c:Fr [] w w') (d:w'.heap[G]? =some (.cells new e (0,0))) (o:new.size=cap*T.n) (l:cap<=maxLen) (m:zs.length<=cap)
  (f:bN T (G::O) w' cs zs) (p:new.toList.take (zs.length*T.n)=cs):dI T e B O w v zs (G::O) w' (.slice (some ⟨G,0,none⟩) zs.length cap):=by
 have h:=(ξb.1 d).1;refine⟨⟨⟨cs,⟨f.len,.inr ⟨G,cap,new,rfl,by omega,d,m,l,o,p⟩⟩,f⟩,λk a=>by cases a;exact π⟩,JT c g,λk a=>?_,Sub.cons (Sub.refl _) _,
  λk a _=>c.block k a (by simp),λb j _ he=>by cases he;exact absurd j (by show ¬G<w.heap.size;omega)⟩
 rcases ξd.1 a with rfl|a
 .exact h
 .exact φ (i k a) c.size
end
def pG (a b:IntKind) (es:Array MapEntry) (m:Γc):Prop:=es.toList.map (λe=>(e.key,e.val))=m.map λp=>(ξn a p.1,ξn b p.2)
def iL (a d:IntKind) (w:World) (b:Nat) (m:Γc):Prop:= ∃es c,w.heap[b]? =some (.map es c)/\pG a d es m
theorem iL.lt {a d:IntKind} {w:World} {b:Nat} {m:Γc} (h:iL a d w b m):b<w.heap.size:=by
 obtain⟨es,c,h,_⟩:=h;exact(ξb.1 h).1
theorem iL.of_heap {a d:IntKind} {w w':World} {b:Nat} {m:Γc} (h:iL a d w b m) (e:w'.heap[b]? =w.heap[b]?):iL a d w' b m:=by
 obtain⟨es,c,f,g⟩:=h;exact⟨es,c,e.trans f,g⟩
def bR (m:Γc) (k:Int):Option Int:=(m.find? λp=>k==p.1).map (·.2)
def cL (m:Γc) (k v:Int):Γc:=match m.findIdx? (λp=>k==p.1) with|some i=>m.set i (k,v)|none=>m++[(k,v)]
theorem Hf {a d:IntKind} {k:Int}: ∀ {es:List MapEntry} {m:Γc} (i:Nat),es.map (λe=>(e.key,e.val))=m.map (λp=>(ξn a p.1,ξn d p.2))->
  η9 (.int a) (.int a k) es i=some (match m.findIdx? (λp=>k==p.1) with|some j=>(es[j]?).map (λe=>(i+j,e.val))|none=>none)
 |[],[],i,_=>rfl
 |[],_::_,_,h=>by cases h
 |_::_,[],_,h=>by cases h
 |e::es,p::m,i,h=>by
  simp only[ξo,ζu,ξO] at h;obtain⟨⟨b,f⟩,c⟩:=h;simp only[η9,b,Instr.sameNow,if_true,ζF];cases g:k==p.1 with
  |true=>simp
  |false=>
   simp only[ζE,if_false];rw[Hf (i+1) c];cases m.findIdx? (λp=>k==p.1) with
   |none=>rfl
   |some j=>simp;congr 2;funext e;simp;omega
theorem pG.at {b c:IntKind} {es:Array MapEntry} {m:Γc} (h:pG b c es m) {j:Nat} {p:Int×Int} (d:m[j]? =some p): ∃e,es.toList[j]? =some e/\e.key= .int b p.1/\e.val= .int c p.2:=by
 have:=congrArg (·[j]?) h;simp only[ξs,d,ξ0] at this;obtain⟨e,he,a⟩:=ζo.1 this;simp only[ξO] at a;exact⟨e,he,a.1,a.2⟩
theorem Of {α:Type} (l:List α) (p:α->Bool):match l.findIdx? p with|some j=> ∃d,l[j]? =some d/\l.find? p=some d|none=>l.find? p=none:=by
 induction l with
 |nil=>rfl
 |cons z r a=>
  rw[ζF,List.find?_cons];cases h:p z with
  |true=>exact⟨z,rfl,rfl⟩
  |false=>
   cases b:r.findIdx? p with
   |none=>rw[b] at a;simpa using a
   |some j=>rw[b] at a;obtain⟨d,c,e⟩:=a;exact⟨d,by simpa using c,by simpa using e⟩
section
variable {P:Program} {r:Option Nat} {N:Nat} {Θ:cE} {ops:Array Oper} {Q:Exit->Act->World->Prop} {l:Γ} {E:Env} {ds:List Deferred} {w:World} {i d:Nat} {o:Oper} {O:Γ}
theorem Ta {b:TypeId} {a:IntKind} {k:Int} {em:Bool} (c:P.underlying b=some (.int a)):(η3 em 10000 b (.int a k)).run P w= .ok () w:=by
 unfold η3;simp[run_underlying c]
theorem ahy (i:Θ.ok P) {t:Nat} {d l n:TI} (B:Θ.get t=some d) (q:d.tag=7) (D:Θ.get d.k=some l) (o:l.tag=2) (C:Θ.get d.e=some n) {f g:IntKind} (z:noKind l.k=f) (E:n.zero= .int g 0) {b:Nat} {m:Γc} (hm:iL f g w b m) (k:Int) (ok:Bool):
  (ηf t (.map (some b)) (.int f k) ok).run P w= .ok (bif ok then .tuple #[.int g ((bR m k).getD 0),.bool (bR m k).isSome] else .int g ((bR m k).getD 0)) w:=by
 obtain⟨es,c,y,he⟩:=hm;have hu:=(i.fits B).map q;have h:=(i.fits D).int o;rw[z] at h;have u:=Hf (k:=k) 0 he;have A:(getObj b).run P w= .ok (.map es c) w:=by simp[getObj,ζj,y]
 have v:(ηa d.k (.int f k) es.toList).run P w= .ok (match m.findIdx? (λp=>k==p.1) with|some j=>(es.toList[j]?).map (λe=>(0+j,e.val))|none=>none) w:=ζz h u;have a:=Of m (λp=>k==p.1);simp only[ηf,η,run_underlying hu,ε,A,κ,Ta h,v];unfold bR;cases hi:m.findIdx? (λp=>k==p.1) with
 |none=>
  rw[hi] at a;simp only at a;rw[a];simp only[η,mQ (i.fits C),ε,κ,E];cases ok<;>rfl
 |some j=>
  rw[hi] at a;simp only at a;obtain⟨p,hp,x⟩:=a;obtain⟨e,r,_,s⟩:=he.at hp;rw[x];simp only[r,ξ0,κ,ε,s];cases ok<;>rfl
structure Ds (O:Γ) (w:World) (b:Nat) (w':World):Prop where
 heap:w'.heap[b]? =some (.map #[] 0)
 fr:Fr [] w w'
 tr:Tr O w (b::O) w'
 ob:OB (b::O) w'
 ge:w.heap.size<=b
theorem Ds.is {b:Nat} {w':World} (h:Ds O w b w') (a c:IntKind):iL a c w' b []:=⟨#[],0,h.heap,rfl⟩
theorem ahD (B:Θ.ok P) {t:Nat} {i s:TI} (Q:Θ.get t=some i) (D:i.tag=7) (R:Θ.get i.k=some s) (C:s.tag=2) {a r:IntKind} (y:noKind s.k=a) {b:Nat} {m:Γc} (hm:iL a r w b m) (k v:Int):
  ∃w',(ζZ t (.map (some b)) (.int a k) (.int r v)).run P w= .ok () w'/\iL a r w' b (cL m k v)/\Fr [b] w w':=by
 have T:=hm.lt;obtain⟨es,c,g,he⟩:=hm;have hu:=(B.fits Q).map D;have o:=(B.fits R).int C;rw[y] at o;have G:=Hf (k:=k) 0 he;have O:(getObj b).run P w= .ok (.map es c) w:=by simp[getObj,ζj,g]
 have A: ∀f d,(setObj b (.map f d)).run P w= .ok () {w with heap:=w.heap.setIfInBounds b (.map f d)}:=λf d=>by simp[setObj,ζj,g]
 have u: ∀f d,Fr [b] w {w with heap:=w.heap.setIfInBounds b (.map f d)}:=λf d=>⟨rfl,rfl,rfl,by simp,λk y M=>by
  have N:b≠k:=λe=>M (by simp[e]);simp[ξ N]⟩
 have H:(ηa i.k (.int a k) es.toList).run P w= .ok (match m.findIdx? (λp=>k==p.1) with|some j=>(es.toList[j]?).map (λe=>(0+j,e.val))|none=>none) w:=ζz o G;have n:=Of m (λp=>k==p.1);unfold cL;simp only[ζZ,η,run_underlying hu,ε,O,κ,Ta o,H];cases hi:m.findIdx? (λp=>k==p.1) with
 |none=>
  refine⟨_,A _ _,⟨_,_,(ζS g).1,?_⟩,u _ _⟩;unfold pG at he ⊢;simp[he]
 |some j=>
  rw[hi] at n;simp only at n;obtain⟨p,hp,I⟩:=n;obtain⟨e,l,E,S⟩:=he.at hp;have L:k=p.1:=by have:=List.find?_some I;simpa using this
  have F:es[j]? =some e:=by simpa using l
  have K: ∀h:Int,(ζG (.int a h) (.int a h)).run P w= .ok (.int a h) w:=λh=>by
   unfold ζG;rw[if_pos (by simp[Instr.sameBits])];rfl
  simp only[l,ξ0,ξv,η,F,υ,E,<-L,K,ε];refine⟨_,A _ _,⟨_,_,(ζS g).1,?_⟩,u _ _⟩;unfold pG at he ⊢;apply ζd;intro q;have z:=congrArg (·[q]?) he;simp only[ξs] at z ⊢;simp only[Array.toList_modify,List.getElem?_modify,ζe]
  by_cases x:j=q
  .subst x;have J:j<m.length:=(ν.1 hp).1;simp[l,J]
  .simp[x];simpa using z
end
section
variable {P:Program} {r:Option Nat} {N:Nat} {Θ:cE} {ops:Array Oper} {Q:Exit->Act->World->Prop} {l:Γ} {E:Env} {ds:List Deferred} {w:World} {i d:Nat} {o:Oper} {O:Γ}
theorem ahx (b:Θ.ok P) {t:Nat} {a d:TI} (h:Θ.get t=some a) (g:a.tag=5) (i:Θ.get a.e=some d) {k:IntKind} {j:Int} {n c:Nat} {ad:Addr} (f:0<=j) (l:j.toNat<n):(ξw t (.slice (some ad) n c) (.int k j)).run P w= .ok (.pointer (some (ad.add (j.toNat*d.size)))) w:=by
 have hu:=(b.fits h).slice g;simp only[ξw,asIntOf,η,κ,ε,run_underlying hu];rw[if_pos ⟨f,by omega⟩];simp only[η,dW (b.fits i),ε,κ]
theorem mM (D:Θ.ok P) (v:ops[i]? =some o) (hw:want N ops E o.guard=some true) (s:o.dst=some d) (hN:ξ1 d N=true) {t:Nat} {x y:Operand} {b m:TI} (g:o.op= .indexAddr t x y) (z:Θ.get t=some b) (q:b.tag=5) (A:Θ.get b.e=some m)
  {k:IntKind} {j:Int} {n c:Nat} {ad:Addr} (B:ev E x=some (.slice (some ad) n c)) (C:ev E y=some (.int k j)) (p:0<=j) (u:j.toNat<n) (h:WO P r N ops Q l ((d,.pointer (some (ad.add (j.toNat*m.size))))::E) ds w):WO P r N ops Q (i::l) E ds w:=by
 refine dZ v hw s hN (by rw[g];simp) (λa f=>?_) h;simp only[execOp,g,η,f.eval B,f.eval C,ahx D z q A p u];rfl
end
theorem mA (O:Γ):Sub [] O:=λk a=>by cases a
theorem l7 (w:World):OB [] w:=λk a=>by cases a
section
variable {P:Program} {r:Option Nat} {N:Nat} {Θ:cE} {ops:Array Oper} {Q:Exit->Act->World->Prop} {l:Γ} {E:Env} {ds:List Deferred} {w:World} {i d:Nat} {o:Oper}
theorem rW (y:Θ.ok P) (p:ops[i]? =some o) (hw:want N ops E o.guard=some true) (m:o.dst=some d) (hN:ξ1 d N=true) {t:Nat} {x:Operand} {b:TI} (e:o.op= .load t x) (q:Θ.get t=some b) (c:b.size=1) (f:b.isAgg=false)
  {ad:Addr} (s:ev E x=some (.pointer (some ad))) {v:Value} (g:w.cell? ad=some v) (h:WO P r N ops Q l ((d,v)::E) ds w):WO P r N ops Q (i::l) E ds w:=by
 refine dZ p hw m hN (by rw[e];simp) (λa n=>?_) h;have k:dJ w ad [v]:=λj u hu=>by
  cases j with
  |zero=>simp at hu;subst hu;rw[ξU];exact g
  |succ j=>simp at hu
 have:=j' (P:=P) (y.fits q) (cs:=[v]) (by rw[c];rfl) k (λ_=>c);simp only[execOp,e,η,n.eval s,this,f];rfl
theorem rY (z:Θ.ok P) (j:ops[i]? =some o) (hw:want N ops E o.guard=some true) (g:o.dst=none) {t:Nat} {x y:Operand} {d:TI} (c:o.op= .store t x y) (p:Θ.get t=some d) (e:d.size=1)
  {ad:Addr} (q:ev E x=some (.pointer (some ad))) {k:IntKind} {n:Int} {u:Value} (s:ev E y=some (.int k n)) (f:w.cell? ad=some u) (v:w.frozen? ad=false) (h:WO P r N ops Q l E ds (w.setCell ad (.int k n))):WO P r N ops Q (i::l) E ds w:=by
 refine U0 j hw g (by rw[c];simp) (λa b=>?_) h;have m:(ξn k n).cells= #[.int k n]:=rfl;simp only[execOp,c,b.eval q,b.eval s,η,ζB,ξq,κ,ε,storeVar,dW (z.fits p),m,e];simp[storeCells,store,ζj,f,v,ξU]
end
theorem hV {α:Type} {T:Ty α} {e B:Nat} {O O0:Γ} {w w0:World} {v:Value} {zs:List α} (h:Own T e w0.heap.size O w v zs) (o:Sub O0 O) (b:Fr [] w0 w) (c:OB O0 w0) (n:B<=w0.heap.size):eR T e B O0 w0 (.slice none 0 0) zs (.returned v) w:=by
 obtain⟨cs,⟨t,d⟩,f⟩:=h.ex;rcases d with⟨rfl,hl⟩|⟨g,cap,cur,rfl,p,q,i,j,l,m⟩
 .have:zs=[]:=ξf hl;subst this;exact⟨_,O0,rfl,⟨Own.f',b.eo,b.ob c,Sub.refl _,λk a _=>b.block k a (by simp),λ_ _ h=>h⟩⟩
 .have s:Sub (g::O0) O:=λk a=>by
   rcases ξd.1 a with rfl|a
   .exact h.mem _ rfl
   .exact o k a
  have r:bN T (g::O0) w cs zs:=f.tr (Tr.less s);exact⟨_,g::O0,rfl,OM c p n b q l j i r (by exact m)⟩
section
variable {P:Program} {r:Option Nat} {N:Nat} {Θ:cE} {ops:Array Oper} {Q:Exit->Act->World->Prop} {l:Γ} {E:Env} {ds:List Deferred} {w:World} {i d:Nat} {o:Oper} {O:Γ}
theorem ajd {v:Value} {w':World} (f:ops[i]? =some o) (hw:want N ops E o.guard=some true) (e:o.dst=none)
  (d: ∀c,o.op≠ .defer c) (g: ∀a,Has N E ds a->(execOp a.eval o).run P w= .ok (.value v) w') (h:WO P r N ops Q l E ds w'):WO P r N ops Q (i::l) E ds w:=by
 intro a b;simp only[wpOpsIn,f];rw[if_pos (gX b hw)];refine⟨λ_ _=>trivial,?_⟩;rw[ξp _ _ _ d,g a b];simp only[ξS,e,ζH];exact h _ b
end
section
variable {P:Program} {r:Option Nat} {N:Nat} {Θ:cE} {ops:Array Oper} {Q:Exit->Act->World->Prop} {l:Γ} {E:Env} {ds:List Deferred} {w:World} {i d:Nat} {o:Oper}
theorem U4 (C:Θ.ok P) (z:ops[i]? =some o) (hw:want N ops E o.guard=some true) (s:o.dst=some d) (hN:ξ1 d N=true) {t:Nat} {x:Operand} {b:TI} (g:o.op= .load t x) (A:Θ.get t=some b)
  {p:Value} (B:ev E x=some p) {α:Type} {T:Ty α} {y:α} {O1:Γ} {w1:World} (hp:T.ptr.is O1 w1 p y) (k:Fr [] w1 w) (hn:T.n=b.size) (f:T.agg=b.isAgg)
  (h: ∀v,T.is O1 w1 v y->WO P r N ops Q l ((d,v)::E) ds w):WO P r N ops Q (i::l) E ds w:=by
 obtain⟨cs,⟨ad,es,q,m,_,j,he⟩,c⟩:=hp;subst q;have c:p= .pointer (some ad):=c;subst c;refine dZ z hw s hN (by rw[g];simp) (λa u=>?_) (h (valOf b.isAgg es) ⟨es,j,by rw[<-f];rfl⟩);simp only[execOp,g,η,u.eval B,j' (C.fits A) ((T.len j).trans hn) (he.1.keep (k.block _ m (by simp))) (λe=>by rw[<-hn];exact T.e6 (by rw[f];exact e))];rfl
end
def Ty.Flat {α:Type} (T:Ty α):Prop:= ∀ {O O':Γ} {w w':World} {cs:Γb} {x:α},T.rep O w cs x->T.rep O' w' cs x
theorem rC {α:Type} {T:Ty α} (a:T.Flat) {O O':Γ} {w w':World}: ∀ {xs:List α} {cs:Γb},bN T O w cs xs->bN T O' w' cs xs
 |[],_,h=>h
 |_::_,_,⟨c,r,h,b,d⟩=>⟨c,r,h,a b,rC a d⟩
theorem Own.ahX {α:Type} {T:Ty α} (f:T.Flat) {e:Nat} {w0 w:World} {O O':Γ} {v:Value} {xs:List α} (h:Own T e w0.heap.size O w v xs) (b:OB O' w0):T.slice.is O' w v xs:=by
 obtain⟨cs,⟨n,c⟩,d⟩:=h.ex;rcases c with⟨rfl,hl⟩|⟨g,cap,cur,rfl,o,i,k,l,p,m⟩
 .have:xs=[]:=ξf hl;subst this;exact fR _ _ _
 .have a:bN T O' w cs xs:=rC f d;exact ou i (λj=>by have:=b g j;omega) a (by rw[a.len];exact m) k l
theorem acu {α:Type} {T:Ty α} (c:T.Flat) {e:Nat} {O O':Γ} {w w':World} {zs:List α} {a:Ending} (b:OB O' w) (h:eR T e w.heap.size O w (.slice none 0 0) zs a w'):gi (mv (Ty.slice T)) O' w zs a w':=by
 obtain⟨d,f,he,ap⟩:=h;exact⟨d,he,ap.own.ahX c b,ap.b6 Own.f' (Fr.refl [] w)⟩
def ka (x y:ByteArray):Option ByteArray:=if x.size+y.size<=9223372036854775807 then some (x++y) else none
def fq (s:ByteArray) (i:Int):Option Int:=if 0<=i then(s[i.toNat]?).map λb=>(b.toNat:Int) else none
def strOf (xs:Γa):ByteArray:=xs.foldl (λr n=>r.push (UInt8.ofNat n.toNat)) ByteArray.empty
section
variable {P:Program} {r:Option Nat} {N:Nat} {Θ:cE} {ops:Array Oper} {Q:Exit->Act->World->Prop} {l:Γ} {E:Env} {ds:List Deferred} {w:World} {i d:Nat} {o:Oper} {O:Γ}
theorem ahC {x y z:ByteArray} {t:TypeId} {ox oy:Operand} (h:ka x y=some z):(do eqGuard .add t ox oy (.string x) (.string y);binOp .add t (.string x) (.string y):Sem Value).run P w= .ok (.string z) w:=by
 unfold ka at h;split at h
 .rename_i a;cases h;have: ¬(((x.size+y.size:Nat):Int)>ζW.max):=by
   have e:ζW.max=9223372036854775807:=by decide
   rw[e];omega
  simp only[go_sem,Op.stringOp];rw[if_neg this];simp
 .cases h
end
end Go.Dc
end
section
namespace Go.Vx
open Go.RowKit Go.Dc
structure bh where
 El:Nat->Type
 ty:(t:Nat)->Ty (El t)
inductive LV (S:bh):Type
 |v (u:Value)
 |aG (t:Nat) (x:S.El t)
 |ptr (t:Nat) (x:S.El t) (off:Nat)
 |bl (i off:Nat)
 |fh (i off n j:Nat)
 |own (i:Nat)
 |eU (e i j off:Nat)
 |fK (i off len:Nat)
 |mp (i:Nat)
 |bA (i:Nat)
 |c_
 |cW (i:Nat)
 |sc (i j:Nat)
 |br (k:IntKind) (n:Nat) (gs:Γa)
 |c7 (n:Nat) (bs:List Bool)
inductive aE (S:bh):Type
 |one (l:LV S)
 |agg (ls:List (LV S))
inductive AV (S:bh):Type
 |s (a:aE S)
 |bG (ajF:List (aE S))
inductive Ob (S:bh):Type
 |box (t:Nat) (cs:List (LV S))
 |row (e:Nat) (xs:List (S.El e))
 |map (a b:IntKind) (m:Γc)
 |bA (g:Nat) (fs cs:List (aE S))
 |cW (s:ByteArray) (pos:Nat)
 |st (t:Nat) (x:S.El t)
abbrev a8 (S:bh):=List (Nat×AV S)
abbrev AH (S:bh):=List (Option (Ob S))
abbrev Up (S:bh):=List (Nat×Option (Ob S))
inductive Rs (S:bh):Type
 |ret (a:AV S)
 |bB (u:Value)
structure lC (S:bh) (t:Nat) where
 e:Nat
 to:S.El t->List (S.El e)
 of:List (S.El e)->S.El t
structure tM (S:bh) (e:Nat) where
 t:Nat
 of:List (S.El e)->S.El t
structure bp (S:bh) where
 Θ:cE
 sl:(t:Nat)->Option (lC S t)
 row:(e:Nat)->Option (tM S e)
 bg:(t:Nat)->S.El t->aE S
 cls:(t:Nat)->List (LV S)->Option (S.El t)
 dc:Nat->Option ((t:Nat)×S.El t)
 pI:Nat->List (LV S)->List (LV S)->Option Bool
section
variable {S:bh}
def a8.get:a8 S->Nat->Option (AV S)
 |[],_=>none
 |(i,v)::r,j=>bif ζ i j then some v else a8.get r j
def LV.sz:LV S->Nat
 | .br _ n _=>n
 | .c7 n _=>n
 |_=>1
def dX:List (LV S)->Nat
 |[]=>0
 |l::ls=>l.sz+dX ls
def aw (gs:Γa) (j:Nat):Int:=(gs[j]?).getD 0
def gw (bs:List Bool) (j:Nat):Bool:=(bs[j]?).getD false
def eg:List (LV S)->Nat->Nat->Option (List (LV S))
 |[],off,n=>bif ζ n 0&&ζ off 0 then some [] else none
 | .br k m gs::ls,off,n=>
  bif ξ9 m off then eg ls (off-m) n
  else bif ζ n 0 then some []
  else bif ζ n 1 then some [.v (.int k (aw gs off))]
  else bif ζ off 0&&ξ9 m n then(match eg ls 0 (n-m) with|some r=>some (.br k m gs::r)|none=>none)
  else none
 | .c7 m bs::ls,off,n=>
  bif ξ9 m off then eg ls (off-m) n
  else bif ζ n 0 then some []
  else bif ζ n 1 then some [.v (.bool (gw bs off))]
  else bif ζ off 0&&ξ9 m n then(match eg ls 0 (n-m) with|some r=>some (.c7 m bs::r)|none=>none)
  else none
 |l::ls,off,n=>
  match off with
  |o+1=>eg ls o n
  |0=>match n with
   |0=>some []
   |m+1=>match eg ls 0 m with|some r=>some (l::r)|none=>none
def b1:List (LV S)->Nat->List (LV S)->Option (List (LV S))
 |[],off,ns=>(match ns with|[]=>bif ζ off 0 then some [] else none|_::_=>none)
 | .br k m gs::ls,off,ns=>
  bif ξ9 m off then(match b1 ls (off-m) ns with|some r=>some (.br k m gs::r)|none=>none)
  else match ns with
   |[]=>some (.br k m gs::ls)
   |[.v (.int b x)]=>bif sameKind k b then some (.br k m (gs.set off x)::ls) else none
   | .br b m' d::a=>bif ζ off 0&&ζ m m' then(match b1 ls 0 a with|some r=>some (.br b m' d::r)|none=>none) else none
   |_=>none
 | .c7 m bs::ls,off,ns=>
  bif ξ9 m off then(match b1 ls (off-m) ns with|some r=>some (.c7 m bs::r)|none=>none)
  else match ns with
   |[]=>some (.c7 m bs::ls)
   |[.v (.bool x)]=>some (.c7 m (bs.set off x)::ls)
   | .c7 m' c::a=>bif ζ off 0&&ζ m m' then(match b1 ls 0 a with|some r=>some (.c7 m' c::r)|none=>none) else none
   |_=>none
 |l::ls,off,ns=>
  match off with
  |o+1=>(match b1 ls o ns with|some r=>some (l::r)|none=>none)
  |0=>match ns with
   |[]=>some (l::ls)
   |x::a=>bif ζ x.sz 1 then(match b1 ls 0 a with|some r=>some (x::r)|none=>none)
    else match x with
     | .br k m gs=>(match b1 ls (m-1) a with
      |some r=>(match eg r (m-1) (dX r-(m-1)) with
       |some rest=>bif ξ9 1 m then some (.br k m gs::rest) else none
       |none=>none)
      |none=>none)
     | .c7 m bs=>(match b1 ls (m-1) a with
      |some r=>(match eg r (m-1) (dX r-(m-1)) with
       |some rest=>bif ξ9 1 m then some (.c7 m bs::rest) else none
       |none=>none)
      |none=>none)
     |_=>none
def jc:List (LV S)->Option (IntKind×Γa)
 | .v (.int k x)::r=>(match r with
  |[]=>some (k,[x])
  |_=>(match jc r with|some (a,xs)=>bif sameKind k a then some (k,x::xs) else none|none=>none))
 |_=>none
def na:List (LV S)->Option (List Bool)
 | .v (.bool x)::r=>(match r with
  |[]=>some [x]
  |_=>(match na r with|some xs=>some (x::xs)|none=>none))
 |_=>none
inductive iI|i (k:IntKind) (gs:Γa)|b (bs:List Bool)
def kB (ls:List (LV S)):Option iI:=
 match ls with
 |[.br k _ gs]=>some (.i k gs)
 |[.c7 _ bs]=>some (.b bs)
 |ls=>match jc ls with|some (k,gs)=>some (.i k gs)|none=>(match na ls with|some bs=>some (.b bs)|none=>none)
def aE.cells:aE S->List (LV S)
 | .one l=>[l]
 | .agg ls=>ls
def jF (agg:Bool) (ls:List (LV S)):Option (aE S):=
 bif agg then some (.agg ls) else match ls with
  |[l]=>bif ζ l.sz 1 then some (.one l) else none
  |_=>none
def AV.known:AV S->Option Value
 | .s (.one (.v u))=>some u
 |_=>none
def slotsOf:List Operand->Γ
 |[]=>[]
 | .tmp t::r=>t::slotsOf r
 |_::r=>slotsOf r
def l1 (env:a8 S):Γ->Env
 |[]=>[]
 |s::r=>match a8.get env s with
  |some a=>(match a.known with|some u=>(s,u)::l1 env r|none=>l1 env r)
  |none=>l1 env r
variable (K:bp S)
def dm (env:a8 S):Operand->Option (AV S)
 | .tmp t=>a8.get env t
 | .const v=>bif v.oneCell' then some (.s (.one (.v v))) else none
 | .global g=>(match K.dc g with|some ⟨t,x⟩=>some (.s (.one (.ptr t x 0)))|none=>none)
 | .func f=>some (.s (.one (.v (.func (.func f) #[] #[]))))
def ha (env:a8 S):List Operand->Option (List (aE S))
 |[]=>some []
 |x::r=>match dm K env x with|some (.s a)=>(match ha env r with|some ajF=>some (a::ajF)|none=>none)|_=>none
def nQ (env:a8 S) (x:Operand):Option Int:=match dm K env x with|some (.s (.one (.v (.int _ n))))=>some n|_=>none
def ch (env:a8 S) (x:Operand):Option (LV S):=match dm K env x with|some (.s (.one l))=>some l|_=>none
def mb (env:a8 S):Option Operand->Option (Option (IntKind×Int))
 |none=>some none
 |some x=>(match dm K env x with|some (.s (.one (.v (.int k n))))=>some (some (k,n))|_=>none)
def LV.refs:LV S->Γ
 | .bl i _=>[i]
 | .fh i _ _ _=>[i]
 | .own i=>[i]
 | .eU _ i _ _=>[i]
 | .fK i _ _=>[i]
 | .mp i=>[i]
 | .bA i=>[i]
 | .cW i=>[i]
 | .sc i _=>[i]
 |_=>[]
def oe:List (LV S)->Γ
 |[]=>[]
 |l::r=>l.refs++oe r
def j7:List (aE S)->Γ
 |[]=>[]
 |a::r=>oe a.cells++j7 r
def AV.refs:AV S->Γ
 | .s a=>oe a.cells
 | .bG ajF=>j7 ajF
def Ob.refs:Ob S->Γ
 | .box _ cs=>oe cs
 | .bA _ fs cs=>j7 fs++j7 cs
 |_=>[]
def Ju:a8 S->Γ
 |[]=>[]
 |(_,a)::r=>a.refs++Ju r
def od:AH S->Γ
 |[]=>[]
 |some X::r=>X.refs++od r
 |none::r=>od r
def eD (i:Nat):Γ->Bool
 |[]=>false
 |j::r=>bif ζ i j then true else eD i r
def Ob.nt:Ob S->Bool
 | .st .. =>false
 |_=>true
def n3 (g:Nat->Option (Ob S)) (i:Nat):Option (Ob S):=match g i with|some X=>bif X.nt then some X else none|none=>none
def aM (h:AH S) (i:Nat):Option (Ob S):=match h[i]? with|some (some X)=>some X|_=>none
def reach (g:Nat->Option (Ob S)) (nb:Nat):Nat->Γ->Γ->Γ
 |0,_,seen=>seen
 |_+1,[],seen=>seen
 |n+1,i::t,seen=>
  bif ξ1 i nb then reach g nb n t seen
  else bif eD i seen then reach g nb n t seen
  else match g i with|some X=>reach g nb n (X.refs++t) (seen++[i])|none=>reach g nb n t seen
def posOf (i:Nat):Γ->Nat->Option Nat
 |[],_=>none
 |j::r,n=>bif ζ i j then some n else posOf i r (n+1)
def LV.cf (ρ:Nat->Option Nat):LV S->Option (LV S)
 | .bl i o=>(match ρ i with|some j=>some (.bl j o)|none=>none)
 | .fh i o n x=>(match ρ i with|some j=>some (.fh j o n x)|none=>none)
 | .own i=>(match ρ i with|some j=>some (.own j)|none=>none)
 | .eU e i y o=>(match ρ i with|some j=>some (.eU e j y o)|none=>none)
 | .fK i o n=>(match ρ i with|some j=>some (.fK j o n)|none=>none)
 | .mp i=>(match ρ i with|some j=>some (.mp j)|none=>none)
 | .bA i=>(match ρ i with|some j=>some (.bA j)|none=>none)
 | .cW i=>(match ρ i with|some j=>some (.cW j)|none=>none)
 | .sc i o=>(match ρ i with|some j=>some (.sc j o)|none=>none)
 |l=>some l
def k8 (ρ:Nat->Option Nat):List (LV S)->Option (List (LV S))
 |[]=>some []
 |l::r=>match l.cf ρ with|some x=>(match k8 ρ r with|some y=>some (x::y)|none=>none)|none=>none
def aE.cf (ρ:Nat->Option Nat):aE S->Option (aE S)
 | .one l=>(match l.cf ρ with|some x=>some (.one x)|none=>none)
 | .agg ls=>(match k8 ρ ls with|some x=>some (.agg x)|none=>none)
def mj (ρ:Nat->Option Nat):List (aE S)->Option (List (aE S))
 |[]=>some []
 |l::r=>match l.cf ρ with|some x=>(match mj ρ r with|some y=>some (x::y)|none=>none)|none=>none
def AV.cf (ρ:Nat->Option Nat):AV S->Option (AV S)
 | .s a=>(match a.cf ρ with|some x=>some (.s x)|none=>none)
 | .bG ajF=>(match mj ρ ajF with|some x=>some (.bG x)|none=>none)
def Ob.cf (ρ:Nat->Option Nat):Ob S->Option (Ob S)
 | .box t cs=>(match k8 ρ cs with|some x=>some (.box t x)|none=>none)
 | .bA g fs cs=>(match mj ρ fs,mj ρ cs with|some x,some y=>some (.bA g x y)|_,_=>none)
 |X=>some X
def mm (ρ:Nat->Option Nat):Option (Ob S)->Option (Ob S)
 |some X=>X.cf ρ
 |none=>none
def og (ρ:Nat->Option Nat):a8 S->a8 S
 |[]=>[]
 |(s,a)::r=>match a.cf ρ with|some x=>(s,x)::og ρ r|none=>og ρ r
def e4 (ρ:Nat->Option Nat):AH S->AH S
 |[]=>[]
 |X::r=>mm ρ X::e4 ρ r
def e2 (env:a8 S):Γ->a8 S
 |[]=>[]
 |s::r=>match a8.get env s with|some a=>(s,a)::e2 env r|none=>e2 env r
def gb (g:Nat->Option (Ob S)):Γ->AH S
 |[]=>[]
 |i::r=>g i::gb g r
def nJ (g:Nat->Option (Ob S)):LV S->Option (LV S×Γ)
 | .own r=>(match g r with|some (.row e xs)=>(match K.row e with|some I=>some (.aG I.t (I.of xs),[r])|none=>none)|_=>none)
 | .v u=>some (.v u,[])
 | .aG t x=>some (.aG t x,[])
 | .ptr t x o=>some (.ptr t x o,[])
 | .br k n gs=>some (.br k n gs,[])
 | .c7 n bs=>some (.c7 n bs,[])
 |_=>none
def nK (g:Nat->Option (Ob S)):List (LV S)->Option (List (LV S)×Γ)
 |[]=>some ([],[])
 |l::r=>match nJ K g l with|some (l',a)=>(match nK g r with|some (c,b)=>some (l'::c,a++b)|none=>none)|none=>none
def lV (g:Nat->Option (Ob S)):aE S->Option (aE S×Γ)
 | .one l=>(match nJ K g l with|some (l',a)=>some (.one l',a)|none=>none)
 | .agg ls=>(match nK K g ls with|some (l',a)=>some (.agg l',a)|none=>none)
def kM (g:Nat->Option (Ob S)):List (aE S)->Option (List (aE S)×Γ)
 |[]=>some ([],[])
 |l::r=>match lV K g l with|some (l',a)=>(match kM g r with|some (c,b)=>some (l'::c,a++b)|none=>none)|none=>none
def LV.flat:LV S->Bool
 | .v _=>true
 | .br .. =>true
 | .c7 .. =>true
 |_=>false
def aE.flat:aE S->Bool
 | .one l=>l.flat
 | .agg ls=>ls.all LV.flat
def AV.flat:AV S->Bool
 | .s a=>a.flat
 | .bG ajF=>ajF.all aE.flat
def LV.pure:LV S->Bool
 | .v _=>true
 | .aG _ _=>true
 | .ptr _ _ _=>true
 | .br .. =>true
 | .c7 .. =>true
 |_=>false
def aE.pure:aE S->Bool
 | .one l=>l.pure
 | .agg ls=>ls.all LV.pure
def AV.pure:AV S->Bool
 | .s a=>a.pure
 | .bG ajF=>ajF.all aE.pure
def gO:Γ->Up S
 |[]=>[]
 |i::r=>(i,none)::gO r
def TI.gu (i:TI):Bool:=ζ i.tag 8||ζ i.tag 6
def nG (t f:Nat):Option (Nat×Nat×Bool):=
 match K.Θ.get t with
 |some i=>
  bif ζ i.tag 8 then
   match i.fs[f]? with
   |some (a,off)=>(match K.Θ.get a with|some j=>some (off,j.size,TI.gu j)|none=>none)
   |none=>none
  else none
 |none=>none
def Il {R:Type} (g:Nat->Option (Ob S)) (i:TI) (k:aE S->Option R):LV S->Option R
 | .bl b o=>(match g b with
  |some (.box _ cs)=>(match eg cs o i.size with|some ls=>(match jF (TI.gu i) ls with|some a=>k a|none=>none)|none=>none)
  |_=>none)
 | .fh b o n j=>(match g b with
  |some (.box _ cs)=>(match eg cs o n with
   |some ls=>(match kB ls with
    |some (.i d gs)=>bif ζ i.size 1&&!(TI.gu i) then k (.one (.v (.int d (aw gs j)))) else none
    |some (.b bs)=>bif ζ i.size 1&&!(TI.gu i) then k (.one (.v (.bool (gw bs j)))) else none
    |none=>none)
   |none=>none)
  |_=>none)
 | .eU e r j o=>(match g r with
  |some (.row c xs)=>bif ζ e c then(xs[j]?).bind λz=>(match eg (K.bg c z).cells o i.size with|some ls=>(match jF (TI.gu i) ls with|some a=>k a|none=>none)|none=>none) else none
  |_=>none)
 | .ptr t x o=>(match eg (K.bg t x).cells o i.size with|some ls=>(match jF (TI.gu i) ls with|some a=>k a|none=>none)|none=>none)
 |_=>none
def wa (env:a8 S) (size:Nat):List (Nat×Operand)->List (LV S)->Option (List (LV S))
 |[],cs=>some cs
 |(i,x)::r,cs=>
  match dm K env x with
  |some (.s a)=>bif ζ (dX a.cells) size then(match b1 cs (i*size) a.cells with|some b=>wa env size r b|none=>none) else none
  |_=>none
def wb (env:a8 S) (fs:List (Nat×Nat)):List (Nat×Operand)->List (LV S)->Option (List (LV S))
 |[],cs=>some cs
 |(i,x)::r,cs=>
  match fs[i]? with
  |some (t,off)=>
   (match dm K env x with
   |some (.s a)=>
    (match K.Θ.get t with
    |some c=>bif ζ (dX a.cells) c.size then(match b1 cs off a.cells with|some b=>wb env fs r b|none=>none) else none
    |none=>none)
   |_=>none)
  |none=>none
def LV.xD:LV S->Bool
 | .bl .. =>true
 | .fh .. =>true
 | .eU .. =>true
 | .ptr .. =>true
 |_=>false
def isNil:Operand->Bool
 | .const (.pointer none)=>true
 |_=>false
def x4 {R:Type} (k:LV S->Option R) (y:Int):Nat->List (LV S)->Option R
 |_,[]=>none
 |n,l::ls=>bif ζ l.sz 1 then(bif y==(n:Int) then k l else x4 k y (n+1) ls) else none
def aea:Op->Γ
 | .binOp _ _ x y _=>slotsOf [x,y]
 | .unOp _ _ x=>slotsOf [x]
 | .convert _ _ x=>slotsOf [x]
 | .call c=>slotsOf c.args.toList
 |_=>[]
def plain {R:Type} (env:a8 S) (op:Op) (k:AV S->Option R):Option R:=
 bif im K.Θ op then
  match iV K.Θ (l1 env (aea op)) op with
  |some v=>bif v.oneCell' then k (.s (.one (.v v))) else none
  |none=>none
 else none
def vj (t:Nat):List (aE S)->Option (List (S.El t))
 |[]=>some []
 |a::r=>match K.cls t a.cells with|some x=>(match vj t r with|some xs=>some (x::xs)|none=>none)|none=>none
def xA:Nat->List (Nat×Operand)->Option (List Operand)
 |_,[]=>some []
 |n,(i,x)::r=>bif ζ i n then(match xA (n+1) r with|some xs=>some (x::xs)|none=>none) else none
def lG {S:bh} {a b:Nat} (p:a=b) (xs:List (S.El a)):List (S.El b):=p▸xs
def dU (g:Nat->Option (Ob S)) (e:Nat):LV S->Option (List (S.El e))
 | .own r=>(match g r with
  |some (.row a ys)=>(match ζf a e with| .isTrue p=>some (lG p ys)| .isFalse _=>none)
  |_=>none)
 | .aG t y=>(match K.sl t with
  |some I=>(match ζf I.e e with| .isTrue p=>some (lG p (I.to y))| .isFalse _=>none)
  |none=>none)
 | .v (.slice none 0 0)=>some []
 |_=>none
def j6:LV S->Γ
 | .own r=>[r]
 |_=>[]
def eM (s:ByteArray) (lo hi:Option Int):Option ByteArray:=if 0<=lo.getD 0/\lo.getD 0<=hi.getD (s.size:Int)/\hi.getD (s.size:Int)<=s.size then some (s.extract (lo.getD 0).toNat (hi.getD (s.size:Int)).toNat) else none
def dq (j:Int) (n:Nat):Option Nat:=if 0<=j/\j<(n:Int) then some j.toNat else none
end
section
variable {S:bh} (K:bp S) {R:Type} (env:a8 S) (g:Nat->Option (Ob S)) (nx:Nat) (k:AV S->Up S->AH S->Option R)
def IF (t:Nat) (x y:Operand):Option R:=
 match K.Θ.get t,ch K env x,nQ K env y with
 |some i,some l,some j=>
  (match l with
  | .aG t' xs=>(match K.sl t' with
   |some I=>(match K.Θ.get i.e with
    |some a=>bif ζ i.tag 5&&ζ (S.ty I.e).n a.size then(idx (I.to xs) j).bind λz=>k (.s (.one (.ptr I.e z 0))) [] [] else none
    |none=>none)
   |none=>none)
  | .own r=>(match g r with
   |some (.row e xs)=>(match K.Θ.get i.e with
    |some a=>bif ζ i.tag 5&&ζ (S.ty e).n a.size then(idx xs j).bind λ_=>k (.s (.one (.eU e r j.toNat 0))) [] [] else none
    |none=>none)
   |_=>none)
  | .bl b o=>(match K.Θ.get i.e with
   |some a=>(match y with
    | .const (.int _ (.ofNat m))=>bif ζ i.tag 6&&(ξ1 m i.k&&ξ1 0 a.size) then k (.s (.one (.bl b (o+m*a.size)))) [] [] else none
    |_=>bif ζ i.tag 6&&ζ a.size 1 then(dq j i.k).bind λm=>k (.s (.one (.fh b o i.k m))) [] [] else none)
   |none=>none)
  | .fK b o n=>(match K.Θ.get i.e with
   |some a=>bif ζ i.tag 5&&ζ a.size 1 then(dq j n).bind λm=>k (.s (.one (.fh b o n m))) [] [] else none
   |none=>none)
  |_=>none)
 |_,_,_=>none
def IE (t:Nat) (x y:Operand):Option R:=
 match K.Θ.get t,nQ K env y with
 |some i,some j=>
  (match dm K env x with
  |some (.s (.agg ls))=>(match K.Θ.get i.e with
   |some a=>bif ζ i.tag 6&&(ζ i.k (dX ls)&&(ζ a.size 1&&!(TI.gu a))) then
    (match kB ls with
    |some (.i c gs)=>(dq j i.k).bind λm=>k (.s (.one (.v (.int c (aw gs m))))) [] []
    |some (.b bs)=>(dq j i.k).bind λm=>k (.s (.one (.v (.bool (gw bs m))))) [] []
    |none=>x4 (λl=>k (.s (.one l)) [] []) j 0 ls) else none
   |none=>none)
  |some (.s (.one (.v (.string s))))=>bif ζ i.tag 3 then(fq s j).bind λz=>k (.s (.one (.v (.int .u8 z)))) [] [] else none
  |_=>none)
 |_,_=>none
def IJ (t:Nat) (x:Operand) (lo hi mx:Option Operand):Option R:=
 match K.Θ.get t,ch K env x with
 |some i,some l=>
  (match l with
  | .aG t' xs=>(match K.sl t' with
   |some I=>(match K.Θ.get i.e with
    |some d=>(match mb K env lo,mb K env hi,mb K env mx with
     |some a,some b,some c=>bif ζ i.tag 5&&ζ (S.ty I.e).n d.size then(dn (I.to xs) (a.map (·.2)) (b.map (·.2)) (c.map (·.2))).bind λys=>k (.s (.one (.aG t' (I.of ys)))) [] [] else none
     |_,_,_=>none)
    |none=>none)
   |none=>none)
  | .bl b o=>(match lo,hi,mx,K.Θ.get i.e with
   |none,none,none,some d=>bif ζ i.tag 6&&(ζ d.size 1&&ξ9 i.k 16777216) then k (.s (.one (.fK b o i.k))) [] [] else none
   |_,_,_,_=>none)
  | .v (.string s)=>(match mb K env lo,mb K env hi,mx with
   |some a,some b,none=>bif ζ i.tag 3 then(eM s (a.map (·.2)) (b.map (·.2))).bind λu=>k (.s (.one (.v (.string u)))) [] [] else none
   |_,_,_=>none)
  |_=>none)
 |_,_=>none
def IA (t:Nat) (ps:List (Nat×Operand)):Option R:=
 match K.Θ.get t with
 |some i=>
  bif ζ i.tag 8 then(match wb K env i.fs ps (i.zero.cells.toList.map .v) with|some cs=>bif im K.Θ (.build t ps.toArray)&&i.zero.cells.toList.all ξm then k (.s (.agg cs)) [] [] else none|none=>none)
  else bif ζ i.tag 6 then(match K.Θ.get i.e with
   |some a=>(match wa K env a.size ps (i.zero.cells.toList.map .v) with|some cs=>bif i.zero.cells.toList.all ξm then k (.s (.agg cs)) [] [] else none|none=>none)
   |none=>none)
  else none
 |none=>none
def IB (t n:Nat) (ps:List (Nat×Operand)):Option R:=
 match K.Θ.get t with
 |some i=>(match K.Θ.get i.e,xA 0 ps with
  |some a,some xs=>(match ha K env xs with
   |some ajF=>(match kM K g ajF with
    |some (b,rs)=>(match vj K i.e b with
     |some ys=>bif ζ i.tag 5&&(ζ ys.length n&&(ζ (S.ty i.e).n a.size&&(ζ a.zero.cells.size a.size&&(ξ9 (n*a.size) 16777216&&ξ9 n 16777216)))) then k (.s (.one (.own nx))) (gO rs) [some (.row i.e ys)] else none
     |none=>none)
    |none=>none)
   |none=>none)
  |_,_=>none)
 |none=>none
def II (t:Nat) (n c:Operand):Option R:=
 match K.Θ.get t with
 |some i=>(match K.Θ.get i.e with
  |some a=>(match nQ K env n,nQ K env c,K.cls i.e (a.zero.cells.toList.map .v) with
   |some n,some c,some z=>bif ζ i.tag 5&&(ζ (S.ty i.e).n a.size&&(ζ a.zero.cells.size a.size&&a.zero.cells.toList.all ξm)) then(nV a.bytes n c z).bind λzs=>k (.s (.one (.own nx))) [] [some (.row i.e zs)] else none
   |_,_,_=>none)
  |none=>none)
 |none=>none
def Iy (ty:Nat) (x y:Operand):Option R:=
 match K.Θ.get ty with
 |some i=>(match K.Θ.get i.e with
  |some a=>(match ch K env x,ch K env y with
   |some d,some b=>(match d with
    | .own r=>(match b with
     | .own c=>bif ζ r c then none else(match dU K g i.e (.own r),dU K g i.e (.own c) with
      |some xs,some ys=>bif ζ i.tag 5&&(ζ (S.ty i.e).n a.size&&(ζ a.zero.cells.size a.size&&(ξ1 0 a.size&&ξ1 0 a.bytes))) then(app a.bytes xs ys).bind λzs=>k (.s (.one (.own nx))) (bif ζ a.tag 5 then[(r,none)] else[(c,none),(r,none)]) [some (.row i.e zs)] else none
      |_,_=>none)
     |b=>(match dU K g i.e (.own r),dU K g i.e b with
      |some xs,some ys=>bif ζ i.tag 5&&(ζ (S.ty i.e).n a.size&&(ζ a.zero.cells.size a.size&&(ξ1 0 a.size&&ξ1 0 a.bytes))) then(app a.bytes xs ys).bind λzs=>k (.s (.one (.own nx))) [(r,none)] [some (.row i.e zs)] else none
      |_,_=>none))
    | .v (.slice none 0 0)=>(match dU K g i.e b with
      |some ys=>bif ζ i.tag 5&&(ζ (S.ty i.e).n a.size&&(ζ a.zero.cells.size a.size&&(ξ1 0 a.size&&ξ1 0 a.bytes))) then(app a.bytes [] ys).bind λzs=>k (.s (.one (.own nx))) (gO (j6 b)) [some (.row i.e zs)] else none
      |none=>none)
    |_=>none)
   |_,_=>none)
  |none=>none)
 |none=>none
def jb (e:Nat) (a:IntKind):List (S.El e)->Option (Γa)
 |[]=>some []
 |y::ys=>(match K.bg e y with
  | .one (.v (.int k x))=>bif sameKind a k then(match jb e a ys with|some zs=>some (x::zs)|none=>none) else none
  |_=>none)
def yA (g:Nat->Option (Ob S)) (e:Nat) (c:IntKind) (n:Nat) (a:LV S):Option (Γa):=
 match a with
 | .v (.string s)=>bif sameKind c .u8&&ξ9 s.size n then some (s.data.toList.map λb=>(b.toNat:Int)) else none
 |a=>(match dU K g e a with|some ys=>jb K e c ys|none=>none)
def ID (i a:TI) (b off n:Nat) (f:LV S):Option R:=
 match g b with
 |some (.box h cs)=>(match eg cs off n with
  |some ls=>(match kB ls with
   |some (.i c gs)=>(match yA K g i.e c n f with
    |some zs=>(match b1 cs off [.br c n (cg gs zs)] with
     |some d=>bif ζ i.tag 5&&(ζ (S.ty i.e).n a.size&&(ζ a.size 1&&ζ gs.length n)) then k (.s (.one (.v (goInt (ζ0 zs.length n))))) [(b,some (.box h d))] [] else none
     |none=>none)
    |none=>none)
   |_=>none)
  |none=>none)
 |_=>none
def IC (ty:Nat) (x y:Operand):Option R:=
 match K.Θ.get ty with
 |some i=>(match K.Θ.get i.e with
  |some a=>(match ch K env x,ch K env y with
   |some (.fK b off n),some d=>ID K g k i a b off n d
   |some (.own r),some (.aG t ys)=>(match g r,dU K g i.e (.aG t ys) with
    |some (.row e xs),some ys=>(match ζf e i.e with
     | .isTrue p=>bif ζ i.tag 5&&ζ (S.ty i.e).n a.size then k (.s (.one (.v (goInt (ζ0 ys.length (lG p xs).length))))) [(r,some (.row i.e (cg (lG p xs) ys)))] [] else none
     | .isFalse _=>none)
    |_,_=>none)
   |some (.own r),some (.own c)=>bif ζ r c then none else(match g r,dU K g i.e (.own c) with
    |some (.row e xs),some ys=>(match ζf e i.e with
     | .isTrue p=>bif ζ i.tag 5&&ζ (S.ty i.e).n a.size then k (.s (.one (.v (goInt (ζ0 ys.length (lG p xs).length))))) [(r,some (.row i.e (cg (lG p xs) ys)))] [] else none
     | .isFalse _=>none)
    |_,_=>none)
   |_,_=>none)
  |none=>none)
 |none=>none
def IG (ty:Nat) (c:Go.Call) (x:Operand):Option R:=
 match K.Θ.get ty,ch K env x with
 |some i,some l=>(match l with
  | .aG t xs=>(match K.sl t with|some I=>bif ζ i.tag 5 then k (.s (.one (.v (.int .i64 ((I.to xs).length:Int))))) [] [] else none|none=>none)
  | .own r=>(match g r with|some (.row _ xs)=>bif ζ i.tag 5 then k (.s (.one (.v (.int .i64 (xs.length:Int))))) [] [] else none|_=>none)
  | .fK _ _ n=>bif ζ i.tag 5 then k (.s (.one (.v (.int .i64 (n:Int))))) [] [] else none
  | .mp b=>(match g b with|some (.map _ _ m)=>bif ζ i.tag 7 then k (.s (.one (.v (.int .i64 (m.length:Int))))) [] [] else none|_=>none)
  |_=>plain K env (.call c) λa=>k a [] [])
 |_,_=>none
def Iz (o:BinOp) (t:Nat) (x y:Operand) (t':Nat):Option R:=
 match dm K env x with
 |some (.s (.agg ls))=>(match dm K env y with
  |some (.s (.agg ms))=>(match K.pI t ls ms with
   |some z=>(match o with
    | .eql=>k (.s (.one (.v (.bool z)))) [] []
    | .neq=>k (.s (.one (.v (.bool (!z))))) [] []
    |_=>none)
   |none=>none)
  |_=>none)
 |some (.s (.one l))=>
  bif l.xD&&isNil y then(match K.Θ.get t with
   |some i=>bif ζ i.tag 4 then(match o with| .eql=>k (.s (.one (.v (.bool false)))) [] []| .neq=>k (.s (.one (.v (.bool true)))) [] []|_=>none) else none
   |none=>none)
  else(match l,ch K env y,y with
  | .v (.int c a),some (.v (.int d b)),.tmp _=>
   (match o with
   | .quo=>bif sameKind c d then(I' c a b).bind λz=>k (.s (.one (.v (.int c z)))) [] [] else none
   | .rem=>bif sameKind c d then(Jw a b).bind λz=>k (.s (.one (.v (.int c z)))) [] [] else none
   | .shl=>(my c a b).bind λz=>k (.s (.one (.v (.int c z)))) [] []
   | .shr=>(JI c a b).bind λz=>k (.s (.one (.v (.int c z)))) [] []
   |_=>plain K env (.binOp o t x y t') λa=>k a [] [])
  | .v (.string a),some (.v (.string b)),_=>
   (match o with
   | .add=>(ka a b).bind λz=>k (.s (.one (.v (.string z)))) [] []
   |_=>plain K env (.binOp o t x y t') λa=>k a [] [])
  |_,_,_=>plain K env (.binOp o t x y t') λa=>k a [] [])
 |_=>none
def IH (t:Nat) (x y:Operand) (ok:Bool):Option R:=
 match K.Θ.get t,ch K env x,dm K env y with
 |some i,some (.mp b),some (.s (.one (.v (.int h j))))=>(match K.Θ.get i.k,K.Θ.get i.e,g b with
  |some c,some f,some (.map d a m)=>
   bif ζ i.tag 7&&(ζ c.tag 2&&(sameKind (Dc.noKind c.k) d&&(sameKind h d&&(match f.zero with| .int l 0=>sameKind l a|_=>false)))) then
    k (bif ok then .bG [.one (.v (.int a ((bR m j).getD 0))),.one (.v (.bool (bR m j).isSome))] else .s (.one (.v (.int a ((bR m j).getD 0))))) [] []
   else none
  |_,_,_=>none)
 |_,_,_=>none
def IK (t:Nat) (x y:Operand):Option R:=
 match K.Θ.get t,ch K env x,dm K env y with
 |some i,some l,some (.s a)=>
  bif ζ (dX a.cells) i.size then
  (match l with
  | .bl b o=>(match g b with
   |some (.box f cs)=>(match b1 cs o a.cells with
    |some c=>k (.bG []) [(b,some (.box f c))] []
    |none=>none)
   |_=>none)
  | .fh b o m j=>(match g b with
   |some (.box f cs)=>(match eg cs o m with
    |some ls=>(match kB ls,a with
     |some (.i h gs),.one (.v (.int n x))=>(match b1 cs o [.br h m (gs.set j x)] with|some c=>bif sameKind h n&&ζ gs.length m then k (.bG []) [(b,some (.box f c))] [] else none|none=>none)
     |some (.b bs),.one (.v (.bool x))=>(match b1 cs o [.c7 m (bs.set j x)] with|some c=>bif ζ bs.length m then k (.bG []) [(b,some (.box f c))] [] else none|none=>none)
     |_,_=>none)
    |none=>none)
   |_=>none)
  | .eU e r j o=>(match g r with
   |some (.row d xs)=>bif ζ e d then(xs[j]?).bind λz=>(match b1 (K.bg d z).cells o a.cells with
    |some c=>(match K.cls d c with
     |some p=>bif a.pure then k (.bG []) [(r,some (.row d (xs.set j p)))] [] else none
     |none=>none)
    |none=>none) else none
   |_=>none)
  |_=>none)
  else none
 |_,_,_=>none
def xU (t:Nat) (x y z:Operand):Option R:=
 match K.Θ.get t,ch K env x,dm K env y,dm K env z with
 |some i,some (.mp b),some (.s (.one (.v (.int e j)))),some (.s (.one (.v (.int f u))))=>(match K.Θ.get i.k,g b with
  |some c,some (.map a d m)=>
   bif ζ i.tag 7&&(ζ c.tag 2&&(sameKind (Dc.noKind c.k) a&&(sameKind e a&&sameKind f d))) then k (.bG []) [(b,some (.map a d (cL m j u)))] [] else none
  |_,_=>none)
 |_,_,_,_=>none
def xT (t t2:Nat) (l:LV S):Option R:=
 match K.Θ.get t,K.Θ.get t2 with
 |some i,some i2=>(match K.Θ.get i.e with
  |some a=>bif ζ i.tag 5&&(ζ i2.tag 3&&(ζ a.tag 2&&sameKind (Dc.noKind a.k) .u8)) then
   (match dU K g i.e l with
   |some ys=>(match jb K i.e .u8 ys with|some zs=>k (.s (.one (.v (.string (strOf zs))))) [] []|none=>none)
   |none=>none) else none
  |none=>none)
 |_,_=>none
def q9 (ty:Nat) (op:Op):Option R:=
 match op with
 | .move x=>(match dm K env x with|some a=>k a [] []|none=>none)
 | .assign x=>
  (match x with
  | .const (.slice none 0 0)=>(match K.Θ.get ty with
   |some i=>bif ζ i.tag 5 then k (.s (.one (.own nx))) [] [some (.row i.e [])] else none
   |none=>none)
  |x=>(match dm K env x with|some a=>k a [] []|none=>none))
 | .extract x i=>(match dm K env x with|some (.bG ajF)=>(match ajF[i]? with|some a=>k (.s a) [] []|none=>none)|_=>none)
 | .nilCheck x=>
  (match ch K env x with
  |some (.bl b o)=>k (.s (.one (.bl b o))) [] []
  |some (.fh b o n j)=>k (.s (.one (.fh b o n j))) [] []
  |some (.eU e b j o)=>k (.s (.one (.eU e b j o))) [] []
  |some (.ptr t z o)=>k (.s (.one (.ptr t z o))) [] []
  |_=>none)
 | .pick c a b=>
  (match ch K env c with
  |some (.v (.bool t))=>bif t then(match dm K env a with|some a=>k a [] []|none=>none) else(match dm K env b with|some b=>k b [] []|none=>none)
  |_=>none)
 | .field t x f=>
  (match dm K env x with
  |some (.s (.agg ls))=>(match nG K t f with
   |some (off,n,h)=>(match eg ls off n with|some q=>(match jF h q with|some a=>k (.s a) [] []|none=>none)|none=>none)
   |none=>none)
  |_=>none)
 | .fieldAddr t x f=>
  (match nG K t f with
  |some (off,n,_)=>bif ζ n 0 then none else(match ch K env x with
   |some (.bl b o)=>k (.s (.one (.bl b (o+off)))) [] []
   |some (.eU e r j o)=>k (.s (.one (.eU e r j (o+off)))) [] []
   |some (.ptr t' x' o)=>k (.s (.one (.ptr t' x' (o+off)))) [] []
   |_=>none)
  |none=>none)
 | .load t x=>
  (match K.Θ.get t with
  |some i=>(match ch K env x with|some l=>Il K g i (λa=>k (.s a) [] []) l|none=>none)
  |none=>none)
 | .alloc t=>(match K.Θ.get t with|some i=>bif i.zero.cells.toList.all ξm then k (.s (.one (.bl nx 0))) [] [some (.box t (i.zero.cells.toList.map .v))] else none|none=>none)
 | .box t x=>(match dm K env x with|some (.s a)=>k (.s (.one (.bl nx 0))) [] [some (.box t a.cells)]|_=>none)
 | .build t ps=>IA K env k t ps.toList
 | .makeFunc (.func f) fs cs=>
  (match ha K env fs.toList,ha K env cs.toList with
  |some p,some m=>k (.s (.one (.bA nx))) [] [some (.bA f p m)]
  |_,_=>none)
 | .makeMap t none=>
  (match K.Θ.get t with
  |some i=>(match K.Θ.get i.k,K.Θ.get i.e with
   |some a,some b=>bif ζ i.tag 7&&(ζ a.tag 2&&ζ b.tag 2) then k (.s (.one (.mp nx))) [] [some (.map (Dc.noKind a.k) (Dc.noKind b.k) [])] else none
   |_,_=>none)
  |none=>none)
 | .makeSlice t n c=>II K env nx k t n c
 | .buildSlice t n ps=>IB K env g nx k t n ps.toList
 | .indexAddr t x y=>IF K env g k t x y
 | .index t x y=>IE K env k t x y
 | .slice t x lo hi mx=>IJ K env k t x lo hi mx
 | .lookup t x y ok=>IH K env g k t x y ok
 | .binOp o t x y t'=>Iz K env k o t x y t'
 | .makeInterface t x=>
  (match K.Θ.get t,ch K env x with
  |some i,some (.v u)=>bif ζ i.tag 2 then k (.s (.one (.v (.iface t u)))) [] [] else none
  |_,_=>none)
 | .range t x=>
  (match K.Θ.get t,ch K env x with
  |some i,some (.v (.string s))=>bif ζ i.tag 3 then k (.s (.one (.cW nx))) [] [some (.cW s 0)] else none
  |_,_=>none)
 | .next x true=>
  (match ch K env x with
  |some (.cW i)=>(match g i with
   |some (.cW s pos)=>bif decide (pos<s.size) then k (.bG [.one (.v (.bool true)),.one (.v (goInt pos)),.one (.v (.int .i32 (ζ4 s pos).1))]) [(i,some (.cW s (pos+(ζ4 s pos).2)))] []
    else k (.bG [.one (.v (.bool false))]) [] []
   |_=>none)
  |_=>none)
 | .store t x y=>IK K env g k t x y
 | .mapUpdate t x y z=>xU K env g k t x y z
 | .insert t x y z=>xU K env g k t x y z
 | .call c=>
  (match c.callee with
  | .builtin .len=>(match c.args.toList,c.argTypes.toList with|[x],[ty]=>IG K env g k ty c x|_,_=>none)
  | .builtin .append=>(match c.args.toList,c.argTypes.toList with|[x,y],[ty,w]=>bif ζ ty w then Iy K env g nx k ty x y else none|_,_=>none)
  | .builtin .copy=>(match c.args.toList,c.argTypes.toList with|[x,y],[ty,_]=>IC K env g k ty x y|_,_=>none)
  |_=>plain K env (.call c) λa=>k a [] [])
 | .convert t t2 x=>
  (match ch K env x with
  |some (.own r)=>xT K g k t t2 (.own r)
  |some (.aG t' d)=>xT K g k t t2 (.aG t' d)
  |_=>plain K env (.convert t t2 x) λa=>k a [] [])
 |op=>plain K env op λa=>k a [] []
end
structure Pl where
 pl:Nat->Option Value
 ls:Option Nat
structure Pl.le (A A':Pl):Prop where
 at_: ∀(i:Nat) (p:Value),A.pl i=some p->A'.pl i=some p
 ls:A'.ls=A.ls
theorem Pl.le.refl (A:Pl):A.le A:=⟨λ_ _ h=>h,rfl⟩
def b2:Value->Option Nat
 | .pointer (some a)=>some a.block
 | .map r=>r
 | .slice (some a) _ _=>some a.block
 |_=>none
theorem ig {v:Value} {g:Nat} (h:v.ownBlock=some g):b2 v=some g:=by
 cases v<;>simp only[Value.ownBlock] at h<;>try cases h
 rename_i a n c;cases a<;>simp only[b2] at h ⊢ <;>first|exact h|cases h
def gg (cs:Γb) (bs:Γ):Value:=.tuple #[.agg cs.toArray,.tuple (bs.map λb:Nat=>ξn .i64 b).toArray]
theorem rL {cs c:Γb} {bs a:Γ} (h:gg cs bs=gg c a):(cs,bs)=(c,a):=by
 simp only[gg,Value.tuple.injEq,Array.mk.injEq,ζu,Value.agg.injEq,List.toArray_inj] at h;obtain⟨rfl,h,_⟩:=h
 congr 1
 induction bs generalizing a with
 |nil=>cases a with|nil=>rfl|cons=>cases h
 |cons b r d=>cases a with
  |nil=>cases h
  |cons e f=>
   simp only[ξo,ζu,Value.int.injEq,true_and] at h;rw[d h.2,Int.ofNat.inj h.1]
section
variable {S:bh}
def LV.rel (A:Pl) (O:Γ) (w:World):LV S->Γb->Prop
 | .v u,xs=>xs=[u]/\u.oneCell'=true
 | .aG t d,xs=> ∃x,xs=[x]/\(S.ty t).is O w x d/\(S.ty t).agg=false
 | .ptr t d off,xs=> ∃ad,xs=[.pointer (some (ad.add off))]/\(S.ty t).ptr.is O w (.pointer (some ad)) d
 | .bl i off,xs=> ∃b,A.pl i=some (.pointer (some ⟨b,0,none⟩))/\xs=[.pointer (some ⟨b,off,none⟩)]
 | .fh i off n j,xs=> ∃b,A.pl i=some (.pointer (some ⟨b,0,none⟩))/\xs=[.pointer (some ⟨b,off+j,none⟩)]/\j<n
 | .own i,xs=> ∃v,A.pl i=some v/\xs=[v]/\v.oneCell'=true
 | .eU e i j off,xs=> ∃b n c,A.pl i=some (.slice (some ⟨b,0,none⟩) n c)/\xs=[.pointer (some ⟨b,j*(S.ty e).n+off,none⟩)]
 | .fK i off n,xs=> ∃b,A.pl i=some (.pointer (some ⟨b,0,none⟩))/\xs=[.slice (some ⟨b,off,none⟩) n n]
 | .mp i,xs=> ∃b,A.pl i=some (.map (some b))/\xs=[.map (some b)]
 | .bA i,xs=> ∃f u c,A.pl i=some (.func f u c)/\xs=[.func f u c]
 | .c_,xs=> ∃l,A.ls=some l/\xs=[.func (.yield l) #[] #[]]
 | .cW i,xs=> ∃b,A.pl i=some (.pointer (some ⟨b,0,none⟩))/\xs=[.pointer (some ⟨b,0,none⟩)]
 | .sc i j,xs=> ∃cs bs,A.pl i=some (gg cs bs)/\ ∃u,cs[j]? =some u/\xs=[u]/\u.oneCell'=true
 | .br k n gs,xs=>gs.length=n/\xs=gs.map (ξn k)
 | .c7 n bs,xs=>bs.length=n/\xs=bs.map ξN
def bz (A:Pl) (O:Γ) (w:World):List (LV S)->Γb->Prop
 |[],xs=>xs=[]
 |l::ls,xs=> ∃ys zs,xs=ys++zs/\l.rel A O w ys/\bz A O w ls zs
def aE.rel (A:Pl) (O:Γ) (w:World):aE S->Value->Prop
 | .one l,x=>l.rel A O w [x]
 | .agg ls,x=> ∃xs,x= .agg xs.toArray/\bz A O w ls xs
def cG (A:Pl) (O:Γ) (w:World):List (aE S)->Γb->Prop
 |[],xs=>xs=[]
 |l::ls,xs=> ∃y ys,xs=y::ys/\l.rel A O w y/\cG A O w ls ys
def AV.rel (A:Pl) (O:Γ) (w:World):AV S->Value->Prop
 | .s a,x=>a.rel A O w x
 | .bG ajF,x=> ∃xs,x= .tuple xs.toArray/\cG A O w ajF xs
variable {A A':Pl} {O O':Γ} {w w':World}
theorem adl {α:Type} {T:Ty α} {v:Value} {x:α} (a:T.agg=false) (h:T.is O w v x):v.oneCell'=true:=T.one (gf a h) v π
theorem LV.rel.len {l:LV S} {xs:Γb} (h:l.rel A O w xs):xs.length=l.sz:=by
 cases l with
 |v u=>rw[h.1];rfl
 |aG t d=>obtain⟨x,rfl,_⟩:=h;rfl
 |ptr t d o=>obtain⟨x,rfl,_⟩:=h;rfl
 |bl b o=>obtain⟨m,_,rfl⟩:=h;rfl
 |fh b o n j=>obtain⟨m,_,rfl,_⟩:=h;rfl
 |own r=>obtain⟨m,_,rfl,_⟩:=h;rfl
 |eU e r j o=>obtain⟨_,_,_,_,rfl⟩:=h;rfl
 |fK b o n=>obtain⟨m,_,rfl⟩:=h;rfl
 |mp b=>obtain⟨m,_,rfl⟩:=h;rfl
 |bA b=>obtain⟨_,_,_,_,rfl⟩:=h;rfl
 |c_=>obtain⟨m,_,rfl⟩:=h;rfl
 |cW b=>obtain⟨m,_,rfl⟩:=h;rfl
 |sc b j=>obtain⟨_,_,_,u,_,rfl,_⟩:=h;rfl
 |br k n gs=>obtain⟨a,rfl⟩:=h;simp[LV.sz,a]
 |c7 n gs=>obtain⟨a,rfl⟩:=h;simp[LV.sz,a]
theorem LV.rel.one {l:LV S} {xs:Γb} (h:l.rel A O w xs): ∀u∈xs,u.oneCell'=true:=by
 intro u hu;cases l with
 |v x=>obtain⟨rfl,a⟩:=h;simp at hu;subst hu;exact a
 |aG t d=>obtain⟨x,rfl,a,c⟩:=h;simp at hu;subst hu;exact adl c a
 |ptr t d o=>obtain⟨x,rfl,_⟩:=h;simp at hu;subst hu;rfl
 |bl b o=>obtain⟨m,_,rfl⟩:=h;simp at hu;subst hu;rfl
 |fh b o n j=>obtain⟨m,_,rfl,_⟩:=h;simp at hu;subst hu;rfl
 |own r=>obtain⟨m,_,rfl,a⟩:=h;simp at hu;subst hu;exact a
 |eU e r j o=>obtain⟨_,_,_,_,rfl⟩:=h;simp at hu;subst hu;rfl
 |fK b o n=>obtain⟨m,_,rfl⟩:=h;simp at hu;subst hu;rfl
 |mp b=>obtain⟨m,_,rfl⟩:=h;simp at hu;subst hu;rfl
 |bA b=>obtain⟨_,_,_,_,rfl⟩:=h;simp at hu;subst hu;rfl
 |c_=>obtain⟨m,_,rfl⟩:=h;simp at hu;subst hu;rfl
 |cW b=>obtain⟨m,_,rfl⟩:=h;simp at hu;subst hu;rfl
 |sc b j=>obtain⟨_,_,_,v,_,rfl,a⟩:=h;simp at hu;subst hu;exact a
 |br k n gs=>obtain⟨_,rfl⟩:=h;obtain⟨x,_,rfl⟩:=ζO.1 hu;rfl
 |c7 n gs=>obtain⟨_,rfl⟩:=h;obtain⟨x,_,rfl⟩:=ζO.1 hu;rfl
theorem LV.rel.tr {l:LV S} {xs:Γb} (h:l.rel A O w xs) (p:Tr O w O' w') (i:A.le A'):l.rel A' O' w' xs:=by
 cases l with
 |v u=>exact h
 |aG t d=>obtain⟨x,a,g,q⟩:=h;exact⟨x,a,g.tr p,q⟩
 |ptr t d o=>obtain⟨x,a,g⟩:=h;exact⟨x,a,Ty.is.tr g p⟩
 |bl b o=>obtain⟨m,a,g⟩:=h;exact⟨m,i.at_ _ _ a,g⟩
 |fh b o n j=>obtain⟨m,a,g⟩:=h;exact⟨m,i.at_ _ _ a,g⟩
 |own r=>obtain⟨m,a,g⟩:=h;exact⟨m,i.at_ _ _ a,g⟩
 |eU e r j o=>obtain⟨b,n,c,a,g⟩:=h;exact⟨b,n,c,i.at_ _ _ a,g⟩
 |fK b o n=>obtain⟨m,a,g⟩:=h;exact⟨m,i.at_ _ _ a,g⟩
 |mp b=>obtain⟨m,a,g⟩:=h;exact⟨m,i.at_ _ _ a,g⟩
 |bA b=>obtain⟨f,u,c,a,g⟩:=h;exact⟨f,u,c,i.at_ _ _ a,g⟩
 |c_=>obtain⟨m,a,g⟩:=h;exact⟨m,i.ls.trans a,g⟩
 |cW b=>obtain⟨m,a,g⟩:=h;exact⟨m,i.at_ _ _ a,g⟩
 |sc b j=>obtain⟨m,bs,a,g⟩:=h;exact⟨m,bs,i.at_ _ _ a,g⟩
 |br k n gs=>exact h
 |c7 n gs=>exact h
theorem k7 (b:Tr O w O' w') (a:A.le A'): ∀ {ls:List (LV S)} {xs:Γb},bz A O w ls xs->bz A' O' w' ls xs
 |[],_,h=>h
 |_::_,_,⟨y,ys,h,c,d⟩=>⟨y,ys,h,c.tr b a,k7 b a d⟩
theorem gT: ∀ {ls:List (LV S)} {xs:Γb},bz A O w ls xs->xs.length=dX ls
 |[],_,h=>by rw[show _=[] from h];rfl
 |_::_,_,⟨y,ys,h,a,b⟩=>by rw[h,χ,a.len,gT b];rfl
theorem SJ: ∀ {ls:List (LV S)} {xs:Γb},bz A O w ls xs-> ∀u∈xs,u.oneCell'=true
 |[],_,h,u,hu=>by rw[show _=[] from h] at hu;cases hu
 |_::_,_,⟨y,ys,h,a,b⟩,u,hu=>by
  subst h;rcases τ.1 hu with hu|hu
  .exact a.one u hu
  .exact SJ b u hu
theorem SF: ∀ {a b:List (LV S)} {c d:Γb},bz A O w a c->bz A O w b d->bz A O w (a++b) (c++d)
 |[],_,_,_,h,k=>by rw[show _=[] from h];exact k
 |_::_,_,_,_,⟨y,ys,h,e,f⟩,k=>by subst h;exact⟨y,_,by rw[ζg],e,SF f k⟩
theorem aE.rel.tr {a:aE S} {x:Value} (h:a.rel A O w x) (c:Tr O w O' w') (b:A.le A'):a.rel A' O' w' x:=by
 cases a with
 |one l=>exact LV.rel.tr h c b
 |agg ls=>obtain⟨xs,d,e⟩:=h;exact⟨xs,d,k7 c b e⟩
theorem mi (b:Tr O w O' w') (a:A.le A'): ∀ {ls:List (aE S)} {xs:Γb},cG A O w ls xs->cG A' O' w' ls xs
 |[],_,h=>h
 |_::_,_,⟨y,ys,h,c,d⟩=>⟨y,ys,h,c.tr b a,mi b a d⟩
theorem SE: ∀ {ls:List (aE S)} {xs:Γb} {k:Nat} {l:aE S},cG A O w ls xs->ls[k]? =some l-> ∃x,xs[k]? =some x/\l.rel A O w x
 |[],_,_,_,_,a=>by simp at a
 |_::_,_,0,l,⟨y,ys,h,b,c⟩,a=>by
  simp at a;subst a;subst h;exact⟨y,rfl,b⟩
 |_::ls,_,k+1,l,⟨y,ys,h,b,c⟩,a=>by
  subst h;simpa using SE (k:=k) c (by simpa using a)
theorem yk: ∀ {ls:List (aE S)} {xs:Γb},cG A O w ls xs->xs.length=ls.length
 |[],_,h=>by rw[show _=[] from h];rfl
 |_::_,_,⟨y,ys,h,b,a⟩=>by rw[h,ξy,yk a];rfl
theorem Jv: ∀ {a b:List (aE S)} {c d:Γb},cG A O w a c->cG A O w b d->cG A O w (a++b) (c++d)
 |[],_,_,_,h,k=>by rw[show _=[] from h];exact k
 |_::_,_,_,_,⟨y,ys,h,e,f⟩,k=>by subst h;exact⟨y,_,rfl,e,Jv f k⟩
theorem AV.rel.tr {a:AV S} {x:Value} (h:a.rel A O w x) (c:Tr O w O' w') (b:A.le A'):a.rel A' O' w' x:=by
 cases a with
 |s l=>exact aE.rel.tr h c b
 |bG ls=>obtain⟨xs,d,e⟩:=h;exact⟨xs,d,mi c b e⟩
theorem aE.rel.cells {a:aE S} {x:Value} (h:a.rel A O w x):bz A O w a.cells x.cells.toList:=by
 cases a with
 |one l=>
  have b:=LV.rel.one h x π;have:x.cells.toList=[x]:=by cases x<;>simp[ζi,ξm] at b ⊢
  rw[this];exact⟨[x],[],rfl,h,rfl⟩
 |agg ls=>
  obtain⟨xs,rfl,c⟩:=h;simpa[ζi,aE.cells] using c
theorem ad' {x:Value} (a:x.oneCell'=true):x.cells.toList=[x]:=by cases x<;>simp[ζi,ξm] at a ⊢
def dD (A:Pl) (O:Γ) (w:World):Ob S->Value->Prop
 | .box t cs,p=> ∃b vs,p= .pointer (some ⟨b,0,none⟩)/\bK w b t vs/\bz A O w cs vs
 | .row e xs,p=>Dc.Own (S.ty e) e 1 O w p xs
 | .map a c m,p=> ∃b,p= .map (some b)/\iL a c w b m
 | .bA f fs cs,p=> ∃us vs:Γb,p= .func (.func f) us.toArray vs.toArray/\cG A O w fs us/\cG A O w cs vs
 | .cW s pos,p=> ∃b,p= .pointer (some ⟨b,0,none⟩)/\w.heap[b]? =some (.stringIter s pos)
 | .st t x,p=> ∃cs bs,p=gg cs bs/\(∀b∈bs,b∈O/\ ∃(cur:Array Value) (t':Nat) (z:Nat×Nat),w.heap[b]? =some (.cells cur t' z))/\(S.ty t).agg=true/\ ∀O',(∀b∈bs,b∉O')->OB O' w->(S.ty t).rep O' w cs x
def jZ (w:World):Ob S->Value->Nat->Prop
 | .st _ _,p,d=> ∃cs bs,p=gg cs bs/\d∈bs
 |_,_,_=>False
def cI (w:World) (X:Ob S) (p:Value) (b:Nat):Prop:=b2 p=some b\/jZ w X p b
theorem fZ {w:World} {X:Ob S} {p:Value} {b:Nat} (hX:X.nt=true) (h:cI w X p b):b2 p=some b:=by
 rcases h with h|h
 .exact h
 .cases X with
  |st t x=>cases hX
  |_=>cases h
theorem dD.ac8 {X:Ob S} {p:Value} {d:Nat} (h:dD A O w X p) (hi:jZ w X p d):d∈O/\b2 p≠some d:=by
 cases X with
 |st t x=>
  obtain⟨cs,bs,rfl,c,_⟩:=h;obtain⟨f,e,a,b⟩:=hi;cases rL a;exact⟨(c d b).1,λh=>by cases h⟩
 |_=>cases hi
theorem ac9 {w w':World} {X:Ob S} {p:Value} {d:Nat} (a: ∀b,b2 p=some b->w'.heap[b]? =w.heap[b]?) (h:jZ w' X p d):jZ w X p d:=by
 cases X with
 |st t x=>exact h
 |_=>cases h
theorem jX {w w':World} {X:Ob S} {p:Value} {d:Nat} (a: ∀b,b2 p=some b->w'.heap[b]? =w.heap[b]?) (h:cI w' X p d):cI w X p d:=h.imp id (ac9 a)
structure bS (A:Pl) (O:Γ) (w:World) (g:Nat->Option (Ob S)):Prop where
 al: ∀(i:Nat) (X:Ob S),g i=some X-> ∃p,A.pl i=some p/\dD A O w X p/\ ∀b,b2 p=some b->b∈O
 fW: ∀(i j:Nat) (X Y:Ob S) (p q:Value) (b:Nat),i≠j->g i=some X->g j=some Y->A.pl i=some p->A.pl j=some q->cI w X p b-> ¬cI w Y q b
theorem bS.dj {g:Nat->Option (Ob S)} (h:bS A O w g) (i j:Nat) (X Y:Ob S) (p q:Value) (b:Nat) (l:i≠j) (a:g i=some X) (c:g j=some Y) (d:A.pl i=some p) (e:A.pl j=some q) (f:b2 p=some b):b2 q≠some b:=λk=>h.fW i j X Y p q b l a c d e (.inl f) (.inl k)
theorem bS.hU {g:Nat->Option (Ob S)} (h:bS A O w g) {i:Nat} {X:Ob S} {p:Value} {b:Nat} (hi:g i=some X) (hp:A.pl i=some p) (a:cI w X p b):b∈O:=by
 obtain⟨d,c,hR,hm⟩:=h.al i X hi;rw[hp] at c;cases c;rcases a with a|a
 .exact hm b a
 .exact(hR.ac8 a).1
theorem bS.less {g c:Nat->Option (Ob S)} (h:bS A O w g) (a: ∀i X,c i=some X->g i=some X):bS A O w c:=
 ⟨λi X k=>h.al i X (a i X k),λi j X Y p q b k0 d e=>h.fW i j X Y p q b k0 (a _ _ d) (a _ _ e)⟩
theorem bS.xO {g:Nat->Option (Ob S)} (hn: ∀i X,g i=some X->X.nt=true) (al: ∀(i:Nat) (X:Ob S),g i=some X-> ∃p,A.pl i=some p/\dD A O w X p/\ ∀b,b2 p=some b->b∈O)
  (dj: ∀(i j:Nat) (X Y:Ob S) (p q:Value) (b:Nat),i≠j->g i=some X->g j=some Y->A.pl i=some p->A.pl j=some q->b2 p=some b->b2 q≠some b):bS A O w g:=
 ⟨al,λi j X Y p q b k a c d e f h=>dj i j X Y p q b k a c d e (fZ (hn i X a) f) (fZ (hn j Y c) h)⟩
theorem dD.keep {X:Ob S} {p:Value} (h:dD A O w X p) (d:Tr O w O' w') (n:A.le A') (q: ∀b,cI w X p b->w'.heap[b]? =w.heap[b]? /\b∈O'):dD A' O' w' X p:=by
 have i: ∀b,b2 p=some b->w'.heap[b]? =w.heap[b]? /\b∈O':=λb a=>q b (.inl a);cases X with
 |box t cs=>
  obtain⟨b,vs,rfl,c,j⟩:=h;exact⟨b,vs,rfl,(i b rfl).1.trans c,k7 d n j⟩
 |row e xs=>exact Dc.Own.keep h d λg v=>i g (ig v)
 |map y z m=>obtain⟨b,rfl,c⟩:=h;exact⟨b,rfl,c.of_heap (i b rfl).1⟩
 |bA f fs cs=>obtain⟨us,vs,c,j,l⟩:=h;exact⟨us,vs,c,mi d n j,mi d n l⟩
 |cW s pos=>obtain⟨b,rfl,c⟩:=h;exact⟨b,rfl,(i b rfl).1.trans c⟩
 |st t x=>
  obtain⟨cs,bs,rfl,c,u,j⟩:=h;have l: ∀b∈bs,w'.heap[b]? =w.heap[b]? /\b∈O':=λb a=>q b (.inr ⟨cs,bs,rfl,a⟩);refine⟨cs,bs,rfl,λb a=>⟨(l b a).2,?_⟩,u,λO1 r _=>(S.ty t).tr (O:=(ζJ w.heap.size).filter λk=>!bs.contains k) ⟨d.os,d.tape,d.output,d.size,λk i hn=>?_⟩ (j _ (λb a hm=>?_) λb a=>?_)⟩
  .rw[(l b a).1];exact(c b a).2
  .have o:k∈bs:=by simpa[i] using hn
   exact⟨r k o,(l k o).1⟩
  .simp[a] at hm
  .simp at a;exact a.1
def b7 (g:Nat->Option (Ob S)):Up S->Nat->Option (Ob S)
 |[],i=>g i
 |(j,X)::r,i=>b7 (λi=>bif ζ j i then X else g i) r i
def news:Nat->AH S->Up S
 |_,[]=>[]
 |n,X::r=>(n,X)::news (n+1) r
structure ll (A:Pl) (O:Γ) (w:World) (g:Nat->Option (Ob S)) (ef:Up S) (A':Pl) (O':Γ) (w':World):Prop where
 le:A.le A'
 tr:Tr O w O' w'
 ob:OB O' w'
 keep: ∀b,b∈O->(∀i X p,(i,X)∈ef->A.pl i=some p->b2 p≠some b)->w'.heap[b]? =w.heap[b]? /\b∈O'
 al: ∀i X,(i,some X)∈ef-> ∃p,A'.pl i=some p/\dD A' O' w' X p/\ ∀b,b2 p=some b->b∈O'/\(w.heap.size<=b\/ ∃j Y q,(j,Y)∈ef/\A.pl j=some q/\b2 q=some b)
 dj: ∀i j X Y p q b,i≠j->(i,some X)∈ef->(j,some Y)∈ef->A'.pl i=some p->A'.pl j=some q->b2 p=some b->b2 q≠some b
 nd: ∀i X Y,(i,X)∈ef->(i,Y)∈ef->X=Y
 lv: ∀i X p,(i,X)∈ef->A.pl i=some p-> ∃Z,g i=some Z
 pl: ∀i,A'.pl i=A.pl i\/(A.pl i=ζk/\ ∃X,(i,X)∈ef)
structure b_ (A:Pl) (O:Γ) (w:World) (g:Nat->Option (Ob S)) (ef:Up S) (A':Pl) (O':Γ) (w':World):Prop where
 le:A.le A'
 tr:Tr O w O' w'
 ob:OB O' w'
 keep: ∀b,b∈O->(∀i X p,(i,X)∈ef->A.pl i=some p-> ∀Z,g i=some Z-> ¬cI w Z p b)->w'.heap[b]? =w.heap[b]? /\b∈O'
 al: ∀i X,(i,some X)∈ef-> ∃p,A'.pl i=some p/\dD A' O' w' X p/\ ∀b,cI w' X p b->b∈O'/\(w.heap.size<=b\/ ∃j Y q Z,(j,Y)∈ef/\g j=some Z/\A.pl j=some q/\cI w Z q b)
 dj: ∀i j X Y p q b,i≠j->(i,some X)∈ef->(j,some Y)∈ef->A'.pl i=some p->A'.pl j=some q->cI w' X p b-> ¬cI w' Y q b
 nd: ∀i X Y,(i,X)∈ef->(i,Y)∈ef->X=Y
 lv: ∀i X p,(i,X)∈ef->A.pl i=some p-> ∃Z,g i=some Z
 pl: ∀i,A'.pl i=A.pl i\/(A.pl i=ζk/\ ∃X,(i,X)∈ef)
 nt: ∀i X Z,(i,some X)∈ef->g i=some Z->Z.nt=true->X.nt=true
theorem ll.up {g:Nat->Option (Ob S)} {ef:Up S} (h:ll A O w g ef A' O' w') (hn: ∀i X,(i,some X)∈ef->X.nt=true):b_ A O w g ef A' O' w' where
 le:=h.le
 tr:=h.tr
 ob:=h.ob
 keep b m t:=h.keep b m λi X p hi hp e=>by
  obtain⟨Z,l⟩:=h.lv i X p hi hp;exact t i X p hi hp Z l (.inl e)
 al i X hi:=by
  obtain⟨p,a,c,d⟩:=h.al i X hi;refine⟨p,a,c,λb m=>?_⟩;obtain⟨f,k⟩:=d b (fZ (hn i X hi) m);refine⟨f,k.imp id ?_⟩;rintro ⟨j,Y,q,n,o,u⟩;obtain⟨Z,l⟩:=h.lv j Y q n o;exact⟨j,Y,q,Z,n,l,o,.inl u⟩
 dj i j X Y p q b r a c d f k s:=h.dj i j X Y p q b r a c d f (fZ (hn i X a) k) (fZ (hn j Y c) s)
 nd:=h.nd
 lv:=h.lv
 pl:=h.pl
 nt i X Z a _ _:=hn i X a
theorem ed {i:Nat}: ∀ {ef:Up S} {g:Nat->Option (Ob S)},(∀X,(i,X)∉ef)->b7 g ef i=g i
 |[],g,_=>rfl
 |(j,X)::r,g,h=>by
  simp only[b7];rw[ed (λY a=>h Y (ξ4 _ a))];have c:ζ j i=false:=by
   cases b:ζ j i with
   |false=>rfl
   |true=>exact absurd (π) (by have:=δ b;subst this;exact h X)
  rw[c];rfl
theorem mG {i:Nat} {X:Option (Ob S)}: ∀ {ef:Up S} {g:Nat->Option (Ob S)},(i,X)∈ef->(∀Y,(i,Y)∈ef->Y=X)->b7 g ef i=X
 |(j,Y)::r,g,h,hu=>by
  simp only[b7]
  by_cases b: ∃Z,(i,Z)∈r
  .obtain⟨Z,a⟩:=b;have:=hu Z (ξ4 _ a);subst this;exact mG a λW c=>hu W (ξ4 _ c)
  .rw[ed (λZ a=>b ⟨Z,a⟩)];rcases ξd.1 h with e|e
   .cases e;simp
   .exact absurd ⟨X,e⟩ b
theorem bS.ca {g:Nat->Option (Ob S)} {ef:Up S} (h:bS A O w g) (H:OB O w) (e:b_ A O w g ef A' O' w'):bS A' O' w' (b7 g ef):=by
 have out: ∀i X,(∀Y,(i,Y)∉ef)->b7 g ef i=some X->g i=some X:=λi X hi hX=>by rw[ed hi] at hX;exact hX
 have jZ: ∀i X Y,(i,Y)∈ef->b7 g ef i=some X->(i,some X)∈ef:=λi X Y hi hX=>by
  rw[mG hi λZ t=>e.nd i Z Y t hi] at hX;subst hX;exact hi
 have D: ∀i X p b,(∀Y,(i,Y)∉ef)->g i=some X->A.pl i=some p->cI w X p b-> ∀j Y q Z,(j,Y)∈ef->g j=some Z->A.pl j=some q-> ¬cI w Z q b:=by
  intro i X p b hi hX hp d j Y q Z l t m;exact h.fW i j X Z p q b (λL=>by subst L;exact hi Y l) hX t hp m d
 have same: ∀i X p,(∀Y,(i,Y)∉ef)->g i=some X->A.pl i=some p-> ∀b,cI w X p b->w'.heap[b]? =w.heap[b]? /\b∈O':=λi X p hi hX hp b d=>
  e.keep b (h.hU hX hp d) λj Y q l m Z t=>D i X p b hi hX hp d j Y q Z l t m
 have back: ∀i X p b,(∀Y,(i,Y)∉ef)->g i=some X->A.pl i=some p->cI w' X p b->cI w X p b:=λi X p b hi hX hp=>jX λc K=>(same i X p hi hX hp c (.inl K)).1;have dA: ∀i X p,g i=some X->A'.pl i=some p->A.pl i=some p:=λi X p hX hp=>by
  obtain⟨P,n,_⟩:=h.al i X hX;have:=e.le.at_ _ _ n;rw[hp] at this;cases this;exact n
 have C: ∀i j X Y p q b,(i,some X)∈ef->(∀Z,(j,Z)∉ef)->g j=some Y->A'.pl i=some p->A'.pl j=some q->cI w' X p b-> ¬cI w' Y q b:=by
  intro i j X Y p q b hi l a hp m d o;obtain⟨P,n,_,J⟩:=e.al i X hi;rw[hp] at n;cases n;have v:=dA j Y q a m;have o:=back j Y q b l a v o;rcases(J b d).2 with Q|⟨k,Z,r,V,y,I,M,N⟩
  .have:=H b (h.hU a v o);omega
  .exact D j Y q b l a v o k Z r V y I M N
 constructor
 .intro i X hX
  by_cases hi: ∃Y,(i,Y)∈ef
  .obtain⟨Y,a⟩:=hi;obtain⟨p,f,s,E⟩:=e.al i X (jZ i X Y a hX);exact⟨p,f,s,λb d=>(E b (.inl d)).1⟩
  .have u: ∀Y,(i,Y)∉ef:=λY a=>hi ⟨Y,a⟩;have F:=out i X u hX;obtain⟨p,f,s,E⟩:=h.al i X F;have y:=same i X p u F f;exact⟨p,e.le.at_ _ _ f,s.keep e.tr e.le y,λb d=>(y b (.inl d)).2⟩
 .intro i j X Y p q b G hX a hp m d
  by_cases hi: ∃Z,(i,Z)∈ef
  .obtain⟨Z,t⟩:=hi;have f:=jZ i X Z t hX
   by_cases l: ∃Z,(j,Z)∈ef
   .obtain⟨z,B⟩:=l;exact e.dj i j X Y p q b G f (jZ j Y z B a) hp m d
   .have x: ∀Y,(j,Y)∉ef:=λY a=>l ⟨Y,a⟩;exact C i j X Y p q b f x (out j Y x a) hp m d
  .have u: ∀Y,(i,Y)∉ef:=λY a=>hi ⟨Y,a⟩;have f:=out i X u hX
   by_cases l: ∃Z,(j,Z)∈ef
   .obtain⟨z,B⟩:=l;intro o;exact C j i Y X q p b (jZ j Y z B a) u f m hp o d
   .have x: ∀Y,(j,Y)∉ef:=λY a=>l ⟨Y,a⟩;have s:=out j Y x a;have n:=dA i X p f hp;have v:=dA j Y q s m;exact λo=>h.fW i j X Y p q b G f s n v (back i X p b u f n d) (back j Y q b x s v o)
theorem b_.none {g:Nat->Option (Ob S)} (a:OB O w):b_ A O w g [] A O w:=
 ⟨Pl.le.refl A,Tr.refl O w,a,λb c _=>⟨rfl,c⟩,(λ_ _ h=>nomatch h),(λ_ _ _ _ _ _ _ _ h=>nomatch h),(λ_ _ _ h=>nomatch h),(λ_ _ _ h=>nomatch h),(λ_=>.inl rfl),(λ_ _ _ h=>nomatch h)⟩
def Pl.put (A:Pl) (i:Nat) (p:Value):Pl:=⟨λj=>bif ζ i j then some p else A.pl j,A.ls⟩
theorem Pl.gz (A:Pl) (i:Nat) (p:Value):(A.put i p).pl i=some p:=by simp[Pl.put]
theorem Pl.oc {A:Pl} {i j:Nat} {p:Value} (h:i≠j):(A.put i p).pl j=A.pl j:=by
 have:ζ i j=false:=by
  cases a:ζ i j with
  |false=>rfl
  |true=>exact absurd (δ a) h
 simp[Pl.put,this]
theorem Pl.mg {A:Pl} {i:Nat} {p:Value} (h:A.pl i=ζk):A.le (A.put i p):=
 ⟨λj q a=>(Pl.oc (λe=>by subst e;rw[h] at a;cases a)).trans a,rfl⟩
def cM (A:Pl) (O:Γ) (w:World) (env:a8 S) (a:Act):Prop:= ∀s b,a8.get env s=some b->b.rel A O w (a.tmps.getD s undef)
theorem cM.tr {env:a8 S} {a:Act} (h:cM A O w env a) (e:Tr O w O' w') (c:A.le A'):cM A' O' w' env a:=λs b d=>(h s b d).tr e c
def cB (K:bp S) (O:Γ) (w:World):Prop:=0<w.heap.size/\ ∀g t x,K.dc g=some ⟨t,x⟩->(S.ty t).ptr.is O w (.pointer (some ⟨g,0,none⟩)) x
theorem cB.tr {K:bp S} (h:cB K O w) (a:Tr O w O' w'):cB K O' w':=⟨φ h.1 a.size,λg t x b=>Ty.is.tr (h.2 g t x b) a⟩
structure b9 (K:bp S) (P:Program):Prop where
 Θ:K.Θ.ok P
 sl: ∀(t:Nat) (I:lC S t),K.sl t=some I->(S.ty t).agg=false/\ ∃R:Γ,(∀(O:Γ) (w:World) (v:Value) (x:S.El t),(S.ty t).is O w v x->(S.ty I.e).slice.is (O++R) w v (I.to x))/\ ∀(O:Γ) (w:World) (v:Value) (xs:List (S.El I.e)),(S.ty I.e).slice.is (O++R) w v xs->(S.ty t).is O w v (I.of xs)
 row: ∀(e:Nat) (I:tM S e),K.row e=some I->(S.ty I.t).agg=false/\(∀(O:Γ) (w:World) (cs:Γb) (x:S.El e),(S.ty e).rep O w cs x->(S.ty e).rep (O++[0]) w cs x)/\ ∀(O:Γ) (w:World) (v:Value) (xs:List (S.El e)),(S.ty e).slice.is (O++[0]) w v xs->(S.ty I.t).is O w v (I.of xs)
 bg: ∀(A:Pl) (O:Γ) (w:World) (t:Nat) (x:S.El t) (cs:Γb),(S.ty t).rep O w cs x->bz A O w (K.bg t x).cells cs
 cls: ∀(A:Pl) (O:Γ) (w:World) (t:Nat) (ls:List (LV S)) (x:S.El t) (cs:Γb),K.cls t ls=some x->bz A O w ls cs->(S.ty t).rep O w cs x
 pI: ∀(A:Pl) (O:Γ) (w:World) (t:Nat) (ls ms:List (LV S)) (b:Bool) (xs ys:Γb) (ox oy:Operand),K.pI t ls ms=some b->bz A O w ls xs->bz A O w ms ys->
  (do eqGuard .eql t ox oy (.agg xs.toArray) (.agg ys.toArray);binOp .eql t (.agg xs.toArray) (.agg ys.toArray):Sem Value).run P w= .ok (.bool b) w/\
  (do eqGuard .neq t ox oy (.agg xs.toArray) (.agg ys.toArray);binOp .neq t (.agg xs.toArray) (.agg ys.toArray):Sem Value).run P w= .ok (.bool (!b)) w
theorem b9.to {K:bp S} {P:Program} (b:b9 K P) {t:Nat} {I:lC S t} (h:K.sl t=some I) {v:Value} {x:S.El t} (d:(S.ty t).is O w v x):(S.ty I.e).slice.is O w v (I.to x):=by
 obtain⟨R,a,_⟩:=(b.sl t I h).2;exact(a O w v x d).tr (Tr.less λk c=>ξj _ c)
theorem SQ {α:Type} {T:Ty α} {O O':Γ} {w:World} (a: ∀(cs:Γb) (x:α),T.rep O w cs x->T.rep O' w cs x): ∀ {xs:List α} {cs:Γb},bN T O w cs xs->bN T O' w cs xs
 |[],_,h=>h
 |_::_,_,⟨c,r,e,b,d⟩=>⟨c,r,e,a c _ b,SQ a d⟩
theorem aeY {α:Type} {T:Ty α} {e:Nat} {O O':Γ} {w:World} {v:Value} {xs:List α} (h:Dc.Own T e 1 O w v xs) (j:Dc.Sub O' O) (k: ∀(O:Γ) (w:World) (cs:Γb) (x:α),T.rep O w cs x->T.rep (O++[0]) w cs x) (hn: ∀g,v.ownBlock=some g->g∉O'):T.slice.is (O'++[0]) w v xs:=by
 obtain⟨cs,⟨l,b⟩,a⟩:=h.ex;rcases b with⟨rfl,hl⟩|⟨g,cap,cur,rfl,n,i,c,d,m,f⟩
 .have:xs=[]:=ξf hl;subst this;exact fR _ _ _
 .refine ou i (λhm=>?_) (SQ (λcs x=>k O' w cs x) (a.tr (Tr.less j))) (by rw[bN.len a];exact f) c d;rcases τ.1 hm with hm|hm
  .exact hn g rfl hm
  .simp at hm;omega
variable {K:bp S} {P:Program} {env:a8 S} {a:Act}
theorem dS (he:cM A O w env a) (d:cB K O w) {x:Operand} {b:AV S} (h:dm K env x=some b):b.rel A O w (a.eval x):=by
 cases x with
 |tmp t=>exact he t b h
 |const v=>
  simp only[dm] at h;cases c:v.oneCell'<;>rw[c] at h
  .cases h
  .cases h;exact⟨rfl,c⟩
 |global g=>
  simp only[dm] at h;split at h
  .rename_i t x e;cases h;exact⟨⟨g,0,ζk⟩,rfl,d.2 g t x e⟩
  .cases h
 |func f=>simp only[dm] at h;cases h;exact⟨rfl,rfl⟩
theorem lE (he:cM A O w env a) (c:cB K O w): ∀ {l:List Operand} {ajF:List (aE S)},ha K env l=some ajF->cG A O w ajF (l.map a.eval)
 |[],ajF,h=>by cases h;rfl
 |x::r,ajF,h=>by
  simp only[ha] at h;split at h
  .rename_i b d;split at h
   .rename_i e has;cases h;exact⟨_,_,rfl,dS he c d,lE he c has⟩
   .cases h
  .cases h
theorem cj (he:cM A O w env a) (b:cB K O w) {x:Operand} {l:LV S} (h:ch K env x=some l):l.rel A O w [a.eval x]:=by
 unfold ch at h;split at h
 .rename_i l' hl;cases h;exact dS he b hl
 .cases h
theorem kO (he:cM A O w env a) (b:cB K O w) {x:Operand} {n:Int} (h:nQ K env x=some n): ∃k,a.eval x= .int k n:=by
 unfold nQ at h;split at h
 .rename_i k c hl;cases h;have:=(dS he b hl).1;simp at this;exact⟨k,this⟩
 .cases h
theorem ep {u x:Value} (h:(LV.v u:LV S).rel A O w [x]):x=u:=by have:=h.1;simpa using this
theorem adq (he:cM A O w env a): ∀l,Has a.tmps.size (l1 env l) a.defers a:=by
 intro l;refine⟨rfl,rfl,?_⟩
 induction l with
 |nil=>intro i v h;simp[l1,Env.get] at h
 |cons s r d=>
  intro i v h;simp only[l1] at h;split at h
  .rename_i b g;split at h
   .rename_i u hu;simp only[Env.get] at h;cases c:ζ s i with
    |true=>
     rw[c] at h;have e:=δ c;subst e;simp only[cond_true,ι] at h;subst h;have f:=he s b g;unfold AV.known at hu;split at hu
     .cases hu;exact ep (S:=S) (A:=A) (O:=O) (w:=w) f
     .cases hu
    |false=>rw[c] at h;exact d i v h
   .exact d i v h
  .exact d i v h
def Yk (a:Act) (bB:Value->World->Prop):Exit->Act->World->Prop
 | .panic b,a',w'=> ∃u,b=[{v:=u,recovered:=false}]/\a'=a/\bB u w'
 |_,_,_=>False
def iM (P:Program) (rr:Option Nat) (o:Oper) (a:Act) (w:World) (post bB:Value->World->Prop):Prop:=o.wpIn (fw rr) 0 P a w (λa' w'=> ∃v,a'=a.put o.dst v/\post v w') (Yk a bB)
variable {rr:Option Nat} {o:Oper} {post bB:Value->World->Prop}
theorem RS {v:Value} (b: ∀c,o.op≠ .defer c) (d:(execOp a.eval o).run P w= .ok (.value v) w') (h:post v w'):iM P rr o a w post bB:=by
 refine⟨λ_ _=>trivial,?_⟩;rw[ξp _ _ _ b,d];exact⟨v,rfl,h⟩
theorem aeR (b: ∀c,o.op≠ .defer c) (d:(execOp a.eval o).run P w= .ok .skip w') (h:post undef w'):iM P rr o a w post bB:=by
 refine⟨λ_ _=>trivial,?_⟩;rw[ξp _ _ _ b,d];exact⟨undef,rfl,h⟩
def Sound (K:bp S) (P:Program) (_:Option Nat) (o:Oper) (env:a8 S) (g:Nat->Option (Ob S)) (nx:Nat) (b:AV S) (up:Up S) (nw:AH S):Prop:= ∀(rr:Option Nat) (A:Pl) (O:Γ) (w:World) (a:Act),cM A O w env a->bS A O w g->OB O w->cB K O w->(∀j,j<nw.length->A.pl (nx+j)=ζk)->iM P rr o a w (λv w'=> ∃A' O',b.rel A' O' w' v/\b_ A O w g (up++news nx nw) A' O' w') (λ_ _=>False)
end
section
variable {S:bh} {A:Pl} {O:Γ} {w:World}
def LV.arr:LV S->Option (Nat×(Nat->LV S))
 | .br k n gs=>some (n,λj=>.v (.int k (aw gs j)))
 | .c7 n bs=>some (n,λj=>.v (.bool (gw bs j)))
 |_=>none
theorem Ry {k:IntKind} {gs:Γa} {j:Nat} (h:j<gs.length):(gs.map (ξn k))[j]? =some (.int k (aw gs j)):=by
 unfold aw;rw[ξs,ξ7 h];rfl
theorem Rx {bs:List Bool} {j:Nat} (h:j<bs.length):(bs.map ξN)[j]? =some (.bool (gw bs j)):=by
 unfold gw;rw[ξs,ξ7 h];rfl
theorem aaM {l:LV S} {n:Nat} {c:Nat->LV S} {ys:Γb} (h:l.arr=some (n,c)) (b:l.rel A O w ys):ys.length=n/\ ∀j,j<n-> ∃u,ys[j]? =some u/\(c j).rel A O w [u]:=by
 cases l with
 |br k m gs=>cases h;obtain⟨a,rfl⟩:=b;exact⟨by simp[a],λj d=>⟨_,Ry (by omega),rfl,rfl⟩⟩
 |c7 m bs=>cases h;obtain⟨a,rfl⟩:=b;exact⟨by simp[a],λj d=>⟨_,Rx (by omega),rfl,rfl⟩⟩
 |_=>cases h
theorem Nd {l:LV S} (h:l.arr=none):l.sz=1:=by cases l<;>first|rfl|cases h
theorem take_one {xs:Γb} {j:Nat} {u:Value} (h:xs[j]? =some u):(xs.drop j).take 1=[u]:=by
 obtain⟨hl,he⟩:=ν.1 h;rw[ξG hl,List.take_succ_cons,ζa,he]
def Na (m:Nat) (c:Nat->LV S) (l:LV S) (rec:Nat->Nat->Option (List (LV S))) (off n:Nat):Option (List (LV S)):=
 bif ξ9 m off then rec (off-m) n
 else bif ζ n 0 then some []
 else bif ζ n 1 then some [c off]
 else bif ζ off 0&&ξ9 m n then(match rec 0 (n-m) with|some r=>some (l::r)|none=>none)
 else none
def RB (l:LV S) (rec:Nat->Nat->Option (List (LV S))) (off n:Nat):Option (List (LV S)):=
 match off with
 |o+1=>rec o n
 |0=>match n with
  |0=>some []
  |m+1=>match rec 0 m with|some r=>some (l::r)|none=>none
theorem abg {l:LV S} {m:Nat} {c:Nat->LV S} (h:l.arr=some (m,c)) (ls:List (LV S)) (off n:Nat):eg (l::ls) off n=Na m c l (eg ls) off n:=by
 cases l<;>first|(cases h;rfl)|cases h
theorem abh {l:LV S} (h:l.arr=none) (ls:List (LV S)) (off n:Nat):eg (l::ls) off n=RB l (eg ls) off n:=by
 cases l<;>first|(cases off<;>cases n<;>rfl)|cases h
theorem FD {m n:Nat} (h:ξ9 m n=false):n<m:=by
 rcases ξA n m with a|a
 .exact a
 .rw[Nat.ble_eq.mpr a] at h;cases h
theorem hg: ∀ {ls:List (LV S)} {off n:Nat} {j:List (LV S)} {xs:Γb},eg ls off n=some j->bz A O w ls xs->bz A O w j ((xs.drop off).take n)/\off+n<=xs.length
 |[],off,n,j,xs,h,f=>by
  simp only[eg] at h;cases a:(ζ n 0&&ζ off 0)<;>rw[a] at h
  .cases h
  .cases h;simp only[μ] at a;have d:=δ a.1;have e:=δ a.2;subst d;subst e;rw[show xs=[] from f];exact⟨rfl,ξ3 _⟩
 |l::ls,off,n,j,xs,h,⟨ys,zs,x,d,e⟩=>by
  subst x;cases g:l.arr with
  |none=>
   rw[abh g] at h;have hlen:=d.len;rw[Nd g] at hlen
   match ys,hlen with
   |[y],_=>
   unfold RB at h;split at h
   .rename_i o;obtain⟨b,k⟩:=hg h e;exact⟨by simpa using b,by simp;omega⟩
   .split at h
    .cases h;exact⟨by simp[bz],by simp⟩
    .rename_i m;split at h
     .rename_i r f;cases h;obtain⟨b,k⟩:=hg f e;exact⟨⟨[y],zs.take m,by simp,d,by simpa using b⟩,by simp;omega⟩
     .cases h
  |some z=>
   obtain⟨m,c⟩:=z;rw[abg g] at h;obtain⟨hl,p⟩:=aaM g d;unfold Na at h;cases a:ξ9 m off<;>rw[a] at h
   .have q:=FD a;simp only[cond_false] at h;cases s:ζ n 0<;>rw[s] at h
    rotate_left
    .cases h;have:=δ s;subst this;exact⟨by simp[bz],by simp;omega⟩
    simp only[cond_false] at h;cases t:ζ n 1<;>rw[t] at h
    .simp only[cond_false] at h;cases i:(ζ off 0&&ξ9 m n)<;>rw[i] at h
     .cases h
     .simp only[cond_true] at h;simp only[μ] at i;have q:=δ i.1;have hn:=ο i.2;subst q;split at h
      .rename_i r f;cases h;obtain⟨b,k⟩:=hg f e;refine⟨⟨ys,_,?_,d,b⟩,by simp at k ⊢;omega⟩;simp only[List.drop_zero];rw[ξZ,hl,ξ5 (by omega)]
      .cases h
    .cases h;have:=δ t;subst this;obtain⟨u,hu,v⟩:=p off q;have p:(ys++zs)[off]? =some u:=by rw[ξH (by omega)];exact hu
     rw[take_one p];exact⟨⟨_,[],rfl,v,rfl⟩,by simp;omega⟩
   .simp only[cond_true] at h;have hn:=ο a;obtain⟨b,k⟩:=hg h e;refine⟨?_,by simp;omega⟩;rw[ξJ,ξz (by omega),hl];exact b
theorem oa {ys zs us:Γb} {m off:Nat} (hl:ys.length=m) (h:m<=off):putAt (ys++zs) off us=ys++putAt zs (off-m) us:=by
 subst hl;unfold putAt;rw[ξZ,ξ5 h,ξJ,ξz (by omega)];simp
 congr 1
 omega
theorem x7 {ys zs us vs:Γb} (hl:us.length=ys.length):putAt (ys++zs) 0 (us++vs)=us++putAt zs 0 vs:=by
 unfold putAt;simp only[ζa,ζ3,ξv,χ,ζg];rw[ξJ,ξz (by omega)];simp
 congr 1
 omega
theorem x_ {xs:Γb} (off:Nat):putAt xs off []=xs:=by simp[putAt]
theorem oq {α:Type} (f:α->Value) (L:List α) (j:Nat) (x:α) (a:j<L.length):putAt (L.map f) j [f x]=(L.set j x).map f:=adH f L j x a
theorem ru {ys zs us:Γb} {off:Nat} (h:off+us.length<=ys.length):putAt (ys++zs) off us=putAt ys off us++zs:=by
 unfold putAt;rw[List.take_append_of_le_length (by omega),List.drop_append_of_le_length (by omega)];simp
def IP (l:LV S) (ls:List (LV S)) (rec:Nat->List (LV S)->Option (List (LV S))) (off:Nat) (ns:List (LV S)):Option (List (LV S)):=
 match off with
 |o+1=>(match rec o ns with|some r=>some (l::r)|none=>none)
 |0=>match ns with
  |[]=>some (l::ls)
  |x::a=>bif ζ x.sz 1 then(match rec 0 a with|some r=>some (x::r)|none=>none)
   else match x with
    | .br k m gs=>(match rec (m-1) a with
     |some r=>(match eg r (m-1) (dX r-(m-1)) with
      |some rest=>bif ξ9 1 m then some (.br k m gs::rest) else none
      |none=>none)
     |none=>none)
    | .c7 m bs=>(match rec (m-1) a with
     |some r=>(match eg r (m-1) (dX r-(m-1)) with
      |some rest=>bif ξ9 1 m then some (.c7 m bs::rest) else none
      |none=>none)
     |none=>none)
    |_=>none
theorem afd {l:LV S} (h:l.arr=none) (ls:List (LV S)) (off:Nat) (ns:List (LV S)):b1 (l::ls) off ns=IP l ls (b1 ls) off ns:=by
 cases l<;>first|(cases off<;>cases ns<;>rfl)|cases h
theorem afa {ys zs a u2:Γb} {m:Nat} (e:ys.length=1) (hm:a.length=m) (d:1<=m) (hl:m-1+u2.length<=zs.length):putAt (ys++zs) 0 (a++u2)=a++(putAt zs (m-1) u2).drop (m-1):=by
 unfold putAt;simp only[ζa,ζ3,ξv,χ,hm,ζg]
 congr 1
 have c:(zs.take (m-1)).length=m-1:=by rw[ψ];omega
 have b: ∀(X Y:Γb) (n:Nat),X.length=n->(X++Y).drop n=Y:=λX Y n h=>by subst h;simp
 rw[b _ _ _ c,show m+u2.length=ys.length+(m-1+u2.length) by omega,ξJ];simp
theorem afe {l:LV S} {ls:List (LV S)} (n: ∀ {off:Nat} {ns f:List (LV S)} {xs us:Γb},b1 ls off ns=some f->bz A O w ls xs->bz A O w ns us->bz A O w f (putAt xs off us)/\off+us.length<=xs.length)
  (t:l.arr=none) {off:Nat} {ns f:List (LV S)} {ys zs us:Γb} (h:IP l ls (b1 ls) off ns=some f) (j:l.rel A O w ys) (i:bz A O w ls zs) (hn:bz A O w ns us):bz A O w f (putAt (ys++zs) off us)/\off+us.length<=(ys++zs).length:=by
 have hlen:=j.len;rw[Nd t] at hlen;have whole:bz A O w (l::ls) (ys++zs):=⟨ys,zs,rfl,j,i⟩;unfold IP at h;split at h
 .rename_i o;split at h
  .rename_i r e;cases h;obtain⟨g,p⟩:=n e i hn;exact⟨⟨ys,_,by rw[oa hlen (by omega)];rfl,j,g⟩,by simp;omega⟩
  .cases h
 .split at h
  .cases h;rw[show us=[] from hn,x_];exact⟨whole,by simp⟩
  .rename_i x u;obtain⟨c,u2,rfl,b,s⟩:=hn;cases q:ζ x.sz 1<;>rw[q] at h
   .simp only[cond_false] at h;have fin: ∀ {m:Nat} {x:LV S} {r rest:List (LV S)},c.length=m->x.rel A O w c->b1 ls (m-1) u=some r->eg r (m-1) (dX r-(m-1))=some rest->ξ9 1 m=true->bz A O w (x::rest) (putAt (ys++zs) 0 (c++u2))/\0+(c++u2).length<=(ys++zs).length:=by
     intro m x r rest hm e hp d a;have a:=ο a;obtain⟨p1,p2⟩:=n hp i s;obtain⟨g,p⟩:=hg d p1;have y:=gT p1;refine⟨⟨c,_,?_,e,g⟩,by simp at p ⊢;omega⟩;rw[afa hlen hm a p2,ξ5 (by rw[ξe];omega)]
    split at h
    .rename_i k m gs;split at h
     .rename_i r hp;split at h
      .rename_i rest d;cases a:ξ9 1 m<;>rw[a] at h
       .cases h
       .cases h;exact fin b.len b hp d a
      .cases h
     .cases h
    .rename_i m gs;split at h
     .rename_i r hp;split at h
      .rename_i rest d;cases a:ξ9 1 m<;>rw[a] at h
       .cases h
       .cases h;exact fin b.len b hp d a
      .cases h
     .cases h
    .cases h
   .simp only[cond_true] at h;have v:=δ q;have hu:=b.len;split at h
    .rename_i r e;cases h;obtain⟨g,p⟩:=n e i s;exact⟨⟨c,_,by rw[x7 (by omega)],b,g⟩,by simp;omega⟩
    .cases h
theorem jo: ∀ {ls:List (LV S)} {off:Nat} {ns n:List (LV S)} {xs us:Γb},b1 ls off ns=some n->bz A O w ls xs->bz A O w ns us->bz A O w n (putAt xs off us)/\off+us.length<=xs.length
 |[],off,ns,n,xs,us,h,g,hn=>by
  simp only[b1] at h;split at h
  .cases d:ζ off 0<;>rw[d] at h
   .cases h
   .cases h;have:=δ d;subst this;rw[show xs=[] from g,show us=[] from hn];exact⟨rfl,ξ3 _⟩
  .cases h
 |l::ls,off,ns,n,xs,us,h,⟨ys,zs,C,p,e⟩,hn=>by
  subst C;have hlen:=p.len;cases l with
  |br k m gs=>
   obtain⟨g1,rfl⟩:=p;have hlen:(gs.map (ξn k)).length=m:=hlen;simp only[b1] at h;cases d:ξ9 m off<;>rw[d] at h
   .have j:=FD d;simp only[cond_false] at h;split at h
    .cases h;rw[show us=[] from hn,x_];exact⟨⟨_,_,rfl,⟨g1,rfl⟩,e⟩,by simp;omega⟩
    .rename_i y x;cases v:sameKind k y<;>rw[v] at h
     .cases h
     .cases h;have B:=e5 v;subst B;obtain⟨u,u2,rfl,⟨rfl,_⟩,rfl⟩:=hn;have hm:putAt (gs.map (ξn k)++zs) off [ξn k x]=(gs.set off x).map (ξn k)++zs:=by
       rw[ru (by simp;omega),oq _ _ _ _ (by omega)]
      refine⟨⟨(gs.set off x).map (ξn k),zs,hm,⟨by simp[g1],rfl⟩,e⟩,by simp;omega⟩
    .rename_i y m' z D;cases f:(ζ off 0&&ζ m m')<;>rw[f] at h
     .cases h
     .simp only[cond_true] at h;simp only[μ] at f;have q:=δ f.1;have s:=δ f.2;subst q;subst s;split at h
      .rename_i r g;cases h;obtain⟨u,u2,rfl,⟨g3,rfl⟩,t⟩:=hn;obtain⟨i,o⟩:=jo g e t;refine⟨⟨_,_,x7 (by simp;omega),⟨g3,rfl⟩,i⟩,by simp at o ⊢;omega⟩
      .cases h
    .cases h
   .simp only[cond_true] at h;have j:=ο d;split at h
    .rename_i r g;cases h;obtain⟨i,o⟩:=jo g e hn;exact⟨⟨_,_,oa hlen j,⟨g1,rfl⟩,i⟩,by simp at hlen ⊢;omega⟩
    .cases h
  |c7 m gs=>
   obtain⟨g1,rfl⟩:=p;have hlen:(gs.map ξN).length=m:=hlen;simp only[b1] at h;cases d:ξ9 m off<;>rw[d] at h
   .have j:=FD d;simp only[cond_false] at h;split at h
    .cases h;rw[show us=[] from hn,x_];exact⟨⟨_,_,rfl,⟨g1,rfl⟩,e⟩,by simp;omega⟩
    .rename_i x;cases h;obtain⟨u,u2,rfl,⟨rfl,_⟩,rfl⟩:=hn;have hm:putAt (gs.map ξN++zs) off [ξN x]=(gs.set off x).map ξN++zs:=by
      rw[ru (by simp;omega),oq _ _ _ _ (by omega)]
     refine⟨⟨(gs.set off x).map ξN,zs,hm,⟨by simp[g1],rfl⟩,e⟩,by simp;omega⟩
    .rename_i m' z D;cases f:(ζ off 0&&ζ m m')<;>rw[f] at h
     .cases h
     .simp only[cond_true] at h;simp only[μ] at f;have q:=δ f.1;have s:=δ f.2;subst q;subst s;split at h
      .rename_i r g;cases h;obtain⟨u,u2,rfl,⟨g3,rfl⟩,t⟩:=hn;obtain⟨i,o⟩:=jo g e t;refine⟨⟨_,_,x7 (by simp;omega),⟨g3,rfl⟩,i⟩,by simp at o ⊢;omega⟩
      .cases h
    .cases h
   .simp only[cond_true] at h;have j:=ο d;split at h
    .rename_i r g;cases h;obtain⟨i,o⟩:=jo g e hn;exact⟨⟨_,_,oa hlen j,⟨g1,rfl⟩,i⟩,by simp at hlen ⊢;omega⟩
    .cases h
  |_=>
   rw[afd rfl] at h;refine afe (λ{off ns n xs us} a b c=>jo a b c) rfl h p e hn
end
section
variable {S:bh} {K:bp S} {P:Program} {rr:Option Nat} {o:Oper} {env:a8 S} {g:Nat->Option (Ob S)} {nx:Nat} {R:Type} {z:R} {k:AV S->Up S->AH S->Option R}
def Fp (K:bp S) (P:Program) (o:Oper) (env:a8 S) (g:Nat->Option (Ob S)) (b:AV S):Prop:= ∀(A:Pl) (O:Γ) (w:World) (a:Act),cM A O w env a->bS A O w g->OB O w->cB K O w-> ∃v,(execOp a.eval o).run P w= .ok (.value v) w/\b.rel A O w v
theorem Fp.sound {b:AV S} (j: ∀c,o.op≠ .defer c) (h:Fp K P o env g b):Sound K P rr o env g nx b [] []:=λ_ A O w a he k d i _=>by
 obtain⟨v,e,f⟩:=h A O w a he k d i;exact RS j e ⟨A,O,f,b_.none d⟩
def Good (K:bp S) (P:Program) (rr:Option Nat) (o:Oper) (env:a8 S) (g:Nat->Option (Ob S)) (nx:Nat) (k:AV S->Up S->AH S->Option R) (z:R):Prop:= ∃a up nw,k a up nw=some z/\Sound K P rr o env g nx a up nw
theorem cU {a:AV S} (b: ∀c,o.op≠ .defer c) (d:k a [] []=some z) (h:Fp K P o env g a):Good K P rr o env g nx k z:=⟨a,[],[],d,h.sound b⟩
theorem FJ {A:Pl} {O:Γ} {w:World} {i:TI} {ls:List (LV S)} {xs:Γb} {a:aE S} (h:jF (TI.gu i) ls=some a) (d:bz A O w ls xs):a.rel A O w (Dc.valOf i.isAgg xs)/\(i.isAgg=false->xs.length=1):=by
 unfold jF at h;unfold Dc.valOf;have e:TI.gu i=i.isAgg:=rfl;rw[e] at h;cases g:i.isAgg<;>rw[g] at h
 .simp only[cond_false] at h ⊢;split at h
  .rename_i l;cases c:ζ l.sz 1<;>rw[c] at h
   .cases h
   .cases h;obtain⟨ys,zs,rfl,b,f⟩:=d;have j:=δ c;have hl:=b.len;rw[show zs=[] from f]
    match ys,hl.trans j with
    |[y],_=>exact⟨b,λ_=>rfl⟩
  .cases h
 .cases h;exact⟨⟨xs,rfl,d⟩,λe=>by cases e⟩
theorem Tl {w:World} {a:Act} {t:Nat} {x:Operand} {i:TI} {ad:Addr} {cs:Γb} (d:o.op= .load t x) (h:i.fits P t) (e:a.eval x= .pointer (some ad)) (hl:cs.length=i.size) (c:dJ w ad cs) (b:i.isAgg=false->i.size=1):
  (execOp a.eval o).run P w= .ok (.value (Dc.valOf i.isAgg cs)) w:=by
 unfold execOp;rw[d];simp[e,j' h hl c b]
theorem iN (b d j:Nat):(⟨b,d,none⟩:Addr).add j=⟨b,d+j,none⟩:=by unfold ζ6;split<;>simp_all
theorem aaQ {w:World} {b t off n:Nat} {vs:Γb} (c:bK w b t vs) (hn:off+n<=vs.length):dJ w ⟨b,off,none⟩ ((vs.drop off).take n):=by
 intro j u a;rw[iN,c.cell];rw[ω] at a;split at a
 .rw[ξ6] at a;exact a
 .cases a
theorem Nr {w:World} {ad:Addr} {cs:Γb} (h:dJ w ad cs) (off n:Nat):dJ w (ad.add off) ((cs.drop off).take n):=by
 intro j u a;rw[add_add];rw[ω] at a;split at a
 .rw[ξ6] at a;exact h _ _ a
 .cases a
theorem rj {α:Type} {T:Ty α} {e B:Nat} {O:Γ} {w:World} {b n c:Nat} {xs:List α} (h:Dc.Own T e B O w (.slice (some ⟨b,0,none⟩) n c) xs):
  ∃cs cur,w.heap[b]? =some (.cells cur e (0,0))/\cur.toList.take cs.length=cs/\bN T O w cs xs/\n=xs.length/\n<=c/\c<=maxLen/\cur.size=c*T.n/\B<=b:=by
 obtain⟨cs,⟨d,f⟩,g⟩:=h.ex;rcases f with⟨a,_⟩|⟨m,cap,cur,a,i,j,hn,hm,k,l⟩
 .cases a
 .cases a;exact⟨cs,cur,j,by rw[d];exact l,g,rfl,hn,hm,k,i⟩
theorem h1 {α:Type} {T:Ty α} {e B:Nat} {O:Γ} {w:World} {v:Value} {xs:List α} (h:Dc.Own T e B O w v xs):v= .slice none 0 0/\xs=[]\/ ∃b c,v= .slice (some ⟨b,0,none⟩) xs.length c:=by
 obtain⟨cs,⟨i,f⟩,j⟩:=h.ex;rcases f with⟨a,g⟩|⟨d,cap,cur,a,k,l,hn,hm,m,n⟩
 .exact .inl ⟨a,List.length_eq_zero_iff.1 g⟩
 .exact .inr ⟨d,cap,a⟩
theorem aeV {α:Type} {T:Ty α} {e B:Nat} {O:Γ} {w:World} {b n c j:Nat} {xs:List α} {x:α} (h:Dc.Own T e B O w (.slice (some ⟨b,0,none⟩) n c) xs) (d:xs[j]? =some x):
  ∃cs,T.rep O w cs x/\dJ w ⟨b,j*T.n,none⟩ cs:=by
 obtain⟨cs,cur,g,k,a,_⟩:=rj h;refine⟨_,a.at_ d,λi u hi=>?_⟩;rw[iN,cell_of_row w b _ cur e (0,0) g];have hlen:=T.len (a.at_ d);rw[ω] at hi;split at hi
 .rw[ξ6] at hi;have l:=(ν.1 hi).1;have f:cs[j*T.n+i]? =cur.toList[j*T.n+i]? :=by
   conv=>lhs;rw[<-k]
   rw[ω,if_pos l]
  rw[f] at hi;simpa using hi
 .cases hi
theorem HX {A:Pl} {O:Γ} {w:World}: ∀ {ls:List (LV S)} {k:IntKind} {gs:Γa} {xs:Γb},jc ls=some (k,gs)->bz A O w ls xs->xs=gs.map (ξn k)
 |[],_,_,_,h,_=>by cases h
 |l::r,k,gs,xs,h,⟨ys,zs,f,c,a⟩=>by
  subst f;unfold jc at h;split at h
  rotate_left
  .cases h
  rename_i g x j e;cases e;obtain⟨rfl,_⟩:=c;split at h
  .cases h;rw[show zs=[] from a];rfl
  .split at h
   .rename_i i m d;cases b:sameKind g i<;>rw[b] at h
    .cases h
    .cases h;rw[HX d a,e5 b];rfl
   .cases h
theorem FE {A:Pl} {O:Γ} {w:World}: ∀ {ls:List (LV S)} {gs:List Bool} {xs:Γb},na ls=some gs->bz A O w ls xs->xs=gs.map ξN
 |[],_,_,h,_=>by cases h
 |l::r,gs,xs,h,⟨ys,zs,d,b,a⟩=>by
  subst d;unfold na at h;split at h
  rotate_left
  .cases h
  rename_i x f e;cases e;obtain⟨rfl,_⟩:=b;split at h
  .cases h;rw[show zs=[] from a];rfl
  .split at h
   .rename_i g c;cases h;rw[FE c a];rfl
   .cases h
def iI.cells:iI->Γb
 | .i k gs=>gs.map (ξn k)
 | .b bs=>bs.map ξN
theorem pt {A:Pl} {O:Γ} {w:World} {ls:List (LV S)} {v:iI} {xs:Γb} (h:kB ls=some v) (a:bz A O w ls xs):xs=v.cells:=by
 unfold kB at h;split at h
 .cases h;obtain⟨ys,zs,rfl,⟨_,rfl⟩,b⟩:=a;rw[show zs=[] from b];simp[iI.cells]
 .cases h;obtain⟨ys,zs,rfl,⟨_,rfl⟩,b⟩:=a;rw[show zs=[] from b];simp[iI.cells]
 .cases hi:jc ls with
  |some p=>
   simp only[hi,ι] at h;subst h;exact HX hi a
  |none=>
   simp only[hi] at h;cases c:na ls with
   |some p=>
    simp only[c,ι] at h;subst h;exact FE c a
   |none=>simp only[c] at h;cases h
theorem Nc {A:Pl} {O:Γ} {w:World} {ls:List (LV S)} {k:IntKind} {gs:Γa} {xs:Γb} {j:Nat} (h:kB ls=some (.i k gs)) (b:bz A O w ls xs) (a:j<xs.length):xs[j]? =some (.int k (aw gs j)):=by
 have:=pt h b;subst this;exact Ry (by simpa[iI.cells] using a)
theorem Nb {A:Pl} {O:Γ} {w:World} {ls:List (LV S)} {bs:List Bool} {xs:Γb} {j:Nat} (h:kB ls=some (.b bs)) (c:bz A O w ls xs) (a:j<xs.length):xs[j]? =some (.bool (gw bs j)):=by
 have:=pt h c;subst this;exact Rx (by simpa[iI.cells] using a)
theorem acM {t:Nat} {x:Operand} {i:TI} {l:LV S} (T:b9 K P) (W:o.op= .load t x) (hi:K.Θ.get t=some i) (U:ch K env x=some l) (h:Il K g i (λa=>k (.s a) [] []) l=some z):Good K P rr o env g nx k z:=by
 have Y: ∀c,o.op≠ .defer c:=λc=>by rw[W];simp
 have fin: ∀ {ls:List (LV S)} {G:aE S},jF (TI.gu i) ls=some G->k (.s G) [] []=some z->
   (∀(A:Pl) (O:Γ) (w:World) (a:Act),cM A O w env a->bS A O w g->OB O w->cB K O w-> ∃ad xs,a.eval x= .pointer (some ad)/\bz A O w ls xs/\dJ w ad xs/\xs.length=i.size)->Good K P rr o env g nx k z:=by
  intro ls G f B I;refine cU Y B λA O w a he E L C=>?_;obtain⟨ad,xs,au,av,aw,ae⟩:=I A O w a he E L C;obtain⟨D,H⟩:=FJ f av;exact⟨_,Tl W (T.Θ.fits hi) au ae aw (λe=>ae▸H e),D⟩
 unfold Il at h;split at h
 .rename_i b q;split at h
  .rename_i ax cs N;split at h
   .rename_i ls F;split at h
    .rename_i G M;refine fin M h λA O w a he E L C=>?_;obtain⟨m,f,B⟩:=cj he C U;obtain⟨p,hp,⟨m',vs,rfl,J,d⟩,_⟩:=E.al b _ N;rw[f] at hp;cases hp;obtain⟨D,H⟩:=hg F d;exact⟨_,_,by simpa using B,D,aaQ J H,by rw[ψ,ξe];omega⟩
    .cases h
   .cases h
  .cases h
 .rename_i b q n j;split at h
  .rename_i ax cs N;split at h
   .rename_i ls F;have cell: ∀(u:Value),(∀(A:Pl) (O:Γ) (w:World) (xs:Γb),bz A O w ls xs->j<xs.length->xs[j]? =some u)->u.oneCell'=true->ζ i.size 1&&!(TI.gu i)->k (.s (.one (.v u))) [] []=some z->Good K P rr o env g nx k z:=by
     intro u hu ah X aq;simp only[μ,ξt] at X;have aa:=δ X.1;have ai:i.isAgg=false:=X.2;refine cU Y aq λA O w a he E L C=>?_;obtain⟨m,f,B,R⟩:=cj he C U;obtain⟨p,hp,⟨m',vs,rfl,J,d⟩,_⟩:=E.al b _ N;rw[f] at hp;cases hp;obtain⟨D,H⟩:=hg F d;have ab:=hu _ _ _ _ D (by rw[ψ,ξe];omega);rw[ω,if_pos R,ξ6] at ab;have ak:dJ w ⟨m,q+j,none⟩ [u]:=λi az hi=>by
      match i,hi with
      |0,hi=>simp at hi;subst hi;rw[iN,J.cell];simpa using ab
      |i+1,hi=>simp at hi
     refine⟨_,Tl (cs:=[u]) W (T.Θ.fits hi) (by simpa using B) aa.symm ak (λ_=>aa),?_⟩;rw[ai];exact⟨rfl,ah⟩
    split at h
    .rename_i ay gs ao;cases Q:(ζ i.size 1&&!(TI.gu i))<;>rw[Q] at h
     .cases h
     .exact cell _ (λA O w xs d R=>Nc ao d R) rfl Q h
    .rename_i bs aj;cases Q:(ζ i.size 1&&!(TI.gu i))<;>rw[Q] at h
     .cases h
     .exact cell _ (λA O w xs d R=>Nb aj d R) rfl Q h
    .cases h
   .cases h
  .cases h
 .rename_i e r j q;split at h
  .rename_i ag xs N;cases Z:ζ e ag<;>rw[Z] at h
   .cases h
   .simp only[cond_true] at h;have an:=δ Z;subst an;obtain⟨y,ar,h⟩:=bind_some h;split at h
    .rename_i ls F;split at h
     .rename_i G M;refine fin M h λA O w a he E L C=>?_;obtain⟨m,n,c,f,B⟩:=cj he C U;obtain⟨p,hp,J,_⟩:=E.al r _ N;rw[f] at hp;cases hp;obtain⟨cs,d,V⟩:=aeV J ar;obtain⟨D,H⟩:=hg F (T.bg A O w e y cs d);have:=Nr V q i.size;rw[iN] at this;exact⟨_,_,by simpa using B,D,this,by rw[ψ,ξe];omega⟩
     .cases h
    .cases h
  .cases h
 .rename_i t' y q;split at h
  .rename_i ls F;split at h
   .rename_i G M;refine fin M h λA O w a he E L C=>?_;obtain⟨ad,f,cs,⟨af,es,B,_,_,d,V⟩,I⟩:=cj he C U;subst B;have I:Value.pointer (some ad)= .pointer (some af):=I;cases I;obtain⟨D,H⟩:=hg F (T.bg A O w t' y es d);exact⟨_,_,by simpa using f,D,Nr V.1 q i.size,by rw[ψ,ξe];omega⟩
   .cases h
  .cases h
 .cases h
end
section
variable {S:bh} {K:bp S} {P:Program} {rr:Option Nat} {o:Oper} {env:a8 S} {g:Nat->Option (Ob S)} {nx:Nat} {R:Type} {z:R} {k:AV S->Up S->AH S->Option R}
theorem qh (e:b9 K P) (f: ∀c,o.op≠ .defer c) (h:plain K env o.op (λa=>k a [] [])=some z):Good K P rr o env g nx k z:=by
 unfold plain at h;cases d:im K.Θ o.op<;>rw[d] at h
 .cases h
 .simp only[cond_true] at h;split at h
  .rename_i v i;cases b:v.oneCell'<;>rw[b] at h
   .cases h
   .exact cU f h λA O w a he _ _ _=>⟨v,yr e.Θ (adq he _) d i,rfl,b⟩
  .cases h
theorem OI (j:b9 K P) {x:Operand} (b:o.op= .move x\/o.op= .assign x) {d:AV S} (i:dm K env x=some d) (h:k d [] []=some z):Good K P rr o env g nx k z:=by
 have f: ∀c,o.op≠ .defer c:=λc=>by rcases b with b|b<;>rw[b]<;>simp
 refine cU f h λA O w a he m l e=>⟨a.eval x,?_,dS he e i⟩;unfold execOp;rcases b with b|b<;>rw[b]<;>rfl
theorem acG {x:Operand} {i:Nat} (d:o.op= .extract x i) {ajF:List (aE S)} {b:aE S} (p:dm K env x=some (.bG ajF)) (n:ajF[i]? =some b) (h:k (.s b) [] []=some z):Good K P rr o env g nx k z:=by
 refine cU (λc=>by rw[d];simp) h λA O w a he r q m=>?_;obtain⟨xs,e,f⟩:=dS he m p;obtain⟨y,j,l⟩:=SE f n;refine⟨y,?_,l⟩;unfold execOp;rw[d];simp[e,η7,j]
theorem R_ {A:Pl} {O:Γ} {w:World} {l:LV S} {x:Value} (hp:l.xD=true) (h:l.rel A O w [x]): ∃ad,x= .pointer (some ad):=by
 cases l with
 |bl i q=>obtain⟨b,_,h⟩:=h;exact⟨_,by simpa using h⟩
 |fh i q n j=>obtain⟨b,_,h,_⟩:=h;exact⟨_,by simpa using h⟩
 |eU e i j q=>obtain⟨b,n,c,_,h⟩:=h;exact⟨_,by simpa using h⟩
 |ptr t d q=>obtain⟨ad,h,_⟩:=h;exact⟨_,by simpa using h⟩
 |_=>cases hp
theorem wm {x:Operand} (b:o.op= .nilCheck x) {l:LV S} (f:ch K env x=some l) (hp:l.xD=true) (h:k (.s (.one l)) [] []=some z):Good K P rr o env g nx k z:=by
 refine cU (λc=>by rw[b];simp) h λA O w a he j i d=>?_;have hl:=cj he d f;obtain⟨ad,e⟩:=R_ hp hl;refine⟨a.eval x,?_,hl⟩;unfold execOp;rw[b];simp[e]
theorem acd (xs:Γb) (m n:Nat):xs.toArray.extract m (m+n)=((xs.drop m).take n).toArray:=by simp
theorem acH (D:b9 K P) {t f:Nat} {x:Operand} (p:o.op= .field t x f) {ls r:List (LV S)} {off n:Nat} {l:Bool} {b:aE S} (L:dm K env x=some (.s (.agg ls))) (d:nG K t f=some (off,n,l)) (hl:eg ls off n=some r) (F:jF l r=some b) (h:k (.s b) [] []=some z):Good K P rr o env g nx k z:=by
 refine cU (λc=>by rw[p];simp) h λA O w a he U T C=>?_;unfold nG at d;split at d
 rotate_left
 .cases d
 rename_i i hi;cases q:ζ i.tag 8<;>rw[q] at d
 .cases d
 simp only[cond_true] at d;split at d
 rotate_left
 .cases d
 rename_i R u G;split at d
 rotate_left
 .cases d
 rename_i j H;simp only[ι,ξO] at d;obtain⟨rfl,rfl,rfl⟩:=d;obtain⟨xs,y,B⟩:=dS he C L;obtain⟨Q,V⟩:=hg hl B;obtain⟨M,N⟩:=FJ F Q;refine⟨_,?_,M⟩;have I:=Th (P:=P) (w:=w) (cs:=xs.toArray) (v:=Dc.valOf j.isAgg ((xs.drop u).take j.size)) D.Θ hi (δ q) G H (by
  have e:(ζ j.tag 8||ζ j.tag 6)=j.isAgg:=rfl;rw[e];cases E:j.isAgg with
  |true=>
   rw[acd];rfl
  |false=>
   have hlen:=N E;rw[ψ,ξe] at hlen;have J:j.size=1:=by omega
   have m:u<xs.length:=by omega
   rw[J,take_one (ξ7 m)];simp[Dc.valOf,m])
 unfold execOp;rw[p];simp[y,I]
theorem Hl (v:b9 K P) {t f:Nat} {x:Operand} (d:o.op= .fieldAddr t x f) {off n:Nat} {p:Bool} {l l':LV S} (D:ch K env x=some l) (b:nG K t f=some (off,n,p)) (hn:ζ n 0=false)
  (hl: ∀(A:Pl) (O:Γ) (w:World) (x:Value),l.rel A O w [x]-> ∃ad,x= .pointer (some ad)/\l'.rel A O w [.pointer (some (ad.add off))]) (h:k (.s (.one l')) [] []=some z):Good K P rr o env g nx k z:=by
 refine cU (λc=>by rw[d];simp) h λA O w a he G F u=>?_;unfold nG at b;split at b
 rotate_left
 .cases b
 rename_i i hi;cases m:ζ i.tag 8<;>rw[m] at b
 .cases b
 simp only[cond_true] at b;split at b
 rotate_left
 .cases b
 rename_i E H y;split at b
 rotate_left
 .cases b
 rename_i j B;simp only[ι,ξO] at b;obtain⟨rfl,rfl,rfl⟩:=b;obtain⟨ad,q,r⟩:=hl A O w _ (cj he u D);refine⟨_,?_,r⟩;have C:=Ti (P:=P) (w:=w) (A:=ad) v.Θ hi (δ m) y B (by intro e;rw[e] at hn;cases hn);unfold execOp;rw[d];simp[q,C]
theorem JE {w:World} {t:Nat} {a d:TI} (b:K.Θ.ok P) (h:K.Θ.get t=some a) (g:a.tag=5) (i:K.Θ.get a.e=some d) {ad:Addr} {n c:Nat} {k:IntKind} {j:Int} (f:0<=j) (l:j.toNat<n):
  (ξw t (.slice (some ad) n c) (.int k j)).run P w= .ok (.pointer (some (ad.add (j.toNat*d.size)))) w:=by
 have hu:=(b.fits h).slice g;simp only[η,ξw,asIntOf,κ,ε,run_underlying hu];rw[if_pos ⟨f,by omega⟩];simp only[η,dW (b.fits i),ε];rfl
theorem Tj {w:World} {t:Nat} {a c:TI} (b:K.Θ.ok P) (g:K.Θ.get t=some a) (f:a.tag=6) (h:K.Θ.get a.e=some c) {ad:Addr} {k:IntKind} {j:Int} (d:0<=j) (i:j.toNat<a.k):
  (ξw t (.pointer (some ad)) (.int k j)).run P w= .ok (.pointer (some (ad.add (j.toNat*c.size)))) w:=by
 have hu:=(b.fits g).array f;simp only[η,ξw,asIntOf,κ,ε,run_underlying hu,ξq];rw[if_pos ⟨d,by omega⟩];simp only[η,dW (b.fits h),ε,ξq,κ]
theorem ahw {w:World} {t:Nat} {a f:TI} (o:K.Θ.ok P) (l:K.Θ.get t=some a) (h:a.tag=5) (m:K.Θ.get a.e=some f) {v:Value} {α:Type} {T:Ty α} {xs:List α} {y:α} {O1:Γ} {w1:World} (d:T.slice.is O1 w1 v xs) (hn:T.n=f.size) {k:IntKind} {j:Int} (g:0<=j) (b:xs[j.toNat]? =some y):
  ∃p,(ξw t v (.int k j)).run P w= .ok p w/\T.ptr.is O1 w1 p y:=by
 obtain⟨A,c,rfl,_,_⟩:=dr d;obtain⟨ad,rfl,hp⟩:=JM d b;have i:j.toNat<xs.length:=(ν.1 b).1;exact⟨_,JE o l h m g i,by rw[<-hn];exact hp⟩
theorem xy {j:Int} {n m:Nat} (h:dq j n=some m):j=(m:Int)/\m<n:=by
 unfold dq at h;split at h
 .cases h;omega
 .cases h
theorem acK (G:b9 K P) {t:Nat} {x y:Operand} (H:o.op= .indexAddr t x y) (h:IF K env g k t x y=some z):Good K P rr o env g nx k z:=by
 have J: ∀c,o.op≠ .defer c:=λc=>by rw[H];simp
 unfold IF at h;split at h
 rotate_left
 .cases h
 rename_i i l j hi M Q;split at h
 .rename_i t' xs;split at h
  rotate_left
  .cases h
  rename_i I hI;split at h
  rotate_left
  .cases h
  rename_i u D;cases d:(ζ i.tag 5&&ζ (S.ty I.e).n u.size)<;>rw[d] at h
  .cases h
  simp only[cond_true,μ] at h d;obtain⟨aj,V,h⟩:=bind_some h;obtain⟨R,U⟩:=nN V;refine cU J h λA O w a he L N s=>?_;obtain⟨v,f,ah,_⟩:=cj he s M;obtain⟨F,B⟩:=kO he s Q;have ai:=G.to hI ah;obtain⟨q,ae,af⟩:=ahw (P:=P) (w:=w) G.Θ hi (δ d.1) D ai (δ d.2) (k:=F) R U;have f:a.eval x=v:=by simpa using f
  refine⟨q,?_,?_⟩
  .unfold execOp;rw[H];simp[f,B,ae]
  .obtain⟨cs,⟨ad,es,X,aa⟩,Y⟩:=af;have Z:q= .pointer (some ad):=by rw[Y,X];rfl
   exact⟨ad,by rw[Z];rfl,cs,⟨ad,es,X,aa⟩,by rw[<-Z,Y]⟩
 .rename_i r;split at h
  rotate_left
  .cases h
  rename_i e xs ag;split at h
  rotate_left
  .cases h
  rename_i u D;cases d:(ζ i.tag 5&&ζ (S.ty e).n u.size)<;>rw[d] at h
  .cases h
  simp only[cond_true,μ] at h d;obtain⟨aj,V,h⟩:=bind_some h;obtain⟨R,U⟩:=nN V;have E:=(ν.1 U).1;refine cU J h λA O w a he L N s=>?_;obtain⟨v,C,f,_⟩:=cj he s M;obtain⟨F,B⟩:=kO he s Q;obtain⟨p,hp,ab,_⟩:=L.al r _ ag;rw[C] at hp;cases hp;have f:a.eval x=v:=by simpa using f
  rcases h1 ab with⟨rfl,rfl⟩|⟨m,c,rfl⟩
  .simp at E
  .have:=JE (P:=P) (w:=w) (ad:=⟨m,0,none⟩) (n:=xs.length) (c:=c) (k:=F) G.Θ hi (δ d.1) D R E;refine⟨.pointer (some ((⟨m,0,none⟩:Addr).add (j.toNat*u.size))),?_,m,_,c,C,?_⟩
   .unfold execOp;rw[H];simp only[f,B,η,this,ε];rfl
   .rw[iN,δ d.2];simp
 .rename_i b q;split at h
  rotate_left
  .cases h
  rename_i u D;split at h
  .rename_i W m;cases d:(ζ i.tag 6&&(ξ1 m i.k&&ξ1 0 u.size))<;>rw[d] at h
   .cases h
   simp only[cond_true,μ] at h d;refine cU J h λA O w a he L N s=>?_;obtain⟨m',C,f⟩:=cj he s M;have f:a.eval x= .pointer (some ⟨m',q,none⟩):=by simpa using f
   refine⟨.pointer (some ((⟨m',q,none⟩:Addr).add ((η0 m).toNat*u.size))),?_,m',C,?_⟩
   .unfold execOp;rw[H];have B:a.eval (Operand.const (ξn W (η0 m)))= .int W (η0 m):=rfl;simp only[f,B];have:=Tj (P:=P) (w:=w) (ad:=⟨m',q,none⟩) (k:=W) (j:=η0 m) G.Θ hi (δ d.1) D (ζ7 m) (ξL.mp d.2.1);simp only[η,this,ε];rfl
   .rw[iN];simp
  .cases d:(ζ i.tag 6&&ζ u.size 1)<;>rw[d] at h
   .cases h
   simp only[cond_true,μ] at h d;obtain⟨m,hm,T⟩:=bind_some h;obtain⟨rfl,E⟩:=xy hm;refine cU J T λA O w a he L N s=>?_;obtain⟨m',C,f⟩:=cj he s M;obtain⟨F,B⟩:=kO he s Q;have f:a.eval x= .pointer (some ⟨m',q,none⟩):=by simpa using f
   have:=Tj (P:=P) (w:=w) (ad:=⟨m',q,none⟩) (k:=F) (j:=(m:Int)) G.Θ hi (δ d.1) D (ζ7 m) (by simpa using E);refine⟨.pointer (some ((⟨m',q,none⟩:Addr).add ((m:Int).toNat*u.size))),?_,m',C,?_,E⟩
   .unfold execOp;rw[H];simp only[f,B,η,this,ε];rfl
   .rw[iN,δ d.2];simp
 .rename_i b q n;split at h
  rotate_left
  .cases h
  rename_i u D;cases d:(ζ i.tag 5&&ζ u.size 1)<;>rw[d] at h
  .cases h
  simp only[cond_true,μ] at h d;obtain⟨m,hm,T⟩:=bind_some h;obtain⟨rfl,E⟩:=xy hm;refine cU J T λA O w a he L N s=>?_;obtain⟨m',C,f⟩:=cj he s M;obtain⟨F,B⟩:=kO he s Q;have f:a.eval x= .slice (some ⟨m',q,none⟩) n n:=by simpa using f
  have:=JE (P:=P) (w:=w) (ad:=⟨m',q,none⟩) (n:=n) (c:=n) (k:=F) (j:=(m:Int)) G.Θ hi (δ d.1) D (ζ7 m) (by simpa using E);refine⟨.pointer (some ((⟨m',q,none⟩:Addr).add ((m:Int).toNat*u.size))),?_,m',C,?_,E⟩
  .unfold execOp;rw[H];simp only[f,B,η,this,ε];rfl
  .rw[iN,δ d.2];simp
 .cases h
end
section
variable {S:bh} {K:bp S} {P:Program} {rr:Option Nat} {o:Oper} {env:a8 S} {g:Nat->Option (Ob S)} {nx:Nat} {R:Type} {z:R} {k:AV S->Up S->AH S->Option R}
theorem rh {A:Pl} {O:Γ} {w:World} {a:Act} (he:cM A O w env a) (b:cB K O w) {x:Option Operand} {p:Option (IntKind×Int)} (h:mb K env x=some p):x.map a.eval=p.map gN:=by
 cases x with
 |none=>cases h;rfl
 |some x=>
  simp only[mb] at h;split at h
  .rename_i d n c;cases h;have:=(dS he b c).1;simp at this;simp[this,gN]
  .cases h
theorem acV (y:b9 K P) {t:Nat} {x:Operand} {lo hi mx:Option Operand} (C:o.op= .slice t x lo hi mx) (h:IJ K env k t x lo hi mx=some z):Good K P rr o env g nx k z:=by
 have E: ∀c,o.op≠ .defer c:=λc=>by rw[C];simp
 unfold IJ at h;split at h
 rotate_left
 .cases h
 rename_i i l G L;split at h
 .rename_i t' xs;split at h
  rotate_left
  .cases h
  rename_i I hI;split at h
  rotate_left
  .cases h
  rename_i M H;split at h
  rotate_left
  .cases h
  rename_i p q r hp J W;cases d:(ζ i.tag 5&&ζ (S.ty I.e).n M.size)<;>rw[d] at h
  .cases h
  simp only[cond_true,μ] at h d;obtain⟨ys,ab,D⟩:=bind_some h;refine cU E D λA O w a he T Q f=>?_;obtain⟨v,j,Y,V⟩:=cj he f L;have j:a.eval x=v:=by simpa using j
  obtain⟨R,s1,s2⟩:=(y.sl t' I hI).2;obtain⟨N,X,aa⟩:=yq (P:=P) (w:=w) y.Θ G (δ d.1) H (δ d.2) (s1 O w v xs Y) ab;refine⟨N,?_,N,rfl,s2 O w N ys aa,V⟩;unfold execOp;rw[C];simp only[η,j,rh he f hp,rh he f J,rh he f W,X];rfl
 .rename_i b q;split at h
  rotate_left
  .cases h
  rename_i M H;cases d:(ζ i.tag 6&&(ζ M.size 1&&ξ9 i.k 16777216))<;>rw[d] at h
  .cases h
  simp only[cond_true,μ] at h d;refine cU E h λA O w a he T Q f=>?_;obtain⟨m,U,j⟩:=cj he f L;have j:a.eval x= .pointer (some ⟨m,q,none⟩):=by simpa using j
  refine⟨.slice (some ⟨m,q,none⟩) i.k i.k,?_,m,U,rfl⟩;have hu:=(y.Θ.fits G).array (δ d.1);have B:=oj (P:=P) (w:=w) (b:=false) (n:=i.k) (c:=i.k) (lo:=none) (hi:=none) (mx:=none) (ξ3 _) (by simp) (by simp) (by simp) (by simp) (by simp);simp only[ξc,ξI] at B;unfold execOp;rw[C];simp only[ξc,η,j,ξx,run_underlying hu,ε,ξq,κ,B,dW (y.Θ.fits H)];have e:(⟨m,q,none⟩:Addr).add 0=⟨m,q,none⟩:=by unfold ζ6;simp
  simp[e]
 .rename_i s;split at h
  rotate_left
  .cases h
  rename_i p q hp J;cases d:ζ i.tag 3<;>rw[d] at h
  .cases h
  simp only[cond_true] at h;obtain⟨u,hu,D⟩:=bind_some h;refine cU E D λA O w a he T Q f=>?_;have j:=ep (cj he f L);refine⟨_,?_,rfl,rfl⟩;unfold eM at hu;split at hu
  rotate_left
  .cases hu
  rename_i F;cases hu;have Z:=(y.Θ.fits G).string (δ d);have B:=oj (P:=P) (w:=w) (b:=false) (n:=s.size) (c:=s.size) (lo:=p) (hi:=q) (mx:=none) (ξ3 _) F.1 F.2.1 (by simpa using F.2.2) (by simp) (by simp);simp only[ξc,ξI] at B;unfold execOp;rw[C];simp only[η,j,rh he f hp,rh he f J,ξc,ξx,ζx,run_underlying Z,ε];simp[B]
 .cases h
theorem OL {c x y:Operand} (d:o.op= .pick c x y) {t:Bool} {e:AV S} (j:ch K env c=some (.v (.bool t))) (i:(bif t then dm K env x else dm K env y)=some e) (h:k e [] []=some z):Good K P rr o env g nx k z:=by
 refine cU (λc=>by rw[d];simp) h λA O w a he m l b=>?_;have f:=ep (cj he b j);cases t with
 |true=>
  refine⟨a.eval x,?_,dS he b i⟩;unfold execOp;rw[d];simp[f,asBool]
 |false=>
  refine⟨a.eval y,?_,dS he b i⟩;unfold execOp;rw[d];simp[f,asBool]
theorem R6 {y:Int} {f:LV S->Option R}: ∀ {ls:List (LV S)} {n:Nat},x4 f y n ls=some z-> ∃(l:LV S) (j:Nat),j<ls.length/\y=((n+j:Nat):Int)/\f l=some z/\ ∀(A:Pl) (O:Γ) (w:World) (xs:Γb),bz A O w ls xs-> ∃u,xs[j]? =some u/\l.rel A O w [u]
 |[],n,h=>by cases h
 |l::ls,n,h=>by
  unfold x4 at h;cases b:ζ l.sz 1<;>rw[b] at h
  .cases h
  have c:=δ b;simp only[cond_true] at h;cases d:(y==(n:Int))<;>rw[d] at h
  .obtain⟨l',j,o,p,g,i⟩:=R6 (ls:=ls) h;refine⟨l',j+1,by simp;omega,by omega,g,?_⟩;rintro A O w xs ⟨ys,zs,rfl,a,e⟩;have hl:=a.len;rw[c] at hl;obtain⟨u,k,m⟩:=i _ _ _ _ e;refine⟨u,?_,m⟩;rw[ξE (by omega),hl];simpa using k
  .refine⟨l,0,by simp,by simpa using eq_of_beq d,h,?_⟩;rintro A O w xs ⟨ys,zs,rfl,a,e⟩;have hl:=a.len;rw[c] at hl
   match ys,hl with
   |[u],_=>exact⟨u,rfl,a⟩
theorem acJ (r:b9 K P) {t:Nat} {x y:Operand} (D:o.op= .index t x y) (h:IE K env k t x y=some z):Good K P rr o env g nx k z:=by
 have M: ∀c,o.op≠ .defer c:=λc=>by rw[D];simp
 unfold IE at h;split at h
 rotate_left
 .cases h
 rename_i i j hi Q;split at h
 .rename_i ls E;split at h
  rotate_left
  .cases h
  rename_i p N;cases d:(ζ i.tag 6&&(ζ i.k (dX ls)&&(ζ p.size 1&&!(TI.gu p))))<;>rw[d] at h
  .cases h
  simp only[cond_true,μ,ξt] at h d;have W:=δ d.1;have C:=δ d.2.1;have U:=δ d.2.2.1;have Z:p.isAgg=false:=d.2.2.2;have fin: ∀ {l:LV S} {q:Nat},j=(q:Int)->k (.s (.one l)) [] []=some z->(∀(A:Pl) (O:Γ) (w:World) (xs:Γb),bz A O w ls xs-> ∃u,xs[q]? =some u/\l.rel A O w [u])->Good K P rr o env g nx k z:=by
   intro l q H I J;refine cU M I λA O w a he ab X f=>?_;obtain⟨xs,V,e⟩:=dS he f E;obtain⟨R,B⟩:=kO he f Q;obtain⟨u,hu,ae⟩:=J _ _ _ _ e;refine⟨u,?_,ae⟩;have af:=(r.Θ.fits hi).array W;have ah:q<i.k:=by
    have L:=(ν.1 hu).1;rw[gT e,<-C] at L;exact L
   unfold execOp;rw[D];simp only[η,V,B,ηk,asIntOf,κ,ε,run_underlying af];rw[if_pos ⟨by omega,by omega⟩];have Y:=HZ (P:=P) (w:=w) (r.Θ.fits N);have ad:(ζ p.tag 8||ζ p.tag 6)=false:=Z;subst H;simp[part,dW (r.Θ.fits N),Y,ad,U,hu]
  split at h
  .rename_i R gs v;obtain⟨m,hm,e⟩:=bind_some h;obtain⟨F,G⟩:=xy hm;exact fin F e λA O w xs n=>⟨_,Nc v n (by rw[gT n,<-C];exact G),rfl,rfl⟩
  .rename_i bs v;obtain⟨m,hm,e⟩:=bind_some h;obtain⟨F,G⟩:=xy hm;exact fin F e λA O w xs n=>⟨_,Nb v n (by rw[gT n,<-C];exact G),rfl,rfl⟩
  .obtain⟨l,q,ai,H,I,J⟩:=R6 h;exact fin (by rw[H,ξv]) I J
 .rename_i s E;cases d:ζ i.tag 3<;>rw[d] at h
  .cases h
  simp only[cond_true] at h;obtain⟨u,hu,e⟩:=bind_some h;refine cU M e λA O w a he ab X f=>?_;have ag:a.eval x= .string s:=ep (S:=S) (A:=A) (O:=O) (w:=w) (dS he f E);obtain⟨R,B⟩:=kO he f Q;refine⟨_,?_,rfl,rfl⟩;unfold fq at hu;split at hu
  .rename_i T;obtain⟨b,aa,rfl⟩:=ζo.1 hu;unfold execOp;rw[D];simp only[η,ag,B,ηk,asIntOf,κ,ε,run_underlying ((r.Θ.fits hi).string (δ d)),if_pos T,aa]
  .cases hu
 .cases h
end
section
variable {S:bh} {K:bp S} {P:Program} {rr:Option Nat} {o:Oper} {env:a8 S} {g:Nat->Option (Ob S)} {nx:Nat} {R:Type} {z:R} {k:AV S->Up S->AH S->Option R}
theorem pw {b:BinOp} {t t':Nat} {x y:Operand} (c:o.op= .binOp b t x y t') {w:World} {a:Act} {u v r:Value} (d:a.eval x=u) (e:a.eval y=v)
  (h:(do eqGuard b t x y u v;binOp b t u v:Sem Value).run P w= .ok r w):(execOp a.eval o).run P w= .ok (.value r) w:=by
 unfold execOp;rw[c];simp only[η] at h ⊢;rw[d,e,h];rfl
theorem acz (G:b9 K P) {b:BinOp} {t t':Nat} {x y:Operand} (D:o.op= .binOp b t x y t') (h:Iz K env k b t x y t'=some z):Good K P rr o env g nx k z:=by
 have j: ∀c,o.op≠ .defer c:=λc=>by rw[D];simp
 have pl:plain K env (.binOp b t x y t') (λa=>k a [] [])=some z->Good K P rr o env g nx k z:=λh=>qh G j (by rw[D];exact h);unfold Iz at h;split at h
 .rename_i ls H;split at h
  rotate_left
  .cases h
  rename_i ms p;split at h
  rotate_left
  .cases h
  rename_i q f;split at h
  .refine cU j h λA O w a he C B d=>?_;obtain⟨xs,E,L⟩:=dS he d H;obtain⟨ys,e,u⟩:=dS he d p;exact⟨_,pw D E e (G.pI A O w t ls ms q xs ys x y f L u).1,rfl,rfl⟩
  .refine cU j h λA O w a he C B d=>?_;obtain⟨xs,E,L⟩:=dS he d H;obtain⟨ys,e,u⟩:=dS he d p;exact⟨_,pw D E e (G.pI A O w t ls ms q xs ys x y f L u).2,rfl,rfl⟩
  .cases h
 .rename_i l H;have hl:ch K env x=some l:=by unfold ch;rw[H]
  cases hn:(l.xD&&isNil y)<;>rw[hn] at h
  .simp only[cond_false] at h;split at h
   .rename_i I m J n t5 p;have two: ∀ {r:Value} {A:Pl} {O:Γ} {w:World} {a:Act},cM A O w env a->cB K O w->(do eqGuard b t x (.tmp t5) (.int I m) (.int J n);binOp b t (.int I m) (.int J n):Sem Value).run P w= .ok r w->(execOp a.eval o).run P w= .ok (.value r) w:=by
     intro r A O w a he d R;exact pw D (ep (cj he d hl)) (ep (cj he d p)) R
    split at h
    .cases F:sameKind I J<;>rw[F] at h
     .cases h
     .have M:=e5 F;subst M;obtain⟨q,f,e⟩:=bind_some h;exact cU j e λA O w a he C B d=>⟨_,two he d (ahz f),rfl,rfl⟩
    .cases F:sameKind I J<;>rw[F] at h
     .cases h
     .have M:=e5 F;subst M;obtain⟨q,f,e⟩:=bind_some h;exact cU j e λA O w a he C B d=>⟨_,two he d (ahA f),rfl,rfl⟩
    .obtain⟨q,f,e⟩:=bind_some h;exact cU j e λA O w a he C B d=>⟨_,two he d (ahE f),rfl,rfl⟩
    .obtain⟨q,f,e⟩:=bind_some h;exact cU j e λA O w a he C B d=>⟨_,two he d (ahF f),rfl,rfl⟩
    .exact pl h
   .rename_i m n p;split at h
    .obtain⟨q,f,e⟩:=bind_some h;exact cU j e λA O w a he C B d=>⟨_,pw D (ep (cj he d hl)) (ep (cj he d p)) (ahC f),rfl,rfl⟩
    .exact pl h
   .exact pl h
  .simp only[cond_true] at h;simp only[μ] at hn;have p:y= .const (.pointer none):=by
    have:=hn.2;unfold isNil at this;split at this
    .rfl
    .cases this
   subst p;split at h
   rotate_left
   .cases h
   rename_i i hi;cases u:ζ i.tag 4<;>rw[u] at h
   .cases h
   simp only[cond_true] at h;have ev: ∀ {r:Value},(∀ad,ny K.Θ b t (.pointer (some ad)) (.pointer none)=some r)->r.oneCell'=true->k (.s (.one (.v r))) [] []=some z->Good K P rr o env g nx k z:=by
    intro r Q E h;refine cU j h λA O w a he C B d=>?_;obtain⟨ad,N⟩:=R_ hn.1 (cj he d hl);exact⟨r,pw D N rfl (Tg (P:=P) (w:=w) (ox:=x) (oy:=.const (.pointer none)) G.Θ (Q ad)),rfl,E⟩
   split at h
   .exact ev (λad=>by simp[ny,hi,u]) rfl h
   .exact ev (λad=>by simp[ny,hi,u]) rfl h
   .cases h
 .cases h
theorem acN (L:b9 K P) {t:Nat} {x y:Operand} {ok:Bool} (r:o.op= .lookup t x y ok) (h:IH K env g k t x y ok=some z):Good K P rr o env g nx k z:=by
 have Q: ∀c,o.op≠ .defer c:=λc=>by rw[r];simp
 unfold IH at h;split at h
 rotate_left
 .cases h
 rename_i i b C j hi W X;split at h
 rotate_left
 .cases h
 rename_i v u B d m U T N;generalize s:(ζ i.tag 7&&(ζ v.tag 2&&(sameKind (Dc.noKind v.k) B&&(sameKind C B&&(match u.zero with| .int D 0=>sameKind D d|_=>false)))))=q at h;cases q
 .cases h
 simp only[cond_true] at h;simp only[μ] at s;obtain⟨I,F,G,H,f⟩:=s;have Z:u.zero= .int d 0:=by
  split at f
  .rename_i D e;rw[e,e5 f]
  .cases f
 have E:=e5 H;subst E;refine cU Q h λA O w a he R aa n=>?_;obtain⟨m',J,l⟩:=cj he n W;obtain⟨p,hp,⟨ab,rfl,M⟩,_⟩:=R.al b _ N;rw[J] at hp;cases hp;have l:a.eval x= .map (some m'):=by simpa using l
 have Y:a.eval y= .int C j:=ep (S:=S) (A:=A) (O:=O) (w:=w) (dS he n X);have V:=ahy (P:=P) L.Θ hi (δ I) U (δ F) T (e5 G) Z M j ok;refine⟨bif ok then .tuple #[.int d ((bR m j).getD 0),.bool (bR m j).isSome] else .int d ((bR m j).getD 0),?_,?_⟩
 .unfold execOp;rw[r];simp only[η,l,Y,V];rfl
 .cases ok with
  |false=>exact⟨rfl,rfl⟩
  |true=>exact⟨_,rfl,_,_,rfl,⟨rfl,rfl⟩,_,_,rfl,⟨rfl,rfl⟩,rfl⟩
theorem acI (f:b9 K P) {t:Nat} {x:Operand} {u:Value} {i:TI} (b:o.op= .makeInterface t x) (hi:K.Θ.get t=some i) (d:i.tag=2) (l:ch K env x=some (.v u)) (h:k (.s (.one (.v (.iface t u)))) [] []=some z):Good K P rr o env g nx k z:=by
 refine cU (λc=>by rw[b];simp) h λA O w a he n m e=>?_;have j:=ep (cj he e l);refine⟨_,?_,rfl,rfl⟩;unfold execOp;rw[b];simp[j,Instr.makeInterface,run_underlying ((f.Θ.fits hi).int d)]
theorem rG {c:Go.Call} {b:Builtin} {a:Act} {w w':World} {v:Value} (e:o.op= .call c) (d:c.callee= .builtin b)
  (h: ∀cs:Array Bool,(builtin b c.argTypes o.type cs (c.args.map a.eval)).run P w= .ok (.value v) w'):(execOp a.eval o).run P w= .ok (.value v) w':=by
 unfold execOp;rw[e];simp only[η,resolve,d,κ,ε,invoke];exact h _
theorem acL (C:b9 K P) {ty:Nat} {c:Go.Call} {x:Operand} (G:o.op= .call c) (T:c.callee= .builtin .len) (S:c.args.toList=[x]) (W:c.argTypes.toList=[ty]) (h:IG K env g k ty c x=some z):Good K P rr o env g nx k z:=by
 have s: ∀c,o.op≠ .defer c:=λc=>by rw[G];simp
 have L:c.args= #[x]:=fS S;have M:c.argTypes= #[ty]:=fS W;have len: ∀ {a:Act} {w:World} {u:Value} {n:Nat},a.eval x=u->(ξM #[ty] o.type #[u]).run P w= .ok (goInt n) w->(execOp a.eval o).run P w= .ok (.value (goInt n)) w:=by
  intro a w u n hu H;refine rG G T λcs=>?_;rw[L,M];simp only[builtin,η];have e:(#[x].map a.eval)= #[u]:=by simp[hu]
  rw[e,H];rfl
 have sl: ∀ {i:TI} {w:World} {A:Option Addr} {n m:Nat},K.Θ.get ty=some i->i.tag=5->(ξM #[ty] o.type #[.slice A n m]).run P w= .ok (goInt n) w:=by
  intro i w A n m hi N;simp[ξM,run_underlying ((C.Θ.fits hi).slice N)]
 unfold IG at h;split at h
 rotate_left
 .cases h
 rename_i i l hi D;split at h
 .rename_i t xs;split at h
  rotate_left
  .cases h
  rename_i I hI;cases f:ζ i.tag 5<;>rw[f] at h
  .cases h
  refine cU s h λA O w a he y F j=>?_;obtain⟨v,d,V,_⟩:=cj he j D;obtain⟨A',E,rfl,_⟩:=dr (C.to hI V);have d:a.eval x= .slice A' (I.to xs).length E:=by simpa using d
  exact⟨_,len d (sl hi (δ f)),rfl,rfl⟩
 .rename_i r;split at h
  rotate_left
  .cases h
  rename_i e xs H;cases f:ζ i.tag 5<;>rw[f] at h
  .cases h
  refine cU s h λA O w a he y F j=>?_;obtain⟨v,B,d,_⟩:=cj he j D;obtain⟨p,hp,Q,_⟩:=y.al r _ H;rw[B] at hp;cases hp;obtain⟨A',E,rfl,_⟩:=Q.form;have d:a.eval x= .slice A' xs.length E:=by simpa using d
  exact⟨_,len d (sl hi (δ f)),rfl,rfl⟩
 .rename_i b q n;cases f:ζ i.tag 5<;>rw[f] at h
  .cases h
  refine cU s h λA O w a he y F j=>?_;obtain⟨m,B,d⟩:=cj he j D;have d:a.eval x= .slice (some ⟨m,q,none⟩) n n:=by simpa using d
  exact⟨_,len d (sl hi (δ f)),rfl,rfl⟩
 .rename_i b;split at h
  rotate_left
  .cases h
  rename_i Y Z m f;cases J:ζ i.tag 7<;>rw[J] at h
  .cases h
  refine cU s h λA O w a he y F j=>?_;obtain⟨m',B,d⟩:=cj he j D;obtain⟨p,hp,⟨aa,rfl,es,X,R,U⟩,_⟩:=y.al b _ f;rw[B] at hp;cases hp;have d:a.eval x= .map (some m'):=by simpa using d
  have hlen:es.size=m.length:=by
   have:=congrArg ηj U;simpa using this
  refine⟨_,len d (n:=m.length) ?_,rfl,rfl⟩;simp[ξM,run_underlying ((C.Θ.fits hi).map (δ J)),getObj,ζj,R,hlen]
 .exact qh C s (by rw[G];exact h)
end
section
variable {S:bh} {A A':Pl} {O O' O1:Γ} {w w':World} {g:Nat->Option (Ob S)}
theorem b' {i j:Nat} {X Y:Option (Ob S)} (h:(j,Y)∈[(i,X)]):j=i/\Y=X:=by simpa using h
theorem abK {b nx:Nat} {X:Ob S} {p:Value} (o:OB O w) (k:A.pl nx=none) (n:Fr [] w w') (t:Tr O w (b::O) w') (s:OB (b::O) w') (u:w.heap.size<=b) (hX:dD (A.put nx p) (b::O) w' X p) (hp: ∀c,b2 p=some c->c=b):
  ll A O w g [(nx,some X)] (A.put nx p) (b::O) w' where
 le:=Pl.mg k
 tr:=t
 ob:=s
 keep c a _:=⟨n.block c (o c a) (by simp),ξ4 _ a⟩
 al i Y h:=by
  obtain⟨rfl,e⟩:=b' h;cases e;exact⟨p,Pl.gz A _ p,hX,λc a=>by rw[hp c a];exact⟨π,.inl u⟩⟩
 dj i j Y Z q r c l d f:=by
  obtain⟨rfl,_⟩:=b' d;obtain⟨rfl,_⟩:=b' f;exact absurd rfl l
 nd i Y Z d f:=(b' d).2.trans (b' f).2.symm
 lv i Y q h m:=by
  obtain⟨rfl,_⟩:=b' h;rw[k] at m;cases m
 pl i:=by
  rcases ζf nx i with l|rfl
  .exact .inl (Pl.oc l)
  .exact .inr ⟨k,_,π⟩
theorem q8 {i j:Nat} {X Y:Ob S} (hX:X.nt=true) (h:(j,some Y)∈[(i,some X)]):Y.nt=true:=by
 obtain⟨_,e⟩:=b' h;cases e;exact hX
theorem nq {b nx:Nat} {X:Ob S} {p:Value} (d:OB O w) (i:A.pl nx=none) (a:Fr [] w w') (f:Tr O w (b::O) w') (e:OB (b::O) w') (j:w.heap.size<=b) (hX:dD (A.put nx p) (b::O) w' X p) (hp: ∀c,b2 p=some c->c=b) (k:X.nt=true:=by rfl):
 b_ A O w g [(nx,some X)] (A.put nx p) (b::O) w':=(abK d i a f e j hX hp).up λ_ _ h=>q8 k h
theorem abL {nx:Nat} {X:Ob S} {p:Value} (m:OB O w) (f:A.pl nx=none) (hX:dD (A.put nx p) O w X p) (hp:b2 p=none):
  ll A O w g [(nx,some X)] (A.put nx p) O w where
 le:=Pl.mg f
 tr:=Tr.refl O w
 ob:=m
 keep c a _:=⟨rfl,a⟩
 al i Y h:=by
  obtain⟨rfl,e⟩:=b' h;cases e;exact⟨p,Pl.gz A _ p,hX,λc a=>by rw[hp] at a;cases a⟩
 dj i j Y Z q r c k b d:=by
  obtain⟨rfl,_⟩:=b' b;obtain⟨rfl,_⟩:=b' d;exact absurd rfl k
 nd i Y Z b d:=(b' b).2.trans (b' d).2.symm
 lv i Y q h l:=by
  obtain⟨rfl,_⟩:=b' h;rw[f] at l;cases l
 pl i:=by
  rcases ζf nx i with k|rfl
  .exact .inl (Pl.oc k)
  .exact .inr ⟨f,_,π⟩
theorem NQ {nx:Nat} {X:Ob S} {p:Value} (a:OB O w) (b:A.pl nx=none) (hX:dD (A.put nx p) O w X p) (hp:b2 p=none) (c:X.nt=true:=by rfl):
 b_ A O w g [(nx,some X)] (A.put nx p) O w:=(abL a b hX hp).up λ_ _ h=>q8 c h
theorem abN {i b:Nat} {X Z:Ob S} {p:Value} (m:OB O w) (n:b∈O) (o:g i=some Z) (hp:A.pl i=some p) (l:b2 p=some b) (k:Fr [b] w w') (hX:dD A O w' X p):
  ll A O w g [(i,some X)] A O w' where
 le:=Pl.le.refl A
 tr:=k.tr (hx n)
 ob:=k.ob m
 keep c a h:=⟨k.block c (m c a) (by
  have:=h i _ p π hp;rw[l] at this;simp at this ⊢;exact λe=>this e.symm),a⟩
 al j Y h:=by
  obtain⟨rfl,e⟩:=b' h;cases e;exact⟨p,hp,hX,λc a=>by
   rw[l] at a;cases a;exact⟨n,.inr ⟨_,_,p,π,hp,l⟩⟩⟩
 dj i j Y Z q r c s d f:=by
  obtain⟨rfl,_⟩:=b' d;obtain⟨rfl,_⟩:=b' f;exact absurd rfl s
 nd i Y Z d f:=(b' d).2.trans (b' f).2.symm
 lv j Y q h t:=by
  obtain⟨rfl,_⟩:=b' h;exact⟨Z,o⟩
 pl _:=.inl rfl
theorem nr {i b:Nat} {X Z:Ob S} {p:Value} (c:OB O w) (d:b∈O) (e:g i=some Z) (hp:A.pl i=some p) (j:b2 p=some b) (a:Fr [b] w w') (hX:dD A O w' X p) (f:X.nt=true:=by rfl):
 b_ A O w g [(i,some X)] A O w':=(abN c d e hp j a hX).up λ_ _ h=>q8 f h
theorem abM {i:Nat} {X Z:Ob S} {p:Value} (m:OB O w) (s:g i=some Z) (hp:A.pl i=some p) (o:Tr O w O w') (n:OB O w') (l: ∀k,k<w.heap.size->b2 p≠some k->w'.heap[k]? =w.heap[k]?) (hX:dD A O w' X p) (hm: ∀b,b2 p=some b->b∈O):
  ll A O w g [(i,some X)] A O w' where
 le:=Pl.le.refl A
 tr:=o
 ob:=n
 keep c a h:=⟨l c (m c a) (h i _ p π hp),a⟩
 al j Y h:=by
  obtain⟨rfl,e⟩:=b' h;cases e;exact⟨p,hp,hX,λc a=>⟨hm c a,.inr ⟨_,_,p,π,hp,a⟩⟩⟩
 dj i j Y Z q r c t d f:=by
  obtain⟨rfl,_⟩:=b' d;obtain⟨rfl,_⟩:=b' f;exact absurd rfl t
 nd i Y Z d f:=(b' d).2.trans (b' f).2.symm
 lv j Y q h u:=by
  obtain⟨rfl,_⟩:=b' h;exact⟨Z,s⟩
 pl _:=.inl rfl
theorem NR {i:Nat} {X Z:Ob S} {p:Value} (c:OB O w) (f:g i=some Z) (hp:A.pl i=some p) (e:Tr O w O w') (d:OB O w') (a: ∀k,k<w.heap.size->b2 p≠some k->w'.heap[k]? =w.heap[k]?) (hX:dD A O w' X p) (hm: ∀b,b2 p=some b->b∈O) (j:X.nt=true:=by rfl):
 b_ A O w g [(i,some X)] A O w':=(abM c f hp e d a hX hm).up λ_ _ h=>q8 j h
theorem abH {e:Nat} {ef0:Up S} {nx:Nat} {v n:Value} {zs:List (S.El e)} (y:OB O w) (o:A.pl nx=none) (a: ∀i X,(i,X)∈ef0->X=none/\A.pl i=some v/\ ∃Z,g i=some Z) (t:(∃i,(i,none)∈ef0)\/v.ownBlock=none)
  (h:dI (S.ty e) e 1 O w v zs O' w' n):ll A O w g (ef0++[(nx,some (.row e zs))]) (A.put nx n) O' w' where
 le:=Pl.mg o
 tr:=h.tr
 ob:=h.ob
 keep c m B:=⟨h.fr c (y c m) (λe=>by
  rcases t with⟨i,hi⟩|hn
  .exact B i none v (ξj _ hi) (a i none hi).2.1 (ig e)
  .rw[hn] at e;cases e),h.sub c m⟩
 al i Y hi:=by
  rcases τ.1 hi with hi|hi
  .have:=(a i _ hi).1;cases this
  .obtain⟨rfl,e⟩:=b' hi;cases e;refine⟨n,Pl.gz A _ n,h.own,λc m=>?_⟩;have u:n.ownBlock=some c:=by
    rcases h1 h.own with⟨rfl,_⟩|⟨b,D,rfl⟩
    .cases m
    .exact m
   refine⟨h.own.mem c u,?_⟩;rcases ξA c w.heap.size with C|z
   .right;have s:v.ownBlock=some c:=by
     rcases Decidable.em (v.ownBlock=some c) with e|e
     .exact e
     .exact absurd u (h.ne c C e)
    rcases t with⟨i,hi⟩|hn
    .exact⟨i,none,v,ξj _ hi,(a i none hi).2.1,ig s⟩
    .rw[hn] at s;cases s
   .exact .inl z
 dj i j Y Z q r c p d f:=by
  rcases τ.1 d with d|d
  .have:=(a i _ d).1;cases this
  .rcases τ.1 f with f|f
   .have:=(a j _ f).1;cases this
   .obtain⟨rfl,_⟩:=b' d;obtain⟨rfl,_⟩:=b' f;exact absurd rfl p
 nd i Y Z d f:=by
  have no: ∀X,(nx,X)∉ef0:=λX hX=>by have:=(a nx X hX).2.1;rw[o] at this;cases this
  rcases τ.1 d with k|k<;>rcases τ.1 f with l|l
  .exact(a i _ k).1.trans (a i _ l).1.symm
  .rw[(b' l).1] at k;exact absurd k (no _)
  .rw[(b' k).1] at l;exact absurd l (no _)
  .exact(b' k).2.trans (b' l).2.symm
 lv i Y q hi x:=by
  rcases τ.1 hi with hi|hi
  .exact(a i _ hi).2.2
  .obtain⟨rfl,_⟩:=b' hi;rw[o] at x;cases x
 pl i:=by
  rcases ζf nx i with p|rfl
  .exact .inl (Pl.oc p)
  .exact .inr ⟨o,_,ξi _ π⟩
theorem abG {e:Nat} {ef0:Up S} {nx:Nat} {v b:Value} {zs:List (S.El e)} (d:OB O w) (f:A.pl nx=none) (a: ∀i X,(i,X)∈ef0->X=none/\A.pl i=some v/\ ∃Z,g i=some Z) (c:(∃i,(i,none)∈ef0)\/v.ownBlock=none)
  (h:dI (S.ty e) e 1 O w v zs O' w' b):b_ A O w g (ef0++[(nx,some (.row e zs))]) (A.put nx b) O' w':=(abH d f a c h).up λi X hi=>by
 rcases τ.1 hi with hi|hi
 .have:=(a i _ hi).1;cases this
 .exact q8 rfl hi
def ej (A:Pl) (rs O:Γ):Γ:=O.filter λb=>rs.all λr=>match A.pl r with|some p=>(match b2 p with|some c=>!(ζ c b)|none=>true)|none=>true
theorem je {rs:Γ} {b:Nat}:b∈ej A rs O↔b∈O/\ ∀r∈rs,∀p,A.pl r=some p->b2 p≠some b:=by
 unfold ej;rw[ξP,ζl];refine and_congr_right λ_=>⟨λh r a p hp d=>?_,λh r a=>?_⟩
 .have:=h r a;simp[hp,d] at this
 .split
  .rename_i p hp;split
   .rename_i c e;have:=h r a p hp;rw[e] at this;cases f:ζ c b with
    |false=>rfl
    |true=>exact absurd (δ f) (by simpa using this)
   .rfl
  .rfl
theorem fM {rs:Γ}:Sub (ej A rs O) O:=λb a=>(je.1 a).1
theorem dz {rs:Γ} {i:Nat} {X:Option (Ob S)}:(i,X)∈(gO rs:Up S)↔i∈rs/\X=none:=by
 induction rs with
 |nil=>simp[gO]
 |cons r rs a=>
  simp only[gO,ξd,a,ξO];constructor
  .rintro (⟨rfl,rfl⟩|⟨h,rfl⟩)
   .exact⟨.inl rfl,rfl⟩
   .exact⟨.inr h,rfl⟩
  .rintro ⟨rfl|h,rfl⟩
   .exact .inl ⟨rfl,rfl⟩
   .exact .inr ⟨h,rfl⟩
theorem NO {rs:Γ} (k:OB O w) (hl: ∀r∈rs,∃Z,g r=some Z):b_ A O w g (gO rs) A (ej A rs O) w where
 le:=Pl.le.refl A
 tr:=Tr.less fM
 ob:=λb m=>k b (fM b m)
 keep c n h:=⟨rfl,je.2 ⟨n,λr a p hp e=>let⟨Z,l⟩:=hl r a;h r none p (dz.2 ⟨a,rfl⟩) hp Z l (.inl e)⟩⟩
 al i Y h:=by have:=(dz.1 h).2;cases this
 dj i j Y Z q r c _ h:=by have:=(dz.1 h).2;cases this
 nd i Y Z d f:=(dz.1 d).2.trans (dz.1 f).2.symm
 lv i Y q h _:=hl i (dz.1 h).1
 pl _:=.inl rfl
 nt i X Z h _ _:=by have:=(dz.1 h).2;cases this
theorem b_.M1 {rs:Γ} {ef:Up S} (k:b_ A O w g (gO rs) A O1 w) (f:b_ A O1 w g ef A' O' w') (hn: ∀i X,(i,X)∈ef->i∉rs):b_ A O w g (gO rs++ef) A' O' w' where
 le:=f.le
 tr:=k.tr.trans f.tr
 ob:=f.ob
 keep c l h:=by
  obtain⟨_,d⟩:=k.keep c l λi X p hi hp=>h i X p (ξj _ hi) hp;exact f.keep c d λi X p hi hp=>h i X p (ξi _ hi) hp
 al i Y h:=by
  rcases τ.1 h with h|h
  .have:=(dz.1 h).2;cases this
  .obtain⟨p,d,e,n⟩:=f.al i Y h;exact⟨p,d,e,λc l=>⟨(n c l).1,(n c l).2.imp id λ⟨j,Z,q,V,s,t⟩=>⟨j,Z,q,V,ξi _ s,t⟩⟩⟩
 dj i j Y Z q r c o d e:=by
  rcases τ.1 d with d|d
  .have:=(dz.1 d).2;cases this
  .rcases τ.1 e with e|e
   .have:=(dz.1 e).2;cases this
   .exact f.dj i j Y Z q r c o d e
 nd i Y Z d e:=by
  rcases τ.1 d with d|d<;>rcases τ.1 e with e|e
  .exact k.nd i Y Z d e
  .exact absurd (dz.1 d).1 (hn i _ e)
  .exact absurd (dz.1 e).1 (hn i _ d)
  .exact f.nd i Y Z d e
 lv i Y q h m:=by
  rcases τ.1 h with h|h
  .exact k.lv i Y q h m
  .exact f.lv i Y q h m
 pl i:=(f.pl i).imp id λ⟨a,X,b⟩=>⟨a,X,ξi _ b⟩
 nt i X Z h:=by
  rcases τ.1 h with h|h
  .have:=(dz.1 h).2;cases this
  .exact f.nt i X Z h
variable {K:bp S} {P:Program}
theorem Oy (c:b9 K P) (o:bS A O w g) {l l':LV S} {rs all:Γ} {xs:Γb} (h:nJ K g l=some (l',rs)) (a:l.rel A O w xs) (y: ∀r∈rs,r∈all):l'.rel A (ej A all O) w xs/\l'.pure=true/\ ∀r∈rs,∃Z,g r=some Z:=by
 have less:Tr O w (ej A all O) w:=Tr.less fM;cases l with
 |own r=>
  simp only[nJ] at h;split at h
  rotate_left
  .cases h
  rename_i e ys i;split at h
  rotate_left
  .cases h
  rename_i I hI;cases h;obtain⟨v,d,rfl,z⟩:=a;obtain⟨p,hp,j,hm⟩:=o.al r _ i;rw[d] at hp;cases hp;refine⟨⟨v,rfl,?_,(c.row e I hI).1⟩,rfl,λB f=>by simp at f;subst f;exact⟨_,i⟩⟩;refine(c.row e I hI).2.2 _ _ _ _ (aeY j fM (c.row e I hI).2.1 λb m s=>?_);exact(je.1 s).2 r (y r (by simp)) v d (ig m)
 |v u=>cases h;exact⟨a,rfl,λr h=>by cases h⟩
 |aG t x=>cases h;exact⟨LV.rel.tr a less (Pl.le.refl A),rfl,λr h=>by cases h⟩
 |ptr t x q=>cases h;exact⟨LV.rel.tr a less (Pl.le.refl A),rfl,λr h=>by cases h⟩
 |br k n gs=>cases h;exact⟨a,rfl,λr h=>by cases h⟩
 |c7 n gs=>cases h;exact⟨a,rfl,λr h=>by cases h⟩
 |_=>cases h
theorem OA (d:b9 K P) (e:bS A O w g): ∀ {ls b:List (LV S)} {rs all:Γ} {xs:Γb},nK K g ls=some (b,rs)->bz A O w ls xs->(∀r∈rs,r∈all)->bz A (ej A all O) w b xs/\b.all LV.pure=true/\ ∀r∈rs,∃Z,g r=some Z
 |[],b,rs,all,xs,h,a,c=>by cases h;exact⟨a,rfl,λr h=>by cases h⟩
 |l::ls,b,rs,all,xs,h,⟨ys,zs,q,o,p⟩,c=>by
  simp only[nK] at h;split at h
  rotate_left
  .cases h
  rename_i s u m;split at h
  rotate_left
  .cases h
  rename_i t v n;cases h;obtain⟨f,a2,a3⟩:=Oy d e m o (λr a=>c r (ξj _ a));obtain⟨i,j,k⟩:=OA d e n p (λr a=>c r (ξi _ a));exact⟨⟨ys,zs,q,f,i⟩,by simp[a2,j],λr a=>(τ.1 a).elim (a3 r) (k r)⟩
theorem Ow (d:b9 K P) (e:bS A O w g) {a a':aE S} {rs all:Γ} {x:Value} (h:lV K g a=some (a',rs)) (b:a.rel A O w x) (f: ∀r∈rs,r∈all):a'.rel A (ej A all O) w x/\a'.pure=true/\ ∀r∈rs,∃Z,g r=some Z:=by
 cases a with
 |one l=>
  simp only[lV] at h;split at h
  .rename_i j k c;cases h;exact Oy d e c b f
  .cases h
 |agg ls=>
  simp only[lV] at h;split at h
  .rename_i j k c;cases h;obtain⟨ys,rfl,b⟩:=b;obtain⟨i,a2,a3⟩:=OA d e c b f;exact⟨⟨ys,rfl,i⟩,a2,a3⟩
  .cases h
theorem nI (d:b9 K P) (e:bS A O w g): ∀ {ls b:List (aE S)} {rs all:Γ} {xs:Γb},kM K g ls=some (b,rs)->cG A O w ls xs->(∀r∈rs,r∈all)->cG A (ej A all O) w b xs/\b.all aE.pure=true/\ ∀r∈rs,∃Z,g r=some Z
 |[],b,rs,all,xs,h,a,c=>by cases h;exact⟨a,rfl,λr h=>by cases h⟩
 |l::ls,b,rs,all,xs,h,⟨ys,zs,q,o,p⟩,c=>by
  simp only[kM] at h;split at h
  rotate_left
  .cases h
  rename_i s u m;split at h
  rotate_left
  .cases h
  rename_i t v n;cases h;obtain⟨f,a2,a3⟩:=Ow d e m o (λr a=>c r (ξj _ a));obtain⟨i,j,k⟩:=nI d e n p (λr a=>c r (ξi _ a));exact⟨⟨ys,zs,q,f,i⟩,by simp[a2,j],λr a=>(τ.1 a).elim (a3 r) (k r)⟩
theorem Oz {l l':LV S} {rs:Γ} (h:nJ K g l=some (l',rs)):l'.pure=true:=by
 cases l with
 |own r=>
  simp only[nJ] at h;split at h
  .split at h
   .cases h;rfl
   .cases h
  .cases h
 |_=>first|(cases h;rfl)|cases h
theorem OC: ∀ {ls a:List (LV S)} {rs:Γ},nK K g ls=some (a,rs)->a.all LV.pure=true
 |[],_,_,h=>by cases h;rfl
 |l::ls,_,_,h=>by
  simp only[nK] at h;split at h
  .rename_i d f b;split at h
   .rename_i e i c;cases h;simp[Oz b,OC c]
   .cases h
  .cases h
theorem Ox: ∀ {ls b:List (aE S)} {rs:Γ},kM K g ls=some (b,rs)->b.all aE.pure=true
 |[],_,_,h=>by cases h;rfl
 |l::ls,_,_,h=>by
  simp only[kM] at h;split at h
  .rename_i d i a;split at h
   .rename_i f j c;cases h;have:d.pure=true:=by
     cases l with
     |one l=>
      simp only[lV] at a;split at a
      .rename_i e;cases a;exact Oz e
      .cases a
     |agg ls=>
      simp only[lV] at a;split at a
      .rename_i e;cases a;exact OC e
      .cases a
    simp[this,Ox c]
   .cases h
  .cases h
end
section
variable {S:bh} {K:bp S} {P:Program} {rr:Option Nat} {o:Oper} {env:a8 S} {g:Nat->Option (Ob S)} {nx:Nat} {R:Type} {z:R} {k:AV S->Up S->AH S->Option R}
theorem hk {b:AV S} {up:Up S} {nw:AH S} (m: ∀c,o.op≠ .defer c) (q:k b up nw=some z)
  (h: ∀(A:Pl) (O:Γ) (w:World) (a:Act),cM A O w env a->bS A O w g->OB O w->cB K O w->(∀j,j<nw.length->A.pl (nx+j)=none)-> ∃v w' A' O',(execOp a.eval o).run P w= .ok (.value v) w'/\b.rel A' O' w' v/\b_ A O w g (up++news nx nw) A' O' w'):Good K P rr o env g nx k z:=
 ⟨b,up,nw,q,λ_ A O w a he p l i n=>by
  obtain⟨v,w',A',O',d,e,f⟩:=h A O w a he p l i n;exact RS m d ⟨A',O',e,f⟩⟩
theorem Hm {up:Up S} (i: ∀c,o.op≠ .defer c) (l:k (.bG []) up []=some z)
  (h: ∀(A:Pl) (O:Γ) (w:World) (a:Act),cM A O w env a->bS A O w g->OB O w->cB K O w-> ∃w' A' O',(execOp a.eval o).run P w= .ok .skip w'/\b_ A O w g up A' O' w'):Good K P rr o env g nx k z:=
 ⟨.bG [],up,[],l,λ_ A O w a he j f e m=>by
  obtain⟨w',A',O',b,d⟩:=h A O w a he j f e;exact aeR i b ⟨A',O',⟨[],rfl,rfl⟩,by simpa[news] using d⟩⟩
theorem rz {A:Pl} {O:Γ} {w:World}: ∀ {xs:Γb},xs.all ξm=true->bz A O w (xs.map (LV.v (S:=S))) xs
 |[],_=>rfl
 |x::xs,h=>by
  simp only[List.all_cons,μ] at h;exact⟨[x],xs,rfl,⟨rfl,h.1⟩,rz h.2⟩
theorem acx (e:b9 K P) {t:Nat} {i:TI} (d:o.op= .alloc t) (hi:K.Θ.get t=some i) (m:i.zero.cells.toList.all ξm=true) (h:k (.s (.one (.bl nx 0))) [] [some (.box t (i.zero.cells.toList.map .v))]=some z):Good K P rr o env g nx k z:=by
 refine hk (λc=>by rw[d];simp) h λA O w a he q b n j=>?_;have hn:=kU b t i.zero.cells.toList;have l:=j 0 (by simp);refine⟨_,_,_,_,?_,⟨w.heap.size,Pl.gz A nx (.pointer (some ⟨w.heap.size,0,none⟩)),rfl⟩,
  nq (p:=.pointer (some ⟨w.heap.size,0,none⟩)) b l hn.fr hn.tr hn.ob hn.ge ⟨w.heap.size,_,rfl,hn.bI,rz m⟩ (λc f=>by cases f;rfl)⟩
 simp only[execOp,d,ηi,η,mQ (e.Θ.fits hi),ε];rfl
theorem acA {t:Nat} {x:Operand} {b:aE S} (f:o.op= .box t x) (n:dm K env x=some (.s b)) (h:k (.s (.one (.bl nx 0))) [] [some (.box t b.cells)]=some z):Good K P rr o env g nx k z:=by
 refine hk (λc=>by rw[f];simp) h λA O w a he q d i l=>?_;have m:=aE.rel.cells (dS he i n);have hn:=kU d t (a.eval x).cells.toList;have e:=l 0 (by simp);refine⟨_,_,_,_,?_,⟨w.heap.size,Pl.gz A nx (.pointer (some ⟨w.heap.size,0,none⟩)),rfl⟩,
  nq (p:=.pointer (some ⟨w.heap.size,0,none⟩)) d e hn.fr hn.tr hn.ob hn.ge ⟨w.heap.size,_,rfl,hn.bI,k7 hn.tr (Pl.mg e) m⟩ (λc j=>by cases j;rfl)⟩
 simp only[execOp,f,Instr.box,η];rfl
theorem acO {f:Nat} {fs cs:Array Operand} {d b:List (aE S)} (j:o.op= .makeFunc (.func f) fs cs) (n:ha K env fs.toList=some d) (p:ha K env cs.toList=some b) (h:k (.s (.one (.bA nx))) [] [some (.bA f d b)]=some z):Good K P rr o env g nx k z:=by
 refine hk (λc=>by rw[j];simp) h λA O w a he v q e r=>?_;have i:=r 0 (by simp);have t:=lE he e n;have u:=lE he e p;have hle:A.le (A.put nx (.func (.func f) (fs.toList.map a.eval).toArray (cs.toList.map a.eval).toArray)):=Pl.mg i;refine⟨.func (.func f) (fs.toList.map a.eval).toArray (cs.toList.map a.eval).toArray,w,_,O,?_,⟨_,_,_,Pl.gz A nx (.func (.func f) (fs.toList.map a.eval).toArray (cs.toList.map a.eval).toArray),rfl⟩,
  NQ q i ⟨_,_,rfl,mi (Tr.refl O w) hle t,mi (Tr.refl O w) hle u⟩ rfl⟩
 simp only[execOp,j,η1,η,κ,ε];have l:fs.map a.eval=(fs.toList.map a.eval).toArray:=by rw[<-ξh]
 have m:cs.map a.eval=(cs.toList.map a.eval).toArray:=by rw[<-ξh]
 rw[l,m]
theorem acP {t:Nat} {f i:IntKind} (e:o.op= .makeMap t none) (h:k (.s (.one (.mp nx))) [] [some (.map f i [])]=some z):Good K P rr o env g nx k z:=by
 refine hk (λc=>by rw[e];simp) h λA O w a he r d q l=>?_;have m:=l 0 (by simp);have hn:Ds O w w.heap.size (w.alloc (.map #[] 0)):=⟨heap_alloc_new _ _,⟨rfl,rfl,rfl,by simp,λk b _=>ξW _ _ _ b⟩,
  ⟨rfl,rfl,rfl,by simp,λk b n=>⟨by simp;exact⟨by omega,n⟩,ξW _ _ _ b⟩⟩,λk b=>by
   simp at b ⊢;rcases b with rfl|b
   .omega
   .have:=d k b;omega,ξ3 _⟩
 refine⟨.map (some w.heap.size),_,_,_,?_,⟨w.heap.size,Pl.gz A nx (.map (some w.heap.size)),rfl⟩,
  nq (p:=.map (some w.heap.size)) d m hn.fr hn.tr hn.ob hn.ge ⟨w.heap.size,rfl,hn.is f i⟩ (λc j=>by cases j;rfl)⟩
 simp only[execOp,e,η,ξc];rw[show(Instr.makeMap t none).run P w= .ok (.map (some w.heap.size)) (w.alloc (.map #[] 0)) from rfl];rfl
theorem acS {x:Operand} {e:Nat} (b:o.op= .assign x) (j:x= .const (.slice none 0 0)) (h:k (.s (.one (.own nx))) [] [some (.row e [])]=some z):Good K P rr o env g nx k z:=by
 subst j;refine hk (λc=>by rw[b];simp) h λA O w a he m d l f=>?_;have i:=f 0 (by simp);refine⟨.slice none 0 0,w,_,O,?_,⟨_,Pl.gz A nx (.slice none 0 0),rfl,rfl⟩,NQ d i Dc.Own.f' rfl⟩;unfold execOp;rw[b];rfl
theorem acT (n:b9 K P) {t:Nat} {x:Operand} {s:ByteArray} {i:TI} (j:o.op= .range t x) (hi:K.Θ.get t=some i) (l:i.tag=3) (y:ch K env x=some (.v (.string s))) (h:k (.s (.one (.cW nx))) [] [some (.cW s 0)]=some z):Good K P rr o env g nx k z:=by
 refine hk (λc=>by rw[j];simp) h λA O w a he B e m q=>?_;have r:=q 0 (by simp);have u:=ep (cj he m y);have d:Fr [] w {w with heap:=w.heap.push (.stringIter s 0)}:=⟨rfl,rfl,rfl,by simp,λk f _=>by simp only;rw[Array.getElem?_push_lt f,σ f]⟩;refine⟨.pointer (some ⟨w.heap.size,0,none⟩),{w with heap:=w.heap.push (.stringIter s 0)},_,_,?_,⟨w.heap.size,Pl.gz A nx (.pointer (some ⟨w.heap.size,0,none⟩)),rfl⟩,
  nq (p:=.pointer (some ⟨w.heap.size,0,none⟩)) e r d (JT d (ξ3 _)) (λc b=>by simp at b ⊢;rcases b with rfl|b;omega;have:=e c b;omega) (ξ3 _) ⟨w.heap.size,rfl,by simp⟩ (λc b=>by cases b;rfl)⟩
 simp only[execOp,j,η,u,Instr.range,run_underlying ((n.Θ.fits hi).string l),ε,κ];simp[newObj,ζj]
theorem acR {x:Operand} {i pos:Nat} {s:ByteArray} (u:o.op= .next x true) (D:ch K env x=some (.cW i)) (hi:g i=some (.cW s pos))
  (h:(bif decide (pos<s.size) then k (.bG [.one (.v (.bool true)),.one (.v (goInt pos)),.one (.v (.int .i32 (ζ4 s pos).1))]) [(i,some (.cW s (pos+(ζ4 s pos).2)))] [] else k (.bG [.one (.v (.bool false))]) [] [])=some z):Good K P rr o env g nx k z:=by
 have B: ∀c,o.op≠ .defer c:=λc=>by rw[u];simp
 cases n:decide (pos<s.size)<;>rw[n] at h
 .have t: ¬pos<s.size:=by simpa using n
  refine cU B h λA O w a he q y l=>?_;obtain⟨m,j,d⟩:=cj he l D;obtain⟨p,hp,⟨b,rfl,f⟩,_⟩:=q.al i _ hi;rw[j] at hp;cases hp;have d:a.eval x= .pointer (some ⟨m,0,none⟩):=by simpa using d
  refine⟨.tuple #[.bool false],?_,_,rfl,_,_,rfl,⟨rfl,rfl⟩,rfl⟩;have r:(getObj m).run P w= .ok (.stringIter s pos) w:=by simp[getObj,ζj,f]
  simp only[execOp,u,η,d,ηl,r,ε,if_neg t,κ]
 .have t:pos<s.size:=by simpa using n
  refine hk B h λA O w a he q y l G=>?_;obtain⟨m,j,d⟩:=cj he l D;obtain⟨p,hp,⟨b,rfl,f⟩,hm⟩:=q.al i _ hi;rw[j] at hp;cases hp;have d:a.eval x= .pointer (some ⟨m,0,none⟩):=by simpa using d
  have hl:m<w.heap.size:=(ξb.1 f).1;have E:Fr [m] w {w with heap:=w.heap.setIfInBounds m (.stringIter s (pos+(ζ4 s pos).2))}:=⟨rfl,rfl,rfl,by simp,λk H C=>by simp at C;simp only;rw[ξ (λe=>C e.symm)]⟩;refine⟨.tuple #[.bool true,goInt pos,.int .i32 (ζ4 s pos).1],_,_,_,?_,⟨_,rfl,_,_,rfl,⟨rfl,rfl⟩,_,_,rfl,⟨rfl,rfl⟩,_,_,rfl,⟨rfl,rfl⟩,rfl⟩,
   nr y (hm m rfl) hi j rfl E ⟨m,rfl,by simp[hl]⟩⟩
  have r:(getObj m).run P w= .ok (.stringIter s pos) w:=by simp[getObj,ζj,f]
  have F: ∀o:Obj,(setObj m o).run P w= .ok () {w with heap:=w.heap.setIfInBounds m o}:=λo=>by simp[setObj,ζj,f]
  simp only[execOp,u,η,d,ηl,r,ε,if_pos t,F,κ]
end
end Go.Vx
end
