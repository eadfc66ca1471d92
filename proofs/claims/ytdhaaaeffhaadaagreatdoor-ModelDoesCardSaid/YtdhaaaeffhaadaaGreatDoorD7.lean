/- A part of the proof that ModelDoes returns true for every input: the machine of values, its soundness, the program as plain functions, the law. Conditions: those of the given rows. -/
import Derived.Test.YtdhaaaeffhaadaaGreatDoorD6
import Derived.Deep.DeepHandedRow
import Derived.Deep.DeepWitnessRowRef
import Derived.JoinedCond
set_option linter.unusedVariables false
set_option linter.unusedSimpArgs false
noncomputable section
set_option maxRecDepth 1000000
set_option maxHeartbeats 12000000
open Go.OpenSpec renaming ofChange→ε
open Go.Proofs.Tryz renaming prog→β,f4→ζ,params4→ι,checked→κ,func4→ξ
open Go.Proofs.YtdhaaaeffhaadaaGreatDoor.Rows renaming modelDoesRow→γ,modelDoesSpec→δ
open Go.Proofs.YtdhaaaeffhaadaaGreatDoor.Tryz renaming pinned→θ
open List renaming mem_append_left→η,not_mem_nil→μ,mem_cons→ο
open Option.some renaming inj→ν
section
namespace Go.Proofs.YtdhaaaeffhaadaaGreatDoor.modelDoes
open Go.ChangeShapes Go.WideShapes Go.ChangeAt Go.RowKit Go.Dc Go.Vx
theorem own:ownKnob β.godebug=none:=by kernel_rfl
theorem laidOut:laidOutB β=true:=by kernel_rfl
theorem abf (H:Type) (enc:TypeId×Value->H) (W:World) (base:Nat) (args:Array Value) (ds gs:List (DataW H)) (before:List MemPlace)
  (c: ∀(j:Nat) t v,ζ.params[j]? =some t->args[j]? =some v->Value.okWide β W .any base t v)
  (a:DataW.Whole enc β ζ.params.toList δ.vars false W args.toList ds gs before) (C:laidMetH β γ.laid W):
  Calls β 4 args W λe f=> ∃v,e= .returned v/\δ.post enc β ζ false true false false W args v f:=by
 have E:=a;have o:=a.lt;obtain⟨p,q,l,D,rfl,n,T⟩:=a;have i:DataW.TrodAll enc β W 0 (λ_=>true) true ζ.params.toList args.toList ds p:=l;have B:=l;rw[ι] at i c;obtain⟨v0,X,d0,Q,M,U,S,rfl,rfl,z,N⟩:=trodAll_cons i;obtain⟨v1,Y,d1,R,p1,V,rfl,rfl,rfl,A,P⟩:=trodAll_cons N;obtain⟨rfl,rfl,rfl⟩:=trodAll_nil P;obtain rfl:args= #[v0,v1]:=by cases args;simp_all
 obtain⟨rfl,rfl⟩:=trodVars_none D;obtain⟨Z,K,s⟩:=aeD.arg (c 0 36 v0 rfl rfl) z (λb off hm=>n b off (by simp[hm]));obtain⟨aa,L,u⟩:=aeF.arg (c 1 46 v1 rfl rfl) A (λb off hm=>n b off (by simp[hm]));obtain⟨ab,G,y⟩:=adz (g:=0) (by kernel_rfl) (by kernel_rfl) RO (by decide) (ady C (.head _));obtain rfl:=acp y;have F:=adv (O:=[]) (w:=W) (λk I=>by cases I) G K L (Vb (ajp s) (ajm u));refine F.mono λe f ⟨v,he,J,m⟩=>?_;subst he;obtain rfl:=jE.1 J;refine⟨_,rfl,_,_,_,[],M++(p1++[]),[],E,?_,?_,?_,m.below.frame _,λh=>by cases h⟩
 .exact trodAll_cons_mk (shut_bool Tryz.underlying4 _) trodAll_mk0
 .exact M' laidOut (by rw[ι];intro t r;simp only[ο,μ,or_false] at r;rcases r with rfl|rfl<;>exact⟨by kernel_rfl,of_decide_eq_true (by kernel_rfl)⟩) B m.below (λx d=>o x (η _ d)) _ (λx d=>by simpa using o x (η _ d))
 .rfl
noncomputable def H8 (os:Os):World:=
 let w0:=World.holding β os ⟨#[],#[],[]⟩
 {w0 with heap:=w0.heap.modify 0 λ
  | .cells _ t frozen=>.cells #[.int .u64 1,.int .u64 0,.bool false,.int .u64 0] t frozen
  |o=>o}
theorem adw (os:Os):laidMet β γ.laid ((H8 os).forCall (λ_ _=>0) ⟨#[],#[(.agg #[.int .i64 0,.int .i64 0,.int .i64 0,.int .i64 0,.int .i64 0,.int .i64 0,.int .i64 0,.int .i64 0,.int .i64 0,.int .i64 0,.int .i64 0,.int .i64 0,.int .i64 0,.int .i64 0,.int .i64 0,.int .i64 0,.slice none 0 0,.slice none 0 0,.slice none 0 0,.int .u64 0,.slice none 0 0,.slice none 0 0]:Value),(.slice none 0 0:Value)],[]⟩).memory:=
 laidMet_of_run' 8 (by kernel_rfl) (by kernel_rfl)
theorem reads (os:Os) {H:Type} (enc:TypeId×Value->H):(DataW.whole enc β ((H8 os).forCall (λ_ _=>0) ⟨#[],#[(.agg #[.int .i64 0,.int .i64 0,.int .i64 0,.int .i64 0,.int .i64 0,.int .i64 0,.int .i64 0,.int .i64 0,.int .i64 0,.int .i64 0,.int .i64 0,.int .i64 0,.int .i64 0,.int .i64 0,.int .i64 0,.int .i64 0,.slice none 0 0,.slice none 0 0,.slice none 0 0,.int .u64 0,.slice none 0 0,.slice none 0 0]:Value),(.slice none 0 0:Value)],[]⟩).memory ζ.params.toList δ.vars false (#[(.agg #[.int .i64 0,.int .i64 0,.int .i64 0,.int .i64 0,.int .i64 0,.int .i64 0,.int .i64 0,.int .i64 0,.int .i64 0,.int .i64 0,.int .i64 0,.int .i64 0,.int .i64 0,.int .i64 0,.int .i64 0,.int .i64 0,.slice none 0 0,.slice none 0 0,.slice none 0 0,.int .u64 0,.slice none 0 0,.slice none 0 0]:Value),(.slice none 0 0:Value)]:Array Value).toList 8).map (λx=>(x.1,x.2.1))=some ([.agg [.agg [.agg [.lit (.int .i64 0),.lit (.int .i64 0),.lit (.int .i64 0),.lit (.int .i64 0),.lit (.int .i64 0),.lit (.int .i64 0),.lit (.int .i64 0),.lit (.int .i64 0),.lit (.int .i64 0),.lit (.int .i64 0),.lit (.int .i64 0),.lit (.int .i64 0),.lit (.int .i64 0),.lit (.int .i64 0),.lit (.int .i64 0),.lit (.int .i64 0)],.nil],.nil,.agg [.nil,.lit (.int .u64 0)],.agg [.nil,.nil]],.nil],[]):=by kernel_rfl
theorem lifted (os:Os) (started:os.Started) (H:Type) (enc:TypeId×Value->H) (F:Stop.Interp):
  ReturnsInHanded {} κ os 4 .any ((ε δ).preRow enc β ζ γ.domain false γ.laid) (((ε δ).at F).post enc β ζ false true false false):=by
 obtain⟨⟨g,z2,z3⟩,f,a⟩:=Option.map_eq_some_iff.1 (reads os enc);simp only[Prod.mk.injEq] at a;obtain⟨rfl,rfl⟩:=a;refine returnsInHanded_of_row (C:=κ) (s:=ε δ) own started (by kernel_rfl) ξ
  (witness_row_atRef (enc:=enc) (C:=κ) false (H8 os) #[(.agg #[.int .i64 0,.int .i64 0,.int .i64 0,.int .i64 0,.int .i64 0,.int .i64 0,.int .i64 0,.int .i64 0,.int .i64 0,.int .i64 0,.int .i64 0,.int .i64 0,.int .i64 0,.int .i64 0,.int .i64 0,.int .i64 0,.slice none 0 0,.slice none 0 0,.slice none 0 0,.int .u64 0,.slice none 0 0,.slice none 0 0]:Value),(.slice none 0 0:Value)] rfl (by kernel_rfl) (by kernel_rfl) (by kernel_rfl)
   (OpenSpec.preRow_of_cond 8 f (by kernel_rfl) (λk d=>by cases d) (by kernel_rfl) (adw os))) ?_
 intro W base args ds gs before e c _ _ _ b _ _;exact abf H enc W base args ds gs before e c b
theorem ahN:(γ.inPlace==β.inPlace 4)=true:=by kernel_rfl
theorem ahQ:(γ.unfollowed==β.unfollowed 4)=true:=by kernel_rfl
theorem ahP:(γ.recurses==β.recurses 4)=true:=by kernel_rfl
theorem ahO:(γ.named==β.varsNamed 4)=true:=by kernel_rfl
theorem facts:joinedFacts β 4 ζ (ε δ).bare γ=true:=by
 unfold joinedFacts;rw[ahN,ahQ,ahP,ahO]
 kernel_rfl
theorem said:Rows.ModelDoesSaid:=
 OpenClaim.holds_of_cond 4 ζ rfl rfl rfl rfl rfl rfl rfl ⟨rfl,rfl,rfl,rfl,rfl⟩ rfl rfl rfl rfl rfl (by kernel_rfl) ξ facts
  (of_decide_eq_true (by kernel_rfl)) (by unfold Func.isWrapper;first|(rw[if_pos (by decide+kernel)];kernel_rfl)|(rw[if_neg (by decide+kernel)];exact⟨rfl,rfl⟩))
  (λos started H enc _ F=>by rw[OpenClaim.pre_eq_preRow];exact lifted os started H enc F)
theorem plain (f:FuncId) (fn:Func) (b:θ.checked.prog.funcNamed "afterglow/afterglowlaw26.ModelDoes" =some f) (c:θ.checked.prog.funcs[f]? =some fn):
  true=θ.checked.prog.looks []/\ ∀(j:Nat) t,fn.params[j]? =some t->θ.checked.prog.wantsStandIn t=false:=by
 obtain rfl:f=4:=ν ((show β.funcNamed "afterglow/afterglowlaw26.ModelDoes" =some 4 by kernel_rfl).symm.trans b)|>.symm;obtain rfl:fn=ζ:=(ν (ξ.symm.trans c)).symm;refine⟨by kernel_rfl,λj t a=>?_⟩;rw[ι] at a;have a:=Array.mem_of_getElem? a;simp only[List.mem_toArray,ο,μ,or_false] at a;rcases a with rfl|rfl
 .exact(show β.wantsStandIn 36=false by kernel_rfl)
 .exact(show β.wantsStandIn 46=false by kernel_rfl)
theorem card:Rows.ModelDoesCardSaid:=
 Claim7.holds_tied_plain_at .later [] _ _ _ _ said (λ_ h=>by cases h) (by kernel_rfl) (λ_ h=>by cases h) modelDoes_row_tie rfl ⟨rfl,rfl⟩ (by kernel_rfl) rfl plain (by kernel_rfl)
end Go.Proofs.YtdhaaaeffhaadaaGreatDoor.modelDoes
end
