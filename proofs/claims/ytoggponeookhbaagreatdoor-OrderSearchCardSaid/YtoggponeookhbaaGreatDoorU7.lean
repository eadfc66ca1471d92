/- A part of the proof that OrderSearch returns true for every input: the machine of values, its soundness, the program as plain functions, the law. Conditions: those of the given rows. -/
import Derived.Test.YtoggponeookhbaaGreatDoorU6
import Derived.Deep.DeepHandedRow
import Derived.Deep.DeepWitnessRowRef
import Derived.JoinedCond
set_option linter.unusedVariables false
set_option linter.unusedSimpArgs false
noncomputable section
set_option maxRecDepth 1000000
set_option maxHeartbeats 12000000
open Go.OpenSpec renaming ofChange→ε
open Go.Proofs.Tryz renaming prog→γ,f3→ζ,params3→ι,checked→κ,func3→ξ
open Go.Proofs.YtoggponeookhbaaGreatDoor.Rows renaming orderSearchRow→β,orderSearchSpec→δ
open Go.Proofs.YtoggponeookhbaaGreatDoor.Tryz renaming pinned→θ
open List renaming mem_append_left→η,not_mem_nil→μ,mem_cons→ο
open Option.some renaming inj→ν
section
namespace Go.Proofs.YtoggponeookhbaaGreatDoor.orderSearch
open Go.ChangeShapes Go.WideShapes Go.ChangeAt Go.RowKit Go.Dc Go.Vx
theorem own:ownKnob γ.godebug=none:=by kernel_rfl
theorem laidOut:laidOutB γ=true:=by kernel_rfl
theorem abJ (H:Type) (enc:TypeId×Value->H) (W:World) (base:Nat) (args:Array Value) (ds gs:List (DataW H)) (before:List MemPlace)
  (o: ∀(j:Nat) t v,ζ.params[j]? =some t->args[j]? =some v->Value.okWide γ W .any base t v)
  (a:DataW.Whole enc γ ζ.params.toList δ.vars false W args.toList ds gs before) (z:laidMetH γ β.laid W):
  Calls γ 3 args W λe d=> ∃v,e= .returned v/\δ.post enc γ ζ false true false false W args v d:=by
 have B:=a;have m:=a.lt;obtain⟨p,q,i,A,rfl,D,M⟩:=a;have f:DataW.TrodAll enc γ W 0 (λ_=>true) true ζ.params.toList args.toList ds p:=i;have y:=i;rw[ι] at f o;obtain⟨v0,P,d0,K,I,N,L,rfl,rfl,u,J⟩:=trodAll_cons f;obtain⟨rfl,rfl,rfl⟩:=trodAll_nil J;obtain rfl:args= #[v0]:=by cases args;simp_all
 obtain⟨rfl,rfl⟩:=trodVars_none A;obtain⟨x0,G,r⟩:=ae8.arg (o 0 24 v0 rfl rfl) u (λb off hm=>D b off (by simp[hm]));obtain⟨Q,E,s⟩:=ad8 (g:=0) (by kernel_rfl) (by kernel_rfl) ae6 (by decide) (ad7 z (.head _));obtain rfl:=acY s;have C:=ad5 (O:=[]) (w:=W) (λk hk=>by cases hk) E G (Y1 (aj2 r));refine C.mono λe d ⟨v,he,F,l⟩=>?_;subst he;obtain rfl:=jx.1 F;refine⟨_,rfl,_,_,_,[],I++[],[],B,?_,?_,?_,l.below.frame _,λh=>by cases h⟩
 ·exact trodAll_cons_mk (shut_bool Tryz.underlying4 _) trodAll_mk0
 ·exact Np laidOut (by rw[ι];intro t n;simp only[ο,μ,or_false] at n;subst n;exact⟨by kernel_rfl,of_decide_eq_true (by kernel_rfl)⟩) y l.below (λx c=>m x (η _ c)) _ (λx c=>by simpa using m x (η _ c))
 ·rfl
noncomputable def H2 (os:Os):World:=
 let w0:=World.holding γ os ⟨#[],#[],[]⟩
 {w0 with heap:=w0.heap.modify 0 λ
  | .cells _ t frozen=>.cells #[.int .u64 1,.int .u64 0,.bool false,.int .u64 0] t frozen
  |o=>o}
theorem ad6 (os:Os):laidMet γ β.laid ((H2 os).forCall (λ_ _=>0) ⟨#[],#[(.agg #[.slice none 0 0]:Value)],[]⟩).memory:=
 laidMet_of_run' 8 (by kernel_rfl) (by kernel_rfl)
theorem reads (os:Os) {H:Type} (enc:TypeId×Value->H):(DataW.whole enc γ ((H2 os).forCall (λ_ _=>0) ⟨#[],#[(.agg #[.slice none 0 0]:Value)],[]⟩).memory ζ.params.toList δ.vars false (#[(.agg #[.slice none 0 0]:Value)]:Array Value).toList 8).map (λx=>(x.1,x.2.1))=some ([.agg [.nil]],[]):=by kernel_rfl
theorem lifted (os:Os) (started:os.Started) (H:Type) (enc:TypeId×Value->H) (F:Stop.Interp):
  ReturnsInHanded {} κ os 3 .any ((ε δ).preRow enc γ ζ β.domain false β.laid) (((ε δ).at F).post enc γ ζ false true false false):=by
 obtain⟨⟨f,z2,z3⟩,e,a⟩:=Option.map_eq_some_iff.1 (reads os enc);simp only[Prod.mk.injEq] at a;obtain⟨rfl,rfl⟩:=a;refine returnsInHanded_of_row (C:=κ) (s:=ε δ) own started (by kernel_rfl) ξ
  (witness_row_atRef (enc:=enc) (C:=κ) false (H2 os) #[(.agg #[.slice none 0 0]:Value)] rfl (by kernel_rfl) (by kernel_rfl) (by kernel_rfl)
   (OpenSpec.preRow_of_cond 8 e (by kernel_rfl) (λk hk=>by cases hk) (by kernel_rfl) (ad6 os))) ?_
 intro W base args ds gs before d c _ _ _ b _ _;exact abJ H enc W base args ds gs before d c b
theorem aie:(β.inPlace==γ.inPlace 3)=true:=by kernel_rfl
theorem aii:(β.unfollowed==γ.unfollowed 3)=true:=by kernel_rfl
theorem aih:(β.recurses==γ.recurses 3)=true:=by kernel_rfl
theorem aif:(β.named==γ.varsNamed 3)=true:=by kernel_rfl
theorem facts:joinedFacts γ 3 ζ (ε δ).bare β=true:=by
 unfold joinedFacts;rw[aie,aii,aih,aif]
 kernel_rfl
theorem said:Rows.OrderSearchSaid:=
 OpenClaim.holds_of_cond 3 ζ rfl rfl rfl rfl rfl rfl rfl ⟨rfl,rfl,rfl,rfl,rfl⟩ rfl rfl rfl rfl rfl (by kernel_rfl) ξ facts
  (of_decide_eq_true (by kernel_rfl)) (by unfold Func.isWrapper;first|(rw[if_pos (by decide+kernel)];kernel_rfl)|(rw[if_neg (by decide+kernel)];exact⟨rfl,rfl⟩))
  (λos started H enc _ F=>by rw[OpenClaim.pre_eq_preRow];exact lifted os started H enc F)
theorem plain (f:FuncId) (fn:Func) (b:θ.checked.prog.funcNamed "afterglow/afterglowlaw29.OrderSearch" =some f) (c:θ.checked.prog.funcs[f]? =some fn):
  true=θ.checked.prog.looks []/\ ∀(j:Nat) t,fn.params[j]? =some t->θ.checked.prog.wantsStandIn t=false:=by
 obtain rfl:f=3:=ν ((show γ.funcNamed "afterglow/afterglowlaw29.OrderSearch" =some 3 by kernel_rfl).symm.trans b)|>.symm;obtain rfl:fn=ζ:=(ν (ξ.symm.trans c)).symm;refine⟨by kernel_rfl,λj t a=>?_⟩;rw[ι] at a;have a:=Array.mem_of_getElem? a;simp only[List.mem_toArray,ο,μ,or_false] at a;subst a;exact(show γ.wantsStandIn 24=false by kernel_rfl)
theorem card:Rows.OrderSearchCardSaid:=
 Claim7.holds_tied_plain_at .later [] _ _ _ _ said (λ_ h=>by cases h) (by kernel_rfl) (λ_ h=>by cases h) orderSearch_row_tie rfl ⟨rfl,rfl⟩ (by kernel_rfl) rfl plain (by kernel_rfl)
end Go.Proofs.YtoggponeookhbaaGreatDoor.orderSearch
end
