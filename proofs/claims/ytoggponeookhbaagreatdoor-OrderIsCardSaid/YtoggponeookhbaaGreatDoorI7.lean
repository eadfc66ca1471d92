/- A part of the proof that OrderIs returns true for every input: the machine of values, its soundness, the program as plain functions, the law. Conditions: those of the given rows. -/
import Derived.Test.YtoggponeookhbaaGreatDoorI6
import Derived.Deep.DeepHandedRow
import Derived.Deep.DeepWitnessRowRef
import Derived.JoinedCond
set_option linter.unusedVariables false
set_option linter.unusedSimpArgs false
noncomputable section
set_option maxRecDepth 1000000
set_option maxHeartbeats 12000000
open Go.OpenSpec renaming ofChange→ε
open Go.Proofs.Tryz renaming prog→β,f5→ζ,params5→ι,checked→κ,func5→ξ
open Go.Proofs.YtoggponeookhbaaGreatDoor.Rows renaming orderIsSpec→γ,orderIsRow→δ
open Go.Proofs.YtoggponeookhbaaGreatDoor.Tryz renaming pinned→θ
open List renaming mem_append_left→η,not_mem_nil→μ,mem_cons→ο
open Option.some renaming inj→ν
section
namespace Go.Proofs.YtoggponeookhbaaGreatDoor.orderIs
open Go.ChangeShapes Go.WideShapes Go.ChangeAt Go.RowKit Go.Dc Go.Vx
theorem own:ownKnob β.godebug=none:=by kernel_rfl
theorem laidOut:laidOutB β=true:=by kernel_rfl
theorem VI (H:Type) (enc:TypeId×Value->H) (W:World) (base:Nat) (args:Array Value) (ds gs:List (DataW H)) (before:List MemPlace)
  (o: ∀(j:Nat) t v,ζ.params[j]? =some t->args[j]? =some v->Value.okWide β W .any base t v)
  (a:DataW.Whole enc β ζ.params.toList γ.vars false W args.toList ds gs before) (z:laidMetH β δ.laid W):
  Calls β 5 args W λe d=> ∃v,e= .returned v/\γ.post enc β ζ false true false false W args v d:=by
 have B:=a;have m:=a.lt;obtain⟨p,q,i,A,rfl,D,M⟩:=a;have f:DataW.TrodAll enc β W 0 (λ_=>true) true ζ.params.toList args.toList ds p:=i;have y:=i;rw[ι] at f o;obtain⟨v0,P,d0,K,I,N,L,rfl,rfl,u,J⟩:=trodAll_cons f;obtain⟨rfl,rfl,rfl⟩:=trodAll_nil J;obtain rfl:args= #[v0]:=by cases args;simp_all
 obtain⟨rfl,rfl⟩:=trodVars_none A;obtain⟨x0,G,r⟩:=abg.arg (o 0 24 v0 rfl rfl) u (λb off hm=>D b off (by simp[hm]));obtain⟨Q,E,s⟩:=aaj (g:=0) (by kernel_rfl) (by kernel_rfl) abe (by decide) (aai z (.head _));obtain rfl:=Y7 s;have C:=aag (O:=[]) (w:=W) (λk hk=>by cases hk) E G (SL (aft r));refine C.mono λe d ⟨v,he,F,l⟩=>?_;subst he;obtain rfl:=ji.1 F;refine⟨_,rfl,_,_,_,[],(I++[]),[],B,?_,?_,?_,l.below.frame _,λh=>by cases h⟩
 ·exact trodAll_cons_mk (shut_bool Tryz.underlying4 _) trodAll_mk0
 ·exact IG laidOut (by rw[ι];intro t n;simp only[ο,μ,or_false] at n;subst n;exact⟨by kernel_rfl,of_decide_eq_true (by kernel_rfl)⟩) y l.below (λx c=>m x (η _ c)) _ (λx c=>by simpa using m x (η _ c))
 ·rfl
noncomputable def DX (os:Os):World:=
 let w0:=World.holding β os ⟨#[],#[],[]⟩
 {w0 with heap:=w0.heap.modify 0 λ
  | .cells _ t frozen=>.cells #[.int .u64 1,.int .u64 0,.bool false,.int .u64 0] t frozen
  |o=>o}
theorem aah (os:Os):laidMet β δ.laid ((DX os).forCall (λ_ _=>0) ⟨#[],#[(.agg #[.slice none 0 0]:Value)],[]⟩).memory:=
 laidMet_of_run' 8 (by kernel_rfl) (by kernel_rfl)
theorem reads (os:Os) {H:Type} (enc:TypeId×Value->H):(DataW.whole enc β ((DX os).forCall (λ_ _=>0) ⟨#[],#[(.agg #[.slice none 0 0]:Value)],[]⟩).memory ζ.params.toList γ.vars false (#[(.agg #[.slice none 0 0]:Value)]:Array Value).toList 8).map (λx=>(x.1,x.2.1))=some ([.agg [.nil]],[]):=by kernel_rfl
theorem lifted (os:Os) (started:os.Started) (H:Type) (enc:TypeId×Value->H) (F:Stop.Interp):
  ReturnsInHanded {} κ os 5 .any ((ε γ).preRow enc β ζ δ.domain false δ.laid) (((ε γ).at F).post enc β ζ false true false false):=by
 obtain⟨⟨f,z2,z3⟩,e,a⟩:=Option.map_eq_some_iff.1 (reads os enc);simp only[Prod.mk.injEq] at a;obtain⟨rfl,rfl⟩:=a;refine returnsInHanded_of_row (C:=κ) (s:=ε γ) own started (by kernel_rfl) ξ
  (witness_row_atRef (enc:=enc) (C:=κ) false (DX os) #[(.agg #[.slice none 0 0]:Value)] rfl (by kernel_rfl) (by kernel_rfl) (by kernel_rfl)
   (OpenSpec.preRow_of_cond 8 e (by kernel_rfl) (λk hk=>by cases hk) (by kernel_rfl) (aah os))) ?_
 intro W base args ds gs before d c _ _ _ b _ _;exact VI H enc W base args ds gs before d c b
theorem said:Rows.OrderIsSaid:=
 OpenClaim.holds_of_cond 5 ζ rfl rfl rfl rfl rfl rfl rfl ⟨rfl,rfl,rfl,rfl,rfl⟩ rfl rfl rfl rfl rfl (by kernel_rfl) ξ (by kernel_rfl)
  (of_decide_eq_true (by kernel_rfl)) (by unfold Func.isWrapper;first|(rw[if_pos (by decide+kernel)];kernel_rfl)|(rw[if_neg (by decide+kernel)];exact⟨rfl,rfl⟩))
  (λos started H enc _ F=>by rw[OpenClaim.pre_eq_preRow];exact lifted os started H enc F)
theorem plain (f:FuncId) (fn:Func) (b:θ.checked.prog.funcNamed "afterglow/afterglowlaw29.OrderIs" =some f) (c:θ.checked.prog.funcs[f]? =some fn):
  true=θ.checked.prog.looks []/\ ∀(j:Nat) t,fn.params[j]? =some t->θ.checked.prog.wantsStandIn t=false:=by
 obtain rfl:f=5:=ν ((show β.funcNamed "afterglow/afterglowlaw29.OrderIs" =some 5 by kernel_rfl).symm.trans b)|>.symm;obtain rfl:fn=ζ:=(ν (ξ.symm.trans c)).symm;refine⟨by kernel_rfl,λj t a=>?_⟩;rw[ι] at a;have a:=Array.mem_of_getElem? a;simp only[List.mem_toArray,ο,μ,or_false] at a;subst a;exact(show β.wantsStandIn 24=false by kernel_rfl)
theorem card:Rows.OrderIsCardSaid:=
 Claim7.holds_tied_plain_at .later [] _ _ _ _ said (λ_ h=>by cases h) (by kernel_rfl) (λ_ h=>by cases h) orderIs_row_tie rfl ⟨rfl,rfl⟩ (by kernel_rfl) rfl plain (by kernel_rfl)
end Go.Proofs.YtoggponeookhbaaGreatDoor.orderIs
end
