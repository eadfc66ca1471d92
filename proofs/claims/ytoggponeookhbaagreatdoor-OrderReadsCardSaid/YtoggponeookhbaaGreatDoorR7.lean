/- A part of the proof that OrderReads returns true for every input: the machine of values, its soundness, the program as plain functions, the law. Conditions: those of the given rows. -/
import Derived.Test.YtoggponeookhbaaGreatDoorR6
import Derived.Deep.DeepHandedRow
import Derived.Deep.DeepWitnessRowRef
import Derived.JoinedCond
set_option linter.unusedVariables false
set_option linter.unusedSimpArgs false
noncomputable section
set_option maxRecDepth 1000000
set_option maxHeartbeats 12000000
open Go.OpenSpec renaming ofChange→ε
open Go.Proofs.Tryz renaming prog→β,f4→ζ,params4→ι,checked→κ,func4→ξ
open Go.Proofs.YtoggponeookhbaaGreatDoor.Rows renaming orderReadsSpec→γ,orderReadsRow→δ
open Go.Proofs.YtoggponeookhbaaGreatDoor.Tryz renaming pinned→θ
open List renaming mem_append_left→η,not_mem_nil→μ,mem_cons→ο
open Option.some renaming inj→ν
section
namespace Go.Proofs.YtoggponeookhbaaGreatDoor.orderReads
open Go.ChangeShapes Go.WideShapes Go.ChangeAt Go.RowKit Go.Dc Go.Vx
theorem own:ownKnob β.godebug=none:=by kernel_rfl
theorem laidOut:laidOutB β=true:=by kernel_rfl
theorem UA (H:Type) (enc:TypeId×Value->H) (W:World) (base:Nat) (args:Array Value) (ds gs:List (DataW H)) (before:List MemPlace)
  (c: ∀(j:Nat) t v,ζ.params[j]? =some t->args[j]? =some v->Value.okWide β W .any base t v)
  (a:DataW.Whole enc β ζ.params.toList γ.vars false W args.toList ds gs before) (A:laidMetH β δ.laid W):
  Calls β 4 args W λe f=> ∃v,e= .returned v/\γ.post enc β ζ false true false false W args v f:=by
 have C:=a;have o:=a.lt;obtain⟨p,q,l,B,rfl,n,R⟩:=a;have i:DataW.TrodAll enc β W 0 (λ_=>true) true ζ.params.toList args.toList ds p:=l;have z:=l;rw[ι] at i c;obtain⟨v0,U,d0,N,p0,S,Q,rfl,rfl,y,K⟩:=trodAll_cons i;obtain⟨v1,V,d1,P,J,T,rfl,rfl,rfl,h1,L⟩:=trodAll_cons K;obtain⟨rfl,rfl,rfl⟩:=trodAll_nil L;obtain rfl:args= #[v0,v1]:=by cases args;simp_all
 obtain⟨rfl,rfl⟩:=trodVars_none B;obtain⟨x0,G,s⟩:=Z7.arg (c 0 24 v0 rfl rfl) y (λb off hm=>n b off (by simp[hm]));obtain⟨x1,I,M⟩:=qk.arg (c 1 3 v1 rfl rfl) h1 (λb off hm=>n b off (by simp[hm]));obtain⟨X,E,u⟩:=Y_ (g:=0) (by kernel_rfl) (by kernel_rfl) Z5 (by decide) (Y9 A (.head _));obtain rfl:=XW u;have D:=Y7 (O:=[]) (w:=W) (λk hk=>by cases hk) E G I (RQ (aed s) x1);refine D.mono λe f ⟨v,he,F,m⟩=>?_;subst he;obtain rfl:=jc.1 F;refine⟨_,rfl,_,_,_,[],(p0++(J++[])),[],C,?_,?_,?_,m.below.frame _,λh=>by cases h⟩
 ·exact trodAll_cons_mk (shut_bool Tryz.underlying4 _) trodAll_mk0
 ·exact HW laidOut (by rw[ι];intro t r;simp only[ο,μ,or_false] at r;rcases r with rfl|rfl<;>exact⟨by kernel_rfl,of_decide_eq_true (by kernel_rfl)⟩) z m.below (λx d=>o x (η _ d)) _ (λx d=>by simpa using o x (η _ d))
 ·rfl
noncomputable def Ds (os:Os):World:=
 let w0:=World.holding β os ⟨#[],#[],[]⟩
 {w0 with heap:=w0.heap.modify 0 λ
  | .cells _ t frozen=>.cells #[.int .u64 1,.int .u64 0,.bool false,.int .u64 0] t frozen
  |o=>o}
theorem Y8 (os:Os):laidMet β δ.laid ((Ds os).forCall (λ_ _=>0) ⟨#[],#[(.agg #[.slice none 0 0]:Value),(.int .i64 0:Value)],[]⟩).memory:=
 laidMet_of_run' 8 (by kernel_rfl) (by kernel_rfl)
theorem reads (os:Os) {H:Type} (enc:TypeId×Value->H):(DataW.whole enc β ((Ds os).forCall (λ_ _=>0) ⟨#[],#[(.agg #[.slice none 0 0]:Value),(.int .i64 0:Value)],[]⟩).memory ζ.params.toList γ.vars false (#[(.agg #[.slice none 0 0]:Value),(.int .i64 0:Value)]:Array Value).toList 8).map (λx=>(x.1,x.2.1))=some ([.agg [.nil],.lit (.int .i64 0)],[]):=by kernel_rfl
theorem lifted (os:Os) (started:os.Started) (H:Type) (enc:TypeId×Value->H) (F:Stop.Interp):
  ReturnsInHanded {} κ os 4 .any ((ε γ).preRow enc β ζ δ.domain false δ.laid) (((ε γ).at F).post enc β ζ false true false false):=by
 obtain⟨⟨f,z2,z3⟩,e,a⟩:=Option.map_eq_some_iff.1 (reads os enc);simp only[Prod.mk.injEq] at a;obtain⟨rfl,rfl⟩:=a;refine returnsInHanded_of_row (C:=κ) (s:=ε γ) own started (by kernel_rfl) ξ
  (witness_row_atRef (enc:=enc) (C:=κ) false (Ds os) #[(.agg #[.slice none 0 0]:Value),(.int .i64 0:Value)] rfl (by kernel_rfl) (by kernel_rfl) (by kernel_rfl)
   (OpenSpec.preRow_of_cond 8 e (by kernel_rfl) (λk hk=>by cases hk) (by kernel_rfl) (Y8 os))) ?_
 intro W base args ds gs before d c _ _ _ b _ _;exact UA H enc W base args ds gs before d c b
theorem said:Rows.OrderReadsSaid:=
 OpenClaim.holds_of_cond 4 ζ rfl rfl rfl rfl rfl rfl rfl ⟨rfl,rfl,rfl,rfl,rfl⟩ rfl rfl rfl rfl rfl (by kernel_rfl) ξ (by kernel_rfl)
  (of_decide_eq_true (by kernel_rfl)) (by unfold Func.isWrapper;first|(rw[if_pos (by decide+kernel)];kernel_rfl)|(rw[if_neg (by decide+kernel)];exact⟨rfl,rfl⟩))
  (λos started H enc _ F=>by rw[OpenClaim.pre_eq_preRow];exact lifted os started H enc F)
theorem plain (f:FuncId) (fn:Func) (b:θ.checked.prog.funcNamed "afterglow/afterglowlaw29.OrderReads" =some f) (c:θ.checked.prog.funcs[f]? =some fn):
  true=θ.checked.prog.looks []/\ ∀(j:Nat) t,fn.params[j]? =some t->θ.checked.prog.wantsStandIn t=false:=by
 obtain rfl:f=4:=ν ((show β.funcNamed "afterglow/afterglowlaw29.OrderReads" =some 4 by kernel_rfl).symm.trans b)|>.symm;obtain rfl:fn=ζ:=(ν (ξ.symm.trans c)).symm;refine⟨by kernel_rfl,λj t a=>?_⟩;rw[ι] at a;have a:=Array.mem_of_getElem? a;simp only[List.mem_toArray,ο,μ,or_false] at a;rcases a with rfl|rfl
 ·exact(show β.wantsStandIn 24=false by kernel_rfl)
 ·exact(show β.wantsStandIn 3=false by kernel_rfl)
theorem card:Rows.OrderReadsCardSaid:=
 Claim7.holds_tied_plain_at .later [] _ _ _ _ said (λ_ h=>by cases h) (by kernel_rfl) (λ_ h=>by cases h) orderReads_row_tie rfl ⟨rfl,rfl⟩ (by kernel_rfl) rfl plain (by kernel_rfl)
end Go.Proofs.YtoggponeookhbaaGreatDoor.orderReads
end
