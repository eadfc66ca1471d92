/-
  The rows of the program's types, and what its structs are (printed by a tool of the prover's).
-/
import Derived.Test.YtbaffpifmfddeaaDoorGPlain
import Derived.Test.YtbaffpifmfddeaaDoorDcIns
import Derived.Test.YtbaffpifmfddeaaDoorProg
import Derived.KernelRfl
import Derived.Shelf.Abstract
namespace Go.Proofs.YtbaffpifmfddeaaDoor
open Go.RowKit Go.Dc Go.Shelf
/-- the rows of the types that the walks meet -/
def Θ : Tys := [(3, ⟨2, 3, 0, [], 1, 8, .int .i64 0⟩),
  (4, ⟨1, 0, 0, [], 1, 1, .bool false⟩),
  (22, ⟨5, 0, 29, [], 1, 24, .slice none 0 0⟩),
  (25, ⟨2, 3, 0, [], 1, 8, .int .i64 0⟩),
  (27, ⟨2, 7, 0, [], 1, 8, .int .u64 0⟩),
  (28, ⟨8, 0, 0, [(27, 0), (3, 1), (27, 2)], 3, 24, .agg #[.int .u64 0, .int .i64 0, .int .u64 0]⟩),
  (29, ⟨8, 0, 0, [(27, 0), (3, 1), (27, 2)], 3, 24, .agg #[.int .u64 0, .int .i64 0, .int .u64 0]⟩),
  (38, ⟨5, 0, 27, [], 1, 24, .slice none 0 0⟩),
  (46, ⟨9, 0, 0, [], 1, 8, .nilFunc⟩),
  (52, ⟨9, 0, 0, [], 1, 8, .nilFunc⟩),
  (54, ⟨6, 8, 4, [], 8, 8, .agg #[.bool false, .bool false, .bool false, .bool false, .bool false, .bool false, .bool false, .bool false]⟩),
  (55, ⟨9, 0, 0, [], 1, 8, .nilFunc⟩),
  (56, ⟨9, 0, 0, [], 1, 8, .nilFunc⟩),
  (59, ⟨5, 0, 4, [], 1, 24, .slice none 0 0⟩),
  (63, ⟨5, 0, 3, [], 1, 24, .slice none 0 0⟩),
  (66, ⟨5, 0, 76, [], 1, 24, .slice none 0 0⟩),
  (72, ⟨2, 7, 0, [], 1, 8, .int .u64 0⟩),
  (75, ⟨8, 0, 0, [(3, 0), (3, 1)], 2, 16, .agg #[.int .i64 0, .int .i64 0]⟩),
  (76, ⟨8, 0, 0, [(3, 0), (3, 1)], 2, 16, .agg #[.int .i64 0, .int .i64 0]⟩),
  (78, ⟨8, 0, 0, [(76, 0)], 2, 16, .agg #[.int .i64 0, .int .i64 0]⟩),
  (79, ⟨8, 0, 0, [(76, 0)], 2, 16, .agg #[.int .i64 0, .int .i64 0]⟩)]
theorem Θ_ok : Θ.ok Tryd.prog := ⟨⟨by kernel_rfl, by kernel_rfl⟩, ⟨by kernel_rfl, by kernel_rfl⟩, ⟨by kernel_rfl, by kernel_rfl⟩, ⟨by kernel_rfl, by kernel_rfl⟩, ⟨by kernel_rfl, by kernel_rfl⟩, ⟨by kernel_rfl, by kernel_rfl⟩, ⟨by kernel_rfl, by kernel_rfl⟩, ⟨by kernel_rfl, by kernel_rfl⟩, ⟨by kernel_rfl, by kernel_rfl⟩, ⟨by kernel_rfl, by kernel_rfl⟩, ⟨by kernel_rfl, by kernel_rfl⟩, ⟨by kernel_rfl, by kernel_rfl⟩, ⟨by kernel_rfl, by kernel_rfl⟩, ⟨by kernel_rfl, by kernel_rfl⟩, ⟨by kernel_rfl, by kernel_rfl⟩, ⟨by kernel_rfl, by kernel_rfl⟩, ⟨by kernel_rfl, by kernel_rfl⟩, ⟨by kernel_rfl, by kernel_rfl⟩, ⟨by kernel_rfl, by kernel_rfl⟩, ⟨by kernel_rfl, by kernel_rfl⟩, ⟨by kernel_rfl, by kernel_rfl⟩, trivial⟩
theorem mixed : Tryd.prog.follows .mixedOrders = true := by kernel_rfl
theorem ent6 : ∀ (vs : Array Value) (u : World), (callFunc 6 vs).run Tryd.prog u = .ok (.enter 6 vs) u := enters_of Tryd.func6 (by kernel_rfl) rfl
theorem ent7 : ∀ (vs : Array Value) (u : World), (callFunc 7 vs).run Tryd.prog u = .ok (.enter 7 vs) u := enters_of Tryd.func7 (by kernel_rfl) rfl
theorem ent8 : ∀ (vs : Array Value) (u : World), (callFunc 8 vs).run Tryd.prog u = .ok (.enter 8 vs) u := enters_of Tryd.func8 (by kernel_rfl) rfl
theorem ent9 : ∀ (vs : Array Value) (u : World), (callFunc 9 vs).run Tryd.prog u = .ok (.enter 9 vs) u := enters_of Tryd.func9 (by kernel_rfl) rfl
theorem ent10 : ∀ (vs : Array Value) (u : World), (callFunc 10 vs).run Tryd.prog u = .ok (.enter 10 vs) u := enters_of Tryd.func10 (by kernel_rfl) rfl
theorem ent11 : ∀ (vs : Array Value) (u : World), (callFunc 11 vs).run Tryd.prog u = .ok (.enter 11 vs) u := enters_of Tryd.func11 (by kernel_rfl) rfl
theorem ent12 : ∀ (vs : Array Value) (u : World), (callFunc 12 vs).run Tryd.prog u = .ok (.enter 12 vs) u := enters_of Tryd.func12 (by kernel_rfl) rfl
theorem ent13 : ∀ (vs : Array Value) (u : World), (callFunc 13 vs).run Tryd.prog u = .ok (.enter 13 vs) u := enters_of Tryd.func13 (by kernel_rfl) rfl
theorem ent14 : ∀ (vs : Array Value) (u : World), (callFunc 14 vs).run Tryd.prog u = .ok (.enter 14 vs) u := enters_of Tryd.func14 (by kernel_rfl) rfl
theorem ent15 : ∀ (vs : Array Value) (u : World), (callFunc 15 vs).run Tryd.prog u = .ok (.enter 15 vs) u := enters_of Tryd.func15 (by kernel_rfl) rfl
theorem ent16 : ∀ (vs : Array Value) (u : World), (callFunc 16 vs).run Tryd.prog u = .ok (.enter 16 vs) u := enters_of Tryd.func16 (by kernel_rfl) rfl
theorem ent17 : ∀ (vs : Array Value) (u : World), (callFunc 17 vs).run Tryd.prog u = .ok (.enter 17 vs) u := enters_of Tryd.func17 (by kernel_rfl) rfl
theorem ent18 : ∀ (vs : Array Value) (u : World), (callFunc 18 vs).run Tryd.prog u = .ok (.enter 18 vs) u := enters_of Tryd.func18 (by kernel_rfl) rfl
theorem ent19 : ∀ (vs : Array Value) (u : World), (callFunc 19 vs).run Tryd.prog u = .ok (.enter 19 vs) u := enters_of Tryd.func19 (by kernel_rfl) rfl
theorem ent20 : ∀ (vs : Array Value) (u : World), (callFunc 20 vs).run Tryd.prog u = .ok (.enter 20 vs) u := enters_of Tryd.func20 (by kernel_rfl) rfl
theorem ent21 : ∀ (vs : Array Value) (u : World), (callFunc 21 vs).run Tryd.prog u = .ok (.enter 21 vs) u := enters_of Tryd.func21 (by kernel_rfl) rfl
theorem ent22 : ∀ (vs : Array Value) (u : World), (callFunc 22 vs).run Tryd.prog u = .ok (.enter 22 vs) u := enters_of Tryd.func22 (by kernel_rfl) rfl
theorem ent23 : ∀ (vs : Array Value) (u : World), (callFunc 23 vs).run Tryd.prog u = .ok (.enter 23 vs) u := enters_of Tryd.func23 (by kernel_rfl) rfl
theorem ent24 : ∀ (vs : Array Value) (u : World), (callFunc 24 vs).run Tryd.prog u = .ok (.enter 24 vs) u := enters_of Tryd.func24 (by kernel_rfl) rfl
theorem ent25 : ∀ (vs : Array Value) (u : World), (callFunc 25 vs).run Tryd.prog u = .ok (.enter 25 vs) u := enters_of Tryd.func25 (by kernel_rfl) rfl
theorem ent26 : ∀ (vs : Array Value) (u : World), (callFunc 26 vs).run Tryd.prog u = .ok (.enter 26 vs) u := enters_of Tryd.func26 (by kernel_rfl) rfl
theorem ent27 : ∀ (vs : Array Value) (u : World), (callFunc 27 vs).run Tryd.prog u = .ok (.enter 27 vs) u := enters_of Tryd.func27 (by kernel_rfl) rfl
theorem ent28 : ∀ (vs : Array Value) (u : World), (callFunc 28 vs).run Tryd.prog u = .ok (.enter 28 vs) u := enters_of Tryd.func28 (by kernel_rfl) rfl
theorem ent29 : ∀ (vs : Array Value) (u : World), (callFunc 29 vs).run Tryd.prog u = .ok (.enter 29 vs) u := enters_of Tryd.func29 (by kernel_rfl) rfl
theorem ent30 : ∀ (vs : Array Value) (u : World), (callFunc 30 vs).run Tryd.prog u = .ok (.enter 30 vs) u := enters_of Tryd.func30 (by kernel_rfl) rfl
theorem ent31 : ∀ (vs : Array Value) (u : World), (callFunc 31 vs).run Tryd.prog u = .ok (.enter 31 vs) u := enters_of Tryd.func31 (by kernel_rfl) rfl
theorem ent32 : ∀ (vs : Array Value) (u : World), (callFunc 32 vs).run Tryd.prog u = .ok (.enter 32 vs) u := enters_of Tryd.func32 (by kernel_rfl) rfl
theorem ent33 : ∀ (vs : Array Value) (u : World), (callFunc 33 vs).run Tryd.prog u = .ok (.enter 33 vs) u := enters_of Tryd.func33 (by kernel_rfl) rfl
theorem ent34 : ∀ (vs : Array Value) (u : World), (callFunc 34 vs).run Tryd.prog u = .ok (.enter 34 vs) u := enters_of Tryd.func34 (by kernel_rfl) rfl
theorem ent35 : ∀ (vs : Array Value) (u : World), (callFunc 35 vs).run Tryd.prog u = .ok (.enter 35 vs) u := enters_of Tryd.func35 (by kernel_rfl) rfl
theorem ent36 : ∀ (vs : Array Value) (u : World), (callFunc 36 vs).run Tryd.prog u = .ok (.enter 36 vs) u := enters_of Tryd.func36 (by kernel_rfl) rfl
theorem ent37 : ∀ (vs : Array Value) (u : World), (callFunc 37 vs).run Tryd.prog u = .ok (.enter 37 vs) u := enters_of Tryd.func37 (by kernel_rfl) rfl
theorem ent38 : ∀ (vs : Array Value) (u : World), (callFunc 38 vs).run Tryd.prog u = .ok (.enter 38 vs) u := enters_of Tryd.func38 (by kernel_rfl) rfl
theorem ent39 : ∀ (vs : Array Value) (u : World), (callFunc 39 vs).run Tryd.prog u = .ok (.enter 39 vs) u := enters_of Tryd.func39 (by kernel_rfl) rfl
theorem ent40 : ∀ (vs : Array Value) (u : World), (callFunc 40 vs).run Tryd.prog u = .ok (.enter 40 vs) u := enters_of Tryd.func40 (by kernel_rfl) rfl
theorem ent41 : ∀ (vs : Array Value) (u : World), (callFunc 41 vs).run Tryd.prog u = .ok (.enter 41 vs) u := enters_of Tryd.func41 (by kernel_rfl) rfl
theorem ent44 : ∀ (vs : Array Value) (u : World), (callFunc 44 vs).run Tryd.prog u = .ok (.enter 44 vs) u := enters_of Tryd.func44 (by kernel_rfl) rfl
theorem ent45 : ∀ (vs : Array Value) (u : World), (callFunc 45 vs).run Tryd.prog u = .ok (.enter 45 vs) u := enters_of Tryd.func45 (by kernel_rfl) rfl
theorem ent46 : ∀ (vs : Array Value) (u : World), (callFunc 46 vs).run Tryd.prog u = .ok (.enter 46 vs) u := enters_of Tryd.func46 (by kernel_rfl) rfl
theorem ent47 : ∀ (vs : Array Value) (u : World), (callFunc 47 vs).run Tryd.prog u = .ok (.enter 47 vs) u := enters_of Tryd.func47 (by kernel_rfl) rfl
theorem ent48 : ∀ (vs : Array Value) (u : World), (callFunc 48 vs).run Tryd.prog u = .ok (.enter 48 vs) u := enters_of Tryd.func48 (by kernel_rfl) rfl
theorem ent50 : ∀ (vs : Array Value) (u : World), (callFunc 50 vs).run Tryd.prog u = .ok (.enter 50 vs) u := enters_of Tryd.func50 (by kernel_rfl) rfl
theorem ent51 : ∀ (vs : Array Value) (u : World), (callFunc 51 vs).run Tryd.prog u = .ok (.enter 51 vs) u := enters_of Tryd.func51 (by kernel_rfl) rfl
theorem ent52 : ∀ (vs : Array Value) (u : World), (callFunc 52 vs).run Tryd.prog u = .ok (.enter 52 vs) u := enters_of Tryd.func52 (by kernel_rfl) rfl
def tGDesc : Ty GDesc := (Ty.pair (Ty.int .u64) (Ty.pair (Ty.int .i64) (Ty.int .u64))).iso fun d => (d.fPid, d.fFd, d.fWhat)
def encGDesc (x : GDesc) : Value := .agg #[.int .u64 x.fPid, .int .i64 x.fFd, .int .u64 x.fWhat]
theorem tGDesc_is {O : List Nat} {w : World} {v : Value} {x : GDesc} : tGDesc.is O w v x ↔ v = .agg #[.int .u64 x.fPid, .int .i64 x.fFd, .int .u64 x.fWhat] := by
  constructor
  · rintro ⟨cs, ⟨_, _, rfl, rfl, ⟨_, _, rfl, rfl, rfl⟩⟩, rfl⟩
    exact rfl
  · rintro rfl
    exact ⟨[.int .u64 x.fPid, .int .i64 x.fFd, .int .u64 x.fWhat], ⟨[.int .u64 x.fPid], [.int .i64 x.fFd, .int .u64 x.fWhat], rfl, rfl, ⟨[.int .i64 x.fFd], [.int .u64 x.fWhat], rfl, rfl, rfl⟩⟩, rfl⟩
theorem tGDesc_rep {O : List Nat} {w : World} {cs : List Value} {x : GDesc} (h : tGDesc.rep O w cs x) : cs = [.int .u64 x.fPid, .int .i64 x.fFd, .int .u64 x.fWhat] := by
  obtain ⟨_, _, rfl, rfl, ⟨_, _, rfl, rfl, rfl⟩⟩ := h
  exact rfl
def tGField : Ty GField := (Ty.pair (Ty.int .i64) (Ty.int .i64)).iso fun d => (d.fAt, d.fWide)
def encGField (x : GField) : Value := .agg #[.int .i64 x.fAt, .int .i64 x.fWide]
theorem tGField_is {O : List Nat} {w : World} {v : Value} {x : GField} : tGField.is O w v x ↔ v = .agg #[.int .i64 x.fAt, .int .i64 x.fWide] := by
  constructor
  · rintro ⟨cs, ⟨_, _, rfl, rfl, rfl⟩, rfl⟩
    exact rfl
  · rintro rfl
    exact ⟨[.int .i64 x.fAt, .int .i64 x.fWide], ⟨[.int .i64 x.fAt], [.int .i64 x.fWide], rfl, rfl, rfl⟩, rfl⟩
theorem tGField_rep {O : List Nat} {w : World} {cs : List Value} {x : GField} (h : tGField.rep O w cs x) : cs = [.int .i64 x.fAt, .int .i64 x.fWide] := by
  obtain ⟨_, _, rfl, rfl, rfl⟩ := h
  exact rfl
def tGBitsField : Ty GBitsField := (Ty.single tGField).iso fun d => d.fField
def encGBitsField (x : GBitsField) : Value := .agg #[.int .i64 x.fField.fAt, .int .i64 x.fField.fWide]
theorem tGBitsField_is {O : List Nat} {w : World} {v : Value} {x : GBitsField} : tGBitsField.is O w v x ↔ v = .agg #[.int .i64 x.fField.fAt, .int .i64 x.fField.fWide] := by
  constructor
  · rintro ⟨cs, ⟨_, _, rfl, rfl, rfl⟩, rfl⟩
    exact rfl
  · rintro rfl
    exact ⟨[.int .i64 x.fField.fAt, .int .i64 x.fField.fWide], ⟨[.int .i64 x.fField.fAt], [.int .i64 x.fField.fWide], rfl, rfl, rfl⟩, rfl⟩
theorem tGBitsField_rep {O : List Nat} {w : World} {cs : List Value} {x : GBitsField} (h : tGBitsField.rep O w cs x) : cs = [.int .i64 x.fField.fAt, .int .i64 x.fField.fWide] := by
  obtain ⟨_, _, rfl, rfl, rfl⟩ := h
  exact rfl
theorem eqi29 (d : Nat) (w : World) (x y : GDesc) : (Op.equalIn (d + 2) 29 (.agg #[.int .u64 x.fPid, .int .i64 x.fFd, .int .u64 x.fWhat]) (.agg #[.int .u64 y.fPid, .int .i64 y.fFd, .int .u64 y.fWhat])).run Tryd.prog w = .ok (eqGDesc x y) w := by
  have hS : Tryd.prog.underlying 29 = some (.struct (Tryd.prog.fieldsOf 29)) := by kernel_rfl
  have hp : Tryd.prog.stoodInHeld 29 = false := by kernel_rfl
  rw [show d + 2 = (d + 1) + 1 from rfl, run_equalIn_agg w _ 29 _ _ hS hp]
  simp only [Program.fieldsOf, Tryd.underlying29]
  unfold eqGDesc
  go_simp
  by_cases h0 : x.fPid = y.fPid <;> by_cases h1 : x.fFd = y.fFd <;> by_cases h2 : x.fWhat = y.fWhat <;> simp_all
theorem eql29 {ox oy : Operand} {w : World} (x y : GDesc) : (do eqGuard .eql 29 ox oy (.agg #[.int .u64 x.fPid, .int .i64 x.fFd, .int .u64 x.fWhat]) (.agg #[.int .u64 y.fPid, .int .i64 y.fFd, .int .u64 y.fWhat]); binOp .eql 29 (.agg #[.int .u64 x.fPid, .int .i64 x.fFd, .int .u64 x.fWhat]) (.agg #[.int .u64 y.fPid, .int .i64 y.fFd, .int .u64 y.fWhat]) : Sem Value).run Tryd.prog w = .ok (.bool (eqGDesc x y)) w := by
  simp only [Sem.run_bind]
  rw [run_eqGuard_agg w .eql 29 ox oy _ _ (by kernel_rfl)]
  simp only [Result.andThen_ok]
  rw [run_eql_struct, show (10000 : Nat) = 9998 + 2 from rfl, eqi29]
  rfl
theorem neq29 {ox oy : Operand} {w : World} (x y : GDesc) : (do eqGuard .neq 29 ox oy (.agg #[.int .u64 x.fPid, .int .i64 x.fFd, .int .u64 x.fWhat]) (.agg #[.int .u64 y.fPid, .int .i64 y.fFd, .int .u64 y.fWhat]); binOp .neq 29 (.agg #[.int .u64 x.fPid, .int .i64 x.fFd, .int .u64 x.fWhat]) (.agg #[.int .u64 y.fPid, .int .i64 y.fFd, .int .u64 y.fWhat]) : Sem Value).run Tryd.prog w = .ok (.bool (!eqGDesc x y)) w := by
  simp only [Sem.run_bind]
  rw [run_eqGuard_agg w .neq 29 ox oy _ _ (by kernel_rfl)]
  simp only [Result.andThen_ok]
  rw [run_neq_struct, show (10000 : Nat) = 9998 + 2 from rfl, eqi29]
  rfl
end Go.Proofs.YtbaffpifmfddeaaDoor
