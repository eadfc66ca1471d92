/-
  The rows of the program's types, and what its structs are (printed by a tool of the prover's).
-/
import Derived.Test.YtdemjanelbajlaaGPlain
import Derived.Test.YtdemjanelbajlaaDcGoto
import Derived.Test.YtdemjanelbajlaaDcNew
import Derived.Test.YtdemjanelbajlaaDcDrawK
import Derived.Test.YtdemjanelbajlaaProg
import Derived.KernelRfl
import Derived.Shelf.Abstract
namespace Go.Proofs.Ytdemjanelbajlaa
open Go.RowKit Go.Dc Go.Shelf
/-- the rows of the types that the walks meet -/
def Θ : Tys := [(3, ⟨2, 3, 0, [], 1, 8, .int .i64 0⟩),
  (4, ⟨1, 0, 0, [], 1, 1, .bool false⟩),
  (22, ⟨5, 0, 24, [], 1, 24, .slice none 0 0⟩),
  (24, ⟨6, 2, 3, [], 2, 16, .agg #[.int .i64 0, .int .i64 0]⟩),
  (25, ⟨2, 3, 0, [], 1, 8, .int .i64 0⟩),
  (31, ⟨2, 7, 0, [], 1, 8, .int .u64 0⟩),
  (35, ⟨5, 0, 31, [], 1, 24, .slice none 0 0⟩),
  (39, ⟨5, 0, 35, [], 1, 24, .slice none 0 0⟩),
  (45, ⟨9, 0, 0, [], 1, 8, .nilFunc⟩),
  (47, ⟨5, 0, 3, [], 1, 24, .slice none 0 0⟩),
  (61, ⟨7, 3, 3, [], 1, 8, .map none⟩),
  (64, ⟨9, 0, 0, [], 1, 8, .nilFunc⟩),
  (65, ⟨9, 0, 0, [], 1, 8, .nilFunc⟩),
  (73, ⟨9, 0, 0, [], 1, 8, .nilFunc⟩),
  (75, ⟨9, 0, 0, [], 1, 8, .nilFunc⟩),
  (76, ⟨2, 7, 0, [], 1, 8, .int .u64 0⟩)]
theorem Θ_ok : Θ.ok Try.prog := ⟨⟨by kernel_rfl, by kernel_rfl⟩, ⟨by kernel_rfl, by kernel_rfl⟩, ⟨by kernel_rfl, by kernel_rfl⟩, ⟨by kernel_rfl, by kernel_rfl⟩, ⟨by kernel_rfl, by kernel_rfl⟩, ⟨by kernel_rfl, by kernel_rfl⟩, ⟨by kernel_rfl, by kernel_rfl⟩, ⟨by kernel_rfl, by kernel_rfl⟩, ⟨by kernel_rfl, by kernel_rfl⟩, ⟨by kernel_rfl, by kernel_rfl⟩, ⟨by kernel_rfl, by kernel_rfl⟩, ⟨by kernel_rfl, by kernel_rfl⟩, ⟨by kernel_rfl, by kernel_rfl⟩, ⟨by kernel_rfl, by kernel_rfl⟩, ⟨by kernel_rfl, by kernel_rfl⟩, ⟨by kernel_rfl, by kernel_rfl⟩, trivial⟩
theorem mixed : Try.prog.follows .mixedOrders = true := by kernel_rfl
theorem ent10 : ∀ (vs : Array Value) (u : World), (callFunc 10 vs).run Try.prog u = .ok (.enter 10 vs) u := enters_of Try.func10 (by kernel_rfl) rfl
theorem ent11 : ∀ (vs : Array Value) (u : World), (callFunc 11 vs).run Try.prog u = .ok (.enter 11 vs) u := enters_of Try.func11 (by kernel_rfl) rfl
theorem ent12 : ∀ (vs : Array Value) (u : World), (callFunc 12 vs).run Try.prog u = .ok (.enter 12 vs) u := enters_of Try.func12 (by kernel_rfl) rfl
theorem ent13 : ∀ (vs : Array Value) (u : World), (callFunc 13 vs).run Try.prog u = .ok (.enter 13 vs) u := enters_of Try.func13 (by kernel_rfl) rfl
theorem ent14 : ∀ (vs : Array Value) (u : World), (callFunc 14 vs).run Try.prog u = .ok (.enter 14 vs) u := enters_of Try.func14 (by kernel_rfl) rfl
theorem ent15 : ∀ (vs : Array Value) (u : World), (callFunc 15 vs).run Try.prog u = .ok (.enter 15 vs) u := enters_of Try.func15 (by kernel_rfl) rfl
theorem ent16 : ∀ (vs : Array Value) (u : World), (callFunc 16 vs).run Try.prog u = .ok (.enter 16 vs) u := enters_of Try.func16 (by kernel_rfl) rfl
theorem ent17 : ∀ (vs : Array Value) (u : World), (callFunc 17 vs).run Try.prog u = .ok (.enter 17 vs) u := enters_of Try.func17 (by kernel_rfl) rfl
theorem ent18 : ∀ (vs : Array Value) (u : World), (callFunc 18 vs).run Try.prog u = .ok (.enter 18 vs) u := enters_of Try.func18 (by kernel_rfl) rfl
theorem ent19 : ∀ (vs : Array Value) (u : World), (callFunc 19 vs).run Try.prog u = .ok (.enter 19 vs) u := enters_of Try.func19 (by kernel_rfl) rfl
theorem ent20 : ∀ (vs : Array Value) (u : World), (callFunc 20 vs).run Try.prog u = .ok (.enter 20 vs) u := enters_of Try.func20 (by kernel_rfl) rfl
theorem ent21 : ∀ (vs : Array Value) (u : World), (callFunc 21 vs).run Try.prog u = .ok (.enter 21 vs) u := enters_of Try.func21 (by kernel_rfl) rfl
theorem ent22 : ∀ (vs : Array Value) (u : World), (callFunc 22 vs).run Try.prog u = .ok (.enter 22 vs) u := enters_of Try.func22 (by kernel_rfl) rfl
theorem ent23 : ∀ (vs : Array Value) (u : World), (callFunc 23 vs).run Try.prog u = .ok (.enter 23 vs) u := enters_of Try.func23 (by kernel_rfl) rfl
theorem ent24 : ∀ (vs : Array Value) (u : World), (callFunc 24 vs).run Try.prog u = .ok (.enter 24 vs) u := enters_of Try.func24 (by kernel_rfl) rfl
theorem ent25 : ∀ (vs : Array Value) (u : World), (callFunc 25 vs).run Try.prog u = .ok (.enter 25 vs) u := enters_of Try.func25 (by kernel_rfl) rfl
theorem ent26 : ∀ (vs : Array Value) (u : World), (callFunc 26 vs).run Try.prog u = .ok (.enter 26 vs) u := enters_of Try.func26 (by kernel_rfl) rfl
theorem ent27 : ∀ (vs : Array Value) (u : World), (callFunc 27 vs).run Try.prog u = .ok (.enter 27 vs) u := enters_of Try.func27 (by kernel_rfl) rfl
theorem ent28 : ∀ (vs : Array Value) (u : World), (callFunc 28 vs).run Try.prog u = .ok (.enter 28 vs) u := enters_of Try.func28 (by kernel_rfl) rfl
theorem ent29 : ∀ (vs : Array Value) (u : World), (callFunc 29 vs).run Try.prog u = .ok (.enter 29 vs) u := enters_of Try.func29 (by kernel_rfl) rfl
theorem ent30 : ∀ (vs : Array Value) (u : World), (callFunc 30 vs).run Try.prog u = .ok (.enter 30 vs) u := enters_of Try.func30 (by kernel_rfl) rfl
theorem ent31 : ∀ (vs : Array Value) (u : World), (callFunc 31 vs).run Try.prog u = .ok (.enter 31 vs) u := enters_of Try.func31 (by kernel_rfl) rfl
theorem ent32 : ∀ (vs : Array Value) (u : World), (callFunc 32 vs).run Try.prog u = .ok (.enter 32 vs) u := enters_of Try.func32 (by kernel_rfl) rfl
theorem ent33 : ∀ (vs : Array Value) (u : World), (callFunc 33 vs).run Try.prog u = .ok (.enter 33 vs) u := enters_of Try.func33 (by kernel_rfl) rfl
theorem ent34 : ∀ (vs : Array Value) (u : World), (callFunc 34 vs).run Try.prog u = .ok (.enter 34 vs) u := enters_of Try.func34 (by kernel_rfl) rfl
theorem ent35 : ∀ (vs : Array Value) (u : World), (callFunc 35 vs).run Try.prog u = .ok (.enter 35 vs) u := enters_of Try.func35 (by kernel_rfl) rfl
theorem ent36 : ∀ (vs : Array Value) (u : World), (callFunc 36 vs).run Try.prog u = .ok (.enter 36 vs) u := enters_of Try.func36 (by kernel_rfl) rfl
theorem ent37 : ∀ (vs : Array Value) (u : World), (callFunc 37 vs).run Try.prog u = .ok (.enter 37 vs) u := enters_of Try.func37 (by kernel_rfl) rfl
theorem ent38 : ∀ (vs : Array Value) (u : World), (callFunc 38 vs).run Try.prog u = .ok (.enter 38 vs) u := enters_of Try.func38 (by kernel_rfl) rfl
theorem ent39 : ∀ (vs : Array Value) (u : World), (callFunc 39 vs).run Try.prog u = .ok (.enter 39 vs) u := enters_of Try.func39 (by kernel_rfl) rfl
theorem ent40 : ∀ (vs : Array Value) (u : World), (callFunc 40 vs).run Try.prog u = .ok (.enter 40 vs) u := enters_of Try.func40 (by kernel_rfl) rfl
theorem ent41 : ∀ (vs : Array Value) (u : World), (callFunc 41 vs).run Try.prog u = .ok (.enter 41 vs) u := enters_of Try.func41 (by kernel_rfl) rfl
theorem ent42 : ∀ (vs : Array Value) (u : World), (callFunc 42 vs).run Try.prog u = .ok (.enter 42 vs) u := enters_of Try.func42 (by kernel_rfl) rfl
theorem ent43 : ∀ (vs : Array Value) (u : World), (callFunc 43 vs).run Try.prog u = .ok (.enter 43 vs) u := enters_of Try.func43 (by kernel_rfl) rfl
theorem ent44 : ∀ (vs : Array Value) (u : World), (callFunc 44 vs).run Try.prog u = .ok (.enter 44 vs) u := enters_of Try.func44 (by kernel_rfl) rfl
theorem ent45 : ∀ (vs : Array Value) (u : World), (callFunc 45 vs).run Try.prog u = .ok (.enter 45 vs) u := enters_of Try.func45 (by kernel_rfl) rfl
theorem ent46 : ∀ (vs : Array Value) (u : World), (callFunc 46 vs).run Try.prog u = .ok (.enter 46 vs) u := enters_of Try.func46 (by kernel_rfl) rfl
theorem ent47 : ∀ (vs : Array Value) (u : World), (callFunc 47 vs).run Try.prog u = .ok (.enter 47 vs) u := enters_of Try.func47 (by kernel_rfl) rfl
theorem ent48 : ∀ (vs : Array Value) (u : World), (callFunc 48 vs).run Try.prog u = .ok (.enter 48 vs) u := enters_of Try.func48 (by kernel_rfl) rfl
theorem ent49 : ∀ (vs : Array Value) (u : World), (callFunc 49 vs).run Try.prog u = .ok (.enter 49 vs) u := enters_of Try.func49 (by kernel_rfl) rfl
theorem ent50 : ∀ (vs : Array Value) (u : World), (callFunc 50 vs).run Try.prog u = .ok (.enter 50 vs) u := enters_of Try.func50 (by kernel_rfl) rfl
theorem ent51 : ∀ (vs : Array Value) (u : World), (callFunc 51 vs).run Try.prog u = .ok (.enter 51 vs) u := enters_of Try.func51 (by kernel_rfl) rfl
theorem ent52 : ∀ (vs : Array Value) (u : World), (callFunc 52 vs).run Try.prog u = .ok (.enter 52 vs) u := enters_of Try.func52 (by kernel_rfl) rfl
theorem ent53 : ∀ (vs : Array Value) (u : World), (callFunc 53 vs).run Try.prog u = .ok (.enter 53 vs) u := enters_of Try.func53 (by kernel_rfl) rfl
theorem ent54 : ∀ (vs : Array Value) (u : World), (callFunc 54 vs).run Try.prog u = .ok (.enter 54 vs) u := enters_of Try.func54 (by kernel_rfl) rfl
theorem ent55 : ∀ (vs : Array Value) (u : World), (callFunc 55 vs).run Try.prog u = .ok (.enter 55 vs) u := enters_of Try.func55 (by kernel_rfl) rfl
theorem ent56 : ∀ (vs : Array Value) (u : World), (callFunc 56 vs).run Try.prog u = .ok (.enter 56 vs) u := enters_of Try.func56 (by kernel_rfl) rfl
theorem ent57 : ∀ (vs : Array Value) (u : World), (callFunc 57 vs).run Try.prog u = .ok (.enter 57 vs) u := enters_of Try.func57 (by kernel_rfl) rfl
theorem ent58 : ∀ (vs : Array Value) (u : World), (callFunc 58 vs).run Try.prog u = .ok (.enter 58 vs) u := enters_of Try.func58 (by kernel_rfl) rfl
theorem ent59 : ∀ (vs : Array Value) (u : World), (callFunc 59 vs).run Try.prog u = .ok (.enter 59 vs) u := enters_of Try.func59 (by kernel_rfl) rfl
def tGPair : Ty GPair := (Ty.pair (Ty.int .i64) (Ty.int .i64)).iso fun d => (d.f0, d.f1)
def encGPair (x : GPair) : Value := .agg #[.int .i64 x.f0, .int .i64 x.f1]
theorem tGPair_is {O : List Nat} {w : World} {v : Value} {x : GPair} : tGPair.is O w v x ↔ v = .agg #[.int .i64 x.f0, .int .i64 x.f1] := by
  constructor
  · rintro ⟨cs, ⟨_, _, rfl, rfl, rfl⟩, rfl⟩
    exact rfl
  · rintro rfl
    exact ⟨[.int .i64 x.f0, .int .i64 x.f1], ⟨[.int .i64 x.f0], [.int .i64 x.f1], rfl, rfl, rfl⟩, rfl⟩
theorem tGPair_rep {O : List Nat} {w : World} {cs : List Value} {x : GPair} (h : tGPair.rep O w cs x) : cs = [.int .i64 x.f0, .int .i64 x.f1] := by
  obtain ⟨_, _, rfl, rfl, rfl⟩ := h
  exact rfl

end Go.Proofs.Ytdemjanelbajlaa
