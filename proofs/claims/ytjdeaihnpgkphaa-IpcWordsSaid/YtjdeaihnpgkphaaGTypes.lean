/-
  The rows of the program's types, and what its structs are (printed by a tool of the prover's).
-/
import Derived.Test.YtjdeaihnpgkphaaGPlain
import Derived.Test.YtjdeaihnpgkphaaDcGoto
import Derived.Test.YtjdeaihnpgkphaaDcStr
import Derived.Test.YtjdeaihnpgkphaaDcDrawS
import Derived.Test.YtjdeaihnpgkphaaDcRaw
import Derived.Test.YtjdeaihnpgkphaaProg
import Derived.KernelRfl
import Derived.Shelf.Abstract
namespace Go.Proofs.Ytjdeaihnpgkphaa
open Go.RowKit Go.Dc Go.Shelf
abbrev bp (b : Nat) : Value := .pointer (some ⟨b, 0, none⟩)
/-- the rows of the types that the walks meet -/
def Θ : Tys := [(3, ⟨2, 3, 0, [], 1, 8, .int .i64 0⟩),
  (4, ⟨1, 0, 0, [], 1, 1, .bool false⟩),
  (5, ⟨2, 4, 0, [], 1, 1, .int .u8 0⟩),
  (9, ⟨3, 0, 0, [], 1, 16, .string ByteArray.empty⟩),
  (21, ⟨2, 2, 0, [], 1, 4, .int .i32 0⟩),
  (22, ⟨5, 0, 31, [], 1, 24, .slice none 0 0⟩),
  (23, ⟨5, 0, 61, [], 1, 24, .slice none 0 0⟩),
  (24, ⟨8, 0, 0, [(22, 0), (23, 1)], 2, 48, .agg #[.slice none 0 0, .slice none 0 0]⟩),
  (25, ⟨8, 0, 0, [(22, 0), (23, 1)], 2, 48, .agg #[.slice none 0 0, .slice none 0 0]⟩),
  (29, ⟨2, 7, 0, [], 1, 8, .int .u64 0⟩),
  (30, ⟨8, 0, 0, [(29, 0), (29, 1)], 2, 16, .agg #[.int .u64 0, .int .u64 0]⟩),
  (31, ⟨8, 0, 0, [(29, 0), (29, 1)], 2, 16, .agg #[.int .u64 0, .int .u64 0]⟩),
  (32, ⟨2, 3, 0, [], 1, 8, .int .i64 0⟩),
  (39, ⟨6, 2, 29, [], 2, 16, .agg #[.int .u64 0, .int .u64 0]⟩),
  (40, ⟨5, 0, 29, [], 1, 24, .slice none 0 0⟩),
  (55, ⟨9, 0, 0, [], 1, 8, .nilFunc⟩),
  (60, ⟨8, 0, 0, [(29, 0), (40, 1)], 2, 32, .agg #[.int .u64 0, .slice none 0 0]⟩),
  (61, ⟨8, 0, 0, [(29, 0), (40, 1)], 2, 32, .agg #[.int .u64 0, .slice none 0 0]⟩),
  (62, ⟨4, 0, 68, [], 1, 8, .pointer none⟩),
  (67, ⟨8, 0, 0, [(25, 0)], 2, 48, .agg #[.slice none 0 0, .slice none 0 0]⟩),
  (68, ⟨8, 0, 0, [(25, 0)], 2, 48, .agg #[.slice none 0 0, .slice none 0 0]⟩),
  (69, ⟨9, 0, 0, [], 1, 8, .nilFunc⟩),
  (76, ⟨9, 0, 0, [], 1, 8, .nilFunc⟩),
  (77, ⟨9, 0, 0, [], 1, 8, .nilFunc⟩),
  (82, ⟨9, 0, 0, [], 1, 8, .nilFunc⟩),
  (84, ⟨5, 0, 40, [], 1, 24, .slice none 0 0⟩),
  (92, ⟨9, 0, 0, [], 1, 8, .nilFunc⟩),
  (96, ⟨9, 0, 0, [], 1, 8, .nilFunc⟩),
  (97, ⟨5, 0, 5, [], 1, 24, .slice none 0 0⟩),
  (98, ⟨2, 7, 0, [], 1, 8, .int .u64 0⟩),
  (101, ⟨9, 0, 0, [], 1, 8, .nilFunc⟩),
  (104, ⟨6, 8, 5, [], 8, 8, .agg #[.int .u8 0, .int .u8 0, .int .u8 0, .int .u8 0, .int .u8 0, .int .u8 0, .int .u8 0, .int .u8 0]⟩),
  (107, ⟨9, 0, 0, [], 1, 8, .nilFunc⟩)]
theorem Θ_ok : Θ.ok Try.prog := ⟨⟨by kernel_rfl, by kernel_rfl⟩, ⟨by kernel_rfl, by kernel_rfl⟩, ⟨by kernel_rfl, by kernel_rfl⟩, ⟨by kernel_rfl, by kernel_rfl⟩, ⟨by kernel_rfl, by kernel_rfl⟩, ⟨by kernel_rfl, by kernel_rfl⟩, ⟨by kernel_rfl, by kernel_rfl⟩, ⟨by kernel_rfl, by kernel_rfl⟩, ⟨by kernel_rfl, by kernel_rfl⟩, ⟨by kernel_rfl, by kernel_rfl⟩, ⟨by kernel_rfl, by kernel_rfl⟩, ⟨by kernel_rfl, by kernel_rfl⟩, ⟨by kernel_rfl, by kernel_rfl⟩, ⟨by kernel_rfl, by kernel_rfl⟩, ⟨by kernel_rfl, by kernel_rfl⟩, ⟨by kernel_rfl, by kernel_rfl⟩, ⟨by kernel_rfl, by kernel_rfl⟩, ⟨by kernel_rfl, by kernel_rfl⟩, ⟨by kernel_rfl, by kernel_rfl⟩, ⟨by kernel_rfl, by kernel_rfl⟩, ⟨by kernel_rfl, by kernel_rfl⟩, ⟨by kernel_rfl, by kernel_rfl⟩, ⟨by kernel_rfl, by kernel_rfl⟩, ⟨by kernel_rfl, by kernel_rfl⟩, ⟨by kernel_rfl, by kernel_rfl⟩, ⟨by kernel_rfl, by kernel_rfl⟩, ⟨by kernel_rfl, by kernel_rfl⟩, ⟨by kernel_rfl, by kernel_rfl⟩, ⟨by kernel_rfl, by kernel_rfl⟩, ⟨by kernel_rfl, by kernel_rfl⟩, ⟨by kernel_rfl, by kernel_rfl⟩, ⟨by kernel_rfl, by kernel_rfl⟩, ⟨by kernel_rfl, by kernel_rfl⟩, trivial⟩
theorem mixed : Try.prog.follows .mixedOrders = true := by kernel_rfl
theorem ent7 : ∀ (vs : Array Value) (u : World), (callFunc 7 vs).run Try.prog u = .ok (.enter 7 vs) u := enters_of Try.func7 (by kernel_rfl) rfl
theorem ent8 : ∀ (vs : Array Value) (u : World), (callFunc 8 vs).run Try.prog u = .ok (.enter 8 vs) u := enters_of Try.func8 (by kernel_rfl) rfl
theorem ent9 : ∀ (vs : Array Value) (u : World), (callFunc 9 vs).run Try.prog u = .ok (.enter 9 vs) u := enters_of Try.func9 (by kernel_rfl) rfl
theorem ent10 : ∀ (vs : Array Value) (u : World), (callFunc 10 vs).run Try.prog u = .ok (.enter 10 vs) u := enters_of Try.func10 (by kernel_rfl) rfl
theorem ent11 : ∀ (vs : Array Value) (u : World), (callFunc 11 vs).run Try.prog u = .ok (.enter 11 vs) u := enters_of Try.func11 (by kernel_rfl) rfl
theorem ent12 : ∀ (vs : Array Value) (u : World), (callFunc 12 vs).run Try.prog u = .ok (.enter 12 vs) u := enters_of Try.func12 (by kernel_rfl) rfl
theorem ent13 : ∀ (vs : Array Value) (u : World), (callFunc 13 vs).run Try.prog u = .ok (.enter 13 vs) u := enters_of Try.func13 (by kernel_rfl) rfl
theorem ent14 : ∀ (vs : Array Value) (u : World), (callFunc 14 vs).run Try.prog u = .ok (.enter 14 vs) u := enters_of Try.func14 (by kernel_rfl) rfl
theorem ent15 : ∀ (vs : Array Value) (u : World), (callFunc 15 vs).run Try.prog u = .ok (.enter 15 vs) u := enters_of Try.func15 (by kernel_rfl) rfl
theorem ent16 : ∀ (vs : Array Value) (u : World), (callFunc 16 vs).run Try.prog u = .ok (.enter 16 vs) u := enters_of Try.func16 (by kernel_rfl) rfl
theorem ent17 : ∀ (vs : Array Value) (u : World), (callFunc 17 vs).run Try.prog u = .ok (.enter 17 vs) u := enters_of Try.func17 (by kernel_rfl) rfl
theorem ent18 : ∀ (vs : Array Value) (u : World), (callFunc 18 vs).run Try.prog u = .ok (.enter 18 vs) u := enters_of Try.func18 (by kernel_rfl) rfl
theorem ent19 : ∀ (vs : Array Value) (u : World), (callFunc 19 vs).run Try.prog u = .ok (.enter 19 vs) u := enters_of Try.func19 (by kernel_rfl) rfl
theorem ent20 : ∀ (vs : Array Value) (u : World), (callFunc 20 vs).run Try.prog u = .ok (.enter 20 vs) u := enters_of Try.func20 (by kernel_rfl) rfl
theorem ent21 : ∀ (vs : Array Value) (u : World), (callFunc 21 vs).run Try.prog u = .ok (.enter 21 vs) u := enters_of Try.func21 (by kernel_rfl) rfl
theorem ent22 : ∀ (vs : Array Value) (u : World), (callFunc 22 vs).run Try.prog u = .ok (.enter 22 vs) u := enters_of Try.func22 (by kernel_rfl) rfl
theorem ent23 : ∀ (vs : Array Value) (u : World), (callFunc 23 vs).run Try.prog u = .ok (.enter 23 vs) u := enters_of Try.func23 (by kernel_rfl) rfl
theorem ent24 : ∀ (vs : Array Value) (u : World), (callFunc 24 vs).run Try.prog u = .ok (.enter 24 vs) u := enters_of Try.func24 (by kernel_rfl) rfl
theorem ent25 : ∀ (vs : Array Value) (u : World), (callFunc 25 vs).run Try.prog u = .ok (.enter 25 vs) u := enters_of Try.func25 (by kernel_rfl) rfl
theorem ent26 : ∀ (vs : Array Value) (u : World), (callFunc 26 vs).run Try.prog u = .ok (.enter 26 vs) u := enters_of Try.func26 (by kernel_rfl) rfl
theorem ent27 : ∀ (vs : Array Value) (u : World), (callFunc 27 vs).run Try.prog u = .ok (.enter 27 vs) u := enters_of Try.func27 (by kernel_rfl) rfl
theorem ent28 : ∀ (vs : Array Value) (u : World), (callFunc 28 vs).run Try.prog u = .ok (.enter 28 vs) u := enters_of Try.func28 (by kernel_rfl) rfl
theorem ent29 : ∀ (vs : Array Value) (u : World), (callFunc 29 vs).run Try.prog u = .ok (.enter 29 vs) u := enters_of Try.func29 (by kernel_rfl) rfl
theorem ent30 : ∀ (vs : Array Value) (u : World), (callFunc 30 vs).run Try.prog u = .ok (.enter 30 vs) u := enters_of Try.func30 (by kernel_rfl) rfl
theorem ent31 : ∀ (vs : Array Value) (u : World), (callFunc 31 vs).run Try.prog u = .ok (.enter 31 vs) u := enters_of Try.func31 (by kernel_rfl) rfl
theorem ent32 : ∀ (vs : Array Value) (u : World), (callFunc 32 vs).run Try.prog u = .ok (.enter 32 vs) u := enters_of Try.func32 (by kernel_rfl) rfl
theorem ent33 : ∀ (vs : Array Value) (u : World), (callFunc 33 vs).run Try.prog u = .ok (.enter 33 vs) u := enters_of Try.func33 (by kernel_rfl) rfl
theorem ent34 : ∀ (vs : Array Value) (u : World), (callFunc 34 vs).run Try.prog u = .ok (.enter 34 vs) u := enters_of Try.func34 (by kernel_rfl) rfl
theorem ent35 : ∀ (vs : Array Value) (u : World), (callFunc 35 vs).run Try.prog u = .ok (.enter 35 vs) u := enters_of Try.func35 (by kernel_rfl) rfl
theorem ent36 : ∀ (vs : Array Value) (u : World), (callFunc 36 vs).run Try.prog u = .ok (.enter 36 vs) u := enters_of Try.func36 (by kernel_rfl) rfl
theorem ent37 : ∀ (vs : Array Value) (u : World), (callFunc 37 vs).run Try.prog u = .ok (.enter 37 vs) u := enters_of Try.func37 (by kernel_rfl) rfl
theorem ent38 : ∀ (vs : Array Value) (u : World), (callFunc 38 vs).run Try.prog u = .ok (.enter 38 vs) u := enters_of Try.func38 (by kernel_rfl) rfl
theorem ent39 : ∀ (vs : Array Value) (u : World), (callFunc 39 vs).run Try.prog u = .ok (.enter 39 vs) u := enters_of Try.func39 (by kernel_rfl) rfl
theorem ent40 : ∀ (vs : Array Value) (u : World), (callFunc 40 vs).run Try.prog u = .ok (.enter 40 vs) u := enters_of Try.func40 (by kernel_rfl) rfl
theorem ent41 : ∀ (vs : Array Value) (u : World), (callFunc 41 vs).run Try.prog u = .ok (.enter 41 vs) u := enters_of Try.func41 (by kernel_rfl) rfl
theorem ent42 : ∀ (vs : Array Value) (u : World), (callFunc 42 vs).run Try.prog u = .ok (.enter 42 vs) u := enters_of Try.func42 (by kernel_rfl) rfl
theorem ent43 : ∀ (vs : Array Value) (u : World), (callFunc 43 vs).run Try.prog u = .ok (.enter 43 vs) u := enters_of Try.func43 (by kernel_rfl) rfl
theorem ent44 : ∀ (vs : Array Value) (u : World), (callFunc 44 vs).run Try.prog u = .ok (.enter 44 vs) u := enters_of Try.func44 (by kernel_rfl) rfl
theorem ent45 : ∀ (vs : Array Value) (u : World), (callFunc 45 vs).run Try.prog u = .ok (.enter 45 vs) u := enters_of Try.func45 (by kernel_rfl) rfl
theorem ent46 : ∀ (vs : Array Value) (u : World), (callFunc 46 vs).run Try.prog u = .ok (.enter 46 vs) u := enters_of Try.func46 (by kernel_rfl) rfl
theorem ent47 : ∀ (vs : Array Value) (u : World), (callFunc 47 vs).run Try.prog u = .ok (.enter 47 vs) u := enters_of Try.func47 (by kernel_rfl) rfl
theorem ent48 : ∀ (vs : Array Value) (u : World), (callFunc 48 vs).run Try.prog u = .ok (.enter 48 vs) u := enters_of Try.func48 (by kernel_rfl) rfl
theorem ent49 : ∀ (vs : Array Value) (u : World), (callFunc 49 vs).run Try.prog u = .ok (.enter 49 vs) u := enters_of Try.func49 (by kernel_rfl) rfl
theorem ent50 : ∀ (vs : Array Value) (u : World), (callFunc 50 vs).run Try.prog u = .ok (.enter 50 vs) u := enters_of Try.func50 (by kernel_rfl) rfl
theorem ent51 : ∀ (vs : Array Value) (u : World), (callFunc 51 vs).run Try.prog u = .ok (.enter 51 vs) u := enters_of Try.func51 (by kernel_rfl) rfl
theorem ent52 : ∀ (vs : Array Value) (u : World), (callFunc 52 vs).run Try.prog u = .ok (.enter 52 vs) u := enters_of Try.func52 (by kernel_rfl) rfl
theorem ent53 : ∀ (vs : Array Value) (u : World), (callFunc 53 vs).run Try.prog u = .ok (.enter 53 vs) u := enters_of Try.func53 (by kernel_rfl) rfl
theorem ent56 : ∀ (vs : Array Value) (u : World), (callFunc 56 vs).run Try.prog u = .ok (.enter 56 vs) u := enters_of Try.func56 (by kernel_rfl) rfl
theorem ent57 : ∀ (vs : Array Value) (u : World), (callFunc 57 vs).run Try.prog u = .ok (.enter 57 vs) u := enters_of Try.func57 (by kernel_rfl) rfl
theorem ent58 : ∀ (vs : Array Value) (u : World), (callFunc 58 vs).run Try.prog u = .ok (.enter 58 vs) u := enters_of Try.func58 (by kernel_rfl) rfl
theorem ent59 : ∀ (vs : Array Value) (u : World), (callFunc 59 vs).run Try.prog u = .ok (.enter 59 vs) u := enters_of Try.func59 (by kernel_rfl) rfl
theorem ent60 : ∀ (vs : Array Value) (u : World), (callFunc 60 vs).run Try.prog u = .ok (.enter 60 vs) u := enters_of Try.func60 (by kernel_rfl) rfl
theorem ent61 : ∀ (vs : Array Value) (u : World), (callFunc 61 vs).run Try.prog u = .ok (.enter 61 vs) u := enters_of Try.func61 (by kernel_rfl) rfl
theorem ent63 : ∀ (vs : Array Value) (u : World), (callFunc 63 vs).run Try.prog u = .ok (.enter 63 vs) u := enters_of Try.func63 (by kernel_rfl) rfl
theorem ent64 : ∀ (vs : Array Value) (u : World), (callFunc 64 vs).run Try.prog u = .ok (.enter 64 vs) u := enters_of Try.func64 (by kernel_rfl) rfl
theorem ent65 : ∀ (vs : Array Value) (u : World), (callFunc 65 vs).run Try.prog u = .ok (.enter 65 vs) u := enters_of Try.func65 (by kernel_rfl) rfl
theorem ent66 : ∀ (vs : Array Value) (u : World), (callFunc 66 vs).run Try.prog u = .ok (.enter 66 vs) u := enters_of Try.func66 (by kernel_rfl) rfl
theorem ent68 : ∀ (vs : Array Value) (u : World), (callFunc 68 vs).run Try.prog u = .ok (.enter 68 vs) u := enters_of Try.func68 (by kernel_rfl) rfl
theorem ent69 : ∀ (vs : Array Value) (u : World), (callFunc 69 vs).run Try.prog u = .ok (.enter 69 vs) u := enters_of Try.func69 (by kernel_rfl) rfl
def tGName : Ty GName := (Ty.pair (Ty.int .u64) (Ty.int .u64)).iso fun d => (d.fName, d.fPid)
def encGName (x : GName) : Value := .agg #[.int .u64 x.fName, .int .u64 x.fPid]
theorem tGName_is {O : List Nat} {w : World} {v : Value} {x : GName} : tGName.is O w v x ↔ v = .agg #[.int .u64 x.fName, .int .u64 x.fPid] := by
  constructor
  · rintro ⟨cs, ⟨_, _, rfl, rfl, rfl⟩, rfl⟩
    exact rfl
  · rintro rfl
    exact ⟨[.int .u64 x.fName, .int .u64 x.fPid], ⟨[.int .u64 x.fName], [.int .u64 x.fPid], rfl, rfl, rfl⟩, rfl⟩
theorem tGName_rep {O : List Nat} {w : World} {cs : List Value} {x : GName} (h : tGName.rep O w cs x) : cs = [.int .u64 x.fName, .int .u64 x.fPid] := by
  obtain ⟨_, _, rfl, rfl, rfl⟩ := h
  exact rfl
def tGBox : Ty GBox := (Ty.pair (Ty.int .u64) (Ty.slice (Ty.int .u64))).iso fun d => (d.fPid, d.fWords)
theorem tGBox_is {O : List Nat} {w : World} {v : Value} {x : GBox} : tGBox.is O w v x ↔ ∃ s1, v = .agg #[.int .u64 x.fPid, s1] ∧ (Ty.slice (Ty.int .u64)).is O w s1 x.fWords := by
  constructor
  · rintro ⟨cs, ⟨_, _, rfl, rfl, q1⟩, rfl⟩
    obtain ⟨z1, rfl, y1⟩ := sing_of rfl q1; exact ⟨z1, rfl, y1⟩
  · rintro ⟨z1, rfl, y1⟩
    exact ⟨[.int .u64 x.fPid, z1], ⟨[.int .u64 x.fPid], [z1], rfl, rfl, (rep_of rfl y1)⟩, rfl⟩
theorem tGBox_rep {O : List Nat} {w : World} {cs : List Value} {x : GBox} (h : tGBox.rep O w cs x) : ∃ s1, cs = [.int .u64 x.fPid, s1] ∧ (Ty.slice (Ty.int .u64)).is O w s1 x.fWords := by
  obtain ⟨_, _, rfl, rfl, q1⟩ := h
  obtain ⟨z1, rfl, y1⟩ := sing_of rfl q1; exact ⟨z1, rfl, y1⟩
def tGIpc : Ty GIpc := (Ty.pair (Ty.slice tGName) (Ty.slice tGBox)).iso fun d => (d.fNames, d.fBoxes)
theorem tGIpc_is {O : List Nat} {w : World} {v : Value} {x : GIpc} : tGIpc.is O w v x ↔ ∃ s0 s1, v = .agg #[s0, s1] ∧ (Ty.slice tGName).is O w s0 x.fNames ∧ (Ty.slice tGBox).is O w s1 x.fBoxes := by
  constructor
  · rintro ⟨cs, ⟨_, _, rfl, q1, q2⟩, rfl⟩
    obtain ⟨z1, rfl, y1⟩ := sing_of rfl q1; obtain ⟨z2, rfl, y2⟩ := sing_of rfl q2; exact ⟨z1, z2, rfl, y1, y2⟩
  · rintro ⟨z1, z2, rfl, y1, y2⟩
    exact ⟨[z1, z2], ⟨[z1], [z2], rfl, (rep_of rfl y1), (rep_of rfl y2)⟩, rfl⟩
theorem tGIpc_rep {O : List Nat} {w : World} {cs : List Value} {x : GIpc} (h : tGIpc.rep O w cs x) : ∃ s0 s1, cs = [s0, s1] ∧ (Ty.slice tGName).is O w s0 x.fNames ∧ (Ty.slice tGBox).is O w s1 x.fBoxes := by
  obtain ⟨_, _, rfl, q1, q2⟩ := h
  obtain ⟨z1, rfl, y1⟩ := sing_of rfl q1; obtain ⟨z2, rfl, y2⟩ := sing_of rfl q2; exact ⟨z1, z2, rfl, y1, y2⟩
def tGTwo : Ty GTwo := (Ty.pair (Ty.int .u64) (Ty.int .u64)).iso fun d => (d.f0, d.f1)
def encGTwo (x : GTwo) : Value := .agg #[.int .u64 x.f0, .int .u64 x.f1]
theorem tGTwo_is {O : List Nat} {w : World} {v : Value} {x : GTwo} : tGTwo.is O w v x ↔ v = .agg #[.int .u64 x.f0, .int .u64 x.f1] := by
  constructor
  · rintro ⟨cs, ⟨_, _, rfl, rfl, rfl⟩, rfl⟩
    exact rfl
  · rintro rfl
    exact ⟨[.int .u64 x.f0, .int .u64 x.f1], ⟨[.int .u64 x.f0], [.int .u64 x.f1], rfl, rfl, rfl⟩, rfl⟩
theorem tGTwo_rep {O : List Nat} {w : World} {cs : List Value} {x : GTwo} (h : tGTwo.rep O w cs x) : cs = [.int .u64 x.f0, .int .u64 x.f1] := by
  obtain ⟨_, _, rfl, rfl, rfl⟩ := h
  exact rfl
def tGIpcHand : Ty GIpcHand := (Ty.single tGIpc).iso fun d => d.fIpc
theorem tGIpcHand_is {O : List Nat} {w : World} {v : Value} {x : GIpcHand} : tGIpcHand.is O w v x ↔ ∃ s0 s1, v = .agg #[s0, s1] ∧ (Ty.slice tGName).is O w s0 x.fIpc.fNames ∧ (Ty.slice tGBox).is O w s1 x.fIpc.fBoxes := by
  constructor
  · rintro ⟨cs, ⟨_, _, rfl, q1, q2⟩, rfl⟩
    obtain ⟨z1, rfl, y1⟩ := sing_of rfl q1; obtain ⟨z2, rfl, y2⟩ := sing_of rfl q2; exact ⟨z1, z2, rfl, y1, y2⟩
  · rintro ⟨z1, z2, rfl, y1, y2⟩
    exact ⟨[z1, z2], ⟨[z1], [z2], rfl, (rep_of rfl y1), (rep_of rfl y2)⟩, rfl⟩
theorem tGIpcHand_rep {O : List Nat} {w : World} {cs : List Value} {x : GIpcHand} (h : tGIpcHand.rep O w cs x) : ∃ s0 s1, cs = [s0, s1] ∧ (Ty.slice tGName).is O w s0 x.fIpc.fNames ∧ (Ty.slice tGBox).is O w s1 x.fIpc.fBoxes := by
  obtain ⟨_, _, rfl, q1, q2⟩ := h
  obtain ⟨z1, rfl, y1⟩ := sing_of rfl q1; obtain ⟨z2, rfl, y2⟩ := sing_of rfl q2; exact ⟨z1, z2, rfl, y1, y2⟩
theorem eqi31 (d : Nat) (w : World) (x y : GName) : (Op.equalIn (d + 2) 31 (.agg #[.int .u64 x.fName, .int .u64 x.fPid]) (.agg #[.int .u64 y.fName, .int .u64 y.fPid])).run Try.prog w = .ok (eqGName x y) w := by
  have hS : Try.prog.underlying 31 = some (.struct (Try.prog.fieldsOf 31)) := by kernel_rfl
  have hp : Try.prog.stoodInHeld 31 = false := by kernel_rfl
  rw [show d + 2 = (d + 1) + 1 from rfl, run_equalIn_agg w _ 31 _ _ hS hp]
  simp only [Program.fieldsOf, Try.underlying31]
  unfold eqGName
  go_simp
  by_cases h0 : x.fName = y.fName <;> by_cases h1 : x.fPid = y.fPid <;> simp_all
theorem eql31 {ox oy : Operand} {w : World} (x y : GName) : (do eqGuard .eql 31 ox oy (.agg #[.int .u64 x.fName, .int .u64 x.fPid]) (.agg #[.int .u64 y.fName, .int .u64 y.fPid]); binOp .eql 31 (.agg #[.int .u64 x.fName, .int .u64 x.fPid]) (.agg #[.int .u64 y.fName, .int .u64 y.fPid]) : Sem Value).run Try.prog w = .ok (.bool (eqGName x y)) w := by
  simp only [Sem.run_bind]
  rw [run_eqGuard_agg w .eql 31 ox oy _ _ (by kernel_rfl)]
  simp only [Result.andThen_ok]
  rw [run_eql_struct, show (10000 : Nat) = 9998 + 2 from rfl, eqi31]
  rfl
theorem neq31 {ox oy : Operand} {w : World} (x y : GName) : (do eqGuard .neq 31 ox oy (.agg #[.int .u64 x.fName, .int .u64 x.fPid]) (.agg #[.int .u64 y.fName, .int .u64 y.fPid]); binOp .neq 31 (.agg #[.int .u64 x.fName, .int .u64 x.fPid]) (.agg #[.int .u64 y.fName, .int .u64 y.fPid]) : Sem Value).run Try.prog w = .ok (.bool (!eqGName x y)) w := by
  simp only [Sem.run_bind]
  rw [run_eqGuard_agg w .neq 31 ox oy _ _ (by kernel_rfl)]
  simp only [Result.andThen_ok]
  rw [run_neq_struct, show (10000 : Nat) = 9998 + 2 from rfl, eqi31]
  rfl
end Go.Proofs.Ytjdeaihnpgkphaa
