/-
  The program's functions as plain Lean functions (printed by a tool of the prover's).
-/
import Derived.Test.YtjdeaihnpgkphaaDcStr
namespace Go.Proofs.Ytjdeaihnpgkphaa
open Go.Dc
structure GName where
  fName : Int
  fPid : Int
  deriving Repr, DecidableEq
structure GBox where
  fPid : Int
  fWords : List Int
  deriving Repr, DecidableEq
structure GIpc where
  fNames : List GName
  fBoxes : List GBox
  deriving Repr, DecidableEq
structure GTwo where
  f0 : Int
  f1 : Int
  deriving Repr, DecidableEq
structure GIpcHand where
  fIpc : GIpc
  deriving Repr, DecidableEq
def eqGName (x y : GName) : Bool := (x.fName == y.fName) && (x.fPid == y.fPid)
def r_Back_l1 (k3 : ByteArray → Option (ByteArray × Bool)) : Nat → Int → ByteArray → Option (ByteArray × Bool)
  | 0, _, _ => none
  | fl13 + 1, p11, p12 => (bif (decide (p11 > (0 : Int))) then (bif ((p11.tmod (256 : Int)) == (0 : Int)) then some (((⟨#[]⟩ : ByteArray), false)) else ((saddO p12 (strOf ([(IntKind.u8.wrap (p11.tmod (256 : Int)))] : List Int))).bind fun y22 => (r_Back_l1 k3 fl13 (IntKind.u64.wrap (p11.tdiv (256 : Int))) y22))) else k3 p12)
def r_Back (fuel : Nat) (x0 : Int) : Option (ByteArray × Bool) :=
  (letk (fun (p7 : ByteArray) => some ((p7, true))) fun k3 => (r_Back_l1 k3 fuel x0 (⟨#[]⟩ : ByteArray)))
/-- a text's byte; 0 behind its end -/
def byteAt (s : ByteArray) (j : Nat) : Nat := ((s.data.toList[j]?).map UInt8.toNat).getD 0
/-- so many bytes as a number, the lowest first -/
def packN (c : Nat → Nat) : Nat → Nat
  | 0 => 0
  | i + 1 => packN c i + 256 ^ i * c i
/-- the word of a text, and the error -/
def b_Text (s : ByteArray) : Int × Int := if 8 < s.size then (0, 111) else if (List.range s.size).any (fun j => byteAt s j == 0) then (0, 2) else ((packN (byteAt s) 8 : Nat), 0)
def b_Back_l1 (k3 : List Int → Option (ByteArray × Int)) : Nat → List Int → Int → Option (ByteArray × Int)
  | 0, _, _ => none
  | fl27 + 1, p23, p26 => (bif ((bits .and .u64 p26 (255 : Int)) != (0 : Int)) then ((app 1 p23 ([(IntKind.u8.wrap p26)] : List Int)).bind fun z35 => (b_Back_l1 k3 fl27 z35 (p26.fdiv (2 ^ 8)))) else k3 p23)
def b_Back (fuel : Nat) (x0 : Int) : Option (ByteArray × Int) :=
  (letk (fun (p7 : List Int) => (bif ((((b_Text (strOf p7))).2) != (0 : Int)) then some (((⟨#[]⟩ : ByteArray), (2 : Int))) else (bif ((((b_Text (strOf p7))).1) != x0) then some (((⟨#[]⟩ : ByteArray), (2 : Int))) else some (((strOf p7), (0 : Int)))))) fun k3 => (b_Back_l1 k3 fuel ([] : List Int) x0))
/-- is it a letter, or a digit? -/
def chrI (c : Nat) : Bool := decide (97 ≤ c ∧ c ≤ 122 ∨ 48 ≤ c ∧ c ≤ 57)
/-- are all letters such, from a place on? -/
def rokB (s : ByteArray) : Bool → Nat → Nat → Option Bool
  | _, 0, _ => none
  | ok, f + 1, pos => if pos < s.size then (if (ok && chrI (Go.Utf8.decode s pos).1) = true then rokB s true f (pos + (Go.Utf8.decode s pos).2) else some false) else some ok
def i_Is (fuel : Nat) (x0 : Int) : Option Bool := (b_Back fuel x0).bind fun y => rokB y.1 ((y.2 == 0) && !(y.1.toList == (⟨#[]⟩ : ByteArray).toList)) fuel 0
def r_Is_l1 (y6 : ByteArray × Bool) (k13 : Bool → Option Bool) : Nat → Bool → Int → Option Bool
  | 0, _, _ => none
  | fl24 + 1, p22, p23 => (bif (decide (p23 < (y6.1.size : Int))) then (bif p22 then ((sidxO y6.1 p23).bind fun y29 => (bif (decide (y29 ≥ (97 : Int))) then ((sidxO y6.1 p23).bind fun y32 => (bif (decide (y32 ≤ (122 : Int))) then (r_Is_l1 y6 k13 fl24 true (IntKind.i64.wrap (p23 + (1 : Int)))) else ((sidxO y6.1 p23).bind fun y35 => (bif (decide (y35 ≥ (48 : Int))) then ((sidxO y6.1 p23).bind fun y38 => (r_Is_l1 y6 k13 fl24 (decide (y38 ≤ (57 : Int))) (IntKind.i64.wrap (p23 + (1 : Int))))) else (r_Is_l1 y6 k13 fl24 false (IntKind.i64.wrap (p23 + (1 : Int)))))))) else ((sidxO y6.1 p23).bind fun y40 => (bif (decide (y40 ≥ (48 : Int))) then ((sidxO y6.1 p23).bind fun y43 => (r_Is_l1 y6 k13 fl24 (decide (y43 ≤ (57 : Int))) (IntKind.i64.wrap (p23 + (1 : Int))))) else (r_Is_l1 y6 k13 fl24 false (IntKind.i64.wrap (p23 + (1 : Int)))))))) else (r_Is_l1 y6 k13 fl24 false (IntKind.i64.wrap (p23 + (1 : Int))))) else k13 p22)
def r_Is (fuel : Nat) (x0 : Int) : Option Bool :=
  ((r_Back fuel x0).bind fun y6 => (letk (fun (p17 : Bool) => (bif p17 then some ((decide ((y6.1.size : Int) > (0 : Int)))) else some (false))) fun k13 => (r_Is_l1 y6 k13 fuel y6.2 (0 : Int))))
def r_Pid (x0 : Int) : Bool :=
  (bif (decide (x0 > (0 : Int))) then (decide (x0 < (4294967296 : Int))) else false)
def i_isPid (x0 : Int) : Bool :=
  (bif (decide (x0 ≥ (1 : Int))) then (decide (x0 < (4294967296 : Int))) else false)
def i_nameOf (x0 : GName) : Int :=
  x0.fName
def i_pidOf (x0 : GBox) : Int :=
  x0.fPid
def r_words_l1 (x1 : List Int) (k9 : Option Bool) : List Int → Nat → Option Bool
  | [], i16 => k9
  | z18 :: rest17, i16 => ((idx x1 (i16 : Int)).bind fun y33 => (bif (z18 != y33) then some (false) else (r_words_l1 x1 k9 rest17 (i16 + 1))))
def r_words (x0 : List Int) (x1 : List Int) : Option Bool :=
  (bif ((x0.length : Int) != (x1.length : Int)) then some (false) else (letk (some (true)) fun k9 => (r_words_l1 x1 k9 x0 0)))
def r_Same_l1 (x1 : GIpc) (k27 : Option Bool) : List GBox → Nat → Option Bool
  | [], i34 => k27
  | z36 :: rest35, i34 => ((idx x1.fBoxes (i34 : Int)).bind fun y58 => (bif (z36.fPid != y58.fPid) then some (false) else ((idx x1.fBoxes (i34 : Int)).bind fun y71 => ((r_words z36.fWords y71.fWords).bind fun y73 => (bif (!y73) then some (false) else (r_Same_l1 x1 k27 rest35 (i34 + 1)))))))
def r_Same_l2 (x1 : GIpc) (k20 : Option Bool) : List GName → Nat → Option Bool
  | [], i98 => k20
  | z100 :: rest99, i98 => ((idx x1.fNames (i98 : Int)).bind fun y118 => (bif (!(eqGName z100 y118)) then some (false) else (r_Same_l2 x1 k20 rest99 (i98 + 1))))
def r_Same (x0 : GIpc) (x1 : GIpc) : Option Bool :=
  (bif ((x0.fNames.length : Int) != (x1.fNames.length : Int)) then some (false) else (bif ((x0.fBoxes.length : Int) != (x1.fBoxes.length : Int)) then some (false) else (letk ((letk (some (true)) fun k27 => (r_Same_l1 x1 k27 x0.fBoxes 0))) fun k20 => (r_Same_l2 x1 k20 x0.fNames 0))))
def s_Equal_l1 (x1 : List Int) (k9 : Option Bool) : List Int → Nat → Option Bool
  | [], i16 => k9
  | z18 :: rest17, i16 => ((idx x1 (i16 : Int)).bind fun y27 => (bif (z18 != y27) then some (false) else (s_Equal_l1 x1 k9 rest17 (i16 + 1))))
def s_Equal (x0 : List Int) (x1 : List Int) : Option Bool :=
  (bif ((x0.length : Int) != (x1.length : Int)) then some (false) else (letk (some (true)) fun k9 => (s_Equal_l1 x1 k9 x0 0)))
def s_EqualN_l1 (x1 : List GName) (k9 : Option Bool) : List GName → Nat → Option Bool
  | [], i16 => k9
  | z18 :: rest17, i16 => ((idx x1 (i16 : Int)).bind fun y27 => (bif (!(eqGName z18 y27)) then some (false) else (s_EqualN_l1 x1 k9 rest17 (i16 + 1))))
def s_EqualN (x0 : List GName) (x1 : List GName) : Option Bool :=
  (bif ((x0.length : Int) != (x1.length : Int)) then some (false) else (letk (some (true)) fun k9 => (s_EqualN_l1 x1 k9 x0 0)))
def i_Same1 (x0 : GBox) (x1 : GBox) : Option Bool :=
  (bif (x0.fPid == x1.fPid) then ((s_Equal x0.fWords x1.fWords).bind fun y14 => some (y14)) else some (false))
def s_EqualFunc_l1 (x1 : List GBox) (x2 : GBox → GBox → Option (Bool)) (k10 : Option Bool) : List GBox → Nat → Option Bool
  | [], i17 => k10
  | z19 :: rest18, i17 => ((idx x1 (i17 : Int)).bind fun y43 => ((x2 z19 y43).bind fun y56 => (bif (!y56) then some (false) else (s_EqualFunc_l1 x1 x2 k10 rest18 (i17 + 1)))))
def s_EqualFunc (x0 : List GBox) (x1 : List GBox) (x2 : GBox → GBox → Option (Bool)) : Option Bool :=
  (bif ((x0.length : Int) != (x1.length : Int)) then some (false) else (letk (some (true)) fun k10 => (s_EqualFunc_l1 x1 x2 k10 x0 0)))
def i_Same (x0 : GIpc) (x1 : GIpc) : Option Bool :=
  ((s_EqualN x0.fNames x1.fNames).bind fun y13 => (bif y13 then ((s_EqualFunc x0.fBoxes x1.fBoxes (fun (z0 : GBox) (z1 : GBox) => i_Same1 z0 z1)).bind fun y20 => some (y20)) else some (false)))
def r_Lookup_l1 (x1 : Int) (k7 : Int × Bool) : List GName → Nat → Int × Bool
  | [], i16 => k7
  | z18 :: rest17, i16 => (bif (z18.fName == x1) then (z18.fPid, true) else (r_Lookup_l1 x1 k7 rest17 (i16 + 1)))
def r_Lookup (x0 : GIpc) (x1 : Int) : Int × Bool :=
  (letk (((0 : Int), false)) fun k7 => (r_Lookup_l1 x1 k7 x0.fNames 0))
def r_Register_l1 (x1 : Int) (k77 : GIpc → Option (GIpc × Int)) : List GName → Nat → GIpc → Option (GIpc × Int)
  | [], i100, p95 => k77 p95
  | z102 :: rest101, i100, p95 => (bif (decide (z102.fName > x1)) then ((app 16 p95.fNames ([z102] : List GName)).bind fun z125 => (r_Register_l1 x1 k77 rest101 (i100 + 1) (GIpc.mk z125 p95.fBoxes))) else (r_Register_l1 x1 k77 rest101 (i100 + 1) p95))
def r_Register_l2 (x1 : Int) (k50 : GIpc → Option (GIpc × Int)) : List GName → Nat → GIpc → Option (GIpc × Int)
  | [], i142, p137 => k50 p137
  | z144 :: rest143, i142, p137 => (bif (decide (z144.fName < x1)) then ((app 16 p137.fNames ([z144] : List GName)).bind fun z167 => (r_Register_l2 x1 k50 rest143 (i142 + 1) (GIpc.mk z167 p137.fBoxes))) else (r_Register_l2 x1 k50 rest143 (i142 + 1) p137))
def r_Register (fuel : Nat) (x0 : GIpc) (x1 : Int) (x2 : Int) : Option (GIpc × Int) :=
  ((r_Is fuel x1).bind fun y14 => (bif (!y14) then some (((GIpc.mk ([] : List GName) ([] : List GBox)), (351 : Int))) else (bif (!(r_Pid x2)) then some (((GIpc.mk ([] : List GName) ([] : List GBox)), (2 : Int))) else (bif (((r_Lookup x0 x1)).2) then some (((GIpc.mk ([] : List GName) ([] : List GBox)), (5 : Int))) else (bif ((x0.fNames.length : Int) == (16 : Int)) then some (((GIpc.mk ([] : List GName) ([] : List GBox)), (6 : Int))) else (letk (fun (p54 : GIpc) => ((app 16 p54.fNames ([(GName.mk x1 x2)] : List GName)).bind fun z65 => (letk (fun (p81 : GIpc) => some ((p81, (0 : Int)))) fun k77 => (r_Register_l1 x1 k77 x0.fNames 0 (GIpc.mk z65 p54.fBoxes))))) fun k50 => (r_Register_l2 x1 k50 x0.fNames 0 (GIpc.mk ([] : List GName) x0.fBoxes))))))))
def r_Unregister_l1 (x1 : Int) (k37 : GIpc → Option (GIpc × Int)) : List GName → Nat → GIpc → Option (GIpc × Int)
  | [], i62, p57 => k37 p57
  | z64 :: rest63, i62, p57 => (bif (z64.fName != x1) then ((app 16 p57.fNames ([z64] : List GName)).bind fun z87 => (r_Unregister_l1 x1 k37 rest63 (i62 + 1) (GIpc.mk z87 p57.fBoxes))) else (r_Unregister_l1 x1 k37 rest63 (i62 + 1) p57))
def r_Unregister (fuel : Nat) (x0 : GIpc) (x1 : Int) : Option (GIpc × Int) :=
  ((r_Is fuel x1).bind fun y13 => (bif (!y13) then some (((GIpc.mk ([] : List GName) ([] : List GBox)), (351 : Int))) else (bif (!(((r_Lookup x0 x1)).2)) then some (((GIpc.mk ([] : List GName) ([] : List GBox)), (4 : Int))) else (letk (fun (p41 : GIpc) => some ((p41, (0 : Int)))) fun k37 => (r_Unregister_l1 x1 k37 x0.fNames 0 (GIpc.mk ([] : List GName) x0.fBoxes))))))
def r_Waits_l1 (x1 : Int) (k7 : List Int) : List GBox → Nat → List Int
  | [], i16 => k7
  | z18 :: rest17, i16 => (bif (z18.fPid == x1) then z18.fWords else (r_Waits_l1 x1 k7 rest17 (i16 + 1)))
def r_Waits (x0 : GIpc) (x1 : Int) : List Int :=
  (letk (([] : List Int)) fun k7 => (r_Waits_l1 x1 k7 x0.fBoxes 0))
def r_With_l1 (x1 : Int) (k42 : GIpc → Option GIpc) : List GBox → Nat → GIpc → Option GIpc
  | [], i67, p62 => k42 p62
  | z69 :: rest68, i67, p62 => (bif (decide (z69.fPid > x1)) then ((app 32 p62.fBoxes ([z69] : List GBox)).bind fun z96 => (r_With_l1 x1 k42 rest68 (i67 + 1) (GIpc.mk p62.fNames z96))) else (r_With_l1 x1 k42 rest68 (i67 + 1) p62))
def r_With_l2 (x1 : Int) (k18 : GIpc → Option GIpc) : List GBox → Nat → GIpc → Option GIpc
  | [], i133, p128 => k18 p128
  | z135 :: rest134, i133, p128 => (bif (decide (z135.fPid < x1)) then ((app 32 p128.fBoxes ([z135] : List GBox)).bind fun z162 => (r_With_l2 x1 k18 rest134 (i133 + 1) (GIpc.mk p128.fNames z162))) else (r_With_l2 x1 k18 rest134 (i133 + 1) p128))
def r_With (x0 : GIpc) (x1 : Int) (x2 : List Int) : Option GIpc :=
  (letk (fun (p22 : GIpc) => (letk (fun (p34 : GIpc) => (letk (fun (p46 : GIpc) => some (p46)) fun k42 => (r_With_l1 x1 k42 x0.fBoxes 0 p34))) fun k30 => (bif (decide ((x2.length : Int) > (0 : Int))) then ((app 32 p22.fBoxes ([(GBox.mk x1 x2)] : List GBox)).bind fun z114 => k30 (GIpc.mk p22.fNames z114)) else k30 p22))) fun k18 => (r_With_l2 x1 k18 x0.fBoxes 0 (GIpc.mk x0.fNames ([] : List GBox))))
def s_Grow (n : Int) : Option (List Int) := if 0 ≤ n ∧ n * 8 ≤ 140737488355328 then some [] else none
def s_Concat_l1 (k18 : List Int → Option (List Int)) : List (List Int) → Nat → List Int → Option (List Int)
  | [], i33, p30 => k18 p30
  | z35 :: rest34, i33, p30 => ((app 8 p30 z35).bind fun z48 => (s_Concat_l1 k18 rest34 (i33 + 1) z48))
def s_Concat_l2 (k3 : Int → Option (List Int)) : List (List Int) → Nat → Int → Option (List Int)
  | [], i59, p58 => k3 p58
  | z61 :: rest60, i59, p58 => (bif (decide ((IntKind.i64.wrap (p58 + (z61.length : Int))) < (0 : Int))) then none else (s_Concat_l2 k3 rest60 (i59 + 1) (IntKind.i64.wrap (p58 + (z61.length : Int)))))
def s_Concat (x0 : List (List Int)) : Option (List Int) :=
  (letk (fun (p7 : Int) => ((s_Grow p7).bind fun z10 => (letk (fun (p22 : List Int) => some (p22)) fun k18 => (s_Concat_l1 k18 x0 0 z10)))) fun k3 => (s_Concat_l2 k3 x0 0 (0 : Int)))
def s_Clone (x0 : List Int) : Option (List Int) :=
  ((app 8 ([] : List Int) x0).bind fun z9 => some (z9))
def s_CloneN (x0 : List GName) : Option (List GName) :=
  ((app 16 ([] : List GName) x0).bind fun z9 => some (z9))
def own_l1 (k28 : GIpc → Option GIpc) : List GBox → Nat → GIpc → Option GIpc
  | [], i53, p48 => k28 p48
  | z55 :: rest54, i53, p48 => (bif (decide ((i53 : Int) < (20 : Int))) then ((cutx z55.fWords none (some (if (8 : Int) < (z55.fWords.length : Int) then (8 : Int) else (z55.fWords.length : Int))) none).bind fun y82 => ((s_Clone y82).bind fun y84 => ((app 32 p48.fBoxes ([(GBox.mk z55.fPid y84)] : List GBox)).bind fun z104 => (own_l1 k28 rest54 (i53 + 1) (GIpc.mk p48.fNames z104))))) else (own_l1 k28 rest54 (i53 + 1) p48))
def own (x0 : GIpc) : Option GIpc :=
  ((cutx x0.fNames none (some (if (20 : Int) < (x0.fNames.length : Int) then (20 : Int) else (x0.fNames.length : Int))) none).bind fun y10 => ((s_CloneN y10).bind fun y18 => (letk (fun (p32 : GIpc) => some (p32)) fun k28 => (own_l1 k28 x0.fBoxes 0 (GIpc.mk y18 ([] : List GBox))))))
def s_Index_l1 (x1 : Int) (k4 : Int) : List Int → Nat → Int
  | [], i13 => k4
  | z15 :: rest14, i13 => (bif (x1 == z15) then (i13 : Int) else (s_Index_l1 x1 k4 rest14 (i13 + 1)))
def s_Index (x0 : List Int) (x1 : Int) : Int :=
  (letk ((-1 : Int)) fun k4 => (s_Index_l1 x1 k4 x0 0))
def s_Contains (x0 : List Int) (x1 : Int) : Bool :=
  (decide ((s_Index x0 x1) ≥ (0 : Int)))
def isNaN_u (x0 : Int) : Bool :=
  (x0 != x0)
def cmp_u (x0 : Int) (x1 : Int) : Int :=
  (bif (isNaN_u x0) then (bif (isNaN_u x1) then (0 : Int) else (-1 : Int)) else (bif (isNaN_u x1) then (1 : Int) else (bif (decide (x0 < x1)) then (-1 : Int) else (bif (decide (x0 > x1)) then (1 : Int) else (0 : Int)))))
def i_find1 (x0 : GName) (x1 : Int) (ck0 : GName → Option (Int)) : Option Int :=
  ((ck0 x0).bind fun y8 => some ((cmp_u y8 x1)))
def s_BinN_l1 (x0 : List GName) (x1 : Int) (x2 : GName → Int → Option (Int)) (k7 : Int → Option (Int × Bool)) : Nat → Int → Int → Option (Int × Bool)
  | 0, _, _ => none
  | fl30 + 1, p28, p29 => (bif (decide (p28 < p29)) then ((idx x0 (IntKind.i64.wrap ((IntKind.u64.wrap (IntKind.i64.wrap (p28 + p29))).fdiv (2 ^ 1)))).bind fun y36 => ((x2 y36 x1).bind fun y40 => (bif (decide (y40 < (0 : Int))) then (s_BinN_l1 x0 x1 x2 k7 fl30 (IntKind.i64.wrap ((IntKind.i64.wrap ((IntKind.u64.wrap (IntKind.i64.wrap (p28 + p29))).fdiv (2 ^ 1))) + (1 : Int))) p29) else (s_BinN_l1 x0 x1 x2 k7 fl30 p28 (IntKind.i64.wrap ((IntKind.u64.wrap (IntKind.i64.wrap (p28 + p29))).fdiv (2 ^ 1))))))) else k7 p28)
def s_BinN (fuel : Nat) (x0 : List GName) (x1 : Int) (x2 : GName → Int → Option (Int)) : Option (Int × Bool) :=
  (letk (fun (p11 : Int) => (bif (decide (p11 < (x0.length : Int))) then ((idx x0 p11).bind fun y17 => ((x2 y17 x1).bind fun y21 => some ((p11, (y21 == (0 : Int)))))) else some ((p11, false)))) fun k7 => (s_BinN_l1 x0 x1 x2 k7 fuel (0 : Int) (x0.length : Int)))
def i_findN (fuel : Nat) (x0 : List GName) (x1 : Int) (x2 : GName → Option (Int)) : Option (Int × Bool) :=
  ((s_BinN fuel x0 x1 (fun (z0 : GName) (z1 : Int) => i_find1 z0 z1 x2)).bind fun y12 => some ((y12.1, y12.2)))
def i_find2 (x0 : GBox) (x1 : Int) (ck0 : GBox → Option (Int)) : Option Int :=
  ((ck0 x0).bind fun y8 => some ((cmp_u y8 x1)))
def s_BinB_l1 (x0 : List GBox) (x1 : Int) (x2 : GBox → Int → Option (Int)) (k7 : Int → Option (Int × Bool)) : Nat → Int → Int → Option (Int × Bool)
  | 0, _, _ => none
  | fl32 + 1, p30, p31 => (bif (decide (p30 < p31)) then ((idx x0 (IntKind.i64.wrap ((IntKind.u64.wrap (IntKind.i64.wrap (p30 + p31))).fdiv (2 ^ 1)))).bind fun y38 => ((x2 y38 x1).bind fun y44 => (bif (decide (y44 < (0 : Int))) then (s_BinB_l1 x0 x1 x2 k7 fl32 (IntKind.i64.wrap ((IntKind.i64.wrap ((IntKind.u64.wrap (IntKind.i64.wrap (p30 + p31))).fdiv (2 ^ 1))) + (1 : Int))) p31) else (s_BinB_l1 x0 x1 x2 k7 fl32 p30 (IntKind.i64.wrap ((IntKind.u64.wrap (IntKind.i64.wrap (p30 + p31))).fdiv (2 ^ 1))))))) else k7 p30)
def s_BinB (fuel : Nat) (x0 : List GBox) (x1 : Int) (x2 : GBox → Int → Option (Int)) : Option (Int × Bool) :=
  (letk (fun (p11 : Int) => (bif (decide (p11 < (x0.length : Int))) then ((idx x0 p11).bind fun y17 => ((x2 y17 x1).bind fun y23 => some ((p11, (y23 == (0 : Int)))))) else some ((p11, false)))) fun k7 => (s_BinB_l1 x0 x1 x2 k7 fuel (0 : Int) (x0.length : Int)))
def i_findB (fuel : Nat) (x0 : List GBox) (x1 : Int) (x2 : GBox → Option (Int)) : Option (Int × Bool) :=
  ((s_BinB fuel x0 x1 (fun (z0 : GBox) (z1 : Int) => i_find2 z0 z1 x2)).bind fun y12 => some ((y12.1, y12.2)))
def r_Right_l1 (x0 : GIpc) (k13 : Option Bool) : List GBox → Nat → Option Bool
  | [], i24 => k13
  | z26 :: rest25, i24 => (bif (!(r_Pid z26.fPid)) then some (false) else (bif ((z26.fWords.length : Int) == (0 : Int)) then some (false) else (bif (decide ((z26.fWords.length : Int) > (4 : Int))) then some (false) else (bif (decide ((i24 : Int) > (0 : Int))) then ((idx x0.fBoxes (IntKind.i64.wrap ((i24 : Int) - (1 : Int)))).bind fun y58 => (bif (decide (y58.fPid ≥ z26.fPid)) then some (false) else (r_Right_l1 x0 k13 rest25 (i24 + 1)))) else (r_Right_l1 x0 k13 rest25 (i24 + 1))))))
def r_Right_l2 (x0 : GIpc) (k6 : Option Bool) (fuel : Nat) : List GName → Nat → Option Bool
  | [], i76 => k6
  | z78 :: rest77, i76 => ((r_Is fuel z78.fName).bind fun y96 => (bif (!y96) then some (false) else (bif (!(r_Pid z78.fPid)) then some (false) else (bif (decide ((i76 : Int) > (0 : Int))) then ((idx x0.fNames (IntKind.i64.wrap ((i76 : Int) - (1 : Int)))).bind fun y105 => (bif (decide (y105.fName ≥ z78.fName)) then some (false) else (r_Right_l2 x0 k6 fuel rest77 (i76 + 1)))) else (r_Right_l2 x0 k6 fuel rest77 (i76 + 1))))))
def r_Right (fuel : Nat) (x0 : GIpc) : Option Bool :=
  (letk ((letk (some ((decide ((x0.fNames.length : Int) ≤ (16 : Int))))) fun k13 => (r_Right_l1 x0 k13 x0.fBoxes 0))) fun k6 => (r_Right_l2 x0 k6 fuel x0.fNames 0))
def i_Check_l1 (x0 : GIpc) (k16 : Option Int) : List GBox → Nat → Option Int
  | [], i25 => k16
  | z27 :: rest26, i25 => (bif (!(i_isPid z27.fPid)) then some ((350 : Int)) else (bif (decide ((z27.fWords.length : Int) < (1 : Int))) then some ((350 : Int)) else (bif (decide ((z27.fWords.length : Int) > (4 : Int))) then some ((350 : Int)) else (bif (decide ((i25 : Int) > (0 : Int))) then ((idx x0.fBoxes (IntKind.i64.wrap ((i25 : Int) - (1 : Int)))).bind fun y59 => (bif (decide (y59.fPid ≥ z27.fPid)) then some ((350 : Int)) else (i_Check_l1 x0 k16 rest26 (i25 + 1)))) else (i_Check_l1 x0 k16 rest26 (i25 + 1))))))
def i_Check_l2 (x0 : GIpc) (k9 : Option Int) (fuel : Nat) : List GName → Nat → Option Int
  | [], i75 => k9
  | z77 :: rest76, i75 => ((i_Is fuel z77.fName).bind fun y95 => (bif (!y95) then some ((350 : Int)) else (bif (!(i_isPid z77.fPid)) then some ((350 : Int)) else (bif (decide ((i75 : Int) > (0 : Int))) then ((idx x0.fNames (IntKind.i64.wrap ((i75 : Int) - (1 : Int)))).bind fun y104 => (bif (decide (y104.fName ≥ z77.fName)) then some ((350 : Int)) else (i_Check_l2 x0 k9 fuel rest76 (i75 + 1)))) else (i_Check_l2 x0 k9 fuel rest76 (i75 + 1))))))
def i_Check (fuel : Nat) (x0 : GIpc) : Option Int :=
  (bif (decide ((x0.fNames.length : Int) > (16 : Int))) then some ((350 : Int)) else (letk ((letk (some ((0 : Int))) fun k16 => (i_Check_l1 x0 k16 x0.fBoxes 0))) fun k9 => (i_Check_l2 x0 k9 fuel x0.fNames 0)))
def i_held1_l1 (ck1 : Int) : List GName → Nat → List Int
  | [], i9 => []
  | z11 :: rest10, i9 => (bif (z11.fPid == ck1) then (z11.fName :: (i_held1_l1 ck1 rest10 (i9 + 1))) else (i_held1_l1 ck1 rest10 (i9 + 1)))
def i_held1 (ck0 : GIpc) (ck1 : Int) : List Int :=
  (i_held1_l1 ck1 ck0.fNames 0)
def i_held (x0 : GIpc) (x1 : Int) : List Int :=
  (i_held1 x0 x1)
def i_Held_l1  : List Int → List Int → Option (List Int)
  | [], p20 => some (p20)
  | z30 :: rest23, p20 => ((app 8 p20 ([z30] : List Int)).bind fun z39 => (i_Held_l1 rest23 z39))
def i_Held (fuel : Nat) (x0 : GIpc) (x1 : Int) : Option (List Int) :=
  ((i_Check fuel x0).bind fun y10 => (bif (y10 != (0 : Int)) then some (([] : List Int)) else (i_Held_l1 (i_held x0 x1) ([] : List Int))))
def i_Lookup (fuel : Nat) (x0 : GIpc) (x1 : Int) : Option (Int × Int) :=
  ((i_Check fuel x0).bind fun y10 => (bif (y10 != (0 : Int)) then some (((0 : Int), (350 : Int))) else ((i_Is fuel x1).bind fun y17 => (bif (!y17) then some (((0 : Int), (351 : Int))) else ((i_findN fuel x0.fNames x1 (fun (z0 : GName) => some (i_nameOf z0))).bind fun y24 => (bif (!y24.2) then some (((0 : Int), (4 : Int))) else ((idx x0.fNames y24.1).bind fun y33 => some ((y33.fPid, (0 : Int))))))))))
/-- the boxes, each with words of its own -/
def i_ownL : List GBox → List GBox → Option (List GBox)
  | [], acc => some acc
  | z :: r, acc => (s_Clone z.fWords).bind fun ws => (app 32 acc [GBox.mk z.fPid ws]).bind fun acc' => i_ownL r acc'
def i_own (fuel : Nat) (x : GIpc) : Option (GIpc × Int) :=
  (i_Check fuel x).bind fun e => bif (!(e == 0)) then some (GIpc.mk [] [], e) else (s_CloneN x.fNames).bind fun ns => (i_ownL x.fBoxes []).bind fun bs => some (GIpc.mk ns bs, 0)

def s_InsertB (xs : List (Int × Value)) (j : Int) (ys : List (Int × Value)) : Option (List (Int × Value)) := insL 32 xs j ys
def tidyX (x : GIpc) : GIpc := GIpc.mk x.fNames (x.fBoxes.filter fun z => !(z.fWords.length == 0))
def i_box (fuel : Nat) (x : GIpc) (pid : Int) : Option (GIpc × Int) :=
  (i_findB fuel x.fBoxes pid (fun (z0 : GBox) => some (i_pidOf z0))).bind fun f => bif (!f.2) then (insL 32 x.fBoxes f.1 [GBox.mk pid []]).bind fun bs => some (GIpc.mk x.fNames bs, f.1) else some (x, f.1)
def i_begin (fuel : Nat) (x : GIpc) (pid : Int) : Option (GIpc × Int × Int) :=
  (i_own fuel x).bind fun h => bif (!(h.2 == 0)) then some (GIpc.mk [] [], 0, h.2) else bif (!(i_isPid pid)) then some (GIpc.mk [] [], 0, 2) else (i_box fuel h.1 pid).bind fun q => some (q.1, q.2, 0)
def s_InsertN (xs : List GName) (j : Int) (ys : List GName) : Option (List GName) := insL 16 xs j ys
def s_DeleteN (xs : List GName) (i j : Int) : Option (List GName) := if 0 ≤ i ∧ i ≤ j ∧ j ≤ xs.length then some (xs.take i.toNat ++ xs.drop j.toNat) else none
/-- a name more -/
def i_Register (fuel : Nat) (x : GIpc) (name pid : Int) : Option (GIpc × Int) :=
  (i_own fuel x).bind fun h => bif (!(h.2 == 0)) then some (GIpc.mk [] [], h.2) else (i_Is fuel name).bind fun ok => bif (!ok) then some (GIpc.mk [] [], 351) else bif (!(i_isPid pid)) then some (GIpc.mk [] [], 2) else
    (i_findN fuel h.1.fNames name (fun (z0 : GName) => some (i_nameOf z0))).bind fun f => bif f.2 then some (GIpc.mk [] [], 5) else bif ((h.1.fNames.length : Int) == 16) then some (GIpc.mk [] [], 6) else
      (s_InsertN h.1.fNames f.1 [GName.mk name pid]).bind fun ns => some (GIpc.mk ns h.1.fBoxes, 0)
def i_Unregister (fuel : Nat) (x : GIpc) (name : Int) : Option (GIpc × Int) :=
  (i_own fuel x).bind fun h => bif (!(h.2 == 0)) then some (GIpc.mk [] [], h.2) else (i_Is fuel name).bind fun ok => bif (!ok) then some (GIpc.mk [] [], 351) else
    (i_findN fuel h.1.fNames name (fun (z0 : GName) => some (i_nameOf z0))).bind fun f => bif (!f.2) then some (GIpc.mk [] [], 4) else
      (s_DeleteN h.1.fNames f.1 (IntKind.i64.wrap (f.1 + 1))).bind fun ns => some (GIpc.mk ns h.1.fBoxes, 0)
/-- nothing waits any more -/
def i_Clear (fuel : Nat) (x : GIpc) (pid : Int) : Option (GIpc × Int × Int) :=
  (i_begin fuel x pid).bind fun h => bif (!(h.2.2 == 0)) then some (GIpc.mk [] [], 0, h.2.2) else (idx h.1.fBoxes h.2.1).bind fun z => some (tidyX (GIpc.mk h.1.fNames (h.1.fBoxes.set h.2.1.toNat (GBox.mk z.fPid []))), (z.fWords.length : Int), 0)
def i_Receive (fuel : Nat) (x : GIpc) (pid : Int) : Option (GIpc × Int × Int) :=
  (i_begin fuel x pid).bind fun h => bif (!(h.2.2 == 0)) then some (GIpc.mk [] [], 0, h.2.2) else (idx h.1.fBoxes h.2.1).bind fun z => bif ((z.fWords.length : Int) == 0) then some (GIpc.mk [] [], 0, 4) else
    (idx z.fWords 0).bind fun w0 => some (tidyX (GIpc.mk h.1.fNames (h.1.fBoxes.set h.2.1.toNat (GBox.mk z.fPid (z.fWords.drop 1)))), w0, 0)
def i_Send (fuel : Nat) (x : GIpc) (pid : Int) (words : List Int) : Option (GIpc × Int) :=
  (i_begin fuel x pid).bind fun h => bif (!(h.2.2 == 0)) then some (GIpc.mk [] [], h.2.2) else (idx h.1.fBoxes h.2.1).bind fun z => bif (decide (IntKind.i64.wrap ((z.fWords.length : Int) + (words.length : Int)) > 4)) then some (GIpc.mk [] [], 6) else
    (app 8 z.fWords words).bind fun ws => some (tidyX (GIpc.mk h.1.fNames (h.1.fBoxes.set h.2.1.toNat (GBox.mk z.fPid ws))), 0)

def wakes (fuel : Nat) : Option Bool :=
  ((i_Register fuel (GIpc.mk ([] : List GName) ([] : List GBox)) (97 : Int) (5 : Int)).bind fun y5 => ((i_Register fuel y5.1 (97 : Int) (6 : Int)).bind fun y28 => ((i_Register fuel y5.1 (98 : Int) (5 : Int)).bind fun y51 => ((i_Lookup fuel y51.1 (97 : Int)).bind fun y71 => ((i_Unregister fuel y51.1 (97 : Int)).bind fun y81 => ((i_Lookup fuel y81.1 (97 : Int)).bind fun y104 => ((i_Send fuel y81.1 (5 : Int) ([(7 : Int), (8 : Int), (9 : Int)] : List Int)).bind fun y118 => ((i_Send fuel y118.1 (5 : Int) ([(1 : Int), (2 : Int)] : List Int)).bind fun y142 => ((i_Receive fuel y118.1 (5 : Int)).bind fun y165 => ((i_Clear fuel y165.1 (5 : Int)).bind fun y187 => (bif (y5.2 == (0 : Int)) then (bif (y51.2 == (0 : Int)) then (bif (y71.2 == (0 : Int)) then (bif (y81.2 == (0 : Int)) then (bif (y118.2 == (0 : Int)) then (bif (y165.2.2 == (0 : Int)) then (bif (y187.2.2 == (0 : Int)) then (bif (y28.2 == (5 : Int)) then (bif (y104.2 == (4 : Int)) then (bif (y142.2 == (6 : Int)) then (bif (y71.1 == (5 : Int)) then (bif (y165.2.1 == (7 : Int)) then (bif (y187.2.1 == (2 : Int)) then ((i_Held fuel y51.1 (5 : Int)).bind fun y225 => ((s_Equal y225 ([(97 : Int), (98 : Int)] : List Int)).bind fun y235 => (bif y235 then ((i_Is fuel (0 : Int)).bind fun y242 => some ((!y242))) else some (false)))) else some (false)) else some (false)) else some (false)) else some (false)) else some (false)) else some (false)) else some (false)) else some (false)) else some (false)) else some (false)) else some (false)) else some (false)) else some (false))))))))))))
def l_Names_l1 (y17 : GIpc) (y36 : Bool) (k39 : Option Bool) (fuel : Nat) : List GName → Nat → Option Bool
  | [], i61 => k39
  | z63 :: rest62, i61 => (bif ((i61 : Int) == (8 : Int)) then k39 else ((i_Register fuel y17 z63.fName z63.fPid).bind fun y86 => ((i_Unregister fuel y17 z63.fName).bind fun y110 => (letk (fun (p145 : Int) (p146 : Int) (p147 : GIpc) (p152 : GIpc) => (bif (y86.2 != p145) then some (false) else (bif (y110.2 != p146) then some (false) else ((r_Same y86.1 p147).bind fun y165 => (bif (!y165) then some (false) else ((r_Same y110.1 p152).bind fun y172 => (bif (!y172) then some (false) else (l_Names_l1 y17 y36 k39 fuel rest62 (i61 + 1))))))))) fun k141 => (bif y36 then ((r_Register fuel y17 z63.fName z63.fPid).bind fun y188 => ((r_Unregister fuel y17 z63.fName).bind fun y208 => k141 y188.2 y208.2 y188.1 y208.1)) else k141 (350 : Int) (350 : Int) (GIpc.mk ([] : List GName) ([] : List GBox)) (GIpc.mk ([] : List GName) ([] : List GBox)))))))
def l_Names (fuel : Nat) (x0 : GIpc) (x1 : List GName) : Option Bool :=
  ((wakes fuel).bind fun y10 => (bif (!y10) then some (false) else ((own x0).bind fun y17 => ((r_Right fuel y17).bind fun y36 => (letk (((own x0).bind fun y45 => ((r_Same y17 y45).bind fun y47 => some (y47)))) fun k39 => (l_Names_l1 y17 y36 k39 fuel x1 0))))))
def l_Order_l1 (x1 : GTwo) (k86 : List Int → GIpc → Option Bool) (fuel : Nat) : List Int → Nat → List Int → GIpc → Option Bool
  | [], i165, p157, p160 => k86 p157 p160
  | z167 :: rest166, i165, p157, p160 => (bif ((i165 : Int) == (20 : Int)) then k86 p157 p160 else (letk (fun (p186 : Bool) => (bif p186 then ((i_Receive fuel p160 x1.f0).bind fun y194 => (bif (y194.2.2 != (0 : Int)) then some (false) else ((idx p157 (0 : Int)).bind fun y218 => (bif (y194.2.1 != y218) then some (false) else ((cutx p157 (some (1 : Int)) none none).bind fun y223 => (l_Order_l1 x1 k86 fuel rest166 (i165 + 1) y223 y194.1)))))) else (letk (fun (p243 : GIpc) => ((i_Send fuel p243 x1.f0 ([z167] : List Int)).bind fun y258 => (bif (!((y258.2 == (0 : Int)) == (decide ((p157.length : Int) < (4 : Int))))) then some (false) else (letk (fun (p285 : List Int) (p288 : GIpc) => ((i_Check fuel p288).bind fun y299 => (bif (y299 != (0 : Int)) then some (false) else (l_Order_l1 x1 k86 fuel rest166 (i165 + 1) p285 p288)))) fun k281 => (bif (y258.2 == (0 : Int)) then ((app 8 p157 [z167]).bind fun z303 => k281 z303 y258.1) else k281 p157 p243))))) fun k239 => ((i_Send fuel p160 x1.f1 ([z167] : List Int)).bind fun y324 => (bif (y324.2 == (0 : Int)) then k239 y324.1 else k239 p160))))) fun k182 => (bif ((z167.tmod (3 : Int)) == (0 : Int)) then k182 (decide ((p157.length : Int) > (0 : Int))) else k182 false)))
def l_Order (fuel : Nat) (x0 : GIpc) (x1 : GTwo) (x2 : List Int) : Option Bool :=
  ((wakes fuel).bind fun y14 => (bif (!y14) then some (false) else ((own x0).bind fun y21 => ((i_Check fuel y21).bind fun y40 => (bif (y40 != (0 : Int)) then some (true) else (bif (x1.f0 == x1.f1) then some (true) else ((i_Clear fuel y21 x1.f0).bind fun y48 => (bif (y48.2.2 != (0 : Int)) then some ((y48.2.2 == (2 : Int))) else ((i_Held fuel y48.1 x1.f0).bind fun y67 => ((i_Held fuel y48.1 x1.f1).bind fun y69 => (letk (fun (p90 : List Int) (p93 : GIpc) => ((i_Clear fuel p93 x1.f0).bind fun y104 => (bif (y104.2.2 == (0 : Int)) then (bif (y104.2.1 == (p90.length : Int)) then ((i_Held fuel p93 x1.f0).bind fun y133 => ((s_Equal y133 y67).bind fun y139 => (bif y139 then ((i_Held fuel p93 x1.f1).bind fun y146 => ((s_Equal y146 y69).bind fun y152 => some (y152))) else some (false)))) else some (false)) else some (false)))) fun k86 => (l_Order_l1 x1 k86 fuel x2 0 ([] : List Int) y48.1))))))))))))
def l_Back (fuel : Nat) (x0 : GIpc) (x1 : GName) (x2 : Int) : Option Bool :=
  ((wakes fuel).bind fun y14 => (bif (!y14) then some (false) else ((own x0).bind fun y21 => ((i_Register fuel y21 x1.fName x1.fPid).bind fun y40 => (bif (y40.2 != (0 : Int)) then some (((IntKind.i64.wrap ((y40.1.fNames.length : Int) + (y40.1.fBoxes.length : Int))) == (0 : Int))) else ((i_Lookup fuel y40.1 x1.fName).bind fun y64 => ((i_Unregister fuel y40.1 x1.fName).bind fun y74 => ((i_Lookup fuel y21 x1.fName).bind fun y97 => (bif (y64.2 != (0 : Int)) then some (false) else (bif (y74.2 != (0 : Int)) then some (false) else (bif (y97.2 != (4 : Int)) then some (false) else (bif (y64.1 != x1.fPid) then some (false) else ((i_Same y74.1 y21).bind fun y115 => (bif (!y115) then some (false) else ((i_Held fuel y40.1 x1.fPid).bind fun y120 => (bif (!(s_Contains y120 x1.fName)) then some (false) else ((i_Lookup fuel y21 x2).bind fun y132 => ((i_Lookup fuel y40.1 x2).bind fun y142 => (bif (x2 == x1.fName) then some (true) else (bif (y132.1 == y142.1) then some ((y132.2 == y142.2)) else some (false)))))))))))))))))))))
def l_Words_l1 (y18 : GIpc) (y37 : Bool) (y49 : List Int) (k52 : Option Bool) (fuel : Nat) : List Int → Nat → Option Bool
  | [], i74 => k52
  | z76 :: rest75, i74 => (bif ((i74 : Int) == (6 : Int)) then k52 else ((i_Send fuel y18 z76 y49).bind fun y94 => ((i_Receive fuel y18 z76).bind fun y118 => ((i_Clear fuel y18 z76).bind fun y144 => (letk (fun (p186 : Int) (p187 : Int) (p188 : Int) => (letk (fun (p196 : Int) (p197 : Int) (p198 : Int) (p199 : Int) (p200 : Int) (p201 : GIpc) (p206 : GIpc) (p211 : GIpc) => (bif (y94.2 != p198) then some (false) else (bif (y118.2.2 != p199) then some (false) else (bif (y144.2.2 != p200) then some (false) else (bif (y118.2.1 != p196) then some (false) else (bif (y144.2.1 != p197) then some (false) else ((r_Same y94.1 p201).bind fun y227 => (bif (!y227) then some (false) else ((r_Same y118.1 p206).bind fun y234 => (bif (!y234) then some (false) else ((r_Same y144.1 p211).bind fun y241 => (bif (!y241) then some (false) else (l_Words_l1 y18 y37 y49 k52 fuel rest75 (i74 + 1)))))))))))))) fun k192 => (letk (fun (p259 : Bool) => (bif p259 then (letk (fun (p272 : Int) (p273 : GIpc) => (letk (fun (p285 : Int) (p286 : Int) (p287 : GIpc) => ((r_With y18 z76 ([] : List Int)).bind fun y298 => k192 p285 (((r_Waits y18 z76)).length : Int) p272 p286 (0 : Int) p273 p287 y298)) fun k281 => (bif (decide ((((r_Waits y18 z76)).length : Int) > (0 : Int))) then ((cutx (r_Waits y18 z76) (some (1 : Int)) none none).bind fun y315 => ((r_With y18 z76 y315).bind fun y317 => ((idx ((r_Waits y18 z76)) (0 : Int)).bind fun y319 => k281 y319 (0 : Int) y317))) else k281 (0 : Int) (4 : Int) (GIpc.mk ([] : List GName) ([] : List GBox))))) fun k268 => (bif (decide ((IntKind.i64.wrap ((((r_Waits y18 z76)).length : Int) + (y49.length : Int))) ≤ (4 : Int))) then ((s_Concat ([(r_Waits y18 z76), y49] : List (List Int))).bind fun y348 => ((r_With y18 z76 y348).bind fun y362 => k268 (0 : Int) y362)) else k268 (6 : Int) (GIpc.mk ([] : List GName) ([] : List GBox)))) else k192 (0 : Int) (0 : Int) p186 p187 p188 (GIpc.mk ([] : List GName) ([] : List GBox)) (GIpc.mk ([] : List GName) ([] : List GBox)) (GIpc.mk ([] : List GName) ([] : List GBox)))) fun k255 => (bif y37 then k255 (r_Pid z76) else k255 false)))) fun k182 => (bif y37 then k182 (2 : Int) (2 : Int) (2 : Int) else k182 (350 : Int) (350 : Int) (350 : Int)))))))
def l_Words (fuel : Nat) (x0 : GIpc) (x1 : List Int) (x2 : List Int) : Option Bool :=
  ((wakes fuel).bind fun y11 => (bif (!y11) then some (false) else ((own x0).bind fun y18 => ((r_Right fuel y18).bind fun y37 => ((cutx x2 none (some (if (6 : Int) < (x2.length : Int) then (6 : Int) else (x2.length : Int))) none).bind fun y41 => ((s_Clone y41).bind fun y49 => (letk (((own x0).bind fun y58 => ((r_Same y18 y58).bind fun y60 => some (y60)))) fun k52 => (l_Words_l1 y18 y37 y49 k52 fuel x1 0))))))))
end Go.Proofs.Ytjdeaihnpgkphaa
