/-
  The program's functions as plain Lean functions (printed by a tool of the prover's).
-/
import Derived.Test.YtbaffpifmfddeaaDoorDcMake
namespace Go.Proofs.YtbaffpifmfddeaaDoor
open Go.Dc
structure GDesc where
  fPid : Int
  fFd : Int
  fWhat : Int
  deriving Repr, DecidableEq
structure GField where
  fAt : Int
  fWide : Int
  deriving Repr, DecidableEq
structure GBitsField where
  fField : GField
  deriving Repr, DecidableEq
def eqGDesc (x y : GDesc) : Bool := (x.fPid == y.fPid) && (x.fFd == y.fFd) && (x.fWhat == y.fWhat)
def g_parts : List GField := [⟨3, 32⟩, ⟨0, 3⟩]
def d_is (x0 : GDesc) : Bool :=
  (bif (decide (x0.fPid < (4294967296 : Int))) then (bif (decide (x0.fFd ≥ (0 : Int))) then (decide (x0.fFd < (8 : Int))) else false) else false)
def isNaN_u (x0 : Int) : Bool :=
  (x0 != x0)
def isNaN_i (x0 : Int) : Bool :=
  (x0 != x0)
def cmp_u (x0 : Int) (x1 : Int) : Int :=
  (bif (isNaN_u x0) then (bif (isNaN_u x1) then (0 : Int) else (-1 : Int)) else (bif (isNaN_u x1) then (1 : Int) else (bif (decide (x0 < x1)) then (-1 : Int) else (bif (decide (x0 > x1)) then (1 : Int) else (0 : Int)))))
def cmp_i (x0 : Int) (x1 : Int) : Int :=
  (bif (isNaN_i x0) then (bif (isNaN_i x1) then (0 : Int) else (-1 : Int)) else (bif (isNaN_i x1) then (1 : Int) else (bif (decide (x0 < x1)) then (-1 : Int) else (bif (decide (x0 > x1)) then (1 : Int) else (0 : Int)))))
def r_Is (x0 : GDesc) : Bool :=
  (bif (decide (x0.fPid < (4294967296 : Int))) then (bif (decide (x0.fFd ≥ (0 : Int))) then (decide (x0.fFd ≤ (7 : Int))) else false) else false)
def r_ahead (x0 : GDesc) (x1 : GDesc) : Bool :=
  (bif (decide (x0.fPid < x1.fPid)) then true else (bif (x0.fPid == x1.fPid) then (decide (x0.fFd < x1.fFd)) else false))
def r_Key (x0 : GDesc) : Int :=
  (IntKind.u64.wrap ((IntKind.u64.wrap ((8 : Int) * x0.fPid)) + (IntKind.u64.wrap x0.fFd)))
def ones (x0 : Int) : Option Int :=
  (bif (decide (x0 ≥ (64 : Int))) then some ((18446744073709551615 : Int)) else ((shlO .u64 (1 : Int) x0).bind fun y2 => some ((IntKind.u64.wrap (y2 - (1 : Int))))))
def mask (x0 : GBitsField) : Option Int :=
  ((ones x0.fField.fWide).bind fun y4 => ((shlO .u64 y4 x0.fField.fAt).bind fun y6 => some (y6)))
def f_is (x0 : GField) : Bool :=
  (bif (decide (x0.fAt ≥ (0 : Int))) then (bif (decide (x0.fWide ≥ (1 : Int))) then (bif (decide (x0.fAt ≤ (64 : Int))) then (bif (decide (x0.fWide ≤ (64 : Int))) then (decide ((IntKind.i64.wrap (x0.fAt + x0.fWide)) ≤ (64 : Int))) else false) else false) else false) else false)
def f_get (x0 : GBitsField) (x1 : Int) : Option Int :=
  ((mask x0).bind fun y4 => ((shrO .u64 (bits .and .u64 x1 y4) x0.fField.fAt).bind fun y6 => some (y6)))
def cmp_or_l1 (k2 : Int) : List Int → Nat → Int
  | [], i11 => k2
  | z13 :: rest12, i11 => (bif (z13 != (0 : Int)) then z13 else (cmp_or_l1 k2 rest12 (i11 + 1)))
def cmp_or (x0 : List Int) : Int :=
  (letk ((0 : Int)) fun k2 => (cmp_or_l1 k2 x0 0))
def r_Right_l1 (x0 : List GDesc) (k2 : Option Bool) : List GDesc → Nat → Option Bool
  | [], i13 => k2
  | z15 :: rest14, i13 => (bif (!(r_Is z15)) then some (false) else (bif (decide ((i13 : Int) > (0 : Int))) then ((idx x0 (IntKind.i64.wrap ((i13 : Int) - (1 : Int)))).bind fun y37 => (bif (!(r_ahead y37 z15)) then some (false) else (r_Right_l1 x0 k2 rest14 (i13 + 1)))) else (r_Right_l1 x0 k2 rest14 (i13 + 1))))
def r_Right (x0 : List GDesc) : Option Bool :=
  (letk (some ((decide ((x0.length : Int) ≤ (64 : Int))))) fun k2 => (r_Right_l1 x0 k2 x0 0))
def r_Find_l1 (x1 : Int) (x2 : Int) (k2 : Int) : List GDesc → Nat → Int
  | [], i11 => k2
  | z13 :: rest12, i11 => (bif (z13.fPid == x1) then (bif (z13.fFd == x2) then (i11 : Int) else (r_Find_l1 x1 x2 k2 rest12 (i11 + 1))) else (r_Find_l1 x1 x2 k2 rest12 (i11 + 1)))
def r_Find (x0 : List GDesc) (x1 : Int) (x2 : Int) : Int :=
  (letk ((-1 : Int)) fun k2 => (r_Find_l1 x1 x2 k2 x0 0))
def r_Count_l1 (x1 : Int) (k2 : Int → Int) : List GDesc → Nat → Int → Int
  | [], i13, p12 => k2 p12
  | z15 :: rest14, i13, p12 => (bif (z15.fWhat == x1) then (r_Count_l1 x1 k2 rest14 (i13 + 1) (IntKind.i64.wrap (p12 + (1 : Int)))) else (r_Count_l1 x1 k2 rest14 (i13 + 1) p12))
def r_Count (x0 : List GDesc) (x1 : Int) : Int :=
  (letk (fun (p6 : Int) => p6) fun k2 => (r_Count_l1 x1 k2 x0 0 (0 : Int)))
def r_Same_l1 (x1 : List GDesc) (k7 : Option Bool) : List GDesc → Nat → Option Bool
  | [], i14 => k7
  | z16 :: rest15, i14 => ((idx x1 (i14 : Int)).bind fun y34 => (bif (!(eqGDesc z16 y34)) then some (false) else (r_Same_l1 x1 k7 rest15 (i14 + 1))))
def r_Same (x0 : List GDesc) (x1 : List GDesc) : Option Bool :=
  (bif ((x0.length : Int) != (x1.length : Int)) then some (false) else (letk (some (true)) fun k7 => (r_Same_l1 x1 k7 x0 0)))
def d_compare (x0 : GDesc) (x1 : GDesc) : Int :=
  (cmp_or ([(cmp_u x0.fPid x1.fPid), (cmp_i x0.fFd x1.fFd)] : List Int))
def d_Check_l1 (x0 : List GDesc) (k5 : Option Int) : List GDesc → Nat → Option Int
  | [], i12 => k5
  | z14 :: rest13, i12 => (bif (!(d_is z14)) then some ((330 : Int)) else (bif (decide ((i12 : Int) > (0 : Int))) then ((idx x0 (IntKind.i64.wrap ((i12 : Int) - (1 : Int)))).bind fun y36 => (bif (decide ((d_compare y36 z14) ≥ (0 : Int))) then some ((330 : Int)) else (d_Check_l1 x0 k5 rest13 (i12 + 1)))) else (d_Check_l1 x0 k5 rest13 (i12 + 1))))
def d_Check (x0 : List GDesc) : Option Int :=
  (bif (decide ((x0.length : Int) > (64 : Int))) then some ((330 : Int)) else (letk (some ((0 : Int))) fun k5 => (d_Check_l1 x0 k5 x0 0)))
def s_Equal_l1 (x1 : List GDesc) (k7 : Option Bool) : List GDesc → Nat → Option Bool
  | [], i14 => k7
  | z16 :: rest15, i14 => ((idx x1 (i14 : Int)).bind fun y25 => (bif (!(eqGDesc z16 y25)) then some (false) else (s_Equal_l1 x1 k7 rest15 (i14 + 1))))
def s_Equal (x0 : List GDesc) (x1 : List GDesc) : Option Bool :=
  (bif ((x0.length : Int) != (x1.length : Int)) then some (false) else (letk (some (true)) fun k7 => (s_Equal_l1 x1 k7 x0 0)))
def Drop1 (x0 : GDesc) (ck0 : Int) : Bool :=
  (x0.fPid != ck0)
def Close1 (x0 : GDesc) (ck0 : GDesc) : Bool :=
  (!(eqGDesc x0 ck0))
def Count1 (x0 : GDesc) (ck0 : Int) : Bool :=
  (x0.fWhat == ck0)
def s_Index_l1 (x1 : Bool) (k2 : Int) : List Bool → Nat → Int
  | [], i11 => k2
  | z13 :: rest12, i11 => (bif (x1 == z13) then (i11 : Int) else (s_Index_l1 x1 k2 rest12 (i11 + 1)))
def s_Index (x0 : List Bool) (x1 : Bool) : Int :=
  (letk ((-1 : Int)) fun k2 => (s_Index_l1 x1 k2 x0 0))
def d_kept_l1 (x1 : GDesc → Option (Bool)) (k2 : List GDesc → Option (List GDesc)) : List GDesc → Nat → List GDesc → Option (List GDesc)
  | [], i17, p14 => k2 p14
  | z19 :: rest18, i17, p14 => ((x1 z19).bind fun y37 => (bif y37 then ((app 24 p14 ([z19] : List GDesc)).bind fun z48 => (d_kept_l1 x1 k2 rest18 (i17 + 1) z48)) else (d_kept_l1 x1 k2 rest18 (i17 + 1) p14)))
def d_kept (x0 : List GDesc) (x1 : GDesc → Option (Bool)) : Option (List GDesc) :=
  (letk (fun (p6 : List GDesc) => some (p6)) fun k2 => (d_kept_l1 x1 k2 x0 0 ([] : List GDesc)))
def d_Count (x0 : List GDesc) (x1 : Int) : Option Int :=
  ((d_Check x0).bind fun y8 => (bif (y8 != (0 : Int)) then some ((0 : Int)) else ((d_kept x0 (fun (z0 : GDesc) => some (Count1 z0 x1))).bind fun y16 => some ((y16.length : Int)))))
def d_Drop (x0 : List GDesc) (x1 : Int) : Option ((List GDesc) × Int) :=
  ((d_Check x0).bind fun y8 => (bif (y8 != (0 : Int)) then some ((([] : List GDesc), (0 : Int))) else ((d_kept x0 (fun (z0 : GDesc) => some (Drop1 z0 x1))).bind fun y16 => some ((y16, (IntKind.i64.wrap ((x0.length : Int) - (y16.length : Int))))))))
def b_Check_l1 (k2 : Bool → Option Int) : List GField → Nat → Int → Bool → Option Int
  | [], i15, p13, p14 => k2 p14
  | z17 :: rest16, i15, p13, p14 => (bif (!(f_is z17)) then k2 (f_is z17) else (((mask (GBitsField.mk z17))).bind fun y40 => (bif (!((bits .and .u64 p13 y40) == (0 : Int))) then k2 ((bits .and .u64 p13 y40) == (0 : Int)) else (((mask (GBitsField.mk z17))).bind fun y47 => (b_Check_l1 k2 rest16 (i15 + 1) (bits .or .u64 p13 y47) ((bits .and .u64 p13 y40) == (0 : Int)))))))
def b_Check (x0 : List GField) : Option Int :=
  (letk (fun (p6 : Bool) => (bif (!p6) then some ((110 : Int)) else some ((0 : Int)))) fun k2 => (b_Check_l1 k2 x0 0 (0 : Int) true))
def b_Set (x0 : Int) (x1 : GField) (x2 : Int) : Option (Int × Int) :=
  ((b_Check ([x1] : List GField)).bind fun y12 => (bif (y12 != (0 : Int)) then some (((0 : Int), (110 : Int))) else ((ones x1.fWide).bind fun y19 => (bif (decide (x2 > y19)) then some (((0 : Int), (111 : Int))) else ((mask (GBitsField.mk x1)).bind fun y22 => ((shlO .u64 x2 x1.fAt).bind fun y24 => some (((bits .or .u64 (bits .andNot .u64 x0 y22) y24), (0 : Int)))))))))
def b_Pack_l1 (x1 : List Int) (k14 : Int → Option (Int × Int)) : List GField → Nat → Int → Option (Int × Int)
  | [], i23, p22 => k14 p22
  | z25 :: rest24, i23, p22 => ((idx x1 (i23 : Int)).bind fun y43 => ((b_Set p22 z25 y43).bind fun y45 => (bif (y45.2 != (0 : Int)) then some (((0 : Int), y45.2)) else (b_Pack_l1 x1 k14 rest24 (i23 + 1) y45.1))))
def b_Pack (x0 : List GField) (x1 : List Int) : Option (Int × Int) :=
  ((b_Check x0).bind fun y5 => (bif (y5 != (0 : Int)) then some (((0 : Int), y5)) else (bif ((x1.length : Int) != (x0.length : Int)) then some (((0 : Int), (2 : Int))) else (letk (fun (p18 : Int) => some ((p18, (0 : Int)))) fun k14 => (b_Pack_l1 x1 k14 x0 0 (0 : Int))))))
def b_Split_l1 (x0 : Int) (k9 : List Int → Option ((List Int) × Int)) : List GField → Nat → List Int → Option ((List Int) × Int)
  | [], i24, p21 => k9 p21
  | z26 :: rest25, i24, p21 => ((f_get (GBitsField.mk z26) x0).bind fun y48 => ((app 8 p21 ([y48] : List Int)).bind fun z54 => (b_Split_l1 x0 k9 rest25 (i24 + 1) z54)))
def b_Split (x0 : Int) (x1 : List GField) : Option ((List Int) × Int) :=
  ((b_Check x1).bind fun y5 => (bif (y5 != (0 : Int)) then some ((([] : List Int), y5)) else (letk (fun (p13 : List Int) => some ((p13, (0 : Int)))) fun k9 => (b_Split_l1 x0 k9 x1 0 ([] : List Int)))))
def d_Key (x0 : GDesc) : Option (Int × Int) :=
  (bif (!(d_is x0)) then some (((0 : Int), (2 : Int))) else ((b_Pack g_parts ([x0.fPid, (IntKind.u64.wrap x0.fFd)] : List Int)).bind fun y19 => some ((y19.1, y19.2))))
def d_of1_l1 (ck1 : Int) : List GDesc → Nat → List GDesc
  | [], i6 => []
  | z8 :: rest7, i6 => (bif (z8.fPid == ck1) then (z8 :: (d_of1_l1 ck1 rest7 (i6 + 1))) else (d_of1_l1 ck1 rest7 (i6 + 1)))
def d_of1 (ck0 : List GDesc) (ck1 : Int) : List GDesc :=
  (d_of1_l1 ck1 ck0 0)
def d_of (x0 : List GDesc) (x1 : Int) : List GDesc :=
  (d_of1 x0 x1)
def d_Has_l1 (x2 : Int) (k29 : Int → Bool → Option (Int × Bool)) : List GDesc → Int → Bool → Option (Int × Bool)
  | [], p25, p26 => some (((0 : Int), false))
  | z43 :: rest36, p25, p26 => (bif (z43.fFd == x2) then k29 z43.fWhat true else (d_Has_l1 x2 k29 rest36 p25 p26))
def d_Has (x0 : List GDesc) (x1 : Int) (x2 : Int) : Option (Int × Bool) :=
  ((d_Check x0).bind fun y14 => (bif (y14 != (0 : Int)) then some (((0 : Int), false)) else (letk (fun (p27 : Int) (p28 : Bool) => some ((p27, p28))) fun k29 => (d_Has_l1 x2 k29 (d_of x0 x1) (0 : Int) false))))
def s_Clone (x0 : List GDesc) : Option (List GDesc) :=
  ((app 24 ([] : List GDesc) x0).bind fun z8 => some (z8))
def own (x0 : List GDesc) : Option (List GDesc) :=
  ((cutx x0 none (some (if (70 : Int) < (x0.length : Int) then (70 : Int) else (x0.length : Int))) none).bind fun y3 => ((s_Clone y3).bind fun y11 => some (y11)))
def d_Close_l1 (x1 : Int) (k15 : List GDesc → Bool → Option ((List GDesc) × Int)) : List Int → Nat → List GDesc → Bool → Option ((List GDesc) × Int)
  | [], i33, p29, p32 => k15 p29 p32
  | z35 :: rest34, i33, p29, p32 => ((d_Has p29 x1 z35).bind fun y52 => (bif (!y52.2) then k15 p29 y52.2 else ((d_kept p29 (fun (z0 : GDesc) => some (Close1 z0 (GDesc.mk x1 z35 y52.1)))).bind fun y69 => (d_Close_l1 x1 k15 rest34 (i33 + 1) y69 y52.2))))
def d_Close (x0 : List GDesc) (x1 : Int) (x2 : List Int) : Option ((List GDesc) × Int) :=
  ((d_Check x0).bind fun y5 => (bif (y5 != (0 : Int)) then some ((([] : List GDesc), y5)) else ((s_Clone x0).bind fun y12 => (letk (fun (p19 : List GDesc) (p22 : Bool) => (bif (!p22) then some ((([] : List GDesc), (4 : Int))) else some ((p19, (0 : Int))))) fun k15 => (d_Close_l1 x1 k15 x2 0 y12 true)))))
def d_Back (x0 : Int) (x1 : Int) : Option (GDesc × Int) :=
  ((b_Split x0 g_parts).bind fun y10 => ((idx y10.1 (0 : Int)).bind fun y16 => ((idx y10.1 (1 : Int)).bind fun y18 => ((d_Key (GDesc.mk y16 (IntKind.i64.wrap y18) x1)).bind fun y42 => (bif (y42.2 != (0 : Int)) then some (((GDesc.mk (0 : Int) (0 : Int) (0 : Int)), (2 : Int))) else (bif (y42.1 != x0) then some (((GDesc.mk (0 : Int) (0 : Int) (0 : Int)), (2 : Int))) else some (((GDesc.mk y16 (IntKind.i64.wrap y18) x1), (0 : Int)))))))))
def s_BinarySearchFunc_l1 (x0 : List GDesc) (x1 : GDesc) (x2 : GDesc → GDesc → Option (Int)) (k7 : Int → Option (Int × Bool)) : Nat → Int → Int → Option (Int × Bool)
  | 0, _, _ => none
  | fl35 + 1, p33, p34 => (bif (decide (p33 < p34)) then ((idx x0 (IntKind.i64.wrap ((IntKind.u64.wrap (IntKind.i64.wrap (p33 + p34))).fdiv (2 ^ 1)))).bind fun y39 => ((x2 y39 x1).bind fun y41 => (bif (decide (y41 < (0 : Int))) then (s_BinarySearchFunc_l1 x0 x1 x2 k7 fl35 (IntKind.i64.wrap ((IntKind.i64.wrap ((IntKind.u64.wrap (IntKind.i64.wrap (p33 + p34))).fdiv (2 ^ 1))) + (1 : Int))) p34) else (s_BinarySearchFunc_l1 x0 x1 x2 k7 fl35 p33 (IntKind.i64.wrap ((IntKind.u64.wrap (IntKind.i64.wrap (p33 + p34))).fdiv (2 ^ 1))))))) else k7 p33)
def s_BinarySearchFunc (fuel : Nat) (x0 : List GDesc) (x1 : GDesc) (x2 : GDesc → GDesc → Option (Int)) : Option (Int × Bool) :=
  (letk (fun (p11 : Int) => (bif (decide (p11 < (x0.length : Int))) then ((idx x0 p11).bind fun y15 => ((x2 y15 x1).bind fun y17 => some ((p11, (y17 == (0 : Int)))))) else some ((p11, false)))) fun k7 => (s_BinarySearchFunc_l1 x0 x1 x2 k7 fuel (0 : Int) (x0.length : Int)))
def insDesc (xs : List GDesc) (j : Int) (ys : List GDesc) : Option (List GDesc) := insL 24 xs j ys
def d_Open_l1 (x0 : List GDesc) (x1 : Int) (x2 : Int) (fuel : Nat) : List GDesc → List Bool → Option ((List GDesc) × Int × Int)
  | [], p16 => (bif (decide ((s_Index p16 false) < (0 : Int))) then some ((([] : List GDesc), (0 : Int), (6 : Int))) else (bif ((x0.length : Int) == (64 : Int)) then some ((([] : List GDesc), (0 : Int), (6 : Int))) else ((mkL 24 (x0.length : Int) (x0.length : Int) (GDesc.mk (0 : Int) (0 : Int) (0 : Int))).bind fun z54 => ((s_BinarySearchFunc fuel (cpy z54 x0) (GDesc.mk x1 (s_Index p16 false) x2) (fun (z0 : GDesc) (z1 : GDesc) => some (d_compare z0 z1))).bind fun y75 => ((insDesc (cpy z54 x0) y75.1 ([(GDesc.mk x1 (s_Index p16 false) x2)] : List GDesc)).bind fun z87 => some ((z87, (s_Index p16 false), (0 : Int))))))))
  | z24 :: rest17, p16 => ((idx p16 z24.fFd).bind fun y34 => (d_Open_l1 x0 x1 x2 fuel rest17 (p16.set (z24.fFd).toNat true)))
def d_Open (fuel : Nat) (x0 : List GDesc) (x1 : Int) (x2 : Int) : Option ((List GDesc) × Int × Int) :=
  ((d_Check x0).bind fun y5 => (bif (y5 != (0 : Int)) then some ((([] : List GDesc), (0 : Int), (330 : Int))) else (bif (decide (x1 ≥ (4294967296 : Int))) then some ((([] : List GDesc), (0 : Int), (2 : Int))) else (d_Open_l1 x0 x1 x2 fuel (d_of x0 x1) (List.replicate 8 (false : Bool))))))
def d_Dup (fuel : Nat) (x0 : List GDesc) (x1 : Int) (x2 : Int) : Option ((List GDesc) × Int × Int) :=
  ((d_Check x0).bind fun y5 => (bif (y5 != (0 : Int)) then some ((([] : List GDesc), (0 : Int), (330 : Int))) else (bif (decide (x1 ≥ (4294967296 : Int))) then some ((([] : List GDesc), (0 : Int), (2 : Int))) else ((d_Has x0 x1 x2).bind fun y13 => (bif (!y13.2) then some ((([] : List GDesc), (0 : Int), (4 : Int))) else ((d_Open fuel x0 x1 y13.1).bind fun y24 => some ((y24.1, y24.2.1, y24.2.2))))))))
def wakes (fuel : Nat) : Option Bool :=
  ((d_Open fuel ([] : List GDesc) (5 : Int) (9 : Int)).bind fun y5 => ((d_Open fuel y5.1 (5 : Int) (9 : Int)).bind fun y17 => ((d_Open fuel y17.1 (2 : Int) (9 : Int)).bind fun y29 => ((d_Close y29.1 (5 : Int) ([(0 : Int)] : List Int)).bind fun y45 => ((d_Dup fuel y45.1 (5 : Int) (1 : Int)).bind fun y55 => ((d_Dup fuel y55.1 (5 : Int) (7 : Int)).bind fun y67 => ((d_Key (GDesc.mk (5 : Int) (1 : Int) (0 : Int))).bind fun y79 => ((d_Drop y55.1 (5 : Int)).bind fun y89 => (bif (y5.2.2 == (0 : Int)) then (bif (y17.2.2 == (0 : Int)) then (bif (y29.2.2 == (0 : Int)) then (bif (y45.2 == (0 : Int)) then (bif (y55.2.2 == (0 : Int)) then (bif (y79.2 == (0 : Int)) then (bif (y67.2.2 == (4 : Int)) then (bif (y5.2.1 == (0 : Int)) then (bif (y17.2.1 == (1 : Int)) then (bif (y29.2.1 == (0 : Int)) then (bif (y55.2.1 == (0 : Int)) then ((d_Count y55.1 (9 : Int)).bind fun y110 => (bif (y110 == (3 : Int)) then (bif (y79.1 == (41 : Int)) then (bif (y89.2 == (2 : Int)) then ((s_Equal y89.1 ([(GDesc.mk (2 : Int) (0 : Int) (9 : Int))] : List GDesc)).bind fun y123 => some (y123)) else some (false)) else some (false)) else some (false))) else some (false)) else some (false)) else some (false)) else some (false)) else some (false)) else some (false)) else some (false)) else some (false)) else some (false)) else some (false)) else some (false))))))))))
def l_Apart_l1 (k22 : Option Bool) (fuel : Nat) : List GDesc → Nat → List GDesc → Option Bool
  | [], i34, p31 => k22
  | z36 :: rest35, i34, p31 => (bif ((i34 : Int) == (20 : Int)) then k22 else ((d_Drop p31 z36.fPid).bind fun y59 => (letk (fun (p70 : List GDesc) (p73 : Int) (p74 : Int) => (bif (p73 != (0 : Int)) then (bif (decide ((p70.length : Int) > (0 : Int))) then some (false) else (l_Apart_l1 k22 fuel rest35 (i34 + 1) p31)) else ((d_Drop p70 z36.fPid).bind fun y85 => ((s_Equal y85.1 y59.1).bind fun y95 => (bif (!y95) then some (false) else (bif (y85.2 != (IntKind.i64.wrap (y59.2 + p74))) then some (false) else ((d_Check p70).bind fun y103 => (bif (y103 != (0 : Int)) then some (false) else (l_Apart_l1 k22 fuel rest35 (i34 + 1) p70))))))))) fun k66 => (bif ((z36.fWhat.tmod (3 : Int)) == (0 : Int)) then ((d_Open fuel p31 z36.fPid z36.fWhat).bind fun y111 => k66 y111.1 y111.2.2 (1 : Int)) else (bif ((z36.fWhat.tmod (3 : Int)) == (1 : Int)) then ((d_Dup fuel p31 z36.fPid z36.fFd).bind fun y124 => k66 y124.1 y124.2.2 (1 : Int)) else ((d_Close p31 z36.fPid ([z36.fFd] : List Int)).bind fun y140 => k66 y140.1 y140.2 (-1 : Int)))))))
def l_Apart (fuel : Nat) (x0 : List GDesc) (x1 : List GDesc) : Option Bool :=
  ((wakes fuel).bind fun y5 => (bif (!y5) then some (false) else ((own x0).bind fun y12 => ((d_Check y12).bind fun y18 => (bif (y18 != (0 : Int)) then some (true) else (letk (some (true)) fun k22 => (l_Apart_l1 k22 fuel x1 0 y12)))))))
def l_Tells_l1 (k37 : Option Bool) : List Int → Nat → Option Bool
  | [], i58 => k37
  | z60 :: rest59, i58 => (bif ((i58 : Int) == (8 : Int)) then k37 else ((d_Back z60 (7 : Int)).bind fun y78 => (letk (fun (p99 : Int) (p100 : GDesc) => (bif (!(eqGDesc y78.1 p100)) then some (false) else (bif (y78.2 != p99) then some (false) else (l_Tells_l1 k37 rest59 (i58 + 1))))) fun k95 => (bif (decide (z60 < (34359738368 : Int))) then k95 (0 : Int) (GDesc.mk (IntKind.u64.wrap (z60.tdiv (8 : Int))) (IntKind.i64.wrap (z60.tmod (8 : Int))) (7 : Int)) else k95 (2 : Int) (GDesc.mk (0 : Int) (0 : Int) (0 : Int))))))
def l_Tells_l2 (y12 : List GDesc) (y18 : Bool) (k30 : Option Bool) : List GDesc → Nat → Option Bool
  | [], i111 => k30
  | z113 :: rest112, i111 => (bif ((i111 : Int) == (8 : Int)) then k30 else ((d_Has y12 z113.fPid z113.fFd).bind fun y136 => (letk (fun (p147 : Int) (p148 : Int) => (bif (!(y136.2 == (decide (p147 ≥ (0 : Int))))) then some (false) else (bif (decide (p147 ≥ (0 : Int))) then ((idx y12 p147).bind fun y155 => (bif (y136.1 != y155.fWhat) then some (false) else (bif (decide (p147 < (0 : Int))) then (bif (y136.1 != (0 : Int)) then some (false) else ((d_Count y12 z113.fWhat).bind fun y168 => (bif (y168 != p148) then some (false) else ((d_Key z113).bind fun y175 => (bif (!((y175.2 == (0 : Int)) == (r_Is z113))) then some (false) else (bif (r_Is z113) then (bif (y175.1 != (r_Key z113)) then some (false) else (bif (!(r_Is z113)) then (bif (y175.1 != (0 : Int)) then some (false) else (bif (y175.2 != (2 : Int)) then some (false) else (l_Tells_l2 y12 y18 k30 rest112 (i111 + 1)))) else (l_Tells_l2 y12 y18 k30 rest112 (i111 + 1)))) else (bif (!(r_Is z113)) then (bif (y175.1 != (0 : Int)) then some (false) else (bif (y175.2 != (2 : Int)) then some (false) else (l_Tells_l2 y12 y18 k30 rest112 (i111 + 1)))) else (l_Tells_l2 y12 y18 k30 rest112 (i111 + 1))))))))) else ((d_Count y12 z113.fWhat).bind fun y202 => (bif (y202 != p148) then some (false) else ((d_Key z113).bind fun y209 => (bif (!((y209.2 == (0 : Int)) == (r_Is z113))) then some (false) else (bif (r_Is z113) then (bif (y209.1 != (r_Key z113)) then some (false) else (bif (!(r_Is z113)) then (bif (y209.1 != (0 : Int)) then some (false) else (bif (y209.2 != (2 : Int)) then some (false) else (l_Tells_l2 y12 y18 k30 rest112 (i111 + 1)))) else (l_Tells_l2 y12 y18 k30 rest112 (i111 + 1)))) else (bif (!(r_Is z113)) then (bif (y209.1 != (0 : Int)) then some (false) else (bif (y209.2 != (2 : Int)) then some (false) else (l_Tells_l2 y12 y18 k30 rest112 (i111 + 1)))) else (l_Tells_l2 y12 y18 k30 rest112 (i111 + 1))))))))))) else (bif (decide (p147 < (0 : Int))) then (bif (y136.1 != (0 : Int)) then some (false) else ((d_Count y12 z113.fWhat).bind fun y238 => (bif (y238 != p148) then some (false) else ((d_Key z113).bind fun y245 => (bif (!((y245.2 == (0 : Int)) == (r_Is z113))) then some (false) else (bif (r_Is z113) then (bif (y245.1 != (r_Key z113)) then some (false) else (bif (!(r_Is z113)) then (bif (y245.1 != (0 : Int)) then some (false) else (bif (y245.2 != (2 : Int)) then some (false) else (l_Tells_l2 y12 y18 k30 rest112 (i111 + 1)))) else (l_Tells_l2 y12 y18 k30 rest112 (i111 + 1)))) else (bif (!(r_Is z113)) then (bif (y245.1 != (0 : Int)) then some (false) else (bif (y245.2 != (2 : Int)) then some (false) else (l_Tells_l2 y12 y18 k30 rest112 (i111 + 1)))) else (l_Tells_l2 y12 y18 k30 rest112 (i111 + 1))))))))) else ((d_Count y12 z113.fWhat).bind fun y272 => (bif (y272 != p148) then some (false) else ((d_Key z113).bind fun y279 => (bif (!((y279.2 == (0 : Int)) == (r_Is z113))) then some (false) else (bif (r_Is z113) then (bif (y279.1 != (r_Key z113)) then some (false) else (bif (!(r_Is z113)) then (bif (y279.1 != (0 : Int)) then some (false) else (bif (y279.2 != (2 : Int)) then some (false) else (l_Tells_l2 y12 y18 k30 rest112 (i111 + 1)))) else (l_Tells_l2 y12 y18 k30 rest112 (i111 + 1)))) else (bif (!(r_Is z113)) then (bif (y279.1 != (0 : Int)) then some (false) else (bif (y279.2 != (2 : Int)) then some (false) else (l_Tells_l2 y12 y18 k30 rest112 (i111 + 1)))) else (l_Tells_l2 y12 y18 k30 rest112 (i111 + 1)))))))))))) fun k143 => (bif y18 then k143 (r_Find y12 z113.fPid z113.fFd) (r_Count y12 z113.fWhat) else k143 (-1 : Int) (0 : Int)))))
def l_Tells_l3 (k319 : Option Bool) : List Int → Nat → Option Bool
  | [], i340 => k319
  | z342 :: rest341, i340 => (bif ((i340 : Int) == (8 : Int)) then k319 else ((d_Back z342 (7 : Int)).bind fun y360 => (letk (fun (p381 : Int) (p382 : GDesc) => (bif (!(eqGDesc y360.1 p382)) then some (false) else (bif (y360.2 != p381) then some (false) else (l_Tells_l3 k319 rest341 (i340 + 1))))) fun k377 => (bif (decide (z342 < (34359738368 : Int))) then k377 (0 : Int) (GDesc.mk (IntKind.u64.wrap (z342.tdiv (8 : Int))) (IntKind.i64.wrap (z342.tmod (8 : Int))) (7 : Int)) else k377 (2 : Int) (GDesc.mk (0 : Int) (0 : Int) (0 : Int))))))
def l_Tells_l4 (y12 : List GDesc) (y18 : Bool) (k312 : Option Bool) : List GDesc → Nat → Option Bool
  | [], i393 => k312
  | z395 :: rest394, i393 => (bif ((i393 : Int) == (8 : Int)) then k312 else ((d_Has y12 z395.fPid z395.fFd).bind fun y418 => (letk (fun (p429 : Int) (p430 : Int) => (bif (!(y418.2 == (decide (p429 ≥ (0 : Int))))) then some (false) else (bif (decide (p429 ≥ (0 : Int))) then ((idx y12 p429).bind fun y437 => (bif (y418.1 != y437.fWhat) then some (false) else (bif (decide (p429 < (0 : Int))) then (bif (y418.1 != (0 : Int)) then some (false) else ((d_Count y12 z395.fWhat).bind fun y450 => (bif (y450 != p430) then some (false) else ((d_Key z395).bind fun y457 => (bif (!((y457.2 == (0 : Int)) == (r_Is z395))) then some (false) else (bif (r_Is z395) then (bif (y457.1 != (r_Key z395)) then some (false) else (bif (!(r_Is z395)) then (bif (y457.1 != (0 : Int)) then some (false) else (bif (y457.2 != (2 : Int)) then some (false) else (l_Tells_l4 y12 y18 k312 rest394 (i393 + 1)))) else (l_Tells_l4 y12 y18 k312 rest394 (i393 + 1)))) else (bif (!(r_Is z395)) then (bif (y457.1 != (0 : Int)) then some (false) else (bif (y457.2 != (2 : Int)) then some (false) else (l_Tells_l4 y12 y18 k312 rest394 (i393 + 1)))) else (l_Tells_l4 y12 y18 k312 rest394 (i393 + 1))))))))) else ((d_Count y12 z395.fWhat).bind fun y484 => (bif (y484 != p430) then some (false) else ((d_Key z395).bind fun y491 => (bif (!((y491.2 == (0 : Int)) == (r_Is z395))) then some (false) else (bif (r_Is z395) then (bif (y491.1 != (r_Key z395)) then some (false) else (bif (!(r_Is z395)) then (bif (y491.1 != (0 : Int)) then some (false) else (bif (y491.2 != (2 : Int)) then some (false) else (l_Tells_l4 y12 y18 k312 rest394 (i393 + 1)))) else (l_Tells_l4 y12 y18 k312 rest394 (i393 + 1)))) else (bif (!(r_Is z395)) then (bif (y491.1 != (0 : Int)) then some (false) else (bif (y491.2 != (2 : Int)) then some (false) else (l_Tells_l4 y12 y18 k312 rest394 (i393 + 1)))) else (l_Tells_l4 y12 y18 k312 rest394 (i393 + 1))))))))))) else (bif (decide (p429 < (0 : Int))) then (bif (y418.1 != (0 : Int)) then some (false) else ((d_Count y12 z395.fWhat).bind fun y520 => (bif (y520 != p430) then some (false) else ((d_Key z395).bind fun y527 => (bif (!((y527.2 == (0 : Int)) == (r_Is z395))) then some (false) else (bif (r_Is z395) then (bif (y527.1 != (r_Key z395)) then some (false) else (bif (!(r_Is z395)) then (bif (y527.1 != (0 : Int)) then some (false) else (bif (y527.2 != (2 : Int)) then some (false) else (l_Tells_l4 y12 y18 k312 rest394 (i393 + 1)))) else (l_Tells_l4 y12 y18 k312 rest394 (i393 + 1)))) else (bif (!(r_Is z395)) then (bif (y527.1 != (0 : Int)) then some (false) else (bif (y527.2 != (2 : Int)) then some (false) else (l_Tells_l4 y12 y18 k312 rest394 (i393 + 1)))) else (l_Tells_l4 y12 y18 k312 rest394 (i393 + 1))))))))) else ((d_Count y12 z395.fWhat).bind fun y554 => (bif (y554 != p430) then some (false) else ((d_Key z395).bind fun y561 => (bif (!((y561.2 == (0 : Int)) == (r_Is z395))) then some (false) else (bif (r_Is z395) then (bif (y561.1 != (r_Key z395)) then some (false) else (bif (!(r_Is z395)) then (bif (y561.1 != (0 : Int)) then some (false) else (bif (y561.2 != (2 : Int)) then some (false) else (l_Tells_l4 y12 y18 k312 rest394 (i393 + 1)))) else (l_Tells_l4 y12 y18 k312 rest394 (i393 + 1)))) else (bif (!(r_Is z395)) then (bif (y561.1 != (0 : Int)) then some (false) else (bif (y561.2 != (2 : Int)) then some (false) else (l_Tells_l4 y12 y18 k312 rest394 (i393 + 1)))) else (l_Tells_l4 y12 y18 k312 rest394 (i393 + 1)))))))))))) fun k425 => (bif y18 then k425 (r_Find y12 z395.fPid z395.fFd) (r_Count y12 z395.fWhat) else k425 (-1 : Int) (0 : Int)))))
def l_Tells (fuel : Nat) (x0 : List GDesc) (x1 : List GDesc) (x2 : List Int) : Option Bool :=
  ((wakes fuel).bind fun y5 => (bif (!y5) then some (false) else ((own x0).bind fun y12 => ((r_Right y12).bind fun y18 => ((d_Check y12).bind fun y24 => (bif (!((y24 == (0 : Int)) == y18)) then some (false) else (bif (y24 != (0 : Int)) then (bif (y24 != (330 : Int)) then some (false) else (letk ((letk (((own x0).bind fun y47 => ((r_Same y12 y47).bind fun y53 => some (y53)))) fun k37 => (l_Tells_l1 k37 x2 0))) fun k30 => (l_Tells_l2 y12 y18 k30 x1 0))) else (letk ((letk (((own x0).bind fun y329 => ((r_Same y12 y329).bind fun y335 => some (y335)))) fun k319 => (l_Tells_l3 k319 x2 0))) fun k312 => (l_Tells_l4 y12 y18 k312 x1 0)))))))))
def l_Back_l1 (k75 : Option Bool) : List GDesc → Nat → Option Bool
  | [], i103 => k75
  | z105 :: rest104, i103 => ((d_Key z105).bind fun y127 => ((d_Back y127.1 z105.fWhat).bind fun y137 => (bif (y127.2 != (0 : Int)) then some (false) else (bif (y137.2 != (0 : Int)) then some (false) else (bif (!(eqGDesc y137.1 z105)) then some (false) else (l_Back_l1 k75 rest104 (i103 + 1)))))))
def l_Back (fuel : Nat) (x0 : List GDesc) (x1 : Int) (x2 : Int) : Option Bool :=
  ((wakes fuel).bind fun y5 => (bif (!y5) then some (false) else ((own x0).bind fun y12 => ((d_Open fuel y12 x1 x2).bind fun y18 => (bif (y18.2.2 != (0 : Int)) then some (((y18.1.length : Int) == (0 : Int))) else ((d_Has y18.1 x1 y18.2.1).bind fun y33 => (bif (!y33.2) then some (false) else (bif (y33.1 != x2) then some (false) else ((d_Has y12 x1 y18.2.1).bind fun y45 => (bif y45.2 then some (false) else ((d_Close y18.1 x1 ([y18.2.1] : List Int)).bind fun y60 => (bif (y60.2 != (0 : Int)) then some (false) else ((s_Equal y60.1 y12).bind fun y71 => (bif (!y71) then some (false) else (letk (((d_Check y18.1).bind fun y85 => (bif (y85 == (0 : Int)) then ((d_Count y18.1 x2).bind fun y92 => ((d_Count y12 x2).bind fun y98 => some ((y92 == (IntKind.i64.wrap (y98 + (1 : Int))))))) else some (false)))) fun k75 => (l_Back_l1 k75 y18.1 0))))))))))))))))
end Go.Proofs.YtbaffpifmfddeaaDoor
