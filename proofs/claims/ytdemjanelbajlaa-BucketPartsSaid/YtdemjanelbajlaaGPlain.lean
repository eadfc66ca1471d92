/-
  The program's functions as plain Lean functions (printed by a tool of the prover's).
-/
import Derived.Test.YtdemjanelbajlaaDcGoto
import Derived.Shelf.SlSortCmp.NoneTotal
import Derived.Test.YtdemjanelbajlaaShelf
namespace Go.Proofs.Ytdemjanelbajlaa
open Go.Dc
structure GPair where
  f0 : Int
  f1 : Int
  deriving Repr, DecidableEq
def b_Hash (x0 : Int) : Int :=
  (IntKind.u64.wrap (x0 * (11400714819323198485 : Int)))
def back : Int := 17428512612931826493
def b_Key (x0 : Int) : Int :=
  (IntKind.u64.wrap (x0 * back))
def rotl (x0 : Int) (x1 : Int) : Option Int :=
  ((shlO .u64 x0 (bits .and .u64 (IntKind.u64.wrap x1) (63 : Int))).bind fun y3 => ((shrO .u64 x0 (IntKind.u64.wrap ((64 : Int) - (bits .and .u64 (IntKind.u64.wrap x1) (63 : Int))))).bind fun y5 => some ((bits .or .u64 y3 y5))))
def b_at (x0 : Int) (x1 : Int) : Option Int :=
  ((rotl x0 x1).bind fun y3 => ((shlO .u64 (1 : Int) x1).bind fun y5 => some ((IntKind.i64.wrap (bits .and .u64 y3 (IntKind.u64.wrap (y5 - (1 : Int))))))))
def r_May (x0 : Int) : Bool :=
  (bif (x0 == (4 : Int)) then true else (bif (x0 == (8 : Int)) then true else (x0 == (16 : Int))))
def r_Want (x0 : Int) (x1 : Int) : Int :=
  (letk (fun (p8 : Bool) => (bif p8 then (IntKind.i64.wrap ((2 : Int) * x0)) else (bif (decide ((IntKind.i64.wrap ((2 : Int) * x1)) < x0)) then (bif (decide (x0 > (4 : Int))) then (IntKind.i64.wrap (x0.tdiv (2 : Int))) else x0) else x0))) fun k4 => (bif (decide (x1 > (IntKind.i64.wrap ((2 : Int) * x0)))) then k4 (decide (x0 < (16 : Int))) else k4 false))
def r_Hash (x0 : Int) : Int :=
  (IntKind.u64.wrap (x0 * (11400714819323198485 : Int)))
def r_Of (x0 : Int) (x1 : Int) : Option Int :=
  ((quoO .u64 (9223372036854775808 : Int) (IntKind.u64.wrap ((IntKind.u64.wrap x1).tdiv (2 : Int)))).bind fun y3 => ((quoO .u64 (r_Hash x0) y3).bind fun y9 => some ((IntKind.i64.wrap y9))))
def r_Key_l1 (x0 : Int) (k3 : Int → Option Int) : Nat → Int → Int → Int → Option Int
  | 0, _, _, _ => none
  | fl14 + 1, p11, p12, p13 => (bif (decide (p13 < (64 : Int))) then ((quoO .u64 (IntKind.u64.wrap (p11 * (11400714819323198485 : Int))) p12).bind fun y18 => ((quoO .u64 x0 p12).bind fun y20 => (bif ((y18.tmod (2 : Int)) != (y20.tmod (2 : Int))) then (r_Key_l1 x0 k3 fl14 (IntKind.u64.wrap (p11 + p12)) (IntKind.u64.wrap ((2 : Int) * p12)) (IntKind.i64.wrap (p13 + (1 : Int)))) else (r_Key_l1 x0 k3 fl14 p11 (IntKind.u64.wrap ((2 : Int) * p12)) (IntKind.i64.wrap (p13 + (1 : Int))))))) else k3 p11)
def r_Key (fuel : Nat) (x0 : Int) : Option Int :=
  (letk (fun (p7 : Int) => some (p7)) fun k3 => (r_Key_l1 x0 k3 fuel (0 : Int) (1 : Int) (0 : Int)))
def depths  : List (Int × Int) :=
  (setM (setM (setM ([] : List (Int × Int)) (4 : Int) (2 : Int)) (8 : Int) (3 : Int)) (16 : Int) (4 : Int))
def b_Want (x0 : Int) (x1 : Int) : Int × Int :=
  (letk (fun (p12 : Bool) => (bif p12 then ((0 : Int), (2 : Int)) else (letk (fun (p21 : Bool) => (bif p21 then ((IntKind.i64.wrap ((2 : Int) * x0)), (0 : Int)) else (letk (fun (p30 : Bool) => (bif p30 then ((IntKind.i64.wrap (x0.tdiv (2 : Int))), (0 : Int)) else (x0, (0 : Int)))) fun k26 => (bif (decide (x1 < (IntKind.i64.wrap (x0.tdiv (2 : Int))))) then k26 (decide (x0 > (4 : Int))) else k26 false)))) fun k17 => (bif (decide (x1 > (IntKind.i64.wrap ((2 : Int) * x0)))) then k17 (decide (x0 < (16 : Int))) else k17 false)))) fun k8 => (bif (!(lookM depths x0).isSome) then k8 true else k8 (decide (x1 < (0 : Int)))))
def b_Of (x0 : Int) (x1 : Int) : Option (Int × Int) :=
  (bif (!(lookM depths x1).isSome) then some (((0 : Int), (2 : Int))) else ((b_at (b_Hash x0) ((lookM depths x1).getD 0)).bind fun y16 => some ((y16, (0 : Int)))))
def s_Clone (x0 : List Int) : Option (List Int) :=
  ((app 8 ([] : List Int) x0).bind fun z9 => some (z9))
def i_Clone (x0 : List Int) : Option (List Int) :=
  ((app 8 ([] : List Int) x0).bind fun z9 => some (z9))
def s_Equal_l1 (x1 : List Int) (k9 : Option Bool) : List Int → Nat → Option Bool
  | [], i16 => k9
  | z18 :: rest17, i16 => ((idx x1 (i16 : Int)).bind fun y27 => (bif (z18 != y27) then some (false) else (s_Equal_l1 x1 k9 rest17 (i16 + 1))))
def s_Equal (x0 : List Int) (x1 : List Int) : Option Bool :=
  (bif ((x0.length : Int) != (x1.length : Int)) then some (false) else (letk (some (true)) fun k9 => (s_Equal_l1 x1 k9 x0 0)))
def s_EqualFunc_l1 (x1 : List (List Int)) (x2 : List Int → List Int → Option (Bool)) (k10 : Option Bool) : List (List Int) → Nat → Option Bool
  | [], i17 => k10
  | z19 :: rest18, i17 => ((idx x1 (i17 : Int)).bind fun y34 => ((x2 z19 y34).bind fun y38 => (bif (!y38) then some (false) else (s_EqualFunc_l1 x1 x2 k10 rest18 (i17 + 1)))))
def s_EqualFunc (x0 : List (List Int)) (x1 : List (List Int)) (x2 : List Int → List Int → Option (Bool)) : Option Bool :=
  (bif ((x0.length : Int) != (x1.length : Int)) then some (false) else (letk (some (true)) fun k10 => (s_EqualFunc_l1 x1 x2 k10 x0 0)))
def same (x0 : List (List Int)) (x1 : List (List Int)) : Option Bool :=
  ((s_EqualFunc x0 x1 (fun (z0 : List Int) (z1 : List Int) => s_Equal z0 z1)).bind fun y7 => some (y7))
def s_Index_l1 (x1 : Int) (k4 : Int) : List Int → Nat → Int
  | [], i13 => k4
  | z15 :: rest14, i13 => (bif (x1 == z15) then (i13 : Int) else (s_Index_l1 x1 k4 rest14 (i13 + 1)))
def s_Index (x0 : List Int) (x1 : Int) : Int :=
  (letk ((-1 : Int)) fun k4 => (s_Index_l1 x1 k4 x0 0))
def s_Contains (x0 : List Int) (x1 : Int) : Bool :=
  (decide ((s_Index x0 x1) ≥ (0 : Int)))
def own_l1 (k3 : List (List Int) → Option (List (List Int))) : List (List Int) → Nat → List (List Int) → Option (List (List Int))
  | [], i24, p21 => k3 p21
  | z26 :: rest25, i24, p21 => ((cutx z26 none (some (if (24 : Int) < (z26.length : Int) then (24 : Int) else (z26.length : Int))) none).bind fun y41 => ((s_Clone y41).bind fun y49 => ((app 24 p21 ([y49] : List (List Int))).bind fun z55 => (own_l1 k3 rest25 (i24 + 1) z55))))
def own (x0 : List (List Int)) : Option (List (List Int)) :=
  (letk (fun (p7 : List (List Int)) => some (p7)) fun k3 => ((cutx x0 none (some (if (33 : Int) < (x0.length : Int) then (33 : Int) else (x0.length : Int))) none).bind fun y14 => (own_l1 k3 y14 0 ([] : List (List Int)))))
def r_Put_l1 (x1 : Int) (k25 : List Int → Option (List Int)) : List Int → Nat → List Int → Option (List Int)
  | [], i40, p37 => k25 p37
  | z42 :: rest41, i40, p37 => (bif (decide ((r_Hash z42) > (r_Hash x1))) then ((app 8 p37 ([z42] : List Int)).bind fun z68 => (r_Put_l1 x1 k25 rest41 (i40 + 1) z68)) else (r_Put_l1 x1 k25 rest41 (i40 + 1) p37))
def r_Put_l2 (x1 : Int) (k4 : List Int → Option (List Int)) : List Int → Nat → List Int → Option (List Int)
  | [], i81, p78 => k4 p78
  | z83 :: rest82, i81, p78 => (bif (decide ((r_Hash z83) < (r_Hash x1))) then ((app 8 p78 ([z83] : List Int)).bind fun z109 => (r_Put_l2 x1 k4 rest82 (i81 + 1) z109)) else (r_Put_l2 x1 k4 rest82 (i81 + 1) p78))
def r_Put (x0 : List Int) (x1 : Int) : Option (List Int) :=
  (letk (fun (p8 : List Int) => ((app 8 p8 ([x1] : List Int)).bind fun z17 => (letk (fun (p29 : List Int) => some (p29)) fun k25 => (r_Put_l1 x1 k25 x0 0 z17)))) fun k4 => (r_Put_l2 x1 k4 x0 0 ([] : List Int)))
def r_Keys_l1 (k3 : List Int → Option (List Int)) : List (List Int) → Nat → List Int → Option (List Int)
  | [], i18, p15 => k3 p15
  | z20 :: rest19, i18, p15 => ((app 8 p15 z20).bind fun z33 => (r_Keys_l1 k3 rest19 (i18 + 1) z33))
def r_Keys (x0 : List (List Int)) : Option (List Int) :=
  (letk (fun (p7 : List Int) => some (p7)) fun k3 => (r_Keys_l1 k3 x0 0 ([] : List Int)))
def r_Same_l2 (x1 : List (List Int)) (i16 : Nat) (k28 : Option Bool) : List Int → Nat → Option Bool
  | [], i50 => k28
  | z52 :: rest51, i50 => ((idx x1 (i16 : Int)).bind fun y67 => ((idx y67 (i50 : Int)).bind fun y73 => (bif (z52 != y73) then some (false) else (r_Same_l2 x1 i16 k28 rest51 (i50 + 1)))))
def r_Same_l1 (x1 : List (List Int)) (k9 : Option Bool) : List (List Int) → Nat → Option Bool
  | [], i16 => k9
  | z18 :: rest17, i16 => (letk ((r_Same_l1 x1 k9 rest17 (i16 + 1))) fun k28 => ((idx x1 (i16 : Int)).bind fun y42 => (bif ((z18.length : Int) != (y42.length : Int)) then some (false) else (r_Same_l2 x1 i16 k28 z18 0))))
def r_Same (x0 : List (List Int)) (x1 : List (List Int)) : Option Bool :=
  (bif ((x0.length : Int) != (x1.length : Int)) then some (false) else (letk (some (true)) fun k9 => (r_Same_l1 x1 k9 x0 0)))
def r_Spread_l2 (x0 : Int) (p17 : Int) (k33 : List Int → Option (List (List Int))) : List Int → Nat → List Int → Option (List (List Int))
  | [], i59, p56 => k33 p56
  | z61 :: rest60, i59, p56 => ((r_Of z61 x0).bind fun y78 => (bif (y78 == p17) then ((r_Put p56 z61).bind fun y85 => (r_Spread_l2 x0 p17 k33 rest60 (i59 + 1) y85)) else (r_Spread_l2 x0 p17 k33 rest60 (i59 + 1) p56)))
def r_Spread_l1 (x0 : Int) (x1 : List Int) (k4 : List (List Int) → Option (List (List Int))) : Nat → List (List Int) → Int → Option (List (List Int))
  | 0, _, _ => none
  | fl18 + 1, p14, p17 => (bif (decide (p17 < x0)) then (letk (fun (p27 : List (List Int)) => (r_Spread_l1 x0 x1 k4 fl18 p27 (IntKind.i64.wrap (p17 + (1 : Int))))) fun k23 => (letk (fun (p37 : List Int) => ((app 24 p14 ([p37] : List (List Int))).bind fun z46 => k23 z46)) fun k33 => (r_Spread_l2 x0 p17 k33 x1 0 ([] : List Int)))) else k4 p14)
def r_Spread (fuel : Nat) (x0 : Int) (x1 : List Int) : Option (List (List Int)) :=
  (letk (fun (p8 : List (List Int)) => some (p8)) fun k4 => (r_Spread_l1 x0 x1 k4 fuel ([] : List (List Int)) (0 : Int)))
def r_Right (fuel : Nat) (x0 : List (List Int)) : Option Bool :=
  (bif (r_May (x0.length : Int)) then ((r_Keys x0).bind fun y13 => ((r_Spread fuel (x0.length : Int) y13).bind fun y19 => ((r_Same x0 y19).bind fun y25 => some (y25)))) else some (false))
def r_Seam_l1 (x0 : List (List Int)) (k4 : Int → Option Int) : List Int → Nat → Int → Option Int
  | [], i21, p20 => k4 p20
  | z23 :: rest22, i21, p20 => ((r_Of z23 (IntKind.i64.wrap ((2 : Int) * (x0.length : Int)))).bind fun y42 => (bif ((y42.tmod (2 : Int)) == (0 : Int)) then (r_Seam_l1 x0 k4 rest22 (i21 + 1) (IntKind.i64.wrap (p20 + (1 : Int)))) else (r_Seam_l1 x0 k4 rest22 (i21 + 1) p20)))
def r_Seam (x0 : List (List Int)) (x1 : Int) : Option Int :=
  (letk (fun (p8 : Int) => some (p8)) fun k4 => ((idx x0 x1).bind fun y13 => (r_Seam_l1 x0 k4 y13 0 (0 : Int))))
def s_Values1_l1  : List Int → Nat → List Int
  | [], i7 => []
  | z9 :: rest8, i7 => (z9 :: (s_Values1_l1 rest8 (i7 + 1)))
def s_Values1 (ck0 : List Int) : List Int :=
  (s_Values1_l1 ck0 0)
def s_Values (x0 : List Int) : List Int :=
  (s_Values1 x0)
def s_AppendSeq_l1  : List Int → List Int → Option (List Int)
  | [], p6 => some (p6)
  | z16 :: rest9, p6 => ((app 8 p6 ([z16] : List Int)).bind fun z25 => (s_AppendSeq_l1 rest9 z25))
def s_AppendSeq (x1 : List Int) : Option (List Int) :=
  (s_AppendSeq_l1 x1 ([] : List Int))
def s_Collect (x0 : List Int) : Option (List Int) :=
  ((s_AppendSeq x0).bind fun z2 => some (z2))
def s_Grow (n : Int) : Option (List Int) := if 0 ≤ n ∧ n * 8 ≤ 140737488355328 then some [] else none
def s_Concat_l1 (k18 : List Int → Option (List Int)) : List (List Int) → Nat → List Int → Option (List Int)
  | [], i33, p30 => k18 p30
  | z35 :: rest34, i33, p30 => ((app 8 p30 z35).bind fun z48 => (s_Concat_l1 k18 rest34 (i33 + 1) z48))
def s_Concat_l2 (k3 : Int → Option (List Int)) : List (List Int) → Nat → Int → Option (List Int)
  | [], i59, p58 => k3 p58
  | z61 :: rest60, i59, p58 => (bif (decide ((IntKind.i64.wrap (p58 + (z61.length : Int))) < (0 : Int))) then none else (s_Concat_l2 k3 rest60 (i59 + 1) (IntKind.i64.wrap (p58 + (z61.length : Int)))))
def s_Concat (x0 : List (List Int)) : Option (List Int) :=
  (letk (fun (p7 : Int) => ((s_Grow p7).bind fun z10 => (letk (fun (p22 : List Int) => some (p22)) fun k18 => (s_Concat_l1 k18 x0 0 z10)))) fun k3 => (s_Concat_l2 k3 x0 0 (0 : Int)))
def b_copied (x0 : List Int) : Option (List Int) :=
  ((mkL 8 (x0.length : Int) (x0.length : Int) (0 : Int)).bind fun z4 => some ((cpy z4 x0)))
def s_IndexFunc_l1 (x1 : Int → Option (Bool)) (k4 : Option Int) : List Int → Nat → Option Int
  | [], i13 => k4
  | z15 :: rest14, i13 => ((x1 z15).bind fun y28 => (bif y28 then some ((i13 : Int)) else (s_IndexFunc_l1 x1 k4 rest14 (i13 + 1))))
def s_IndexFunc (x0 : List Int) (x1 : Int → Option (Bool)) : Option Int :=
  (letk (some ((-1 : Int))) fun k4 => (s_IndexFunc_l1 x1 k4 x0 0))
def b_seam1 (x0 : Int) (ck0 : Int) : Option Bool :=
  ((shlO .u64 (b_Hash x0) ck0).bind fun y2 => some (((y2.fdiv (2 ^ 63)) == (1 : Int))))
def b_seam (x0 : List Int) (x1 : Int) : Option Int :=
  ((s_IndexFunc x0 (fun (z0 : Int) => b_seam1 z0 x1)).bind fun y11 => (bif (decide (y11 ≥ (0 : Int))) then some (y11) else some ((x0.length : Int))))
def b_compare (x0 : Int) (x1 : Int) : Int :=
  (bif (decide ((b_Hash x0) < (b_Hash x1))) then (-1 : Int) else (bif (decide ((b_Hash x0) > (b_Hash x1))) then (1 : Int) else (0 : Int)))
/-- consecutive equals, once -/
def dedup : List Int → List Int
  | [] => []
  | [a] => [a]
  | a :: b :: r => if a = b then dedup (b :: r) else a :: dedup (b :: r)
def s_Compact (xs : List Int) : Option (List Int) := some (dedup xs)
theorem dedup_app : ∀ (l : List Int) (b c : Int), dedup (l ++ [b, c]) = if b = c then dedup (l ++ [b]) else dedup (l ++ [b]) ++ [c]
  | [], b, c => by simp only [List.nil_append, dedup]; split <;> simp [*]
  | [a], b, c => by
    simp only [List.cons_append, List.nil_append, dedup]
    by_cases h1 : a = b <;> by_cases h2 : b = c <;> simp [h1, h2]
  | a :: a' :: l, b, c => by
    have ih := dedup_app (a' :: l) b c
    simp only [List.cons_append] at ih ⊢
    simp only [dedup]
    by_cases h : a = a'
    · simp only [h, if_true, ih]
    · simp only [h, if_false, ih]
      split <;> simp
theorem dedup_take {xs : List Int} {j : Nat} {a b : Int} (h1 : xs[j]? = some a) (h2 : xs[j + 1]? = some b) : dedup (xs.take (j + 2)) = if a = b then dedup (xs.take (j + 1)) else dedup (xs.take (j + 1)) ++ [b] := by
  have e1 : xs.take (j + 1) = xs.take j ++ [a] := by rw [List.take_add_one, h1]; rfl
  have e2 : xs.take (j + 2) = xs.take j ++ [a, b] := by rw [List.take_add_one, h2, e1]; simp
  rw [e2, dedup_app, e1]
/-- a row of uint64s, sorted by the program's compare: the library's own pdqsort -/
def sortedU (ys : List Int) : List Int := (Go.Sort.pdq (Go.Proofs.ltOf b_compare) ys.toArray 0 ys.length (Go.Lib.bitLen ys.length) true true).toList
def s_SortedFunc (x0 : List Int) : Option (List Int) := (s_Collect x0).bind fun ys => if ys.length < 4611686018427387904 then some (sortedU ys) else none
def b_sorted1_l1  : List Int → Nat → List Int
  | [], i25 => []
  | z27 :: rest26, i25 => (z27 :: (b_sorted1_l1 rest26 (i25 + 1)))
def b_sorted1 (ck0 : List Int) : Option (List Int) :=
  ((s_SortedFunc (s_Values ck0)).bind fun z8 => ((s_Compact z8).bind fun z15 => some ((b_sorted1_l1 z15 0))))
def b_sorted (x0 : List Int) : Option (List Int) :=
  ((b_sorted1 x0).bind fun z6 => some (z6))
def b_Spread_l1 (x0 : Int) : List Int → List (List Int) → Option ((List (List Int)) × Int)
  | [], p35 => some ((p35, (0 : Int)))
  | z46 :: rest39, p35 => ((b_at (b_Hash z46) ((lookM depths x0).getD 0)).bind fun y51 => ((idx p35 y51).bind fun y55 => ((app 8 y55 [z46]).bind fun z57 => (b_Spread_l1 x0 rest39 (p35.set y51.toNat z57)))))
def b_Spread (x0 : Int) (x1 : List Int) : Option ((List (List Int)) × Int) :=
  (bif (!(lookM depths x0).isSome) then some ((([] : List (List Int)), (2 : Int))) else ((mkL 24 x0 x0 []).bind fun z13 => ((b_sorted x1).bind fun y33 => (b_Spread_l1 x0 y33 z13))))
def b_Check (x0 : List (List Int)) : Option Int :=
  ((s_Concat x0).bind fun y8 => ((b_Spread (x0.length : Int) y8).bind fun y14 => (bif (y14.2 != (0 : Int)) then some ((280 : Int)) else ((s_EqualFunc x0 y14.1 (fun (z0 : List Int) (z1 : List Int) => s_Equal z0 z1)).bind fun y25 => (bif (!y25) then some ((280 : Int)) else some ((0 : Int)))))))
def b_Seam (x0 : List (List Int)) (x1 : Int) : Option (Int × Int) :=
  ((b_Check x0).bind fun y7 => (bif (y7 != (0 : Int)) then some (((0 : Int), (280 : Int))) else (bif (decide (x1 < (0 : Int))) then some (((0 : Int), (2 : Int))) else (bif (decide (x1 ≥ (x0.length : Int))) then some (((0 : Int), (2 : Int))) else ((idx x0 x1).bind fun y14 => ((b_seam y14 ((lookM depths (x0.length : Int)).getD 0)).bind fun y16 => some ((y16, (0 : Int)))))))))
def b_Expand_l1 (x0 : List (List Int)) (k13 : List (List Int) → Option ((List (List Int)) × Int)) : List (List Int) → Nat → List (List Int) → Option ((List (List Int)) × Int)
  | [], i26, p23 => k13 p23
  | z28 :: rest27, i26, p23 => ((b_seam z28 ((lookM depths (x0.length : Int)).getD 0)).bind fun y49 => ((cutx z28 none (some y49) (some y49)).bind fun y51 => ((b_copied y51).bind fun y53 => ((cutx z28 (some y49) none none).bind fun y55 => ((b_copied y55).bind fun y57 => ((app 24 p23 ([y53, y57] : List (List Int))).bind fun z82 => (b_Expand_l1 x0 k13 rest27 (i26 + 1) z82)))))))
def b_Expand (x0 : List (List Int)) : Option ((List (List Int)) × Int) :=
  ((b_Check x0).bind fun y6 => (bif (y6 != (0 : Int)) then some ((([] : List (List Int)), (280 : Int))) else (bif ((x0.length : Int) == (16 : Int)) then some ((([] : List (List Int)), (6 : Int))) else (letk (fun (p17 : List (List Int)) => some ((p17, (0 : Int)))) fun k13 => (b_Expand_l1 x0 k13 x0 0 ([] : List (List Int)))))))
def b_Shrink_l1 (x0 : List (List Int)) (k13 : List (List Int) → Option ((List (List Int)) × Int)) : Nat → List (List Int) → Int → Option ((List (List Int)) × Int)
  | 0, _, _ => none
  | fl27 + 1, p23, p26 => (bif (decide (p26 < (x0.length : Int))) then ((idx x0 p26).bind fun y31 => ((idx x0 (IntKind.i64.wrap (p26 + (1 : Int)))).bind fun y33 => ((s_Concat ([y31, y33] : List (List Int))).bind fun y35 => ((app 24 p23 ([y35] : List (List Int))).bind fun z60 => (b_Shrink_l1 x0 k13 fl27 z60 (IntKind.i64.wrap (p26 + (2 : Int)))))))) else k13 p23)
def b_Shrink (fuel : Nat) (x0 : List (List Int)) : Option ((List (List Int)) × Int) :=
  ((b_Check x0).bind fun y6 => (bif (y6 != (0 : Int)) then some ((([] : List (List Int)), (280 : Int))) else (bif ((x0.length : Int) == (4 : Int)) then some ((([] : List (List Int)), (2 : Int))) else (letk (fun (p17 : List (List Int)) => some ((p17, (0 : Int)))) fun k13 => (b_Shrink_l1 x0 k13 fuel ([] : List (List Int)) (0 : Int))))))

def r_wakes (fuel : Nat) : Option Bool :=
  ((b_Spread (4 : Int) ([(3 : Int), (2 : Int), (1 : Int), (0 : Int)] : List Int)).bind fun y9 => ((b_Seam y9.1 (0 : Int)).bind fun y19 => ((b_Expand y9.1).bind fun y29 => ((b_Shrink fuel y29.1).bind fun y39 => ((b_Of (1 : Int) (5 : Int)).bind fun y49 => (bif (y9.2 == (0 : Int)) then (bif (y19.2 == (0 : Int)) then (bif (y29.2 == (0 : Int)) then (bif (y39.2 == (0 : Int)) then (bif ((((b_Want (4 : Int) (9 : Int))).2) == (0 : Int)) then (bif (y49.2 == (2 : Int)) then (bif (y19.1 == (1 : Int)) then (bif ((((b_Want (4 : Int) (9 : Int))).1) == (8 : Int)) then ((same y9.1 ([([(0 : Int), (2 : Int)] : List Int), ([] : List Int), ([(1 : Int)] : List Int), ([(3 : Int)] : List Int)] : List (List Int))).bind fun y91 => (bif y91 then (bif ((y29.1.length : Int) == (8 : Int)) then ((idx y29.1 (6 : Int)).bind fun y99 => ((s_Equal y99 ([(3 : Int)] : List Int)).bind fun y111 => (bif y111 then ((same y39.1 y9.1).bind fun y118 => (bif y118 then (bif ((b_Key (b_Hash (7 : Int))) == (7 : Int)) then some (((b_Hash (1 : Int)) == (11400714819323198485 : Int))) else some (false)) else some (false))) else some (false)))) else some (false)) else some (false))) else some (false)) else some (false)) else some (false)) else some (false)) else some (false)) else some (false)) else some (false)) else some (false)))))))
def l_Wants_l1 (k10 : Option Bool) : List GPair → Nat → Option Bool
  | [], i19 => k10
  | z21 :: rest20, i19 => (bif ((i19 : Int) == (20 : Int)) then k10 else (letk (fun (p53 : Int) (p54 : Int) => (bif ((((b_Want z21.f0 z21.f1)).1) != p53) then some (false) else (bif ((((b_Want z21.f0 z21.f1)).2) != p54) then some (false) else (l_Wants_l1 k10 rest20 (i19 + 1))))) fun k49 => (letk (fun (p64 : Bool) => (bif p64 then k49 (r_Want z21.f0 (if (1000 : Int) < z21.f1 then (1000 : Int) else z21.f1)) (0 : Int) else k49 (0 : Int) (2 : Int))) fun k60 => (bif (r_May z21.f0) then k60 (decide (z21.f1 ≥ (0 : Int))) else k60 false))))
def l_Wants (fuel : Nat) (x0 : List GPair) : Option Bool :=
  ((r_wakes fuel).bind fun y6 => (bif (!y6) then some (false) else (letk (some (true)) fun k10 => (l_Wants_l1 k10 x0 0))))
def l_Keys (fuel : Nat) (x0 : Int) (x1 : Int) : Option Bool :=
  ((r_wakes fuel).bind fun y7 => (bif (!y7) then some (false) else (bif ((b_Key (b_Hash x0)) == x0) then (bif ((b_Hash (b_Key x1)) == x1) then (bif (((b_Hash x0) == (b_Hash x1)) == (x0 == x1)) then some (((b_Hash (IntKind.u64.wrap (x0 + x1))) == (IntKind.u64.wrap ((b_Hash x0) + (b_Hash x1))))) else some (false)) else some (false)) else some (false))))
def l_Steady (fuel : Nat) (x0 : Int) (x1 : Int) : Option Bool :=
  ((r_wakes fuel).bind fun y7 => (bif (!y7) then some (false) else (bif ((((b_Want x0 x1)).2) != (0 : Int)) then some (((((b_Want x0 x1)).1) == (0 : Int))) else (bif ((((b_Want (((b_Want x0 x1)).1) x1)).2) != (0 : Int)) then some (false) else (bif (decide ((((b_Want x0 x1)).1) > x0)) then (bif ((((b_Want x0 x1)).1) == (IntKind.i64.wrap ((2 : Int) * x0))) then some ((decide ((((b_Want (((b_Want x0 x1)).1) x1)).1) ≥ (((b_Want x0 x1)).1)))) else some (false)) else (bif (decide ((((b_Want x0 x1)).1) < x0)) then (bif ((IntKind.i64.wrap ((2 : Int) * (((b_Want x0 x1)).1))) == x0) then some ((decide ((((b_Want (((b_Want x0 x1)).1) x1)).1) ≤ (((b_Want x0 x1)).1)))) else some (false)) else some (((((b_Want (((b_Want x0 x1)).1) x1)).1) == (((b_Want x0 x1)).1)))))))))
def l_Turns_l1 (y13 : List (List Int)) (y19 : (List (List Int)) × Int) (k66 : Option Bool) : List (List Int) → Nat → Option Bool
  | [], i73 => k66
  | z75 :: rest74, i73 => ((b_Seam y13 (i73 : Int)).bind fun y92 => (bif (y92.2 != (0 : Int)) then some (false) else (bif (decide (y92.1 < (0 : Int))) then some (false) else (bif (decide (y92.1 > (z75.length : Int))) then some (false) else ((idx y19.1 (IntKind.i64.wrap ((2 : Int) * (i73 : Int)))).bind fun y109 => ((cutx z75 none (some y92.1) none).bind fun y111 => ((s_Equal y109 y111).bind fun y113 => (bif (!y113) then some (false) else ((idx y19.1 (IntKind.i64.wrap ((IntKind.i64.wrap ((2 : Int) * (i73 : Int))) + (1 : Int)))).bind fun y127 => ((cutx z75 (some y92.1) none none).bind fun y129 => ((s_Equal y127 y129).bind fun y131 => (bif (!y131) then some (false) else (l_Turns_l1 y13 y19 k66 rest74 (i73 + 1))))))))))))))
def l_Turns (fuel : Nat) (x0 : List (List Int)) : Option Bool :=
  ((r_wakes fuel).bind fun y6 => (bif (!y6) then some (false) else ((own x0).bind fun y13 => ((b_Expand y13).bind fun y19 => (bif (y19.2 != (0 : Int)) then (bif ((y19.1.length : Int) == (0 : Int)) then ((b_Check y13).bind fun y33 => some (((y19.2 == (6 : Int)) == (y33 == (0 : Int))))) else some (false)) else ((b_Shrink fuel y19.1).bind fun y39 => (bif (y39.2 != (0 : Int)) then some (false) else ((same y39.1 y13).bind fun y50 => (bif (!y50) then some (false) else ((b_Check y19.1).bind fun y57 => (bif (y57 != (0 : Int)) then some (false) else (bif ((y19.1.length : Int) != (IntKind.i64.wrap ((2 : Int) * (y13.length : Int)))) then some (false) else (letk (some (true)) fun k66 => (l_Turns_l1 y13 y19 k66 y13 0))))))))))))))
def l_Order_l1 (p26 : List Int) (k32 : Option Bool) : List Int → Nat → Option Bool
  | [], i41 => k32
  | z43 :: rest42, i41 => (bif (!(s_Contains p26 z43)) then some (false) else (l_Order_l1 p26 k32 rest42 (i41 + 1)))
def l_Order_l4 (y19 : List Int) (z73 : Int) (i132 : Nat) (k144 : Option Bool) : List Int → Nat → Option Bool
  | [], i157 => k144
  | z159 :: rest158, i157 => ((b_Of z159 z73).bind fun y176 => (bif (y176.2 != (0 : Int)) then some (false) else (bif (y176.1 != (i132 : Int)) then some (false) else (bif (!(s_Contains y19 z159)) then some (false) else (l_Order_l4 y19 z73 i132 k144 rest158 (i157 + 1))))))
def l_Order_l3 (y19 : List Int) (z73 : Int) (k83 : List Int → Option Bool) (y114 : List Int) : List (List Int) → Nat → Option Bool
  | [], i132 => k83 y114
  | z134 :: rest133, i132 => (letk ((l_Order_l3 y19 z73 k83 y114 rest133 (i132 + 1))) fun k144 => (l_Order_l4 y19 z73 i132 k144 z134 0))
def l_Order_l6 (y19 : List Int) (z73 : Int) (i190 : Nat) (k202 : Option Bool) : List Int → Nat → Option Bool
  | [], i215 => k202
  | z217 :: rest216, i215 => ((b_Of z217 z73).bind fun y234 => (bif (y234.2 != (0 : Int)) then some (false) else (bif (y234.1 != (i190 : Int)) then some (false) else (bif (!(s_Contains y19 z217)) then some (false) else (l_Order_l6 y19 z73 i190 k202 rest216 (i215 + 1))))))
def l_Order_l5 (y19 : List Int) (z73 : Int) (k83 : List Int → Option Bool) (y114 : List Int) : List (List Int) → Nat → Option Bool
  | [], i190 => k83 y114
  | z192 :: rest191, i190 => (letk ((l_Order_l5 y19 z73 k83 y114 rest191 (i190 + 1))) fun k202 => (l_Order_l6 y19 z73 i190 k202 z192 0))
def l_Order_l7 (y114 : List Int) (k117 : Option Bool) : Nat → Int → Option Bool
  | 0, _ => none
  | fl249 + 1, p248 => (bif (decide (p248 < (y114.length : Int))) then ((idx y114 (IntKind.i64.wrap (p248 - (1 : Int)))).bind fun y255 => ((idx y114 p248).bind fun y257 => (bif (decide ((b_Hash y255) ≥ (b_Hash y257))) then some (false) else (l_Order_l7 y114 k117 fl249 (IntKind.i64.wrap (p248 + (1 : Int))))))) else k117)
def l_Order_l2 (y19 : List Int) (k22 : List Int → Option Bool) (fuel : Nat) : List Int → Nat → List Int → Option Bool
  | [], i71, p68 => k22 p68
  | z73 :: rest72, i71, p68 => (letk (fun (p87 : List Int) => (l_Order_l2 y19 k22 fuel rest72 (i71 + 1) p87)) fun k83 => ((b_Spread z73 y19).bind fun y100 => (bif (y100.2 != (0 : Int)) then some (false) else (bif ((y100.1.length : Int) != z73) then some (false) else ((s_Concat y100.1).bind fun y114 => (letk ((bif (decide ((i71 : Int) > (0 : Int))) then ((s_Equal y114 p68).bind fun y128 => (bif (!y128) then some (false) else (l_Order_l3 y19 z73 k83 y114 y100.1 0))) else (l_Order_l5 y19 z73 k83 y114 y100.1 0))) fun k117 => (l_Order_l7 y114 k117 fuel (1 : Int))))))))
def l_Order (fuel : Nat) (x0 : List Int) : Option Bool :=
  ((r_wakes fuel).bind fun y6 => (bif (!y6) then some (false) else ((cutx x0 none (some (if (30 : Int) < (x0.length : Int) then (30 : Int) else (x0.length : Int))) none).bind fun y11 => ((s_Clone y11).bind fun y19 => (letk (fun (p26 : List Int) => (letk (some (true)) fun k32 => (l_Order_l1 p26 k32 y19 0))) fun k22 => (l_Order_l2 y19 k22 fuel ([(4 : Int), (8 : Int), (16 : Int)] : List Int) 0 ([] : List Int)))))))
def l_Of_l1 (x1 : Int) (k23 : Option Bool) (fuel : Nat) : List Int → Nat → Option Bool
  | [], i79 => k23
  | z81 :: rest80, i79 => ((b_Of z81 x1).bind fun y98 => (letk (fun (p109 : Int) (p110 : Int) => (bif (y98.1 != p109) then some (false) else (bif (y98.2 != p110) then some (false) else (bif ((b_Hash z81) != (r_Hash z81)) then some (false) else ((r_Key fuel z81).bind fun y132 => (bif ((b_Key z81) != y132) then some (false) else (l_Of_l1 x1 k23 fuel rest80 (i79 + 1)))))))) fun k105 => (bif (r_May x1) then ((r_Of z81 x1).bind fun y144 => k105 y144 (0 : Int)) else k105 (0 : Int) (2 : Int))))
def l_Of (fuel : Nat) (x0 : List Int) (x1 : Int) : Option Bool :=
  ((r_wakes fuel).bind fun y7 => (bif (!y7) then some (false) else ((cutx x0 none (some (if (24 : Int) < (x0.length : Int) then (24 : Int) else (x0.length : Int))) none).bind fun y12 => ((s_Clone y12).bind fun y20 => (letk (((s_Clone y20).bind fun y33 => ((b_Spread x1 y20).bind fun y39 => (bif (!(r_May x1)) then (bif (y39.2 == (2 : Int)) then some (((y39.1.length : Int) == (0 : Int))) else some (false)) else (bif (y39.2 != (0 : Int)) then some (false) else ((r_Spread fuel x1 y20).bind fun y59 => ((same y39.1 y59).bind fun y65 => (bif (!y65) then some (false) else ((s_Equal y20 y33).bind fun y74 => some (y74)))))))))) fun k23 => (l_Of_l1 x1 k23 fuel y20 0))))))
def l_Parts_l2 (y14 : List (List Int)) (y20 : Bool) (k32 : Option Bool) : List Int → Nat → Option Bool
  | [], i177 => k32
  | z179 :: rest178, i177 => ((b_Seam y14 z179).bind fun y196 => (letk (fun (p207 : Int) (p208 : Int) => (bif (y196.1 != p207) then some (false) else (bif (y196.2 != p208) then some (false) else (l_Parts_l2 y14 y20 k32 rest178 (i177 + 1))))) fun k203 => (bif y20 then (letk (fun (p219 : Bool) => (bif p219 then ((r_Seam y14 z179).bind fun y227 => k203 y227 (0 : Int)) else k203 (0 : Int) (2 : Int))) fun k215 => (bif (decide (z179 ≥ (0 : Int))) then k215 (decide (z179 < (y14.length : Int))) else k215 false)) else k203 (0 : Int) (280 : Int))))
def l_Parts_l4 (y14 : List (List Int)) (y20 : Bool) (k233 : Option Bool) : List Int → Nat → Option Bool
  | [], i378 => k233
  | z380 :: rest379, i378 => ((b_Seam y14 z380).bind fun y397 => (letk (fun (p408 : Int) (p409 : Int) => (bif (y397.1 != p408) then some (false) else (bif (y397.2 != p409) then some (false) else (l_Parts_l4 y14 y20 k233 rest379 (i378 + 1))))) fun k404 => (bif y20 then (letk (fun (p420 : Bool) => (bif p420 then ((r_Seam y14 z380).bind fun y428 => k404 y428 (0 : Int)) else k404 (0 : Int) (2 : Int))) fun k416 => (bif (decide (z380 ≥ (0 : Int))) then k416 (decide (z380 < (y14.length : Int))) else k416 false)) else k404 (0 : Int) (280 : Int))))
def l_Parts (fuel : Nat) (x0 : List (List Int)) (x1 : List Int) : Option Bool :=
  ((r_wakes fuel).bind fun y7 => (bif (!y7) then some (false) else ((own x0).bind fun y14 => ((r_Right fuel y14).bind fun y20 => ((b_Check y14).bind fun y26 => (bif (!((y26 == (0 : Int)) == y20)) then some (false) else (bif (y26 != (0 : Int)) then (bif (y26 != (280 : Int)) then some (false) else (letk (((b_Expand y14).bind fun y42 => ((b_Shrink fuel y14).bind fun y53 => (letk (fun (p65 : List (List Int)) (p68 : List (List Int)) (p71 : Int) (p72 : Int) => (bif (y42.2 != p71) then some (false) else (bif (y53.2 != p72) then some (false) else ((same y42.1 p65).bind fun y81 => (bif (!y81) then some (false) else ((same y53.1 p68).bind fun y88 => (bif (!y88) then some (false) else ((own x0).bind fun y99 => ((same y14 y99).bind fun y105 => some (y105)))))))))) fun k61 => (bif y20 then (letk (fun (p113 : List (List Int)) (p116 : Int) => ((r_Keys y14).bind fun y123 => (bif (decide ((y14.length : Int) > (4 : Int))) then ((r_Spread fuel (IntKind.i64.wrap ((y14.length : Int).tdiv (2 : Int))) y123).bind fun y132 => k61 p113 y132 p116 (0 : Int)) else k61 p113 ([] : List (List Int)) p116 (2 : Int)))) fun k109 => ((r_Keys y14).bind fun y138 => (bif (decide ((y14.length : Int) < (16 : Int))) then ((r_Spread fuel (IntKind.i64.wrap ((2 : Int) * (y14.length : Int))) y138).bind fun y147 => k109 y147 (0 : Int)) else k109 ([] : List (List Int)) (6 : Int)))) else k61 ([] : List (List Int)) ([] : List (List Int)) (280 : Int) (280 : Int)))))) fun k32 => ((cutx x1 none (some (if (6 : Int) < (x1.length : Int) then (6 : Int) else (x1.length : Int))) none).bind fun y151 => ((i_Clone y151).bind fun z155 => ((app 8 z155 ([(0 : Int), (1 : Int), (2 : Int), (3 : Int)] : List Int)).bind fun z166 => (l_Parts_l2 y14 y20 k32 z166 0)))))) else (letk (((b_Expand y14).bind fun y243 => ((b_Shrink fuel y14).bind fun y254 => (letk (fun (p266 : List (List Int)) (p269 : List (List Int)) (p272 : Int) (p273 : Int) => (bif (y243.2 != p272) then some (false) else (bif (y254.2 != p273) then some (false) else ((same y243.1 p266).bind fun y282 => (bif (!y282) then some (false) else ((same y254.1 p269).bind fun y289 => (bif (!y289) then some (false) else ((own x0).bind fun y300 => ((same y14 y300).bind fun y306 => some (y306)))))))))) fun k262 => (bif y20 then (letk (fun (p314 : List (List Int)) (p317 : Int) => ((r_Keys y14).bind fun y324 => (bif (decide ((y14.length : Int) > (4 : Int))) then ((r_Spread fuel (IntKind.i64.wrap ((y14.length : Int).tdiv (2 : Int))) y324).bind fun y333 => k262 p314 y333 p317 (0 : Int)) else k262 p314 ([] : List (List Int)) p317 (2 : Int)))) fun k310 => ((r_Keys y14).bind fun y339 => (bif (decide ((y14.length : Int) < (16 : Int))) then ((r_Spread fuel (IntKind.i64.wrap ((2 : Int) * (y14.length : Int))) y339).bind fun y348 => k310 y348 (0 : Int)) else k310 ([] : List (List Int)) (6 : Int)))) else k262 ([] : List (List Int)) ([] : List (List Int)) (280 : Int) (280 : Int)))))) fun k233 => ((cutx x1 none (some (if (6 : Int) < (x1.length : Int) then (6 : Int) else (x1.length : Int))) none).bind fun y352 => ((i_Clone y352).bind fun z356 => ((app 8 z356 ([(0 : Int), (1 : Int), (2 : Int), (3 : Int)] : List Int)).bind fun z367 => (l_Parts_l4 y14 y20 k233 z367 0))))))))))))
end Go.Proofs.Ytdemjanelbajlaa
