/- Machine side of the law FnExactAugmentingPath: Go functions as Lean functions, and proofs that calls come to what these tell. Conditions: those in each theorem. -/
import Derived.Test.YtagncnjllpebjaaMFnExactAugmentingPathwRepsOne
import Derived.Test.YtagncnjllpebjaaMFnExactAugmentingPath0
import Derived.Test.YtagncnjllpebjaaMFnExactAugmentingPath2
import Derived.Test.YtagncnjllpebjaaMFnExactAugmentingPath5
namespace Go.Proofs.Ytagncnjllpebjaa.A
open Go.RowKit Go.Proofs.YtagncnjllpebjaaW.PrintWords Go.Proofs.YtagncnjllpebjaaW.PrintLast Go.Proofs.YtagncnjllpebjaaW.PrintMore
attribute [local go_sem] max2_int min2_int max_two min_two max_three min_three max_four min_four
set_option linter.unusedVariables false
set_option linter.unusedSimpArgs false
/-! ### impl_AugmentingPath: function 24 -/
mutual
def impl_AugmentingPath.l0 : Nat → Int → List Int → Int → Int → Int → List Int → Int → List Int → Option (List Int × Bool)
 | 0, _, _, _, _, _, _, _, _ => none
 | k + 1, x2, x8, x27, x28, x25002000, x25002001, x25003000, x25003001 => if x28 < x27 then (if 0 ≤ x28 then (if x28 < (x8.length : Int) then ((some (x8.set (x28 : Int).toNat (-1) : List Int)).bind fun y25007 => ((impl_HasElement.f x2 x28).bind fun t25008 => (if t25008 = true then (impl_AugmentingPath.l0 k x2 y25007 x27 (wrap64 (x28 + 1)) x25002000 x25002001 x25003000 x25003001) else ((impl_independent.f k x25003000 x25003001 (Go.bits .or .i64 x2 (shl .i64 1 x28))).bind fun t25009 => (if t25009 = true then (impl_AugmentingPath.l0 k x2 (y25007.set (x28 : Int).toNat 1) x27 (wrap64 (x28 + 1)) x25002000 x25002001 x25003000 x25003001) else (impl_AugmentingPath.l0 k x2 y25007 x27 (wrap64 (x28 + 1)) x25002000 x25002001 x25003000 x25003001)))))) else (none)) else (none)) else (impl_AugmentingPath.l1 k x2 x8 1 x25002000 x25002001 x25003000 x25003001)
def impl_AugmentingPath.l1 : Nat → Int → List Int → Int → Int → List Int → Int → List Int → Option (List Int × Bool)
 | 0, _, _, _, _, _, _, _ => none
 | k + 1, x2, x8, x10, x25002000, x25002001, x25003000, x25003001 => if x10 ≤ x25002000 then (impl_AugmentingPath.l2 k x2 x8 x10 (x8.length : Int) 0 x25002000 x25002001 x25003000 x25003001) else (impl_AugmentingPath.l4 k x2 x8 (-1) (x8.length : Int) 0 x25002000 x25002001 x25003000 x25003001)
def impl_AugmentingPath.l2 : Nat → Int → List Int → Int → Int → Int → Int → List Int → Int → List Int → Option (List Int × Bool)
 | 0, _, _, _, _, _, _, _, _, _ => none
 | k + 1, x2, x8, x10, x57, x58, x25002000, x25002001, x25003000, x25003001 => if x58 < x57 then (impl_AugmentingPath.l3 k x2 x8 x10 x58 x57 x58 (x8.length : Int) 0 x25002000 x25002001 x25003000 x25003001) else (impl_AugmentingPath.l1 k x2 x8 (wrap64 (x10 + 1)) x25002000 x25002001 x25003000 x25003001)
def impl_AugmentingPath.l3 : Nat → Int → List Int → Int → Int → Int → Int → Int → Int → Int → List Int → Int → List Int → Option (List Int × Bool)
 | 0, _, _, _, _, _, _, _, _, _, _, _, _ => none
 | k + 1, x2, x8, x10, x11, x57, x58, x62, x63, x25002000, x25002001, x25003000, x25003001 => if x63 < x62 then (if 0 ≤ x11 then (if x11 < (x8.length : Int) then (if (rd x8 x11) < 0 then (if 0 ≤ x63 then (if x63 < (x8.length : Int) then (if (rd x8 x63) = x10 then ((impl_goesOn.f k x25002000 x25002001 x25003000 x25003001 x2 x11 x63).bind fun t25013 => (if t25013 = true then (impl_AugmentingPath.l3 k x2 (x8.set (x11 : Int).toNat (wrap64 (x10 + 1))) x10 x11 x57 x58 x62 (wrap64 (x63 + 1)) x25002000 x25002001 x25003000 x25003001) else (impl_AugmentingPath.l3 k x2 x8 x10 x11 x57 x58 x62 (wrap64 (x63 + 1)) x25002000 x25002001 x25003000 x25003001))) else (impl_AugmentingPath.l3 k x2 x8 x10 x11 x57 x58 x62 (wrap64 (x63 + 1)) x25002000 x25002001 x25003000 x25003001)) else (none)) else (none)) else (impl_AugmentingPath.l3 k x2 x8 x10 x11 x57 x58 x62 (wrap64 (x63 + 1)) x25002000 x25002001 x25003000 x25003001)) else (none)) else (none)) else (impl_AugmentingPath.l2 k x2 x8 x10 x57 (wrap64 (x58 + 1)) x25002000 x25002001 x25003000 x25003001)
def impl_AugmentingPath.l4 : Nat → Int → List Int → Int → Int → Int → Int → List Int → Int → List Int → Option (List Int × Bool)
 | 0, _, _, _, _, _, _, _, _, _ => none
 | k + 1, x2, x8, x13, x95, x96, x25002000, x25002001, x25003000, x25003001 => if x96 < x95 then ((impl_HasElement.f x2 x96).bind fun t25015 => (if t25015 = true then (impl_AugmentingPath.l4 k x2 x8 x13 x95 (wrap64 (x96 + 1)) x25002000 x25002001 x25003000 x25003001) else (if 0 ≤ x96 then ((impl_independent.f k x25002000 x25002001 (Go.bits .or .i64 x2 (shl .i64 1 x96))).bind fun t25016 => (if t25016 = true then (if x96 < (x8.length : Int) then (if (rd x8 x96) > 0 then (if x13 < 0 then (impl_AugmentingPath.l4 k x2 x8 x96 x95 (wrap64 (x96 + 1)) x25002000 x25002001 x25003000 x25003001) else (if 0 ≤ x13 then (if x13 < (x8.length : Int) then (if (rd x8 x96) < (rd x8 x13) then (impl_AugmentingPath.l4 k x2 x8 x96 x95 (wrap64 (x96 + 1)) x25002000 x25002001 x25003000 x25003001) else (impl_AugmentingPath.l4 k x2 x8 x13 x95 (wrap64 (x96 + 1)) x25002000 x25002001 x25003000 x25003001)) else (none)) else (none))) else (impl_AugmentingPath.l4 k x2 x8 x13 x95 (wrap64 (x96 + 1)) x25002000 x25002001 x25003000 x25003001)) else (none)) else (impl_AugmentingPath.l4 k x2 x8 x13 x95 (wrap64 (x96 + 1)) x25002000 x25002001 x25003000 x25003001))) else (none)))) else (if x13 < 0 then (some (([] : List Int), false)) else (impl_AugmentingPath.l5 k x2 x8 x13 (([x13] : List Int)) x25002000 x25002001 x25003000 x25003001))
def impl_AugmentingPath.l5 : Nat → Int → List Int → Int → List Int → Int → List Int → Int → List Int → Option (List Int × Bool)
 | 0, _, _, _, _, _, _, _, _ => none
 | k + 1, x2, x8, x13, x15, x25002000, x25002001, x25003000, x25003001 => if 0 ≤ x13 then (if x13 < (x8.length : Int) then (if (rd x8 x13) > 1 then (impl_AugmentingPath.l6 k x2 x8 x13 x15 (-1) (x8.length : Int) 0 x25002000 x25002001 x25003000 x25003001) else (some (x15, true))) else (none)) else (none)
def impl_AugmentingPath.l6 : Nat → Int → List Int → Int → List Int → Int → Int → Int → Int → List Int → Int → List Int → Option (List Int × Bool)
 | 0, _, _, _, _, _, _, _, _, _, _, _ => none
 | k + 1, x2, x8, x13, x15, x16, x145, x146, x25002000, x25002001, x25003000, x25003001 => if x146 < x145 then (if x16 < 0 then (if 0 ≤ x146 then (if x146 < (x8.length : Int) then (if 0 ≤ x13 then (if x13 < (x8.length : Int) then (if (rd x8 x146) = (wrap64 ((rd x8 x13) - 1)) then ((impl_goesOn.f k x25002000 x25002001 x25003000 x25003001 x2 x13 x146).bind fun t25026 => (if t25026 = true then (impl_AugmentingPath.l6 k x2 x8 x13 x15 x146 x145 (wrap64 (x146 + 1)) x25002000 x25002001 x25003000 x25003001) else (impl_AugmentingPath.l6 k x2 x8 x13 x15 x16 x145 (wrap64 (x146 + 1)) x25002000 x25002001 x25003000 x25003001))) else (impl_AugmentingPath.l6 k x2 x8 x13 x15 x16 x145 (wrap64 (x146 + 1)) x25002000 x25002001 x25003000 x25003001)) else (none)) else (none)) else (none)) else (none)) else (impl_AugmentingPath.l6 k x2 x8 x13 x15 x16 x145 (wrap64 (x146 + 1)) x25002000 x25002001 x25003000 x25003001)) else (if x15.length < 17592186044416 then (impl_AugmentingPath.l5 k x2 x8 x16 (x15 ++ [x16]) x25002000 x25002001 x25003000 x25003001) else (none))
end
def impl_AugmentingPath.f (k : Nat) (a0_0 : Int) (l0_1 : List Int) (a1_0 : Int) (l1_1 : List Int) (a2 : Int) : Option (List Int × Bool) := (impl_IsCommon.f k a0_0 l0_1 a1_0 l1_1 a2).bind fun t25003 => (if t25003 = true then (if 0 ≤ a0_0 then (if (a0_0 : Int).toNat ≤ 35184372088832 then ((some (List.replicate (a0_0 : Int).toNat 0 : List Int)).bind fun y25004 => (impl_AugmentingPath.l0 k a2 y25004 (y25004.length : Int) 0 a0_0 l0_1 a1_0 l1_1)) else (none)) else (none)) else (some (([] : List Int), false)))
theorem impl_AugmentingPath.mono_l : ∀ k, (∀ y0 y1 y2 y3 y4 y5 y6 y7, LeO (impl_AugmentingPath.l0 k y0 y1 y2 y3 y4 y5 y6 y7) (impl_AugmentingPath.l0 (k + 1) y0 y1 y2 y3 y4 y5 y6 y7)) ∧ (∀ y0 y1 y2 y3 y4 y5 y6, LeO (impl_AugmentingPath.l1 k y0 y1 y2 y3 y4 y5 y6) (impl_AugmentingPath.l1 (k + 1) y0 y1 y2 y3 y4 y5 y6)) ∧ (∀ y0 y1 y2 y3 y4 y5 y6 y7 y8, LeO (impl_AugmentingPath.l2 k y0 y1 y2 y3 y4 y5 y6 y7 y8) (impl_AugmentingPath.l2 (k + 1) y0 y1 y2 y3 y4 y5 y6 y7 y8)) ∧ (∀ y0 y1 y2 y3 y4 y5 y6 y7 y8 y9 y10 y11, LeO (impl_AugmentingPath.l3 k y0 y1 y2 y3 y4 y5 y6 y7 y8 y9 y10 y11) (impl_AugmentingPath.l3 (k + 1) y0 y1 y2 y3 y4 y5 y6 y7 y8 y9 y10 y11)) ∧ (∀ y0 y1 y2 y3 y4 y5 y6 y7 y8, LeO (impl_AugmentingPath.l4 k y0 y1 y2 y3 y4 y5 y6 y7 y8) (impl_AugmentingPath.l4 (k + 1) y0 y1 y2 y3 y4 y5 y6 y7 y8)) ∧ (∀ y0 y1 y2 y3 y4 y5 y6 y7, LeO (impl_AugmentingPath.l5 k y0 y1 y2 y3 y4 y5 y6 y7) (impl_AugmentingPath.l5 (k + 1) y0 y1 y2 y3 y4 y5 y6 y7)) ∧ (∀ y0 y1 y2 y3 y4 y5 y6 y7 y8 y9 y10, LeO (impl_AugmentingPath.l6 k y0 y1 y2 y3 y4 y5 y6 y7 y8 y9 y10) (impl_AugmentingPath.l6 (k + 1) y0 y1 y2 y3 y4 y5 y6 y7 y8 y9 y10))
 | 0 => ⟨fun _ _ _ _ _ _ _ _ r h => by simp [impl_AugmentingPath.l0] at h, fun _ _ _ _ _ _ _ r h => by simp [impl_AugmentingPath.l1] at h, fun _ _ _ _ _ _ _ _ _ r h => by simp [impl_AugmentingPath.l2] at h, fun _ _ _ _ _ _ _ _ _ _ _ _ r h => by simp [impl_AugmentingPath.l3] at h, fun _ _ _ _ _ _ _ _ _ r h => by simp [impl_AugmentingPath.l4] at h, fun _ _ _ _ _ _ _ _ r h => by simp [impl_AugmentingPath.l5] at h, fun _ _ _ _ _ _ _ _ _ _ _ r h => by simp [impl_AugmentingPath.l6] at h⟩
 | k + 1 => by
  obtain ⟨ih0, ih1, ih2, ih3, ih4, ih5, ih6⟩ := impl_AugmentingPath.mono_l k
  refine ⟨?_, ?_, ?_, ?_, ?_, ?_, ?_⟩
  ·intro y0 y1 y2 y3 y4 y5 y6 y7
   unfold impl_AugmentingPath.l0
   repeat' first
   | (with_reducible exact ih0 _ _ _ _ _ _ _ _)
   | (with_reducible exact ih1 _ _ _ _ _ _ _)
   | (with_reducible exact ih2 _ _ _ _ _ _ _ _ _)
   | (with_reducible exact ih3 _ _ _ _ _ _ _ _ _ _ _ _)
   | (with_reducible exact ih4 _ _ _ _ _ _ _ _ _)
   | (with_reducible exact ih5 _ _ _ _ _ _ _ _)
   | (with_reducible exact ih6 _ _ _ _ _ _ _ _ _ _ _)
   | (with_reducible exact impl_IsCommon.mono _ _ _ _ _ _)
   | (with_reducible exact impl_goesOn.mono _ _ _ _ _ _ _ _)
   | (with_reducible exact impl_independent.mono _ _ _ _)
   | (with_reducible exact LeO.refl _)
   | (with_reducible exact LeO.none _)
   | (with_reducible refine LeO.ite ?_ ?_)
   | (with_reducible refine LeO.bind ?_ (fun _ => ?_))
   | exact ih0 _ _ _ _ _ _ _ _
   | exact ih1 _ _ _ _ _ _ _
   | exact ih2 _ _ _ _ _ _ _ _ _
   | exact ih3 _ _ _ _ _ _ _ _ _ _ _ _
   | exact ih4 _ _ _ _ _ _ _ _ _
   | exact ih5 _ _ _ _ _ _ _ _
   | exact ih6 _ _ _ _ _ _ _ _ _ _ _
   | exact impl_IsCommon.mono _ _ _ _ _ _
   | exact impl_goesOn.mono _ _ _ _ _ _ _ _
   | exact impl_independent.mono _ _ _ _
   | exact LeO.none _
   | refine LeO.ite ?_ ?_
   | refine LeO.bind ?_ (fun _ => ?_)
  ·intro y0 y1 y2 y3 y4 y5 y6
   unfold impl_AugmentingPath.l1
   repeat' first
   | (with_reducible exact ih0 _ _ _ _ _ _ _ _)
   | (with_reducible exact ih1 _ _ _ _ _ _ _)
   | (with_reducible exact ih2 _ _ _ _ _ _ _ _ _)
   | (with_reducible exact ih3 _ _ _ _ _ _ _ _ _ _ _ _)
   | (with_reducible exact ih4 _ _ _ _ _ _ _ _ _)
   | (with_reducible exact ih5 _ _ _ _ _ _ _ _)
   | (with_reducible exact ih6 _ _ _ _ _ _ _ _ _ _ _)
   | (with_reducible exact impl_IsCommon.mono _ _ _ _ _ _)
   | (with_reducible exact impl_goesOn.mono _ _ _ _ _ _ _ _)
   | (with_reducible exact impl_independent.mono _ _ _ _)
   | (with_reducible exact LeO.refl _)
   | (with_reducible exact LeO.none _)
   | (with_reducible refine LeO.ite ?_ ?_)
   | (with_reducible refine LeO.bind ?_ (fun _ => ?_))
   | exact ih0 _ _ _ _ _ _ _ _
   | exact ih1 _ _ _ _ _ _ _
   | exact ih2 _ _ _ _ _ _ _ _ _
   | exact ih3 _ _ _ _ _ _ _ _ _ _ _ _
   | exact ih4 _ _ _ _ _ _ _ _ _
   | exact ih5 _ _ _ _ _ _ _ _
   | exact ih6 _ _ _ _ _ _ _ _ _ _ _
   | exact impl_IsCommon.mono _ _ _ _ _ _
   | exact impl_goesOn.mono _ _ _ _ _ _ _ _
   | exact impl_independent.mono _ _ _ _
   | exact LeO.none _
   | refine LeO.ite ?_ ?_
   | refine LeO.bind ?_ (fun _ => ?_)
  ·intro y0 y1 y2 y3 y4 y5 y6 y7 y8
   unfold impl_AugmentingPath.l2
   repeat' first
   | (with_reducible exact ih0 _ _ _ _ _ _ _ _)
   | (with_reducible exact ih1 _ _ _ _ _ _ _)
   | (with_reducible exact ih2 _ _ _ _ _ _ _ _ _)
   | (with_reducible exact ih3 _ _ _ _ _ _ _ _ _ _ _ _)
   | (with_reducible exact ih4 _ _ _ _ _ _ _ _ _)
   | (with_reducible exact ih5 _ _ _ _ _ _ _ _)
   | (with_reducible exact ih6 _ _ _ _ _ _ _ _ _ _ _)
   | (with_reducible exact impl_IsCommon.mono _ _ _ _ _ _)
   | (with_reducible exact impl_goesOn.mono _ _ _ _ _ _ _ _)
   | (with_reducible exact impl_independent.mono _ _ _ _)
   | (with_reducible exact LeO.refl _)
   | (with_reducible exact LeO.none _)
   | (with_reducible refine LeO.ite ?_ ?_)
   | (with_reducible refine LeO.bind ?_ (fun _ => ?_))
   | exact ih0 _ _ _ _ _ _ _ _
   | exact ih1 _ _ _ _ _ _ _
   | exact ih2 _ _ _ _ _ _ _ _ _
   | exact ih3 _ _ _ _ _ _ _ _ _ _ _ _
   | exact ih4 _ _ _ _ _ _ _ _ _
   | exact ih5 _ _ _ _ _ _ _ _
   | exact ih6 _ _ _ _ _ _ _ _ _ _ _
   | exact impl_IsCommon.mono _ _ _ _ _ _
   | exact impl_goesOn.mono _ _ _ _ _ _ _ _
   | exact impl_independent.mono _ _ _ _
   | exact LeO.none _
   | refine LeO.ite ?_ ?_
   | refine LeO.bind ?_ (fun _ => ?_)
  ·intro y0 y1 y2 y3 y4 y5 y6 y7 y8 y9 y10 y11
   unfold impl_AugmentingPath.l3
   repeat' first
   | (with_reducible exact ih0 _ _ _ _ _ _ _ _)
   | (with_reducible exact ih1 _ _ _ _ _ _ _)
   | (with_reducible exact ih2 _ _ _ _ _ _ _ _ _)
   | (with_reducible exact ih3 _ _ _ _ _ _ _ _ _ _ _ _)
   | (with_reducible exact ih4 _ _ _ _ _ _ _ _ _)
   | (with_reducible exact ih5 _ _ _ _ _ _ _ _)
   | (with_reducible exact ih6 _ _ _ _ _ _ _ _ _ _ _)
   | (with_reducible exact impl_IsCommon.mono _ _ _ _ _ _)
   | (with_reducible exact impl_goesOn.mono _ _ _ _ _ _ _ _)
   | (with_reducible exact impl_independent.mono _ _ _ _)
   | (with_reducible exact LeO.refl _)
   | (with_reducible exact LeO.none _)
   | (with_reducible refine LeO.ite ?_ ?_)
   | (with_reducible refine LeO.bind ?_ (fun _ => ?_))
   | exact ih0 _ _ _ _ _ _ _ _
   | exact ih1 _ _ _ _ _ _ _
   | exact ih2 _ _ _ _ _ _ _ _ _
   | exact ih3 _ _ _ _ _ _ _ _ _ _ _ _
   | exact ih4 _ _ _ _ _ _ _ _ _
   | exact ih5 _ _ _ _ _ _ _ _
   | exact ih6 _ _ _ _ _ _ _ _ _ _ _
   | exact impl_IsCommon.mono _ _ _ _ _ _
   | exact impl_goesOn.mono _ _ _ _ _ _ _ _
   | exact impl_independent.mono _ _ _ _
   | exact LeO.none _
   | refine LeO.ite ?_ ?_
   | refine LeO.bind ?_ (fun _ => ?_)
  ·intro y0 y1 y2 y3 y4 y5 y6 y7 y8
   unfold impl_AugmentingPath.l4
   repeat' first
   | (with_reducible exact ih0 _ _ _ _ _ _ _ _)
   | (with_reducible exact ih1 _ _ _ _ _ _ _)
   | (with_reducible exact ih2 _ _ _ _ _ _ _ _ _)
   | (with_reducible exact ih3 _ _ _ _ _ _ _ _ _ _ _ _)
   | (with_reducible exact ih4 _ _ _ _ _ _ _ _ _)
   | (with_reducible exact ih5 _ _ _ _ _ _ _ _)
   | (with_reducible exact ih6 _ _ _ _ _ _ _ _ _ _ _)
   | (with_reducible exact impl_IsCommon.mono _ _ _ _ _ _)
   | (with_reducible exact impl_goesOn.mono _ _ _ _ _ _ _ _)
   | (with_reducible exact impl_independent.mono _ _ _ _)
   | (with_reducible exact LeO.refl _)
   | (with_reducible exact LeO.none _)
   | (with_reducible refine LeO.ite ?_ ?_)
   | (with_reducible refine LeO.bind ?_ (fun _ => ?_))
   | exact ih0 _ _ _ _ _ _ _ _
   | exact ih1 _ _ _ _ _ _ _
   | exact ih2 _ _ _ _ _ _ _ _ _
   | exact ih3 _ _ _ _ _ _ _ _ _ _ _ _
   | exact ih4 _ _ _ _ _ _ _ _ _
   | exact ih5 _ _ _ _ _ _ _ _
   | exact ih6 _ _ _ _ _ _ _ _ _ _ _
   | exact impl_IsCommon.mono _ _ _ _ _ _
   | exact impl_goesOn.mono _ _ _ _ _ _ _ _
   | exact impl_independent.mono _ _ _ _
   | exact LeO.none _
   | refine LeO.ite ?_ ?_
   | refine LeO.bind ?_ (fun _ => ?_)
  ·intro y0 y1 y2 y3 y4 y5 y6 y7
   unfold impl_AugmentingPath.l5
   repeat' first
   | (with_reducible exact ih0 _ _ _ _ _ _ _ _)
   | (with_reducible exact ih1 _ _ _ _ _ _ _)
   | (with_reducible exact ih2 _ _ _ _ _ _ _ _ _)
   | (with_reducible exact ih3 _ _ _ _ _ _ _ _ _ _ _ _)
   | (with_reducible exact ih4 _ _ _ _ _ _ _ _ _)
   | (with_reducible exact ih5 _ _ _ _ _ _ _ _)
   | (with_reducible exact ih6 _ _ _ _ _ _ _ _ _ _ _)
   | (with_reducible exact impl_IsCommon.mono _ _ _ _ _ _)
   | (with_reducible exact impl_goesOn.mono _ _ _ _ _ _ _ _)
   | (with_reducible exact impl_independent.mono _ _ _ _)
   | (with_reducible exact LeO.refl _)
   | (with_reducible exact LeO.none _)
   | (with_reducible refine LeO.ite ?_ ?_)
   | (with_reducible refine LeO.bind ?_ (fun _ => ?_))
   | exact ih0 _ _ _ _ _ _ _ _
   | exact ih1 _ _ _ _ _ _ _
   | exact ih2 _ _ _ _ _ _ _ _ _
   | exact ih3 _ _ _ _ _ _ _ _ _ _ _ _
   | exact ih4 _ _ _ _ _ _ _ _ _
   | exact ih5 _ _ _ _ _ _ _ _
   | exact ih6 _ _ _ _ _ _ _ _ _ _ _
   | exact impl_IsCommon.mono _ _ _ _ _ _
   | exact impl_goesOn.mono _ _ _ _ _ _ _ _
   | exact impl_independent.mono _ _ _ _
   | exact LeO.none _
   | refine LeO.ite ?_ ?_
   | refine LeO.bind ?_ (fun _ => ?_)
  ·intro y0 y1 y2 y3 y4 y5 y6 y7 y8 y9 y10
   unfold impl_AugmentingPath.l6
   repeat' first
   | (with_reducible exact ih0 _ _ _ _ _ _ _ _)
   | (with_reducible exact ih1 _ _ _ _ _ _ _)
   | (with_reducible exact ih2 _ _ _ _ _ _ _ _ _)
   | (with_reducible exact ih3 _ _ _ _ _ _ _ _ _ _ _ _)
   | (with_reducible exact ih4 _ _ _ _ _ _ _ _ _)
   | (with_reducible exact ih5 _ _ _ _ _ _ _ _)
   | (with_reducible exact ih6 _ _ _ _ _ _ _ _ _ _ _)
   | (with_reducible exact impl_IsCommon.mono _ _ _ _ _ _)
   | (with_reducible exact impl_goesOn.mono _ _ _ _ _ _ _ _)
   | (with_reducible exact impl_independent.mono _ _ _ _)
   | (with_reducible exact LeO.refl _)
   | (with_reducible exact LeO.none _)
   | (with_reducible refine LeO.ite ?_ ?_)
   | (with_reducible refine LeO.bind ?_ (fun _ => ?_))
   | exact ih0 _ _ _ _ _ _ _ _
   | exact ih1 _ _ _ _ _ _ _
   | exact ih2 _ _ _ _ _ _ _ _ _
   | exact ih3 _ _ _ _ _ _ _ _ _ _ _ _
   | exact ih4 _ _ _ _ _ _ _ _ _
   | exact ih5 _ _ _ _ _ _ _ _
   | exact ih6 _ _ _ _ _ _ _ _ _ _ _
   | exact impl_IsCommon.mono _ _ _ _ _ _
   | exact impl_goesOn.mono _ _ _ _ _ _ _ _
   | exact impl_independent.mono _ _ _ _
   | exact LeO.none _
   | refine LeO.ite ?_ ?_
   | refine LeO.bind ?_ (fun _ => ?_)
theorem impl_AugmentingPath.mono : ∀ a0 a1 a2 a3 a4 k, LeO (impl_AugmentingPath.f k a0 a1 a2 a3 a4) (impl_AugmentingPath.f (k + 1) a0 a1 a2 a3 a4) := by
 intro a0 a1 a2 a3 a4 k
 obtain ⟨ih0, ih1, ih2, ih3, ih4, ih5, ih6⟩ := impl_AugmentingPath.mono_l k
 unfold impl_AugmentingPath.f
 repeat' first
   | (with_reducible exact ih0 _ _ _ _ _ _ _ _)
   | (with_reducible exact ih1 _ _ _ _ _ _ _)
   | (with_reducible exact ih2 _ _ _ _ _ _ _ _ _)
   | (with_reducible exact ih3 _ _ _ _ _ _ _ _ _ _ _ _)
   | (with_reducible exact ih4 _ _ _ _ _ _ _ _ _)
   | (with_reducible exact ih5 _ _ _ _ _ _ _ _)
   | (with_reducible exact ih6 _ _ _ _ _ _ _ _ _ _ _)
   | (with_reducible exact impl_IsCommon.mono _ _ _ _ _ _)
   | (with_reducible exact impl_goesOn.mono _ _ _ _ _ _ _ _)
   | (with_reducible exact impl_independent.mono _ _ _ _)
   | (with_reducible exact LeO.refl _)
   | (with_reducible exact LeO.none _)
   | (with_reducible refine LeO.ite ?_ ?_)
   | (with_reducible refine LeO.bind ?_ (fun _ => ?_))
   | exact ih0 _ _ _ _ _ _ _ _
   | exact ih1 _ _ _ _ _ _ _
   | exact ih2 _ _ _ _ _ _ _ _ _
   | exact ih3 _ _ _ _ _ _ _ _ _ _ _ _
   | exact ih4 _ _ _ _ _ _ _ _ _
   | exact ih5 _ _ _ _ _ _ _ _
   | exact ih6 _ _ _ _ _ _ _ _ _ _ _
   | exact impl_IsCommon.mono _ _ _ _ _ _
   | exact impl_goesOn.mono _ _ _ _ _ _ _ _
   | exact impl_independent.mono _ _ _ _
   | exact LeO.none _
   | refine LeO.ite ?_ ?_
   | refine LeO.bind ?_ (fun _ => ?_)
def impl_AugmentingPath.T8 : Bool × List (List Nat × List Nat) := (true, [([], []), ([], []), ([0, 1], [0, 1]), ([2], [2]), ([3, 2], [3]), ([4], [4]), ([4], [4]), ([4], [4]), ([7, 4], [4, 7]), ([6, 8, 4], [4, 6, 8]), ([5, 9, 4, 4], [4, 5, 9]), ([4, 10], [4, 10])])
def impl_AugmentingPath.B8 : List Nat := [0, 0, 3, 7, 15, 31, 31, 31, 159, 479, 1023, 2047]
theorem impl_AugmentingPath.tab8 : rtab .any (opsOf Try.f24 8) = impl_AugmentingPath.T8 := by kernel_rfl
theorem impl_AugmentingPath.bits8 : waitsOk impl_AugmentingPath.T8.2 impl_AugmentingPath.B8 = true := by kernel_rfl
def impl_AugmentingPath.T28 : Bool × List (List Nat × List Nat) := (true, [([], []), ([], []), ([0, 1], [0, 1]), ([2], [2]), ([3, 2], [3]), ([4], [4]), ([4], [4]), ([4], [4]), ([7, 4], [4, 7]), ([6, 8, 4], [4, 6, 8]), ([5, 9, 4, 4], [4, 5, 9]), ([4, 10], [4, 10]), ([11, 10], [11]), ([12], [12]), ([12], [12]), ([13, 14, 12], [12, 13, 14]), ([15, 12], [12, 15]), ([16, 12], [12, 16]), ([12, 17], [12, 17]), ([18, 12], [18]), ([19], [19]), ([20, 19], [19, 20]), ([21, 19, 19], [19, 21]), ([22], [22]), ([22], [22]), ([23, 24, 22], [22, 23, 24]), ([25, 22], [22, 25]), ([22], [22]), ([22], [22]), ([27, 28, 22], [22, 27, 28]), ([29, 22], [22, 29]), ([26, 30, 22], [22, 26, 30]), ([22, 31, 19], [19, 22, 31]), ([19, 32], [19, 32])])
def impl_AugmentingPath.B28 : List Nat := [0, 0, 3, 7, 15, 31, 31, 31, 159, 479, 1023, 2047, 4095, 8191, 8191, 32767, 65535, 131071, 262143, 524287, 1048575, 2097151, 4194303, 8388607, 8388607, 33554431, 67108863, 8388607, 8388607, 411041791, 947912703, 2147483647, 4294967295, 8589934591]
theorem impl_AugmentingPath.tab28 : rtab .any (opsOf Try.f24 28) = impl_AugmentingPath.T28 := by kernel_rfl
theorem impl_AugmentingPath.bits28 : waitsOk impl_AugmentingPath.T28.2 impl_AugmentingPath.B28 = true := by kernel_rfl
def impl_AugmentingPath.T39 : Bool × List (List Nat × List Nat) := (true, [([], []), ([0], [0]), ([1], [1]), ([2], [2]), ([2], [2]), ([3, 4, 2], [2, 3, 4]), ([5, 2], [2, 5]), ([2], [2]), ([2], [2]), ([7, 8, 2], [2, 7, 8]), ([9, 2], [2, 9]), ([10, 2], [2, 10]), ([6, 11, 2], [2, 6, 11]), ([2, 12], [2, 12]), ([13, 2], [13]), ([14], [14]), ([14], [14]), ([14], [14]), ([14], [14]), ([14], [14]), ([15, 16, 17, 18, 19, 14, 14], [14, 15, 16, 17, 18, 19]), ([14, 20], [14, 20])])
def impl_AugmentingPath.B39 : List Nat := [0, 1, 3, 7, 7, 31, 63, 7, 7, 391, 903, 1927, 4095, 8191, 16383, 32767, 32767, 32767, 32767, 32767, 1048575, 2097151]
theorem impl_AugmentingPath.tab39 : rtab .any (opsOf Try.f24 39) = impl_AugmentingPath.T39 := by kernel_rfl
theorem impl_AugmentingPath.bits39 : waitsOk impl_AugmentingPath.T39.2 impl_AugmentingPath.B39 = true := by kernel_rfl
set_option maxHeartbeats 8000000 in
set_option maxRecDepth 100000 in
theorem impl_AugmentingPath.calls (k : Nat) (a0_0 : Int) (A0_1 : Option Addr) (c0_1 : Nat) (l0_1 : List Int) (a1_0 : Int) (A1_1 : Option Addr) (c1_1 : Nat) (l1_1 : List Int) (a2 : Int) (r1 : List Int) (r2 : Bool) (w : World) (hr0_1 : Kd.C (Kd.int .i64) w A0_1 l0_1.length l0_1) (hc0_1 : l0_1.length ≤ c0_1) (hr1_1 : Kd.C (Kd.int .i64) w A1_1 l1_1.length l1_1) (hc1_1 : l1_1.length ≤ c1_1) (h : impl_AugmentingPath.f k a0_0 l0_1 a1_0 l1_1 a2 = some (r1, r2)) :
  Calls Try.prog 24 #[.agg #[.int .i64 a0_0, .slice A0_1 l0_1.length c0_1], .agg #[.int .i64 a1_0, .slice A1_1 l1_1.length c1_1], .int .i64 a2] w fun e w' => ∃ v0_ : Value, e = .returned (.tuple #[v0_, .bool r2]) ∧ Kd.R (Kd.int .i64) 3 w' w.heap.size (fun _ => True) v0_ r1 ∧ Below w.heap.size w w' := by
 have hu26 := Try.underlying26
 have HR0_1 := aQ hr0_1
 have HC0_1 := aQ hc0_1
 clear hr0_1 hc0_1
 have HR1_1 := aQ hr1_1
 have HC1_1 := aQ hc1_1
 clear hr1_1 hc1_1
 have HB := aQ (Below.refl w.heap.size w)
 have H : ((impl_IsCommon.f k a0_0 l0_1 a1_0 l1_1 a2).bind fun t25003 => (if t25003 = true then (if 0 ≤ a0_0 then (if (a0_0 : Int).toNat ≤ 35184372088832 then ((some (List.replicate (a0_0 : Int).toNat 0 : List Int)).bind fun y25004 => (impl_AugmentingPath.l0 k a2 y25004 (y25004.length : Int) 0 a0_0 l0_1 a1_0 l1_1)) else (none)) else (none)) else (some (([] : List Int), false)))) = some (r1, r2) := h
 clear h
 replace H := Option.bind_eq_some_iff.mp H
 obtain ⟨t25003, A40, H⟩ := H
 replace H : (if t25003 = true then (if 0 ≤ a0_0 then (if (a0_0 : Int).toNat ≤ 35184372088832 then ((some (List.replicate (a0_0 : Int).toNat 0 : List Int)).bind fun y25004 => (impl_AugmentingPath.l0 k a2 y25004 (y25004.length : Int) 0 a0_0 l0_1 a1_0 l1_1)) else (none)) else (none)) else (some (([] : List Int), false))) = some (r1, r2) := H
 have A4 := aQ A40
 clear A40
 by_cases c5 : t25003 = true
 ·subst c5
  have H1 : (if 0 ≤ a0_0 then (if (a0_0 : Int).toNat ≤ 35184372088832 then ((some (List.replicate (a0_0 : Int).toNat 0 : List Int)).bind fun y25004 => (impl_AugmentingPath.l0 k a2 y25004 (y25004.length : Int) 0 a0_0 l0_1 a1_0 l1_1)) else (none)) else (none)) = some (r1, r2) := by rw [if_pos rfl] at H; exact H
  clear H
  have H := H1
  clear H1
  by_cases c6 : 0 ≤ a0_0
  ·rw [if_pos c6] at H
   have c6b0 := eq_true c6
   have c6b1 : decide (0 ≤ a0_0) = true := decide_eq_true c6
   clear c6
   by_cases c7 : (a0_0 : Int).toNat ≤ 35184372088832
   ·rw [if_pos c7] at H
    have c7b0 := eq_true c7
    have c7b1 : decide ((a0_0 : Int).toNat ≤ 35184372088832) = true := decide_eq_true c7
    clear c7
    obtain ⟨y25004, hy25004⟩ : ∃ y_ : List Int, y_ = (List.replicate (a0_0 : Int).toNat 0) := ⟨_, rfl⟩
    replace H : (impl_AugmentingPath.l0 k a2 y25004 (y25004.length : Int) 0 a0_0 l0_1 a1_0 l1_1) = some (r1, r2) := by first | (rw [hy25004]; with_reducible exact H) | (have H2_ := (Option.bind_some _ _).symm.trans H; rw [hy25004]; with_reducible exact H2_) | (have H2_ := (Option.bind_some _ _).symm.trans H; with_reducible exact H2_) | with_reducible exact H | (rw [hy25004]; exact H) | exact H
    have Ny25004 := aQ hy25004
    clear hy25004
    have H' := aQ H
    clear H
    go_enter Try.func24, Try.ntmps24
    go_wp2_with (first | ((with_reducible refine gate_dst (N := 3) rfl ?_); refine box_event ?hg (N := 3) ?hd (cs := #[.int .i64 a0_0, .slice A0_1 l0_1.length c0_1]) (t := 26) ?hr ?_; (case hd => rfl); (case hg => rfl); (case hr => first | (go_simp; done) | (go_simp; rfl)); intro gb25001 hg w8 hbox hb; have BK25001 := aQ (hbox); have GW25001 := aQ ((by rw [hg]; exact (below_size (pB HB.out)) : w.heap.size ≤ gb25001)); have GE25001 := aQ ((by rw [hg]; exact (below_size (pB HB.out)) : w.heap.size ≤ gb25001)); replace HB := aQ (below_step (pB HB.out) hb); clear hb hbox hg) | ((with_reducible refine gate_dst (N := 4) rfl ?_); refine box_event ?hg (N := 4) ?hd (cs := #[.int .i64 a1_0, .slice A1_1 l1_1.length c1_1]) (t := 26) ?hr ?_; (case hd => rfl); (case hg => rfl); (case hr => first | (go_simp; done) | (go_simp; rfl)); intro gb25002 hg w9 hbox hb; have BK25002 := aQ (hbox); have GW25002 := aQ ((by rw [hg]; exact (below_size (pB1 HB.out GE25001.out)) : w.heap.size ≤ gb25002)); have GE25002 := aQ ((by rw [hg]; exact (below_size (pB1 HB.out GE25001.out)) : w.heap.size ≤ gb25002)); replace HB := aQ (below_step (pB1 HB.out GE25001.out) hb); have NB25001_25002 := aQ ((by rw [hg]; exact Nat.ne_of_lt (blk_lt (g := gb25001) (o := .cells #[.int .i64 a0_0, .slice A0_1 l0_1.length c0_1] 26 (0, 0)) (pk BK25001.out)) : gb25001 ≠ gb25002)); have NB25002_25001 := aQ ((by rw [hg]; exact Nat.ne_of_gt (blk_lt (g := gb25001) (o := .cells #[.int .i64 a0_0, .slice A0_1 l0_1.length c0_1] 26 (0, 0)) (pk BK25001.out)) : gb25002 ≠ gb25001)); replace BK25001 := aQ (blk_below (g := gb25001) (o := .cells #[.int .i64 a0_0, .slice A0_1 l0_1.length c0_1] 26 (0, 0)) (pk BK25001.out) hb); clear hb hbox hg; have hnb10 := NB25001_25002.out; have hnc10 := NB25002_25001.out; have hcz11_0 := bc (v := (.int .i64 a0_0)) BK25001.out 0; have hcz11_1 := bc (v := (.slice A0_1 l0_1.length c0_1)) BK25001.out 1; have hfz11_0 := blk_frozen BK25001.out 0; have hfz11_1 := blk_frozen BK25001.out 1; have hcz12_0 := bc (v := (.int .i64 a1_0)) BK25002.out 0; have hcz12_1 := bc (v := (.slice A1_1 l1_1.length c1_1)) BK25002.out 1; have hfz12_0 := blk_frozen BK25002.out 0; have hfz12_1 := blk_frozen BK25002.out 1) | ((with_reducible refine gate_callee (f := 71) rfl ?_); refine goesL_ (some 21) rfl rfl Try.func71 (by kernel_rfl) rfl #[.agg #[.int .i64 a0_0, .slice A0_1 l0_1.length c0_1], .agg #[.int .i64 a1_0, .slice A1_1 l1_1.length c1_1], .int .i64 a2] rfl lm ?_; (with_reducible refine (impl_IsCommon.calls k a0_0 _ _ l0_1 a1_0 _ _ l1_1 a2 true _ ?side1 ?side2 ?side3 ?side4 A4.out).mono ?_); (case side1 => exact pC (Kd.C_below HR0_1.out HB.out)); (case side2 => exact HC0_1.out); (case side3 => exact pC (Kd.C_below HR1_1.out HB.out)); (case side4 => exact HC1_1.out); rintro e w13 ⟨rfl, hb⟩; refine ⟨_, rfl, ?_⟩; replace BK25001 := aQ (blk_below (g := gb25001) (o := .cells #[.int .i64 a0_0, .slice A0_1 l0_1.length c0_1] 26 (0, 0)) (pk BK25001.out) hb); replace BK25002 := aQ (blk_below (g := gb25002) (o := .cells #[.int .i64 a1_0, .slice A1_1 l1_1.length c1_1] 26 (0, 0)) (pk BK25002.out) hb); replace HB := aQ (below_step (pB2 HB.out GE25001.out GE25002.out) hb); (try clear hb); have hcz14_0 := bc (v := (.int .i64 a0_0)) BK25001.out 0; have hcz14_1 := bc (v := (.slice A0_1 l0_1.length c0_1)) BK25001.out 1; have hfz14_0 := blk_frozen BK25001.out 0; have hfz14_1 := blk_frozen BK25001.out 1) | ((with_reducible refine gate_dst (N := 25) rfl ?_); refine Kd.R_make (Kd.int .i64) _ 3 rfl (N := 25) rfl 22 _ _ rfl a0_0 rfl rfl Try.underlying22 (.int .i64 0) 8 info3 rfl (by decide) (by omega) 0 (ok := fun _ => True) (okp := fun _ => True) rfl (fun _ hk => hk) trivial (of_decide_eq_true as_) (Nat.le_trans (Nat.mul_le_mul_right _ (of_decide_eq_true as_ : a0_0.toNat ≤ 35184372088832)) (by omega)) (Below.refl _ _) (Nat.le_refl _) ?_; intro v25005 w15 ho16 hb hg_ hnew_; clear hg_ hnew_; (first | rw [← Ny25004.out] at ho16 | (simp only [Int.reduceToNat] at ho16; rw [← Ny25004.out] at ho16)); have HO25006 := aQ (Kd.R_lower ho16 (below_size (pB2 HB.out GE25001.out GE25002.out))); replace BK25001 := aQ (blk_below (g := gb25001) (o := .cells #[.int .i64 a0_0, .slice A0_1 l0_1.length c0_1] 26 (0, 0)) (pk BK25001.out) hb); replace BK25002 := aQ (blk_below (g := gb25002) (o := .cells #[.int .i64 a1_0, .slice A1_1 l1_1.length c1_1] 26 (0, 0)) (pk BK25002.out) hb); replace HB := aQ (below_step (pB2 HB.out GE25001.out GE25002.out) hb); clear hb ho16; obtain ⟨Ao17, co17, eo17⟩ := Kd.R_slice HO25006.out; subst eo17))
    go_loopg [28] k (fun kq v28 w' => ∃ (x8_1 : List Int) (x28_1 : Int), v28 = .int .i64 x28_1 ∧ Aside0 (impl_AugmentingPath.l0 kq a2 x8_1 (y25004.length : Int) x28_1 a0_0 l0_1 a1_0 l1_1 = some (r1, r2)) ∧ Aside0 (kq ≤ k) ∧ Aside0 (Kd.R (Kd.int .i64) 3 w' w.heap.size (fun _ => True) (.slice Ao17 y25004.length co17) x8_1) ∧ Aside0 (w'.heap[gb25001]? = some (.cells #[.int .i64 a0_0, (.slice A0_1 l0_1.length c0_1)] 26 (0, 0))) ∧ Aside0 (w'.heap[gb25002]? = some (.cells #[.int .i64 a1_0, (.slice A1_1 l1_1.length c1_1)] 26 (0, 0))) ∧ Aside0 (Below w.heap.size w w'))
    case atStart => exact ⟨(y25004), (0), rs_, H', ⟨Nat.le_refl _⟩, ⟨pR HO25006.out⟩, ⟨pk BK25001.out⟩, ⟨pk BK25002.out⟩, ⟨pB2 HB.out GE25001.out GE25002.out⟩⟩
    case round =>
     clear H'
     try clear c1
     try clear c2
     try clear p2
     try clear c5
     try clear c6
     try clear c6b0
     try clear c6b1
     try clear c7
     try clear c7b0
     try clear c7b1
     try clear c10
     try clear hcz11_0
     try clear hcz11_1
     try clear hcz12_0
     try clear hcz12_1
     try clear hcz14_0
     try clear hcz14_1
     try clear hfz11_0
     try clear hfz11_1
     try clear hfz12_0
     try clear hfz12_1
     try clear hfz14_0
     try clear hfz14_1
     obtain ⟨x8_1, x28_1, rfl, HA, HK1, HO_8, BK25001, BK25002, HB⟩ := hrel
     have hl8_1 := (Kd.R_reads' HO_8.out).1
     rw [hl8_1] at HO_8
     (try simp only [hl8_1])
     (try simp only [hl8_1] at BK25001)
     (try simp only [hl8_1] at BK25002)
     cases gk with
     | zero => exact absurd HA.out (by simp [impl_AugmentingPath.l0])
     | succ k1 =>
      have H := HA.out
      clear HA
      simp only [impl_AugmentingPath.l0] at H
      by_cases c18 : x28_1 < (y25004.length : Int)
      ·rw [if_pos c18] at H
       have c18b0 : decide (x28_1 < (y25004.length : Int)) = true := decide_eq_true c18
       have c18b9 := c18b0
       (try simp only [hl8_1] at c18b9)
       have c18bA := c18b0
       (try simp only [hl8_1] at c18bA)
       clear c18
       by_cases c19 : 0 ≤ x28_1
       ·rw [if_pos c19] at H
        have c19b0 : decide (0 ≤ x28_1) = true := decide_eq_true c19
        clear c19
        by_cases c20 : x28_1 < (x8_1.length : Int)
        ·rw [if_pos c20] at H
         have c20b0 : decide (x28_1 < (x8_1.length : Int)) = true := decide_eq_true c20
         have c20b9 := c20b0
         (try simp only [hl8_1] at c20b9)
         have c20bA := c20b0
         (try simp only [hl8_1] at c20bA)
         clear c20
         obtain ⟨y25007, hy25007⟩ : ∃ y_ : List Int, y_ = (x8_1.set (x28_1 : Int).toNat (-1)) := ⟨_, rfl⟩
         replace H : ((impl_HasElement.f a2 x28_1).bind fun t25008 => (if t25008 = true then (impl_AugmentingPath.l0 k1 a2 y25007 (y25004.length : Int) (wrap64 (x28_1 + 1)) a0_0 l0_1 a1_0 l1_1) else ((impl_independent.f k1 a1_0 l1_1 (Go.bits .or .i64 a2 (shl .i64 1 x28_1))).bind fun t25009 => (if t25009 = true then (impl_AugmentingPath.l0 k1 a2 (y25007.set (x28_1 : Int).toNat 1) (y25004.length : Int) (wrap64 (x28_1 + 1)) a0_0 l0_1 a1_0 l1_1) else (impl_AugmentingPath.l0 k1 a2 y25007 (y25004.length : Int) (wrap64 (x28_1 + 1)) a0_0 l0_1 a1_0 l1_1))))) = some (r1, r2) := by first | (rw [hy25007]; with_reducible exact H) | (have H2_ := (Option.bind_some _ _).symm.trans H; rw [hy25007]; with_reducible exact H2_) | (have H2_ := (Option.bind_some _ _).symm.trans H; with_reducible exact H2_) | with_reducible exact H | (rw [hy25007]; exact H) | exact H
         have Ny25007 := aQ hy25007
         clear hy25007
         replace H := Option.bind_eq_some_iff.mp H
         obtain ⟨t25008, A220, H⟩ := H
         replace H : (if t25008 = true then (impl_AugmentingPath.l0 k1 a2 y25007 (y25004.length : Int) (wrap64 (x28_1 + 1)) a0_0 l0_1 a1_0 l1_1) else ((impl_independent.f k1 a1_0 l1_1 (Go.bits .or .i64 a2 (shl .i64 1 x28_1))).bind fun t25009 => (if t25009 = true then (impl_AugmentingPath.l0 k1 a2 (y25007.set (x28_1 : Int).toNat 1) (y25004.length : Int) (wrap64 (x28_1 + 1)) a0_0 l0_1 a1_0 l1_1) else (impl_AugmentingPath.l0 k1 a2 y25007 (y25004.length : Int) (wrap64 (x28_1 + 1)) a0_0 l0_1 a1_0 l1_1)))) = some (r1, r2) := H
         have A22 := aQ A220
         clear A220
         by_cases c23 : t25008 = true
         ·subst c23
          have H1 : (impl_AugmentingPath.l0 k1 a2 y25007 (y25004.length : Int) (wrap64 (x28_1 + 1)) a0_0 l0_1 a1_0 l1_1) = some (r1, r2) := by rw [if_pos rfl] at H; exact H
          clear H
          have H := H1
          clear H1
          have H' := aQ H
          clear H
          have p21 : 0 ≤ (x28_1 : Int) := of_decide_eq_true as_
          have q21 : (x28_1 : Int) < ((x8_1.length : Int) : Int) := of_decide_eq_true as_
          obtain ⟨go21, co21, eo21, gb21, gl21, cl21, HG21⟩ := Kd.R_form HO_8.out (by omega)
          (first | cases eo21 | (injection eo21 with ea_ en_ ec_; (first | subst ea_ | (injection ea_ with ea_; subst ea_)); subst ec_; clear en_))
          have GB21 := aQ gb21
          have GG21 := aQ HG21
          clear gb21 gl21 HG21
          obtain ⟨hx21_0, hf21_0⟩ := Kd.R_celln 0 HO_8.out (x28_1 : Int) p21 q21
          replace p21 := eq_true p21
          replace q21 := eq_true q21
          have HP24 := Kd.R_putg HO_8.out (x28_1 : Int) (-1)
          try go_wp2_with (first | ((with_reducible refine gate_store (t := 3) (p := 33) rfl ?_); refine store_event (t := 3) (p := 33) (v := ?vo_w25) (w1 := (wr.setCell ⟨go21, (x28_1 : Int).toNat, none⟩ (.int .i64 (-1)))) ?hg ?ho ?hn ?hr ?_; (case ho => rfl); (case hg => rfl); (case hn => rfl); (case hr => first | (go_simp; done) | (go_simp; rfl)); intro w25 hw; have hg : wr.grownBy w25 (some go21) := (by rw [hw]; exact HP24.2); have hp_ : Kd.R (Kd.int .i64) 3 w25 w.heap.size (fun _ => True) (.slice (some ⟨go21, 0, none⟩) x8_1.length co17) y25007 := (by rw [hw, Ny25007.out]; exact HP24.1); clear HP24; replace BK25001 := aQ (blk_grown (g := gb25001) (o := .cells #[.int .i64 a0_0, .slice A0_1 l0_1.length c0_1] 26 (0, 0)) (pk BK25001.out) hg (Kd.R_ne HO_8.out BK25001.out (by decide))); replace BK25002 := aQ (blk_grown (g := gb25002) (o := .cells #[.int .i64 a1_0, .slice A1_1 l1_1.length c1_1] 26 (0, 0)) (pk BK25002.out) hg (Kd.R_ne HO_8.out BK25002.out (by decide))); replace HO_8 := aQ (hp_); replace HB := aQ ((by rw [hw]; exact below_set (HB.out) GB21.out : Below w.heap.size w w25)); clear hg hw hp_))
          have n0_ := aQ (Kd.R_drew HO_8.out)
          have n1_ := aQ (blk_drew BK25001.out)
          have n2_ := aQ (blk_drew BK25002.out)
          have n3_ := aQ (below_drew1 HB.out)
          clear HO_8
          clear BK25001
          clear BK25002
          clear HB
          have HO_8 := n0_
          have BK25001 := n1_
          have BK25002 := n2_
          have HB := n3_
          clear n0_ n1_ n2_ n3_
          refine start_ (n := 12) (S := fun w' => True) (ds := []) #[false, false, false, false, false, false, false, false, false, false, false, false] (by kernel_rfl) rfl rfl trivial (fun hHeld => ?_); refine with_tabW impl_AugmentingPath.tab8 impl_AugmentingPath.bits8 (fun HT_ HW_ => ?_)
          generalize w25.drew = w26 at HO_8 BK25001 BK25002 HB hHeld ⊢
          refine puA (i := 0) (N := some 34) HT_ (h := ?_)
          refine puA (i := 1) (N := some 35) HT_ (h := ?_)
          refine onA (i := 2) (N := some 36) HT_ (h := fun K hK => ?_)
          refine goes_ Try.func72 (by kernel_rfl) rfl #[.int .i64 a2, .int .i64 x28_1] (by rfl) rfl rfl lm ?_
          with_reducible refine (impl_HasElement.calls a2 x28_1 true _ A22.out).mono ?_
          rintro e w' ⟨rfl, ⟨nd, rfl⟩⟩
          refine ⟨_, rfl, ?_⟩
          refine hK.out _ _ trivial (fun hHeld => ?_)
          clear hK K
          refine noA (h := ?_)
          refine puA (i := 3) (N := some 37) HT_ (h := ?_)
          refine puA (i := 4) (N := some 38) HT_ (h := ?_)
          refine puU (i := 5) (N := some 39) HT_ (h := ?_)
          refine puU (i := 6) (N := some 40) HT_ (h := ?_)
          refine puU (i := 7) (N := some 41) HT_ (h := ?_)
          refine puU (i := 8) (N := some 42) HT_ (h := ?_)
          refine puU (i := 9) (N := some 43) HT_ (h := ?_)
          refine puU (i := 10) (N := some 44) HT_ (h := ?_)
          refine puA (i := 11) (N := some 45) HT_ (h := ?_)
          refine done_ (done_of HT_.out (by kernel_rfl)) ?_
          try go_wp2
          (try simp only [← hl8_1])
          go_roundg k1
          case measure => have := HK1.out; omega
          case rel => exact ⟨(y25007), (wrap64 (x28_1 + 1)), rs_, H', ⟨by have := HK1.out; omega⟩, ⟨by (try simp only [hl8_1]); (with_reducible repeat (first | apply Kd.R_alloc | apply Kd.R_drewN | apply Kd.R_drew)); exact HO_8.out⟩, ⟨by (try simp only [hl8_1]); (with_reducible repeat (first | refine blk_drewN ?_ _ | refine blk_drew ?_ | refine blk_alloc ?_ _)); exact BK25001.out⟩, ⟨by (try simp only [hl8_1]); (with_reducible repeat (first | refine blk_drewN ?_ _ | refine blk_drew ?_ | refine blk_alloc ?_ _)); exact BK25002.out⟩, ⟨pB2 HB.out GE25001.out GE25002.out⟩⟩
         ·replace c23 := Bool.eq_false_iff.mpr c23
          subst c23
          have H1 : ((impl_independent.f k1 a1_0 l1_1 (Go.bits .or .i64 a2 (shl .i64 1 x28_1))).bind fun t25009 => (if t25009 = true then (impl_AugmentingPath.l0 k1 a2 (y25007.set (x28_1 : Int).toNat 1) (y25004.length : Int) (wrap64 (x28_1 + 1)) a0_0 l0_1 a1_0 l1_1) else (impl_AugmentingPath.l0 k1 a2 y25007 (y25004.length : Int) (wrap64 (x28_1 + 1)) a0_0 l0_1 a1_0 l1_1))) = some (r1, r2) := by rw [if_neg (show ¬ (false = true) by decide)] at H; exact H
          clear H
          have H := H1
          clear H1
          have c27b0 := eq_true (of_decide_eq_true as_ : 0 ≤ x28_1)
          obtain ⟨ji28, hji28⟩ : ∃ j_ : Int, (shl .i64 1 x28_1) = j_ := ⟨_, rfl⟩
          replace H : ((impl_independent.f k1 a1_0 l1_1 (Go.bits .or .i64 a2 (ji28))).bind fun t25009 => (if t25009 = true then (impl_AugmentingPath.l0 k1 a2 (y25007.set (x28_1 : Int).toNat 1) (y25004.length : Int) (wrap64 (x28_1 + 1)) a0_0 l0_1 a1_0 l1_1) else (impl_AugmentingPath.l0 k1 a2 y25007 (y25004.length : Int) (wrap64 (x28_1 + 1)) a0_0 l0_1 a1_0 l1_1))) = some (r1, r2) := by first | (rw [hji28] at H; exact H) | (simp only [hji28] at H ⊢; exact H)
          (try rw [hji28] at A22)
          have hji28_ : (IntKind.i64.wrap (1 * 2 ^ min x28_1.toNat 64)) = ji28 := hji28
          have hji28z : x28_1 ≤ 64 → (IntKind.i64.wrap (1 * 2 ^ x28_1.toNat)) = ji28 := shl_small hji28
          have hji28u : (IntKind.i64.wrap (2 ^ min x28_1.toNat 64)) = ji28 := by have h_ := hji28_; rw [Int.one_mul] at h_; exact h_
          have hji28v : x28_1 ≤ 64 → (IntKind.i64.wrap (2 ^ x28_1.toNat)) = ji28 := fun hle_ => by have h_ := hji28z hle_; rw [Int.one_mul] at h_; exact h_
          have hji28y : (wrap64 (1 * 2 ^ min x28_1.toNat 64)) = ji28 := (i64_w _).symm.trans hji28_
          have hji28x : x28_1 ≤ 64 → (wrap64 (1 * 2 ^ x28_1.toNat)) = ji28 := fun h_ => (i64_w _).symm.trans (hji28z h_)
          replace H := Option.bind_eq_some_iff.mp H
          obtain ⟨t25009, A290, H⟩ := H
          replace H : (if t25009 = true then (impl_AugmentingPath.l0 k1 a2 (y25007.set (x28_1 : Int).toNat 1) (y25004.length : Int) (wrap64 (x28_1 + 1)) a0_0 l0_1 a1_0 l1_1) else (impl_AugmentingPath.l0 k1 a2 y25007 (y25004.length : Int) (wrap64 (x28_1 + 1)) a0_0 l0_1 a1_0 l1_1)) = some (r1, r2) := H
          have A29 := aQ A290
          clear A290
          by_cases c30 : t25009 = true
          ·subst c30
           have H1 : (impl_AugmentingPath.l0 k1 a2 (y25007.set (x28_1 : Int).toNat 1) (y25004.length : Int) (wrap64 (x28_1 + 1)) a0_0 l0_1 a1_0 l1_1) = some (r1, r2) := by rw [if_pos rfl] at H; exact H
           clear H
           have H := H1
           clear H1
           obtain ⟨y25010, hy25010⟩ : ∃ y_ : List Int, y_ = (y25007.set (x28_1 : Int).toNat 1) := ⟨_, rfl⟩
           replace H : (impl_AugmentingPath.l0 k1 a2 y25010 (y25004.length : Int) (wrap64 (x28_1 + 1)) a0_0 l0_1 a1_0 l1_1) = some (r1, r2) := by first | (rw [hy25010]; with_reducible exact H) | (have H2_ := (Option.bind_some _ _).symm.trans H; rw [hy25010]; with_reducible exact H2_) | (have H2_ := (Option.bind_some _ _).symm.trans H; with_reducible exact H2_) | with_reducible exact H | (rw [hy25010]; exact H) | exact H
           have Ny25010 := aQ hy25010
           clear hy25010
           have H' := aQ H
           clear H
           have p21 : 0 ≤ (x28_1 : Int) := of_decide_eq_true as_
           have q21 : (x28_1 : Int) < ((x8_1.length : Int) : Int) := of_decide_eq_true as_
           obtain ⟨go21, co21, eo21, gb21, gl21, cl21, HG21⟩ := Kd.R_form HO_8.out (by omega)
           (first | cases eo21 | (injection eo21 with ea_ en_ ec_; (first | subst ea_ | (injection ea_ with ea_; subst ea_)); subst ec_; clear en_))
           have GB21 := aQ gb21
           have GG21 := aQ HG21
           clear gb21 gl21 HG21
           obtain ⟨hx21_0, hf21_0⟩ := Kd.R_celln 0 HO_8.out (x28_1 : Int) p21 q21
           replace p21 := eq_true p21
           replace q21 := eq_true q21
           have HP32 := Kd.R_putg HO_8.out (x28_1 : Int) (-1)
           try go_wp2_with (first | ((with_reducible refine gate_store (t := 3) (p := 33) rfl ?_); refine store_event (t := 3) (p := 33) (v := ?vo_w33) (w1 := (wr.setCell ⟨go21, (x28_1 : Int).toNat, none⟩ (.int .i64 (-1)))) ?hg ?ho ?hn ?hr ?_; (case ho => rfl); (case hg => rfl); (case hn => rfl); (case hr => first | (go_simp; done) | (go_simp; rfl)); intro w33 hw; have hg : wr.grownBy w33 (some go21) := (by rw [hw]; exact HP32.2); have hp_ : Kd.R (Kd.int .i64) 3 w33 w.heap.size (fun _ => True) (.slice (some ⟨go21, 0, none⟩) x8_1.length co17) y25007 := (by rw [hw, Ny25007.out]; exact HP32.1); clear HP32; replace BK25001 := aQ (blk_grown (g := gb25001) (o := .cells #[.int .i64 a0_0, .slice A0_1 l0_1.length c0_1] 26 (0, 0)) (pk BK25001.out) hg (Kd.R_ne HO_8.out BK25001.out (by decide))); replace BK25002 := aQ (blk_grown (g := gb25002) (o := .cells #[.int .i64 a1_0, .slice A1_1 l1_1.length c1_1] 26 (0, 0)) (pk BK25002.out) hg (Kd.R_ne HO_8.out BK25002.out (by decide))); replace HO_8 := aQ (hp_); replace HB := aQ ((by rw [hw]; exact below_set (HB.out) GB21.out : Below w.heap.size w w33)); clear hg hw hp_))
           have n0_ := aQ (Kd.R_drew HO_8.out)
           have n1_ := aQ (blk_drew BK25001.out)
           have n2_ := aQ (blk_drew BK25002.out)
           have n3_ := aQ (below_drew1 HB.out)
           clear HO_8
           clear BK25001
           clear BK25002
           clear HB
           have HO_8 := n0_
           have BK25001 := n1_
           have BK25002 := n2_
           have HB := n3_
           clear n0_ n1_ n2_ n3_
           refine start_ (n := 12) (S := fun w' => w'.cell? ⟨gb25002, 0, none⟩ = some (.int .i64 a1_0) ∧ w'.cell? ⟨gb25002, 1, none⟩ = some (.slice A1_1 l1_1.length c1_1)) (ds := []) #[false, false, false, false, false, false, false, false, false, false, false, false] (by kernel_rfl) rfl rfl ⟨(blk_cell BK25002.out 0).trans rfl, (blk_cell BK25002.out 1).trans rfl⟩ (fun hHeld => ?_); refine with_tabW impl_AugmentingPath.tab8 impl_AugmentingPath.bits8 (fun HT_ HW_ => ?_)
           generalize w33.drew = w34 at HO_8 BK25001 BK25002 HB hHeld ⊢
           refine puA (i := 0) (N := some 34) HT_ (h := ?_)
           refine puA (i := 1) (N := some 35) HT_ (h := ?_)
           refine onA (i := 2) (N := some 36) HT_ (h := fun K hK => ?_)
           refine goes_ Try.func72 (by kernel_rfl) rfl #[.int .i64 a2, .int .i64 x28_1] (by rfl) rfl rfl lm ?_
           with_reducible refine (impl_HasElement.calls a2 x28_1 false _ A22.out).mono ?_
           rintro e w' ⟨rfl, ⟨nd, rfl⟩⟩
           refine ⟨_, rfl, ?_⟩
           refine hK.out _ _ ⟨(blk_cell BK25002.out 0).trans rfl, (blk_cell BK25002.out 1).trans rfl⟩ (fun hHeld => ?_)
           clear hK K
           refine noA (h := ?_)
           refine puA (i := 3) (N := some 37) HT_ (h := ?_)
           refine puA (i := 4) (N := some 38) HT_ (h := ?_)
           refine puA (i := 6) (N := some 40) HT_ (h := ?_)
           refine puA (i := 7) (N := some 41) HT_ (h := ?_)
           refine puA (i := 8) (N := some 42) HT_ (h := ?_)
           refine puA (i := 9) (N := some 43) HT_ (h := ?_)
           refine taA2 (i := 5) (N := some 39) HT_ HW_ hHeld (h := ?_)
           refine onA (i := 10) (N := some 44) HT_ (h := fun K hK => ?_)
           refine goes_ Try.func65 (by kernel_rfl) rfl #[.agg #[.int .i64 a1_0, .slice A1_1 l1_1.length c1_1], .int .i64 (Go.bits .or .i64 a2 (ji28))] (by rfl) rfl rfl (by (try simp only [List.map_toArray, List.map_cons, List.map_nil]); first | done | (simp only [hji28]; rfl) | rfl | (simp only [List.length_drop, List.length_take]; rfl)) ?_
           with_reducible refine (impl_independent.calls k1 a1_0 _ _ l1_1 (Go.bits .or .i64 a2 (ji28)) true _ ?side1 ?side2 A29.out).mono ?_
           (case side1 => repeat (first | exact (Kd.C_below HR1_1.out (pB2 HB.out GE25001.out GE25002.out)) | (with_reducible refine Kd.C_alloc ?_ _) | (with_reducible refine Kd.C_drewN ?_ _) | (with_reducible refine Kd.C_drew ?_)))
           (case side2 => exact HC1_1.out)
           rintro e w35 ⟨rfl, hb⟩
           refine ⟨_, rfl, ?_⟩
           have n0_ := aQ (Kd.R_below (pR HO_8.out) hb)
           have n1_ := aQ (blk_below (g := gb25001) (o := .cells #[.int .i64 a0_0, .slice A0_1 l0_1.length c0_1] 26 (0, 0)) (pk BK25001.out) hb)
           have n2_ := aQ (blk_below (g := gb25002) (o := .cells #[.int .i64 a1_0, .slice A1_1 l1_1.length c1_1] 26 (0, 0)) (pk BK25002.out) hb)
           have n3_ := aQ (below_step (pB2 HB.out GE25001.out GE25002.out) hb)
           clear HO_8
           clear BK25001
           clear BK25002
           clear HB
           have HO_8 := n0_
           have BK25001 := n1_
           have BK25002 := n2_
           have HB := n3_
           clear n0_ n1_ n2_ n3_
           (try clear hb)
           (try clear hb2)
           (try clear hk)
           (try clear hi)
           refine hK.out _ _ ⟨(blk_cell BK25002.out 0).trans rfl, (blk_cell BK25002.out 1).trans rfl⟩ (fun hHeld => ?_)
           clear hK K
           refine noA (h := ?_)
           refine puA (i := 11) (N := some 45) HT_ (h := ?_)
           refine done_ (done_of HT_.out (by kernel_rfl)) ?_
           have p31 : 0 ≤ (x28_1 : Int) := of_decide_eq_true as_
           have q31 : (x28_1 : Int) < ((x8_1.length : Int) : Int) := of_decide_eq_true as_
           obtain ⟨hx31_0, hf31_0⟩ := Kd.R_celln 0 HO_8.out (x28_1 : Int) p31 q31
           replace p31 := eq_true p31
           replace q31 := eq_true q31
           obtain ⟨hy36_, hz36_⟩ := Kd.R_celln 0 HO_8.out (x28_1 : Int) (of_decide_eq_true as_) (of_decide_eq_true as_)
           have HP36 := Kd.R_putg HO_8.out (x28_1 : Int) 1
           try go_wp2_with (first | ((with_reducible refine gate_store (t := 3) (p := 48) rfl ?_); refine store_event (t := 3) (p := 48) (v := ?vo_w37) (w1 := (w35.setCell ⟨go21, (x28_1 : Int).toNat, none⟩ (.int .i64 1))) ?hg ?ho ?hn ?hr ?_; (case ho => rfl); (case hg => rfl); (case hn => rfl); (case hr => first | (go_simp; done) | (go_simp; rfl)); intro w37 hw; have hg : w35.grownBy w37 (some go21) := (by rw [hw]; exact HP36.2); have hp_ : Kd.R (Kd.int .i64) 3 w37 w.heap.size (fun _ => True) (.slice (some ⟨go21, 0, none⟩) x8_1.length co17) y25010 := (by rw [hw, Ny25010.out]; exact HP36.1); clear HP36; replace BK25001 := aQ (blk_grown (g := gb25001) (o := .cells #[.int .i64 a0_0, .slice A0_1 l0_1.length c0_1] 26 (0, 0)) (pk BK25001.out) hg (Kd.R_ne HO_8.out BK25001.out (by decide))); replace BK25002 := aQ (blk_grown (g := gb25002) (o := .cells #[.int .i64 a1_0, .slice A1_1 l1_1.length c1_1] 26 (0, 0)) (pk BK25002.out) hg (Kd.R_ne HO_8.out BK25002.out (by decide))); replace HO_8 := aQ (hp_); replace HB := aQ ((by rw [hw]; exact below_set (HB.out) GB21.out : Below w.heap.size w w37)); clear hg hw hp_))
           (try simp only [← hl8_1])
           go_roundg k1
           case measure => have := HK1.out; omega
           case rel => exact ⟨(y25010), (wrap64 (x28_1 + 1)), rs_, H', ⟨by have := HK1.out; omega⟩, ⟨by (try simp only [hl8_1]); (with_reducible repeat (first | apply Kd.R_alloc | apply Kd.R_drewN | apply Kd.R_drew)); exact HO_8.out⟩, ⟨by (try simp only [hl8_1]); (with_reducible repeat (first | refine blk_drewN ?_ _ | refine blk_drew ?_ | refine blk_alloc ?_ _)); exact BK25001.out⟩, ⟨by (try simp only [hl8_1]); (with_reducible repeat (first | refine blk_drewN ?_ _ | refine blk_drew ?_ | refine blk_alloc ?_ _)); exact BK25002.out⟩, ⟨pB2 HB.out GE25001.out GE25002.out⟩⟩
          ·replace c30 := Bool.eq_false_iff.mpr c30
           subst c30
           have H1 : (impl_AugmentingPath.l0 k1 a2 y25007 (y25004.length : Int) (wrap64 (x28_1 + 1)) a0_0 l0_1 a1_0 l1_1) = some (r1, r2) := by rw [if_neg (show ¬ (false = true) by decide)] at H; exact H
           clear H
           have H := H1
           clear H1
           have H' := aQ H
           clear H
           have p21 : 0 ≤ (x28_1 : Int) := of_decide_eq_true as_
           have q21 : (x28_1 : Int) < ((x8_1.length : Int) : Int) := of_decide_eq_true as_
           obtain ⟨go21, co21, eo21, gb21, gl21, cl21, HG21⟩ := Kd.R_form HO_8.out (by omega)
           (first | cases eo21 | (injection eo21 with ea_ en_ ec_; (first | subst ea_ | (injection ea_ with ea_; subst ea_)); subst ec_; clear en_))
           have GB21 := aQ gb21
           have GG21 := aQ HG21
           clear gb21 gl21 HG21
           obtain ⟨hx21_0, hf21_0⟩ := Kd.R_celln 0 HO_8.out (x28_1 : Int) p21 q21
           replace p21 := eq_true p21
           replace q21 := eq_true q21
           have HP38 := Kd.R_putg HO_8.out (x28_1 : Int) (-1)
           try go_wp2_with (first | ((with_reducible refine gate_store (t := 3) (p := 33) rfl ?_); refine store_event (t := 3) (p := 33) (v := ?vo_w39) (w1 := (wr.setCell ⟨go21, (x28_1 : Int).toNat, none⟩ (.int .i64 (-1)))) ?hg ?ho ?hn ?hr ?_; (case ho => rfl); (case hg => rfl); (case hn => rfl); (case hr => first | (go_simp; done) | (go_simp; rfl)); intro w39 hw; have hg : wr.grownBy w39 (some go21) := (by rw [hw]; exact HP38.2); have hp_ : Kd.R (Kd.int .i64) 3 w39 w.heap.size (fun _ => True) (.slice (some ⟨go21, 0, none⟩) x8_1.length co17) y25007 := (by rw [hw, Ny25007.out]; exact HP38.1); clear HP38; replace BK25001 := aQ (blk_grown (g := gb25001) (o := .cells #[.int .i64 a0_0, .slice A0_1 l0_1.length c0_1] 26 (0, 0)) (pk BK25001.out) hg (Kd.R_ne HO_8.out BK25001.out (by decide))); replace BK25002 := aQ (blk_grown (g := gb25002) (o := .cells #[.int .i64 a1_0, .slice A1_1 l1_1.length c1_1] 26 (0, 0)) (pk BK25002.out) hg (Kd.R_ne HO_8.out BK25002.out (by decide))); replace HO_8 := aQ (hp_); replace HB := aQ ((by rw [hw]; exact below_set (HB.out) GB21.out : Below w.heap.size w w39)); clear hg hw hp_))
           have n0_ := aQ (Kd.R_drew HO_8.out)
           have n1_ := aQ (blk_drew BK25001.out)
           have n2_ := aQ (blk_drew BK25002.out)
           have n3_ := aQ (below_drew1 HB.out)
           clear HO_8
           clear BK25001
           clear BK25002
           clear HB
           have HO_8 := n0_
           have BK25001 := n1_
           have BK25002 := n2_
           have HB := n3_
           clear n0_ n1_ n2_ n3_
           refine start_ (n := 12) (S := fun w' => w'.cell? ⟨gb25002, 0, none⟩ = some (.int .i64 a1_0) ∧ w'.cell? ⟨gb25002, 1, none⟩ = some (.slice A1_1 l1_1.length c1_1)) (ds := []) #[false, false, false, false, false, false, false, false, false, false, false, false] (by kernel_rfl) rfl rfl ⟨(blk_cell BK25002.out 0).trans rfl, (blk_cell BK25002.out 1).trans rfl⟩ (fun hHeld => ?_); refine with_tabW impl_AugmentingPath.tab8 impl_AugmentingPath.bits8 (fun HT_ HW_ => ?_)
           generalize w39.drew = w40 at HO_8 BK25001 BK25002 HB hHeld ⊢
           refine puA (i := 0) (N := some 34) HT_ (h := ?_)
           refine puA (i := 1) (N := some 35) HT_ (h := ?_)
           refine onA (i := 2) (N := some 36) HT_ (h := fun K hK => ?_)
           refine goes_ Try.func72 (by kernel_rfl) rfl #[.int .i64 a2, .int .i64 x28_1] (by rfl) rfl rfl lm ?_
           with_reducible refine (impl_HasElement.calls a2 x28_1 false _ A22.out).mono ?_
           rintro e w' ⟨rfl, ⟨nd, rfl⟩⟩
           refine ⟨_, rfl, ?_⟩
           refine hK.out _ _ ⟨(blk_cell BK25002.out 0).trans rfl, (blk_cell BK25002.out 1).trans rfl⟩ (fun hHeld => ?_)
           clear hK K
           refine noA (h := ?_)
           refine puA (i := 3) (N := some 37) HT_ (h := ?_)
           refine puA (i := 4) (N := some 38) HT_ (h := ?_)
           refine puA (i := 6) (N := some 40) HT_ (h := ?_)
           refine puA (i := 7) (N := some 41) HT_ (h := ?_)
           refine puA (i := 8) (N := some 42) HT_ (h := ?_)
           refine puA (i := 9) (N := some 43) HT_ (h := ?_)
           refine taA2 (i := 5) (N := some 39) HT_ HW_ hHeld (h := ?_)
           refine onA (i := 10) (N := some 44) HT_ (h := fun K hK => ?_)
           refine goes_ Try.func65 (by kernel_rfl) rfl #[.agg #[.int .i64 a1_0, .slice A1_1 l1_1.length c1_1], .int .i64 (Go.bits .or .i64 a2 (ji28))] (by rfl) rfl rfl (by (try simp only [List.map_toArray, List.map_cons, List.map_nil]); first | done | (simp only [hji28]; rfl) | rfl | (simp only [List.length_drop, List.length_take]; rfl)) ?_
           with_reducible refine (impl_independent.calls k1 a1_0 _ _ l1_1 (Go.bits .or .i64 a2 (ji28)) false _ ?side1 ?side2 A29.out).mono ?_
           (case side1 => repeat (first | exact (Kd.C_below HR1_1.out (pB2 HB.out GE25001.out GE25002.out)) | (with_reducible refine Kd.C_alloc ?_ _) | (with_reducible refine Kd.C_drewN ?_ _) | (with_reducible refine Kd.C_drew ?_)))
           (case side2 => exact HC1_1.out)
           rintro e w41 ⟨rfl, hb⟩
           refine ⟨_, rfl, ?_⟩
           have n0_ := aQ (Kd.R_below (pR HO_8.out) hb)
           have n1_ := aQ (blk_below (g := gb25001) (o := .cells #[.int .i64 a0_0, .slice A0_1 l0_1.length c0_1] 26 (0, 0)) (pk BK25001.out) hb)
           have n2_ := aQ (blk_below (g := gb25002) (o := .cells #[.int .i64 a1_0, .slice A1_1 l1_1.length c1_1] 26 (0, 0)) (pk BK25002.out) hb)
           have n3_ := aQ (below_step (pB2 HB.out GE25001.out GE25002.out) hb)
           clear HO_8
           clear BK25001
           clear BK25002
           clear HB
           have HO_8 := n0_
           have BK25001 := n1_
           have BK25002 := n2_
           have HB := n3_
           clear n0_ n1_ n2_ n3_
           (try clear hb)
           (try clear hb2)
           (try clear hk)
           (try clear hi)
           refine hK.out _ _ ⟨(blk_cell BK25002.out 0).trans rfl, (blk_cell BK25002.out 1).trans rfl⟩ (fun hHeld => ?_)
           clear hK K
           refine noA (h := ?_)
           refine puA (i := 11) (N := some 45) HT_ (h := ?_)
           refine done_ (done_of HT_.out (by kernel_rfl)) ?_
           try go_wp2
           (try simp only [← hl8_1])
           go_roundg k1
           case measure => have := HK1.out; omega
           case rel => exact ⟨(y25007), (wrap64 (x28_1 + 1)), rs_, H', ⟨by have := HK1.out; omega⟩, ⟨by (try simp only [hl8_1]); (with_reducible repeat (first | apply Kd.R_alloc | apply Kd.R_drewN | apply Kd.R_drew)); exact HO_8.out⟩, ⟨by (try simp only [hl8_1]); (with_reducible repeat (first | refine blk_drewN ?_ _ | refine blk_drew ?_ | refine blk_alloc ?_ _)); exact BK25001.out⟩, ⟨by (try simp only [hl8_1]); (with_reducible repeat (first | refine blk_drewN ?_ _ | refine blk_drew ?_ | refine blk_alloc ?_ _)); exact BK25002.out⟩, ⟨pB2 HB.out GE25001.out GE25002.out⟩⟩
        ·rw [if_neg c20] at H
         exact absurd H (by simp)
       ·rw [if_neg c19] at H
        exact absurd H (by simp)
      ·rw [if_neg c18] at H
       have c18b0 : decide (x28_1 < (y25004.length : Int)) = false := decide_eq_false c18
       have c18b9 := c18b0
       (try simp only [hl8_1] at c18b9)
       have c18bA := c18b0
       (try simp only [hl8_1] at c18bA)
       clear c18
       have H' := aQ H
       clear H
       go_wp2
       go_loopg [10] k1 (fun kq v10 w' => ∃ (x8_2 : List Int) (x10_2 : Int), v10 = .int .i64 x10_2 ∧ Aside0 (impl_AugmentingPath.l1 kq a2 x8_2 x10_2 a0_0 l0_1 a1_0 l1_1 = some (r1, r2)) ∧ Aside0 (kq ≤ k1) ∧ Aside0 (Kd.R (Kd.int .i64) 3 w' w.heap.size (fun _ => True) (.slice Ao17 x8_1.length co17) x8_2) ∧ Aside0 (w'.heap[gb25001]? = some (.cells #[.int .i64 a0_0, (.slice A0_1 l0_1.length c0_1)] 26 (0, 0))) ∧ Aside0 (w'.heap[gb25002]? = some (.cells #[.int .i64 a1_0, (.slice A1_1 l1_1.length c1_1)] 26 (0, 0))) ∧ Aside0 (Below w.heap.size w w'))
       case atStart => exact ⟨(x8_1), (1), rs_, H', ⟨Nat.le_refl _⟩, ⟨by (try simp only [hl8_1]); (with_reducible repeat (first | apply Kd.R_alloc | apply Kd.R_drewN | apply Kd.R_drew)); exact HO_8.out⟩, ⟨by (try simp only [hl8_1]); (with_reducible repeat (first | refine blk_drewN ?_ _ | refine blk_drew ?_ | refine blk_alloc ?_ _)); exact BK25001.out⟩, ⟨by (try simp only [hl8_1]); (with_reducible repeat (first | refine blk_drewN ?_ _ | refine blk_drew ?_ | refine blk_alloc ?_ _)); exact BK25002.out⟩, ⟨pB2 HB.out GE25001.out GE25002.out⟩⟩
       case round =>
        clear H'
        try clear c1
        try clear c2
        try clear p2
        try clear q2
        try clear hx2
        try clear c3
        try clear p3
        try clear q3
        try clear hx3
        try clear hf3
        try clear c5
        try clear c6
        try clear c6b0
        try clear c6b1
        try clear p6
        try clear c7
        try clear c7b0
        try clear c7b1
        try clear c10
        try clear c18
        try clear c18b0
        try clear c19
        try clear c19b0
        try clear c20
        try clear c20b0
        try clear p21
        try clear q21
        try clear hx21
        try clear hf21
        try clear c23
        try clear c24
        try clear c27
        try clear c27b0
        try clear c30
        try clear p31
        try clear q31
        try clear hx31
        try clear hf31
        try clear hcz11_0
        try clear hcz11_1
        try clear hcz12_0
        try clear hcz12_1
        try clear hcz14_0
        try clear hcz14_1
        try clear hfz11_0
        try clear hfz11_1
        try clear hfz12_0
        try clear hfz12_1
        try clear hfz14_0
        try clear hfz14_1
        try clear hx21_0
        try clear hx31_0
        try clear p2
        try clear p21
        try clear p31
        try clear q21
        try clear q31
        obtain ⟨x8_2, x10_2, rfl, HA, HK2, HO_8, BK25001, BK25002, HB⟩ := hrel
        have hl8_2 := (Kd.R_reads' HO_8.out).1
        rw [hl8_2] at HO_8
        (try simp only [hl8_2])
        (try simp only [hl8_2] at BK25001)
        (try simp only [hl8_2] at BK25002)
        cases gk with
        | zero => exact absurd HA.out (by simp [impl_AugmentingPath.l1])
        | succ k2 =>
         have H := HA.out
         clear HA
         simp only [impl_AugmentingPath.l1] at H
         by_cases c42 : x10_2 ≤ a0_0
         ·rw [if_pos c42] at H
          have c42b0 : decide (x10_2 ≤ a0_0) = true := decide_eq_true c42
          clear c42
          have H' := aQ H
          clear H
          have hnb43 := NB25001_25002.out
          have hnc43 := NB25002_25001.out
          have hcz44_0 := bc (v := (.int .i64 a0_0)) BK25001.out 0
          have hcz44_1 := bc (v := (.slice A0_1 l0_1.length c0_1)) BK25001.out 1
          have hfz44_0 := blk_frozen BK25001.out 0
          have hfz44_1 := blk_frozen BK25001.out 1
          go_wp2
          go_loopg [58] k2 (fun kq v58 w' => ∃ (x8_3 : List Int) (x58_3 : Int), v58 = .int .i64 x58_3 ∧ Aside0 (impl_AugmentingPath.l2 kq a2 x8_3 x10_2 (x8_2.length : Int) x58_3 a0_0 l0_1 a1_0 l1_1 = some (r1, r2)) ∧ Aside0 (kq ≤ k2) ∧ Aside0 (Kd.R (Kd.int .i64) 3 w' w.heap.size (fun _ => True) (.slice Ao17 x8_2.length co17) x8_3) ∧ Aside0 (w'.heap[gb25001]? = some (.cells #[.int .i64 a0_0, (.slice A0_1 l0_1.length c0_1)] 26 (0, 0))) ∧ Aside0 (w'.heap[gb25002]? = some (.cells #[.int .i64 a1_0, (.slice A1_1 l1_1.length c1_1)] 26 (0, 0))) ∧ Aside0 (Below w.heap.size w w'))
          case atStart => exact ⟨(x8_2), (0), rs_, H', ⟨Nat.le_refl _⟩, ⟨by (try simp only [hl8_1]); (try simp only [hl8_2]); (with_reducible repeat (first | apply Kd.R_alloc | apply Kd.R_drewN | apply Kd.R_drew)); exact HO_8.out⟩, ⟨by (try simp only [hl8_1]); (try simp only [hl8_2]); (with_reducible repeat (first | refine blk_drewN ?_ _ | refine blk_drew ?_ | refine blk_alloc ?_ _)); exact BK25001.out⟩, ⟨by (try simp only [hl8_1]); (try simp only [hl8_2]); (with_reducible repeat (first | refine blk_drewN ?_ _ | refine blk_drew ?_ | refine blk_alloc ?_ _)); exact BK25002.out⟩, ⟨pB2 HB.out GE25001.out GE25002.out⟩⟩
          case round =>
           clear H'
           try clear c1
           try clear c2
           try clear p2
           try clear q2
           try clear hx2
           try clear c3
           try clear p3
           try clear q3
           try clear hx3
           try clear hf3
           try clear c4
           try clear c5
           try clear c6
           try clear c6b0
           try clear c6b1
           try clear p6
           try clear c7
           try clear c7b0
           try clear c7b1
           try clear c10
           try clear c18
           try clear c18b0
           try clear c19
           try clear c19b0
           try clear c20
           try clear c20b0
           try clear p21
           try clear q21
           try clear hx21
           try clear hf21
           try clear c23
           try clear c24
           try clear c27
           try clear c27b0
           try clear c30
           try clear p31
           try clear q31
           try clear hx31
           try clear hf31
           try clear c42
           try clear c42b0
           try clear c43
           try clear hcz11_0
           try clear hcz11_1
           try clear hcz12_0
           try clear hcz12_1
           try clear hcz14_0
           try clear hcz14_1
           try clear hcz44_0
           try clear hcz44_1
           try clear hfz11_0
           try clear hfz11_1
           try clear hfz12_0
           try clear hfz12_1
           try clear hfz14_0
           try clear hfz14_1
           try clear hfz44_0
           try clear hfz44_1
           try clear hx21_0
           try clear hx31_0
           try clear p2
           try clear p21
           try clear p3
           try clear p31
           try clear p6
           try clear q2
           try clear q21
           try clear q3
           try clear q31
           obtain ⟨x8_3, x58_3, rfl, HA, HK3, HO_8, BK25001, BK25002, HB⟩ := hrel
           have hl8_3 := (Kd.R_reads' HO_8.out).1
           rw [hl8_3] at HO_8
           (try simp only [hl8_3])
           (try simp only [hl8_3] at BK25001)
           (try simp only [hl8_3] at BK25002)
           cases gk with
           | zero => exact absurd HA.out (by simp [impl_AugmentingPath.l2])
           | succ k3 =>
            have H := HA.out
            clear HA
            simp only [impl_AugmentingPath.l2] at H
            by_cases c45 : x58_3 < (x8_2.length : Int)
            ·rw [if_pos c45] at H
             have c45b0 : decide (x58_3 < (x8_2.length : Int)) = true := decide_eq_true c45
             have c45b9 := c45b0
             (try simp only [hl8_1] at c45b9)
             have c45b8 := c45b0
             (try simp only [hl8_2] at c45b8)
             have c45b7 := c45b0
             (try simp only [hl8_3] at c45b7)
             have c45bA := c45b0
             (try simp only [hl8_1, hl8_2, hl8_3] at c45bA)
             clear c45
             have H' := aQ H
             clear H
             go_wp2
             go_loopg [63] k3 (fun kq v63 w' => ∃ (x8_4 : List Int) (x63_4 : Int), v63 = .int .i64 x63_4 ∧ Aside0 (impl_AugmentingPath.l3 kq a2 x8_4 x10_2 x58_3 (x8_2.length : Int) x58_3 (x8_3.length : Int) x63_4 a0_0 l0_1 a1_0 l1_1 = some (r1, r2)) ∧ Aside0 (kq ≤ k3) ∧ Aside0 (Kd.R (Kd.int .i64) 3 w' w.heap.size (fun _ => True) (.slice Ao17 x8_3.length co17) x8_4) ∧ Aside0 (w'.heap[gb25001]? = some (.cells #[.int .i64 a0_0, (.slice A0_1 l0_1.length c0_1)] 26 (0, 0))) ∧ Aside0 (w'.heap[gb25002]? = some (.cells #[.int .i64 a1_0, (.slice A1_1 l1_1.length c1_1)] 26 (0, 0))) ∧ Aside0 (Below w.heap.size w w'))
             case atStart => exact ⟨(x8_3), (0), rs_, H', ⟨Nat.le_refl _⟩, ⟨by (try simp only [hl8_1]); (try simp only [hl8_2]); (try simp only [hl8_3]); (with_reducible repeat (first | apply Kd.R_alloc | apply Kd.R_drewN | apply Kd.R_drew)); exact HO_8.out⟩, ⟨by (try simp only [hl8_1]); (try simp only [hl8_2]); (try simp only [hl8_3]); (with_reducible repeat (first | refine blk_drewN ?_ _ | refine blk_drew ?_ | refine blk_alloc ?_ _)); exact BK25001.out⟩, ⟨by (try simp only [hl8_1]); (try simp only [hl8_2]); (try simp only [hl8_3]); (with_reducible repeat (first | refine blk_drewN ?_ _ | refine blk_drew ?_ | refine blk_alloc ?_ _)); exact BK25002.out⟩, ⟨pB2 HB.out GE25001.out GE25002.out⟩⟩
             case round =>
              clear H'
              try clear c1
              try clear c2
              try clear p2
              try clear q2
              try clear hx2
              try clear c3
              try clear p3
              try clear q3
              try clear hx3
              try clear hf3
              try clear c4
              try clear c5
              try clear c6
              try clear c6b0
              try clear c6b1
              try clear p6
              try clear c7
              try clear c7b0
              try clear c7b1
              try clear c10
              try clear c18
              try clear c18b0
              try clear c19
              try clear c19b0
              try clear c20
              try clear c20b0
              try clear p21
              try clear q21
              try clear hx21
              try clear hf21
              try clear c23
              try clear c24
              try clear c27
              try clear c27b0
              try clear c30
              try clear p31
              try clear q31
              try clear hx31
              try clear hf31
              try clear c42
              try clear c42b0
              try clear c43
              try clear c45
              try clear c45b0
              try clear hcz11_0
              try clear hcz11_1
              try clear hcz12_0
              try clear hcz12_1
              try clear hcz14_0
              try clear hcz14_1
              try clear hcz44_0
              try clear hcz44_1
              try clear hfz11_0
              try clear hfz11_1
              try clear hfz12_0
              try clear hfz12_1
              try clear hfz14_0
              try clear hfz14_1
              try clear hfz44_0
              try clear hfz44_1
              try clear hx21_0
              try clear hx31_0
              try clear p2
              try clear p21
              try clear p3
              try clear p31
              try clear p6
              try clear q2
              try clear q21
              try clear q3
              try clear q31
              obtain ⟨x8_4, x63_4, rfl, HA, HK4, HO_8, BK25001, BK25002, HB⟩ := hrel
              have hl8_4 := (Kd.R_reads' HO_8.out).1
              rw [hl8_4] at HO_8
              (try simp only [hl8_4])
              (try simp only [hl8_4] at BK25001)
              (try simp only [hl8_4] at BK25002)
              cases gk with
              | zero => exact absurd HA.out (by simp [impl_AugmentingPath.l3])
              | succ k4 =>
               have H := HA.out
               clear HA
               simp only [impl_AugmentingPath.l3] at H
               by_cases c46 : x63_4 < (x8_3.length : Int)
               ·rw [if_pos c46] at H
                have c46b0 : decide (x63_4 < (x8_3.length : Int)) = true := decide_eq_true c46
                have c46b9 := c46b0
                (try simp only [hl8_1] at c46b9)
                have c46b8 := c46b0
                (try simp only [hl8_2] at c46b8)
                have c46b7 := c46b0
                (try simp only [hl8_3] at c46b7)
                have c46b6 := c46b0
                (try simp only [hl8_4] at c46b6)
                have c46bA := c46b0
                (try simp only [hl8_1, hl8_2, hl8_3, hl8_4] at c46bA)
                clear c46
                by_cases c47 : 0 ≤ x58_3
                ·rw [if_pos c47] at H
                 have c47b0 : decide (0 ≤ x58_3) = true := decide_eq_true c47
                 clear c47
                 by_cases c48 : x58_3 < (x8_4.length : Int)
                 ·rw [if_pos c48] at H
                  have c48b0 : decide (x58_3 < (x8_4.length : Int)) = true := decide_eq_true c48
                  have c48b9 := c48b0
                  (try simp only [hl8_1] at c48b9)
                  have c48b8 := c48b0
                  (try simp only [hl8_2] at c48b8)
                  have c48b7 := c48b0
                  (try simp only [hl8_3] at c48b7)
                  have c48b6 := c48b0
                  (try simp only [hl8_4] at c48b6)
                  have c48bA := c48b0
                  (try simp only [hl8_1, hl8_2, hl8_3, hl8_4] at c48bA)
                  clear c48
                  by_cases c49 : (rd x8_4 x58_3) < 0
                  ·rw [if_pos c49] at H
                   have c49b0 : decide ((rd x8_4 x58_3) < 0) = true := decide_eq_true c49
                   clear c49
                   by_cases c50 : 0 ≤ x63_4
                   ·rw [if_pos c50] at H
                    have c50b0 : decide (0 ≤ x63_4) = true := decide_eq_true c50
                    clear c50
                    by_cases c51 : x63_4 < (x8_4.length : Int)
                    ·rw [if_pos c51] at H
                     have c51b0 : decide (x63_4 < (x8_4.length : Int)) = true := decide_eq_true c51
                     have c51b9 := c51b0
                     (try simp only [hl8_1] at c51b9)
                     have c51b8 := c51b0
                     (try simp only [hl8_2] at c51b8)
                     have c51b7 := c51b0
                     (try simp only [hl8_3] at c51b7)
                     have c51b6 := c51b0
                     (try simp only [hl8_4] at c51b6)
                     have c51bA := c51b0
                     (try simp only [hl8_1, hl8_2, hl8_3, hl8_4] at c51bA)
                     clear c51
                     by_cases c52 : (rd x8_4 x63_4) = x10_2
                     ·rw [if_pos c52] at H
                      have c52b0 : ((rd x8_4 x63_4) == x10_2) = true := beq_iff_eq.mpr c52
                      have c52b1 : ((rd x8_4 x63_4) != x10_2) = false := bne_eq_false_iff_eq.mpr c52
                      clear c52
                      replace H := Option.bind_eq_some_iff.mp H
                      obtain ⟨t25013, A530, H⟩ := H
                      replace H : (if t25013 = true then (impl_AugmentingPath.l3 k4 a2 (x8_4.set (x58_3 : Int).toNat (wrap64 (x10_2 + 1))) x10_2 x58_3 (x8_2.length : Int) x58_3 (x8_3.length : Int) (wrap64 (x63_4 + 1)) a0_0 l0_1 a1_0 l1_1) else (impl_AugmentingPath.l3 k4 a2 x8_4 x10_2 x58_3 (x8_2.length : Int) x58_3 (x8_3.length : Int) (wrap64 (x63_4 + 1)) a0_0 l0_1 a1_0 l1_1)) = some (r1, r2) := H
                      have A53 := aQ A530
                      clear A530
                      by_cases c54 : t25013 = true
                      ·subst c54
                       have H1 : (impl_AugmentingPath.l3 k4 a2 (x8_4.set (x58_3 : Int).toNat (wrap64 (x10_2 + 1))) x10_2 x58_3 (x8_2.length : Int) x58_3 (x8_3.length : Int) (wrap64 (x63_4 + 1)) a0_0 l0_1 a1_0 l1_1) = some (r1, r2) := by rw [if_pos rfl] at H; exact H
                       clear H
                       have H := H1
                       clear H1
                       obtain ⟨y25014, hy25014⟩ : ∃ y_ : List Int, y_ = (x8_4.set (x58_3 : Int).toNat (wrap64 (x10_2 + 1))) := ⟨_, rfl⟩
                       replace H : (impl_AugmentingPath.l3 k4 a2 y25014 x10_2 x58_3 (x8_2.length : Int) x58_3 (x8_3.length : Int) (wrap64 (x63_4 + 1)) a0_0 l0_1 a1_0 l1_1) = some (r1, r2) := by first | (rw [hy25014]; with_reducible exact H) | (have H2_ := (Option.bind_some _ _).symm.trans H; rw [hy25014]; with_reducible exact H2_) | (have H2_ := (Option.bind_some _ _).symm.trans H; with_reducible exact H2_) | with_reducible exact H | (rw [hy25014]; exact H) | exact H
                       have Ny25014 := aQ hy25014
                       clear hy25014
                       have H' := aQ H
                       clear H
                       have p25011 : 0 ≤ (x58_3 : Int) := of_decide_eq_true as_
                       have q25011 : x58_3 < (x8_4.length : Int) := of_decide_eq_true as_
                       obtain ⟨ad25011, e25011, hx25011_0⟩ := Kd.at_int (Kd.R_reads' HO_8.out).2.2 x58_3 p25011 q25011
                       cases e25011
                       replace p25011 := eq_true p25011
                       replace q25011 := eq_true q25011
                       have p25012 : 0 ≤ (x63_4 : Int) := of_decide_eq_true as_
                       have q25012 : x63_4 < (x8_4.length : Int) := of_decide_eq_true as_
                       obtain ⟨ad25012, e25012, hx25012_0⟩ := Kd.at_int (Kd.R_reads' HO_8.out).2.2 x63_4 p25012 q25012
                       obtain rfl : ad25011 = ad25012 := (by injection e25012)
                       replace p25012 := eq_true p25012
                       replace q25012 := eq_true q25012
                       have hnb56 := NB25001_25002.out
                       have hnc56 := NB25002_25001.out
                       have hcz57_0 := bc (v := (.int .i64 a0_0)) BK25001.out 0
                       have hcz57_1 := bc (v := (.slice A0_1 l0_1.length c0_1)) BK25001.out 1
                       have hfz57_0 := blk_frozen BK25001.out 0
                       have hfz57_1 := blk_frozen BK25001.out 1
                       have hcz58_0 := bc (v := (.int .i64 a1_0)) BK25002.out 0
                       have hcz58_1 := bc (v := (.slice A1_1 l1_1.length c1_1)) BK25002.out 1
                       have hfz58_0 := blk_frozen BK25002.out 0
                       have hfz58_1 := blk_frozen BK25002.out 1
                       go_wp2_with (first | (go_at_call 73; (with_reducible refine (impl_goesOn.calls k4 a0_0 _ _ l0_1 a1_0 _ _ l1_1 a2 x58_3 x63_4 true _ ?side1 ?side2 ?side3 ?side4 A53.out).mono ?_); (case side1 => exact pC (Kd.C_below HR0_1.out HB.out)); (case side2 => exact HC0_1.out); (case side3 => exact pC (Kd.C_below HR1_1.out HB.out)); (case side4 => exact HC1_1.out); rintro e w59 ⟨rfl, hb⟩; replace HO_8 := aQ (Kd.R_below (pR HO_8.out) hb); replace BK25001 := aQ (blk_below (g := gb25001) (o := .cells #[.int .i64 a0_0, .slice A0_1 l0_1.length c0_1] 26 (0, 0)) (pk BK25001.out) hb); replace BK25002 := aQ (blk_below (g := gb25002) (o := .cells #[.int .i64 a1_0, .slice A1_1 l1_1.length c1_1] 26 (0, 0)) (pk BK25002.out) hb); replace HB := aQ (below_step (pB2 HB.out GE25001.out GE25002.out) hb); (try clear hb); have p55 : 0 ≤ (x58_3 : Int) := of_decide_eq_true as_; have q55 : (x58_3 : Int) < ((x8_4.length : Int) : Int) := of_decide_eq_true as_; obtain ⟨go55, co55, eo55, gb55, gl55, cl55, HG55⟩ := Kd.R_form HO_8.out (by omega); (first | cases eo55 | (injection eo55 with ea_ en_ ec_; (first | subst ea_ | (injection ea_ with ea_; subst ea_)); subst ec_; clear en_)); have GB55 := aQ gb55; have GG55 := aQ HG55; clear gb55 gl55 HG55; (first | simp only [add_plain] at hx25011_0 | skip); (first | simp only [add_plain] at hx25012_0 | skip); obtain ⟨hx55_0, hf55_0⟩ := Kd.R_celln 0 HO_8.out (x58_3 : Int) p55 q55; replace p55 := eq_true p55; replace q55 := eq_true q55; obtain ⟨hy60_, hz60_⟩ := Kd.R_celln 0 HO_8.out (x58_3 : Int) (of_decide_eq_true as_) (of_decide_eq_true as_); have HP60 := Kd.R_putg HO_8.out (x58_3 : Int) (wrap64 (x10_2 + 1))) | ((with_reducible refine gate_store (t := 3) (p := 91) rfl ?_); refine store_event (t := 3) (p := 91) (v := ?vo_w61) (w1 := (w59.setCell ⟨go55, (x58_3 : Int).toNat, none⟩ (.int .i64 (wrap64 (x10_2 + 1))))) ?hg ?ho ?hn ?hr ?_; (case ho => rfl); (case hg => rfl); (case hn => rfl); (case hr => first | (go_simp; done) | (go_simp; rfl)); intro w61 hw; have hg : w59.grownBy w61 (some go55) := (by rw [hw]; exact HP60.2); have hp_ : Kd.R (Kd.int .i64) 3 w61 w.heap.size (fun _ => True) (.slice (some ⟨go55, 0, none⟩) x8_4.length co17) y25014 := (by rw [hw, Ny25014.out]; exact HP60.1); clear HP60; replace BK25001 := aQ (blk_grown (g := gb25001) (o := .cells #[.int .i64 a0_0, .slice A0_1 l0_1.length c0_1] 26 (0, 0)) (pk BK25001.out) hg (Kd.R_ne HO_8.out BK25001.out (by decide))); replace BK25002 := aQ (blk_grown (g := gb25002) (o := .cells #[.int .i64 a1_0, .slice A1_1 l1_1.length c1_1] 26 (0, 0)) (pk BK25002.out) hg (Kd.R_ne HO_8.out BK25002.out (by decide))); replace HO_8 := aQ (hp_); replace HB := aQ ((by rw [hw]; exact below_set (HB.out) GB55.out : Below w.heap.size w w61)); clear hg hw hp_))
                       (try simp only [← hl8_4])
                       go_roundg k4
                       case measure => have := HK1.out; have := HK2.out; have := HK3.out; have := HK4.out; omega
                       case rel => exact ⟨(y25014), (wrap64 (x63_4 + 1)), rs_, H', ⟨by have := HK1.out; have := HK2.out; have := HK3.out; have := HK4.out; omega⟩, ⟨by (try simp only [hl8_1]); (try simp only [hl8_2]); (try simp only [hl8_3]); (try simp only [hl8_4]); (with_reducible repeat (first | apply Kd.R_alloc | apply Kd.R_drewN | apply Kd.R_drew)); exact HO_8.out⟩, ⟨by (try simp only [hl8_1]); (try simp only [hl8_2]); (try simp only [hl8_3]); (try simp only [hl8_4]); (with_reducible repeat (first | refine blk_drewN ?_ _ | refine blk_drew ?_ | refine blk_alloc ?_ _)); exact BK25001.out⟩, ⟨by (try simp only [hl8_1]); (try simp only [hl8_2]); (try simp only [hl8_3]); (try simp only [hl8_4]); (with_reducible repeat (first | refine blk_drewN ?_ _ | refine blk_drew ?_ | refine blk_alloc ?_ _)); exact BK25002.out⟩, ⟨pB2 HB.out GE25001.out GE25002.out⟩⟩
                      ·replace c54 := Bool.eq_false_iff.mpr c54
                       subst c54
                       have H1 : (impl_AugmentingPath.l3 k4 a2 x8_4 x10_2 x58_3 (x8_2.length : Int) x58_3 (x8_3.length : Int) (wrap64 (x63_4 + 1)) a0_0 l0_1 a1_0 l1_1) = some (r1, r2) := by rw [if_neg (show ¬ (false = true) by decide)] at H; exact H
                       clear H
                       have H := H1
                       clear H1
                       have H' := aQ H
                       clear H
                       have p25011 : 0 ≤ (x58_3 : Int) := of_decide_eq_true as_
                       have q25011 : x58_3 < (x8_4.length : Int) := of_decide_eq_true as_
                       obtain ⟨ad25011, e25011, hx25011_0⟩ := Kd.at_int (Kd.R_reads' HO_8.out).2.2 x58_3 p25011 q25011
                       cases e25011
                       replace p25011 := eq_true p25011
                       replace q25011 := eq_true q25011
                       have p25012 : 0 ≤ (x63_4 : Int) := of_decide_eq_true as_
                       have q25012 : x63_4 < (x8_4.length : Int) := of_decide_eq_true as_
                       obtain ⟨ad25012, e25012, hx25012_0⟩ := Kd.at_int (Kd.R_reads' HO_8.out).2.2 x63_4 p25012 q25012
                       obtain rfl : ad25011 = ad25012 := (by injection e25012)
                       replace p25012 := eq_true p25012
                       replace q25012 := eq_true q25012
                       have hnb62 := NB25001_25002.out
                       have hnc62 := NB25002_25001.out
                       have hcz63_0 := bc (v := (.int .i64 a0_0)) BK25001.out 0
                       have hcz63_1 := bc (v := (.slice A0_1 l0_1.length c0_1)) BK25001.out 1
                       have hfz63_0 := blk_frozen BK25001.out 0
                       have hfz63_1 := blk_frozen BK25001.out 1
                       have hcz64_0 := bc (v := (.int .i64 a1_0)) BK25002.out 0
                       have hcz64_1 := bc (v := (.slice A1_1 l1_1.length c1_1)) BK25002.out 1
                       have hfz64_0 := blk_frozen BK25002.out 0
                       have hfz64_1 := blk_frozen BK25002.out 1
                       go_wp2_with (first | (go_at_call 73; (with_reducible refine (impl_goesOn.calls k4 a0_0 _ _ l0_1 a1_0 _ _ l1_1 a2 x58_3 x63_4 false _ ?side1 ?side2 ?side3 ?side4 A53.out).mono ?_); (case side1 => exact pC (Kd.C_below HR0_1.out HB.out)); (case side2 => exact HC0_1.out); (case side3 => exact pC (Kd.C_below HR1_1.out HB.out)); (case side4 => exact HC1_1.out); rintro e w65 ⟨rfl, hb⟩; replace HO_8 := aQ (Kd.R_below (pR HO_8.out) hb); replace BK25001 := aQ (blk_below (g := gb25001) (o := .cells #[.int .i64 a0_0, .slice A0_1 l0_1.length c0_1] 26 (0, 0)) (pk BK25001.out) hb); replace BK25002 := aQ (blk_below (g := gb25002) (o := .cells #[.int .i64 a1_0, .slice A1_1 l1_1.length c1_1] 26 (0, 0)) (pk BK25002.out) hb); replace HB := aQ (below_step (pB2 HB.out GE25001.out GE25002.out) hb); (try clear hb)))
                       (try simp only [← hl8_4])
                       go_roundg k4
                       case measure => have := HK1.out; have := HK2.out; have := HK3.out; have := HK4.out; omega
                       case rel => exact ⟨(x8_4), (wrap64 (x63_4 + 1)), rs_, H', ⟨by have := HK1.out; have := HK2.out; have := HK3.out; have := HK4.out; omega⟩, ⟨by (try simp only [hl8_1]); (try simp only [hl8_2]); (try simp only [hl8_3]); (try simp only [hl8_4]); (with_reducible repeat (first | apply Kd.R_alloc | apply Kd.R_drewN | apply Kd.R_drew)); exact HO_8.out⟩, ⟨by (try simp only [hl8_1]); (try simp only [hl8_2]); (try simp only [hl8_3]); (try simp only [hl8_4]); (with_reducible repeat (first | refine blk_drewN ?_ _ | refine blk_drew ?_ | refine blk_alloc ?_ _)); exact BK25001.out⟩, ⟨by (try simp only [hl8_1]); (try simp only [hl8_2]); (try simp only [hl8_3]); (try simp only [hl8_4]); (with_reducible repeat (first | refine blk_drewN ?_ _ | refine blk_drew ?_ | refine blk_alloc ?_ _)); exact BK25002.out⟩, ⟨pB2 HB.out GE25001.out GE25002.out⟩⟩
                     ·rw [if_neg c52] at H
                      have c52b0 : ((rd x8_4 x63_4) == x10_2) = false := beq_eq_false_iff_ne.mpr c52
                      have c52b1 : ((rd x8_4 x63_4) != x10_2) = true := bne_iff_ne.mpr c52
                      have H' := aQ H
                      clear H
                      have p25011 : 0 ≤ (x58_3 : Int) := of_decide_eq_true as_
                      have q25011 : x58_3 < (x8_4.length : Int) := of_decide_eq_true as_
                      obtain ⟨ad25011, e25011, hx25011_0⟩ := Kd.at_int (Kd.R_reads' HO_8.out).2.2 x58_3 p25011 q25011
                      cases e25011
                      replace p25011 := eq_true p25011
                      replace q25011 := eq_true q25011
                      have p25012 : 0 ≤ (x63_4 : Int) := of_decide_eq_true as_
                      have q25012 : x63_4 < (x8_4.length : Int) := of_decide_eq_true as_
                      obtain ⟨ad25012, e25012, hx25012_0⟩ := Kd.at_int (Kd.R_reads' HO_8.out).2.2 x63_4 p25012 q25012
                      obtain rfl : ad25011 = ad25012 := (by injection e25012)
                      replace p25012 := eq_true p25012
                      replace q25012 := eq_true q25012
                      go_wp2
                      (try simp only [← hl8_4])
                      go_roundg k4
                      case measure => have := HK1.out; have := HK2.out; have := HK3.out; have := HK4.out; omega
                      case rel => exact ⟨(x8_4), (wrap64 (x63_4 + 1)), rs_, H', ⟨by have := HK1.out; have := HK2.out; have := HK3.out; have := HK4.out; omega⟩, ⟨by (try simp only [hl8_1]); (try simp only [hl8_2]); (try simp only [hl8_3]); (try simp only [hl8_4]); (with_reducible repeat (first | apply Kd.R_alloc | apply Kd.R_drewN | apply Kd.R_drew)); exact HO_8.out⟩, ⟨by (try simp only [hl8_1]); (try simp only [hl8_2]); (try simp only [hl8_3]); (try simp only [hl8_4]); (with_reducible repeat (first | refine blk_drewN ?_ _ | refine blk_drew ?_ | refine blk_alloc ?_ _)); exact BK25001.out⟩, ⟨by (try simp only [hl8_1]); (try simp only [hl8_2]); (try simp only [hl8_3]); (try simp only [hl8_4]); (with_reducible repeat (first | refine blk_drewN ?_ _ | refine blk_drew ?_ | refine blk_alloc ?_ _)); exact BK25002.out⟩, ⟨pB2 HB.out GE25001.out GE25002.out⟩⟩
                    ·rw [if_neg c51] at H
                     exact absurd H (by simp)
                   ·rw [if_neg c50] at H
                    exact absurd H (by simp)
                  ·rw [if_neg c49] at H
                   have c49b0 : decide ((rd x8_4 x58_3) < 0) = false := decide_eq_false c49
                   clear c49
                   have H' := aQ H
                   clear H
                   have p25011 : 0 ≤ (x58_3 : Int) := of_decide_eq_true as_
                   have q25011 : x58_3 < (x8_4.length : Int) := of_decide_eq_true as_
                   obtain ⟨ad25011, e25011, hx25011_0⟩ := Kd.at_int (Kd.R_reads' HO_8.out).2.2 x58_3 p25011 q25011
                   cases e25011
                   replace p25011 := eq_true p25011
                   replace q25011 := eq_true q25011
                   go_wp2
                   (try simp only [← hl8_4])
                   go_roundg k4
                   case measure => have := HK1.out; have := HK2.out; have := HK3.out; have := HK4.out; omega
                   case rel => exact ⟨(x8_4), (wrap64 (x63_4 + 1)), rs_, H', ⟨by have := HK1.out; have := HK2.out; have := HK3.out; have := HK4.out; omega⟩, ⟨by (try simp only [hl8_1]); (try simp only [hl8_2]); (try simp only [hl8_3]); (try simp only [hl8_4]); (with_reducible repeat (first | apply Kd.R_alloc | apply Kd.R_drewN | apply Kd.R_drew)); exact HO_8.out⟩, ⟨by (try simp only [hl8_1]); (try simp only [hl8_2]); (try simp only [hl8_3]); (try simp only [hl8_4]); (with_reducible repeat (first | refine blk_drewN ?_ _ | refine blk_drew ?_ | refine blk_alloc ?_ _)); exact BK25001.out⟩, ⟨by (try simp only [hl8_1]); (try simp only [hl8_2]); (try simp only [hl8_3]); (try simp only [hl8_4]); (with_reducible repeat (first | refine blk_drewN ?_ _ | refine blk_drew ?_ | refine blk_alloc ?_ _)); exact BK25002.out⟩, ⟨pB2 HB.out GE25001.out GE25002.out⟩⟩
                 ·rw [if_neg c48] at H
                  exact absurd H (by simp)
                ·rw [if_neg c47] at H
                 exact absurd H (by simp)
               ·rw [if_neg c46] at H
                have c46b0 : decide (x63_4 < (x8_3.length : Int)) = false := decide_eq_false c46
                have c46b9 := c46b0
                (try simp only [hl8_1] at c46b9)
                have c46b8 := c46b0
                (try simp only [hl8_2] at c46b8)
                have c46b7 := c46b0
                (try simp only [hl8_3] at c46b7)
                have c46b6 := c46b0
                (try simp only [hl8_4] at c46b6)
                have c46bA := c46b0
                (try simp only [hl8_1, hl8_2, hl8_3, hl8_4] at c46bA)
                clear c46
                have H' := aQ H
                clear H
                go_wp2
                (try simp only [← hl8_3, ← hl8_4])
                go_roundg k4
                case measure => have := HK1.out; have := HK2.out; have := HK3.out; have := HK4.out; omega
                case rel => exact ⟨(x8_4), (wrap64 (x58_3 + 1)), rs_, H', ⟨by have := HK1.out; have := HK2.out; have := HK3.out; have := HK4.out; omega⟩, ⟨by (try simp only [hl8_1]); (try simp only [hl8_2]); (try simp only [hl8_3]); (try simp only [hl8_4]); (with_reducible repeat (first | apply Kd.R_alloc | apply Kd.R_drewN | apply Kd.R_drew)); exact HO_8.out⟩, ⟨by (try simp only [hl8_1]); (try simp only [hl8_2]); (try simp only [hl8_3]); (try simp only [hl8_4]); (with_reducible repeat (first | refine blk_drewN ?_ _ | refine blk_drew ?_ | refine blk_alloc ?_ _)); exact BK25001.out⟩, ⟨by (try simp only [hl8_1]); (try simp only [hl8_2]); (try simp only [hl8_3]); (try simp only [hl8_4]); (with_reducible repeat (first | refine blk_drewN ?_ _ | refine blk_drew ?_ | refine blk_alloc ?_ _)); exact BK25002.out⟩, ⟨pB2 HB.out GE25001.out GE25002.out⟩⟩
            ·rw [if_neg c45] at H
             have c45b0 : decide (x58_3 < (x8_2.length : Int)) = false := decide_eq_false c45
             have c45b9 := c45b0
             (try simp only [hl8_1] at c45b9)
             have c45b8 := c45b0
             (try simp only [hl8_2] at c45b8)
             have c45b7 := c45b0
             (try simp only [hl8_3] at c45b7)
             have c45bA := c45b0
             (try simp only [hl8_1, hl8_2, hl8_3] at c45bA)
             clear c45
             have H' := aQ H
             clear H
             go_wp2
             (try simp only [← hl8_2, ← hl8_3])
             go_roundg k3
             case measure => have := HK1.out; have := HK2.out; have := HK3.out; omega
             case rel => exact ⟨(x8_3), (wrap64 (x10_2 + 1)), rs_, H', ⟨by have := HK1.out; have := HK2.out; have := HK3.out; omega⟩, ⟨by (try simp only [hl8_1]); (try simp only [hl8_2]); (try simp only [hl8_3]); (with_reducible repeat (first | apply Kd.R_alloc | apply Kd.R_drewN | apply Kd.R_drew)); exact HO_8.out⟩, ⟨by (try simp only [hl8_1]); (try simp only [hl8_2]); (try simp only [hl8_3]); (with_reducible repeat (first | refine blk_drewN ?_ _ | refine blk_drew ?_ | refine blk_alloc ?_ _)); exact BK25001.out⟩, ⟨by (try simp only [hl8_1]); (try simp only [hl8_2]); (try simp only [hl8_3]); (with_reducible repeat (first | refine blk_drewN ?_ _ | refine blk_drew ?_ | refine blk_alloc ?_ _)); exact BK25002.out⟩, ⟨pB2 HB.out GE25001.out GE25002.out⟩⟩
         ·rw [if_neg c42] at H
          have c42b0 : decide (x10_2 ≤ a0_0) = false := decide_eq_false c42
          clear c42
          have H' := aQ H
          clear H
          have hnb66 := NB25001_25002.out
          have hnc66 := NB25002_25001.out
          have hcz67_0 := bc (v := (.int .i64 a0_0)) BK25001.out 0
          have hcz67_1 := bc (v := (.slice A0_1 l0_1.length c0_1)) BK25001.out 1
          have hfz67_0 := blk_frozen BK25001.out 0
          have hfz67_1 := blk_frozen BK25001.out 1
          go_wp2
          go_loopg [13, 96] k2 (fun kq v13 v96 w' => ∃ (x13_3 : Int) (x96_3 : Int), v13 = .int .i64 x13_3 ∧ v96 = .int .i64 x96_3 ∧ Aside0 (impl_AugmentingPath.l4 kq a2 x8_2 x13_3 (x8_2.length : Int) x96_3 a0_0 l0_1 a1_0 l1_1 = some (r1, r2)) ∧ Aside0 (kq ≤ k2) ∧ Aside0 (Kd.R (Kd.int .i64) 3 w' w.heap.size (fun _ => True) (.slice Ao17 x8_2.length co17) x8_2) ∧ Aside0 (w'.heap[gb25001]? = some (.cells #[.int .i64 a0_0, (.slice A0_1 l0_1.length c0_1)] 26 (0, 0))) ∧ Aside0 (w'.heap[gb25002]? = some (.cells #[.int .i64 a1_0, (.slice A1_1 l1_1.length c1_1)] 26 (0, 0))) ∧ Aside0 (Below w.heap.size w w'))
          case atStart => exact ⟨((-1)), (0), rs_, rs_, H', ⟨Nat.le_refl _⟩, ⟨by (try simp only [hl8_1]); (try simp only [hl8_2]); (with_reducible repeat (first | apply Kd.R_alloc | apply Kd.R_drewN | apply Kd.R_drew)); exact HO_8.out⟩, ⟨by (try simp only [hl8_1]); (try simp only [hl8_2]); (with_reducible repeat (first | refine blk_drewN ?_ _ | refine blk_drew ?_ | refine blk_alloc ?_ _)); exact BK25001.out⟩, ⟨by (try simp only [hl8_1]); (try simp only [hl8_2]); (with_reducible repeat (first | refine blk_drewN ?_ _ | refine blk_drew ?_ | refine blk_alloc ?_ _)); exact BK25002.out⟩, ⟨pB2 HB.out GE25001.out GE25002.out⟩⟩
          case round =>
           clear H'
           try clear c1
           try clear c2
           try clear p2
           try clear q2
           try clear hx2
           try clear c3
           try clear p3
           try clear q3
           try clear hx3
           try clear hf3
           try clear c4
           try clear c5
           try clear p5
           try clear q5
           try clear hx5
           try clear hf5
           try clear c6
           try clear c6b0
           try clear c6b1
           try clear p6
           try clear c7
           try clear c7b0
           try clear c7b1
           try clear c10
           try clear c18
           try clear c18b0
           try clear c19
           try clear c19b0
           try clear c20
           try clear c20b0
           try clear p21
           try clear q21
           try clear hx21
           try clear hf21
           try clear c23
           try clear c24
           try clear p25
           try clear q25
           try clear hx25
           try clear c27
           try clear c27b0
           try clear c30
           try clear p31
           try clear q31
           try clear hx31
           try clear hf31
           try clear c42
           try clear c42b0
           try clear c43
           try clear c45
           try clear c45b0
           try clear c46
           try clear c46b0
           try clear c47
           try clear c47b0
           try clear c48
           try clear c48b0
           try clear c49
           try clear c49b0
           try clear c50
           try clear c50b0
           try clear c51
           try clear c51b0
           try clear c52
           try clear c52b0
           try clear c52b1
           try clear c54
           try clear p55
           try clear q55
           try clear hx55
           try clear hf55
           try clear c56
           try clear c62
           try clear p64
           try clear c65
           try clear c66
           try clear hcz11_0
           try clear hcz11_1
           try clear hcz12_0
           try clear hcz12_1
           try clear hcz14_0
           try clear hcz14_1
           try clear hcz44_0
           try clear hcz44_1
           try clear hcz57_0
           try clear hcz57_1
           try clear hcz58_0
           try clear hcz58_1
           try clear hcz63_0
           try clear hcz63_1
           try clear hcz64_0
           try clear hcz64_1
           try clear hcz67_0
           try clear hcz67_1
           try clear hfz11_0
           try clear hfz11_1
           try clear hfz12_0
           try clear hfz12_1
           try clear hfz14_0
           try clear hfz14_1
           try clear hfz44_0
           try clear hfz44_1
           try clear hfz57_0
           try clear hfz57_1
           try clear hfz58_0
           try clear hfz58_1
           try clear hfz63_0
           try clear hfz63_1
           try clear hfz64_0
           try clear hfz64_1
           try clear hfz67_0
           try clear hfz67_1
           try clear hx21_0
           try clear hx25011_0
           try clear hx25012_0
           try clear hx31_0
           try clear hx55_0
           try clear p2
           try clear p21
           try clear p25011
           try clear p25012
           try clear p3
           try clear p31
           try clear p55
           try clear p6
           try clear q2
           try clear q21
           try clear q25011
           try clear q25012
           try clear q3
           try clear q31
           try clear q55
           obtain ⟨x13_3, x96_3, rfl, rfl, HA, HK3, HO_8, BK25001, BK25002, HB⟩ := hrel
           cases gk with
           | zero => exact absurd HA.out (by simp [impl_AugmentingPath.l4])
           | succ k3 =>
            have H := HA.out
            clear HA
            simp only [impl_AugmentingPath.l4] at H
            by_cases c68 : x96_3 < (x8_2.length : Int)
            ·rw [if_pos c68] at H
             have c68b0 : decide (x96_3 < (x8_2.length : Int)) = true := decide_eq_true c68
             have c68b9 := c68b0
             (try simp only [hl8_1] at c68b9)
             have c68b8 := c68b0
             (try simp only [hl8_2] at c68b8)
             have c68bA := c68b0
             (try simp only [hl8_1, hl8_2] at c68bA)
             clear c68
             replace H := Option.bind_eq_some_iff.mp H
             obtain ⟨t25015, A690, H⟩ := H
             replace H : (if t25015 = true then (impl_AugmentingPath.l4 k3 a2 x8_2 x13_3 (x8_2.length : Int) (wrap64 (x96_3 + 1)) a0_0 l0_1 a1_0 l1_1) else (if 0 ≤ x96_3 then ((impl_independent.f k3 a0_0 l0_1 (Go.bits .or .i64 a2 (shl .i64 1 x96_3))).bind fun t25016 => (if t25016 = true then (if x96_3 < (x8_2.length : Int) then (if (rd x8_2 x96_3) > 0 then (if x13_3 < 0 then (impl_AugmentingPath.l4 k3 a2 x8_2 x96_3 (x8_2.length : Int) (wrap64 (x96_3 + 1)) a0_0 l0_1 a1_0 l1_1) else (if 0 ≤ x13_3 then (if x13_3 < (x8_2.length : Int) then (if (rd x8_2 x96_3) < (rd x8_2 x13_3) then (impl_AugmentingPath.l4 k3 a2 x8_2 x96_3 (x8_2.length : Int) (wrap64 (x96_3 + 1)) a0_0 l0_1 a1_0 l1_1) else (impl_AugmentingPath.l4 k3 a2 x8_2 x13_3 (x8_2.length : Int) (wrap64 (x96_3 + 1)) a0_0 l0_1 a1_0 l1_1)) else (none)) else (none))) else (impl_AugmentingPath.l4 k3 a2 x8_2 x13_3 (x8_2.length : Int) (wrap64 (x96_3 + 1)) a0_0 l0_1 a1_0 l1_1)) else (none)) else (impl_AugmentingPath.l4 k3 a2 x8_2 x13_3 (x8_2.length : Int) (wrap64 (x96_3 + 1)) a0_0 l0_1 a1_0 l1_1))) else (none))) = some (r1, r2) := H
             have A69 := aQ A690
             clear A690
             by_cases c70 : t25015 = true
             ·subst c70
              have H1 : (impl_AugmentingPath.l4 k3 a2 x8_2 x13_3 (x8_2.length : Int) (wrap64 (x96_3 + 1)) a0_0 l0_1 a1_0 l1_1) = some (r1, r2) := by rw [if_pos rfl] at H; exact H
              clear H
              have H := H1
              clear H1
              have H' := aQ H
              clear H
              try go_wp2
              have n0_ := aQ (Kd.R_drew HO_8.out)
              have n1_ := aQ (blk_drew BK25001.out)
              have n2_ := aQ (blk_drew BK25002.out)
              have n3_ := aQ (below_drew1 HB.out)
              clear HO_8
              clear BK25001
              clear BK25002
              clear HB
              have HO_8 := n0_
              have BK25001 := n1_
              have BK25002 := n2_
              have HB := n3_
              clear n0_ n1_ n2_ n3_
              refine start_ (n := 34) (S := fun w' => True) (ds := []) #[false, false, false, false, false, false, false, false, false, false, false, false, false, false, false, false, false, false, false, false, false, false, false, false, false, false, false, false, false, false, false, false, false, false] (by kernel_rfl) rfl rfl trivial (fun hHeld => ?_); refine with_tabW impl_AugmentingPath.tab28 impl_AugmentingPath.bits28 (fun HT_ HW_ => ?_)
              generalize wr.drew = w71 at HO_8 BK25001 BK25002 HB hHeld ⊢
              refine puA (i := 0) (N := some 99) HT_ (h := ?_)
              refine puA (i := 1) (N := some 100) HT_ (h := ?_)
              refine onA (i := 2) (N := some 101) HT_ (h := fun K hK => ?_)
              refine goes_ Try.func72 (by kernel_rfl) rfl #[.int .i64 a2, .int .i64 x96_3] (by rfl) rfl rfl lm ?_
              with_reducible refine (impl_HasElement.calls a2 x96_3 true _ A69.out).mono ?_
              rintro e w' ⟨rfl, ⟨nd, rfl⟩⟩
              refine ⟨_, rfl, ?_⟩
              refine hK.out _ _ trivial (fun hHeld => ?_)
              clear hK K
              refine noA (h := ?_)
              refine puA (i := 3) (N := some 102) HT_ (h := ?_)
              refine puA (i := 4) (N := some 103) HT_ (h := ?_)
              refine puU (i := 5) (N := some 104) HT_ (h := ?_)
              refine puU (i := 6) (N := some 105) HT_ (h := ?_)
              refine puU (i := 7) (N := some 106) HT_ (h := ?_)
              refine puU (i := 8) (N := some 107) HT_ (h := ?_)
              refine puU (i := 9) (N := some 108) HT_ (h := ?_)
              refine puU (i := 10) (N := some 109) HT_ (h := ?_)
              refine puA (i := 11) (N := some 110) HT_ (h := ?_)
              refine puA (i := 12) (N := some 111) HT_ (h := ?_)
              refine puU (i := 13) (N := some 112) HT_ (h := ?_)
              refine puU (i := 14) (N := some 113) HT_ (h := ?_)
              refine puU (i := 15) (N := some 114) HT_ (h := ?_)
              refine puU (i := 16) (N := some 115) HT_ (h := ?_)
              refine puU (i := 17) (N := some 116) HT_ (h := ?_)
              refine puA (i := 18) (N := some 117) HT_ (h := ?_)
              refine puA (i := 19) (N := some 118) HT_ (h := ?_)
              refine puU (i := 20) (N := some 119) HT_ (h := ?_)
              refine puU (i := 21) (N := some 120) HT_ (h := ?_)
              refine puU (i := 22) (N := some 121) HT_ (h := ?_)
              refine puU (i := 23) (N := some 122) HT_ (h := ?_)
              refine puU (i := 24) (N := some 123) HT_ (h := ?_)
              refine puU (i := 25) (N := some 124) HT_ (h := ?_)
              refine puU (i := 26) (N := some 125) HT_ (h := ?_)
              refine puU (i := 27) (N := some 126) HT_ (h := ?_)
              refine puU (i := 28) (N := some 127) HT_ (h := ?_)
              refine puU (i := 29) (N := some 128) HT_ (h := ?_)
              refine puU (i := 30) (N := some 129) HT_ (h := ?_)
              refine puU (i := 31) (N := some 130) HT_ (h := ?_)
              refine puU (i := 32) (N := some 131) HT_ (h := ?_)
              refine puA (i := 33) (N := some 132) HT_ (h := ?_)
              refine done_ (done_of HT_.out (by kernel_rfl)) ?_
              try go_wp2
              go_roundg k3
              case measure => have := HK1.out; have := HK2.out; have := HK3.out; omega
              case rel => exact ⟨(x13_3), (wrap64 (x96_3 + 1)), rs_, rs_, H', ⟨by have := HK1.out; have := HK2.out; have := HK3.out; omega⟩, ⟨by (try simp only [hl8_1]); (try simp only [hl8_2]); (with_reducible repeat (first | apply Kd.R_alloc | apply Kd.R_drewN | apply Kd.R_drew)); exact HO_8.out⟩, ⟨by (try simp only [hl8_1]); (try simp only [hl8_2]); (with_reducible repeat (first | refine blk_drewN ?_ _ | refine blk_drew ?_ | refine blk_alloc ?_ _)); exact BK25001.out⟩, ⟨by (try simp only [hl8_1]); (try simp only [hl8_2]); (with_reducible repeat (first | refine blk_drewN ?_ _ | refine blk_drew ?_ | refine blk_alloc ?_ _)); exact BK25002.out⟩, ⟨pB2 HB.out GE25001.out GE25002.out⟩⟩
             ·replace c70 := Bool.eq_false_iff.mpr c70
              subst c70
              have H1 : (if 0 ≤ x96_3 then ((impl_independent.f k3 a0_0 l0_1 (Go.bits .or .i64 a2 (shl .i64 1 x96_3))).bind fun t25016 => (if t25016 = true then (if x96_3 < (x8_2.length : Int) then (if (rd x8_2 x96_3) > 0 then (if x13_3 < 0 then (impl_AugmentingPath.l4 k3 a2 x8_2 x96_3 (x8_2.length : Int) (wrap64 (x96_3 + 1)) a0_0 l0_1 a1_0 l1_1) else (if 0 ≤ x13_3 then (if x13_3 < (x8_2.length : Int) then (if (rd x8_2 x96_3) < (rd x8_2 x13_3) then (impl_AugmentingPath.l4 k3 a2 x8_2 x96_3 (x8_2.length : Int) (wrap64 (x96_3 + 1)) a0_0 l0_1 a1_0 l1_1) else (impl_AugmentingPath.l4 k3 a2 x8_2 x13_3 (x8_2.length : Int) (wrap64 (x96_3 + 1)) a0_0 l0_1 a1_0 l1_1)) else (none)) else (none))) else (impl_AugmentingPath.l4 k3 a2 x8_2 x13_3 (x8_2.length : Int) (wrap64 (x96_3 + 1)) a0_0 l0_1 a1_0 l1_1)) else (none)) else (impl_AugmentingPath.l4 k3 a2 x8_2 x13_3 (x8_2.length : Int) (wrap64 (x96_3 + 1)) a0_0 l0_1 a1_0 l1_1))) else (none)) = some (r1, r2) := by rw [if_neg (show ¬ (false = true) by decide)] at H; exact H
              clear H
              have H := H1
              clear H1
              by_cases c72 : 0 ≤ x96_3
              ·rw [if_pos c72] at H
               have c72b0 := eq_true c72
               have c72b1 : decide (0 ≤ x96_3) = true := decide_eq_true c72
               clear c72
               obtain ⟨ji73, hji73⟩ : ∃ j_ : Int, (shl .i64 1 x96_3) = j_ := ⟨_, rfl⟩
               replace H : ((impl_independent.f k3 a0_0 l0_1 (Go.bits .or .i64 a2 (ji73))).bind fun t25016 => (if t25016 = true then (if x96_3 < (x8_2.length : Int) then (if (rd x8_2 x96_3) > 0 then (if x13_3 < 0 then (impl_AugmentingPath.l4 k3 a2 x8_2 x96_3 (x8_2.length : Int) (wrap64 (x96_3 + 1)) a0_0 l0_1 a1_0 l1_1) else (if 0 ≤ x13_3 then (if x13_3 < (x8_2.length : Int) then (if (rd x8_2 x96_3) < (rd x8_2 x13_3) then (impl_AugmentingPath.l4 k3 a2 x8_2 x96_3 (x8_2.length : Int) (wrap64 (x96_3 + 1)) a0_0 l0_1 a1_0 l1_1) else (impl_AugmentingPath.l4 k3 a2 x8_2 x13_3 (x8_2.length : Int) (wrap64 (x96_3 + 1)) a0_0 l0_1 a1_0 l1_1)) else (none)) else (none))) else (impl_AugmentingPath.l4 k3 a2 x8_2 x13_3 (x8_2.length : Int) (wrap64 (x96_3 + 1)) a0_0 l0_1 a1_0 l1_1)) else (none)) else (impl_AugmentingPath.l4 k3 a2 x8_2 x13_3 (x8_2.length : Int) (wrap64 (x96_3 + 1)) a0_0 l0_1 a1_0 l1_1))) = some (r1, r2) := by first | (rw [hji73] at H; exact H) | (simp only [hji73] at H ⊢; exact H)
               (try rw [hji73] at A69)
               have hji73_ : (IntKind.i64.wrap (1 * 2 ^ min x96_3.toNat 64)) = ji73 := hji73
               have hji73z : x96_3 ≤ 64 → (IntKind.i64.wrap (1 * 2 ^ x96_3.toNat)) = ji73 := shl_small hji73
               have hji73u : (IntKind.i64.wrap (2 ^ min x96_3.toNat 64)) = ji73 := by have h_ := hji73_; rw [Int.one_mul] at h_; exact h_
               have hji73v : x96_3 ≤ 64 → (IntKind.i64.wrap (2 ^ x96_3.toNat)) = ji73 := fun hle_ => by have h_ := hji73z hle_; rw [Int.one_mul] at h_; exact h_
               have hji73y : (wrap64 (1 * 2 ^ min x96_3.toNat 64)) = ji73 := (i64_w _).symm.trans hji73_
               have hji73x : x96_3 ≤ 64 → (wrap64 (1 * 2 ^ x96_3.toNat)) = ji73 := fun h_ => (i64_w _).symm.trans (hji73z h_)
               replace H := Option.bind_eq_some_iff.mp H
               obtain ⟨t25016, A740, H⟩ := H
               replace H : (if t25016 = true then (if x96_3 < (x8_2.length : Int) then (if (rd x8_2 x96_3) > 0 then (if x13_3 < 0 then (impl_AugmentingPath.l4 k3 a2 x8_2 x96_3 (x8_2.length : Int) (wrap64 (x96_3 + 1)) a0_0 l0_1 a1_0 l1_1) else (if 0 ≤ x13_3 then (if x13_3 < (x8_2.length : Int) then (if (rd x8_2 x96_3) < (rd x8_2 x13_3) then (impl_AugmentingPath.l4 k3 a2 x8_2 x96_3 (x8_2.length : Int) (wrap64 (x96_3 + 1)) a0_0 l0_1 a1_0 l1_1) else (impl_AugmentingPath.l4 k3 a2 x8_2 x13_3 (x8_2.length : Int) (wrap64 (x96_3 + 1)) a0_0 l0_1 a1_0 l1_1)) else (none)) else (none))) else (impl_AugmentingPath.l4 k3 a2 x8_2 x13_3 (x8_2.length : Int) (wrap64 (x96_3 + 1)) a0_0 l0_1 a1_0 l1_1)) else (none)) else (impl_AugmentingPath.l4 k3 a2 x8_2 x13_3 (x8_2.length : Int) (wrap64 (x96_3 + 1)) a0_0 l0_1 a1_0 l1_1)) = some (r1, r2) := H
               have A74 := aQ A740
               clear A740
               by_cases c75 : t25016 = true
               ·subst c75
                have H1 : (if x96_3 < (x8_2.length : Int) then (if (rd x8_2 x96_3) > 0 then (if x13_3 < 0 then (impl_AugmentingPath.l4 k3 a2 x8_2 x96_3 (x8_2.length : Int) (wrap64 (x96_3 + 1)) a0_0 l0_1 a1_0 l1_1) else (if 0 ≤ x13_3 then (if x13_3 < (x8_2.length : Int) then (if (rd x8_2 x96_3) < (rd x8_2 x13_3) then (impl_AugmentingPath.l4 k3 a2 x8_2 x96_3 (x8_2.length : Int) (wrap64 (x96_3 + 1)) a0_0 l0_1 a1_0 l1_1) else (impl_AugmentingPath.l4 k3 a2 x8_2 x13_3 (x8_2.length : Int) (wrap64 (x96_3 + 1)) a0_0 l0_1 a1_0 l1_1)) else (none)) else (none))) else (impl_AugmentingPath.l4 k3 a2 x8_2 x13_3 (x8_2.length : Int) (wrap64 (x96_3 + 1)) a0_0 l0_1 a1_0 l1_1)) else (none)) = some (r1, r2) := by rw [if_pos rfl] at H; exact H
                clear H
                have H := H1
                clear H1
                by_cases c76 : x96_3 < (x8_2.length : Int)
                ·rw [if_pos c76] at H
                 have c76b0 : decide (x96_3 < (x8_2.length : Int)) = true := decide_eq_true c76
                 have c76b9 := c76b0
                 (try simp only [hl8_1] at c76b9)
                 have c76b8 := c76b0
                 (try simp only [hl8_2] at c76b8)
                 have c76bA := c76b0
                 (try simp only [hl8_1, hl8_2] at c76bA)
                 clear c76
                 by_cases c77 : (rd x8_2 x96_3) > 0
                 ·rw [if_pos c77] at H
                  have c77b0 : decide (0 < (rd x8_2 x96_3)) = true := decide_eq_true c77
                  clear c77
                  by_cases c78 : x13_3 < 0
                  ·rw [if_pos c78] at H
                   have c78b0 : decide (x13_3 < 0) = true := decide_eq_true c78
                   clear c78
                   have H' := aQ H
                   clear H
                   try go_wp2
                   have n0_ := aQ (Kd.R_drew HO_8.out)
                   have n1_ := aQ (blk_drew BK25001.out)
                   have n2_ := aQ (blk_drew BK25002.out)
                   have n3_ := aQ (below_drew1 HB.out)
                   clear HO_8
                   clear BK25001
                   clear BK25002
                   clear HB
                   have HO_8 := n0_
                   have BK25001 := n1_
                   have BK25002 := n2_
                   have HB := n3_
                   clear n0_ n1_ n2_ n3_
                   have p25017 : 0 ≤ (x96_3 : Int) := of_decide_eq_true as_
                   have q25017 : x96_3 < (x8_2.length : Int) := of_decide_eq_true as_
                   obtain ⟨ad25017, e25017, hx25017_0⟩ := Kd.at_int (Kd.R_reads' HO_8.out).2.2 x96_3 p25017 q25017
                   cases e25017
                   replace p25017 := eq_true p25017
                   replace q25017 := eq_true q25017
                   refine start_ (n := 34) (S := fun w' => w'.cell? ⟨gb25001, 0, none⟩ = some (.int .i64 a0_0) ∧ w'.cell? ⟨gb25001, 1, none⟩ = some (.slice A0_1 l0_1.length c0_1) ∧ w'.cell? (ad25017.add (x96_3).toNat) = some (.int .i64 (rd x8_2 x96_3))) (ds := []) #[false, false, false, false, false, false, false, false, false, false, false, false, false, false, false, false, false, false, false, false, false, false, false, false, false, false, false, false, false, false, false, false, false, false] (by kernel_rfl) rfl rfl ⟨(blk_cell BK25001.out 0).trans rfl, (blk_cell BK25001.out 1).trans rfl, hx25017_0⟩ (fun hHeld => ?_); refine with_tabW impl_AugmentingPath.tab28 impl_AugmentingPath.bits28 (fun HT_ HW_ => ?_)
                   generalize wr.drew = w79 at HO_8 BK25001 BK25002 HB hx25017_0 hHeld ⊢
                   refine puA (i := 0) (N := some 99) HT_ (h := ?_)
                   refine puA (i := 1) (N := some 100) HT_ (h := ?_)
                   refine onA (i := 2) (N := some 101) HT_ (h := fun K hK => ?_)
                   refine goes_ Try.func72 (by kernel_rfl) rfl #[.int .i64 a2, .int .i64 x96_3] (by rfl) rfl rfl lm ?_
                   with_reducible refine (impl_HasElement.calls a2 x96_3 false _ A69.out).mono ?_
                   rintro e w' ⟨rfl, ⟨nd, rfl⟩⟩
                   refine ⟨_, rfl, ?_⟩
                   refine hK.out _ _ ⟨(blk_cell BK25001.out 0).trans rfl, (blk_cell BK25001.out 1).trans rfl, hHeld.2.2⟩ (fun hHeld => ?_)
                   clear hK K
                   refine noA (h := ?_)
                   refine puA (i := 3) (N := some 102) HT_ (h := ?_)
                   refine puA (i := 4) (N := some 103) HT_ (h := ?_)
                   refine puA (i := 6) (N := some 105) HT_ (h := ?_)
                   refine puA (i := 7) (N := some 106) HT_ (h := ?_)
                   refine puA (i := 8) (N := some 107) HT_ (h := ?_)
                   refine puA (i := 9) (N := some 108) HT_ (h := ?_)
                   refine taA3 (i := 5) (N := some 104) HT_ HW_ hHeld (h := ?_)
                   refine onA (i := 10) (N := some 109) HT_ (h := fun K hK => ?_)
                   refine goes_ Try.func65 (by kernel_rfl) rfl #[.agg #[.int .i64 a0_0, .slice A0_1 l0_1.length c0_1], .int .i64 (Go.bits .or .i64 a2 (ji73))] (by rfl) rfl rfl (by (try simp only [List.map_toArray, List.map_cons, List.map_nil]); first | done | (simp only [hji73]; rfl) | rfl | (simp only [List.length_drop, List.length_take]; rfl)) ?_
                   with_reducible refine (impl_independent.calls k3 a0_0 _ _ l0_1 (Go.bits .or .i64 a2 (ji73)) true _ ?side1 ?side2 A74.out).mono ?_
                   (case side1 => repeat (first | exact (Kd.C_below HR0_1.out (pB2 HB.out GE25001.out GE25002.out)) | (with_reducible refine Kd.C_alloc ?_ _) | (with_reducible refine Kd.C_drewN ?_ _) | (with_reducible refine Kd.C_drew ?_)))
                   (case side2 => exact HC0_1.out)
                   rintro e w80 ⟨rfl, hb⟩
                   have HS2_ := (hb.cell (World.block_lt_of_cell? _ _ (hHeld.2.2))).trans (hHeld.2.2)
                   refine ⟨_, rfl, ?_⟩
                   have n0_ := aQ (Kd.R_below (pR HO_8.out) hb)
                   have n1_ := aQ (blk_below (g := gb25001) (o := .cells #[.int .i64 a0_0, .slice A0_1 l0_1.length c0_1] 26 (0, 0)) (pk BK25001.out) hb)
                   have n2_ := aQ (blk_below (g := gb25002) (o := .cells #[.int .i64 a1_0, .slice A1_1 l1_1.length c1_1] 26 (0, 0)) (pk BK25002.out) hb)
                   have n3_ := aQ (below_step (pB2 HB.out GE25001.out GE25002.out) hb)
                   clear HO_8
                   clear BK25001
                   clear BK25002
                   clear HB
                   have HO_8 := n0_
                   have BK25001 := n1_
                   have BK25002 := n2_
                   have HB := n3_
                   clear n0_ n1_ n2_ n3_
                   (try clear hb)
                   (try clear hb2)
                   (try clear hk)
                   (try clear hi)
                   refine hK.out _ _ ⟨(blk_cell BK25001.out 0).trans rfl, (blk_cell BK25001.out 1).trans rfl, HS2_⟩ (fun hHeld => ?_)
                   clear hK K
                   refine noA (h := ?_)
                   refine puA (i := 11) (N := some 110) HT_ (h := ?_)
                   refine puA (i := 12) (N := some 111) HT_ (h := ?_)
                   refine puA (i := 13) (N := some 112) HT_ (h := ?_)
                   refine puA (i := 14) (N := some 113) HT_ (h := ?_)
                   refine puA (i := 15) (N := some 114) HT_ (h := ?_)
                   refine taA3 (i := 16) (N := some 115) HT_ HW_ hHeld (h := ?_)
                   refine puA (i := 17) (N := some 116) HT_ (h := ?_)
                   refine puA (i := 18) (N := some 117) HT_ (h := ?_)
                   refine puA (i := 19) (N := some 118) HT_ (h := ?_)
                   refine puA (i := 20) (N := some 119) HT_ (h := ?_)
                   refine puA (i := 21) (N := some 120) HT_ (h := ?_)
                   refine puA (i := 22) (N := some 121) HT_ (h := ?_)
                   refine puU (i := 23) (N := some 122) HT_ (h := ?_)
                   refine puU (i := 24) (N := some 123) HT_ (h := ?_)
                   refine puU (i := 25) (N := some 124) HT_ (h := ?_)
                   refine puU (i := 26) (N := some 125) HT_ (h := ?_)
                   refine puU (i := 27) (N := some 126) HT_ (h := ?_)
                   refine puU (i := 28) (N := some 127) HT_ (h := ?_)
                   refine puU (i := 29) (N := some 128) HT_ (h := ?_)
                   refine puU (i := 30) (N := some 129) HT_ (h := ?_)
                   refine puU (i := 31) (N := some 130) HT_ (h := ?_)
                   refine puA (i := 32) (N := some 131) HT_ (h := ?_)
                   refine puA (i := 33) (N := some 132) HT_ (h := ?_)
                   refine done_ (done_of HT_.out (by kernel_rfl)) ?_
                   try go_wp2
                   go_roundg k3
                   case measure => have := HK1.out; have := HK2.out; have := HK3.out; omega
                   case rel => exact ⟨(x96_3), (wrap64 (x96_3 + 1)), rs_, rs_, H', ⟨by have := HK1.out; have := HK2.out; have := HK3.out; omega⟩, ⟨by (try simp only [hl8_1]); (try simp only [hl8_2]); (with_reducible repeat (first | apply Kd.R_alloc | apply Kd.R_drewN | apply Kd.R_drew)); exact HO_8.out⟩, ⟨by (try simp only [hl8_1]); (try simp only [hl8_2]); (with_reducible repeat (first | refine blk_drewN ?_ _ | refine blk_drew ?_ | refine blk_alloc ?_ _)); exact BK25001.out⟩, ⟨by (try simp only [hl8_1]); (try simp only [hl8_2]); (with_reducible repeat (first | refine blk_drewN ?_ _ | refine blk_drew ?_ | refine blk_alloc ?_ _)); exact BK25002.out⟩, ⟨pB2 HB.out GE25001.out GE25002.out⟩⟩
                  ·rw [if_neg c78] at H
                   have c78b0 : decide (x13_3 < 0) = false := decide_eq_false c78
                   clear c78
                   by_cases c81 : 0 ≤ x13_3
                   ·rw [if_pos c81] at H
                    have c81b0 : decide (0 ≤ x13_3) = true := decide_eq_true c81
                    clear c81
                    by_cases c82 : x13_3 < (x8_2.length : Int)
                    ·rw [if_pos c82] at H
                     have c82b0 : decide (x13_3 < (x8_2.length : Int)) = true := decide_eq_true c82
                     have c82b9 := c82b0
                     (try simp only [hl8_1] at c82b9)
                     have c82b8 := c82b0
                     (try simp only [hl8_2] at c82b8)
                     have c82bA := c82b0
                     (try simp only [hl8_1, hl8_2] at c82bA)
                     clear c82
                     by_cases c83 : (rd x8_2 x96_3) < (rd x8_2 x13_3)
                     ·rw [if_pos c83] at H
                      have c83b0 : decide ((rd x8_2 x96_3) < (rd x8_2 x13_3)) = true := decide_eq_true c83
                      clear c83
                      have H' := aQ H
                      clear H
                      try go_wp2
                      have n0_ := aQ (Kd.R_drew HO_8.out)
                      have n1_ := aQ (blk_drew BK25001.out)
                      have n2_ := aQ (blk_drew BK25002.out)
                      have n3_ := aQ (below_drew1 HB.out)
                      clear HO_8
                      clear BK25001
                      clear BK25002
                      clear HB
                      have HO_8 := n0_
                      have BK25001 := n1_
                      have BK25002 := n2_
                      have HB := n3_
                      clear n0_ n1_ n2_ n3_
                      have p25017 : 0 ≤ (x96_3 : Int) := of_decide_eq_true as_
                      have q25017 : x96_3 < (x8_2.length : Int) := of_decide_eq_true as_
                      obtain ⟨ad25017, e25017, hx25017_0⟩ := Kd.at_int (Kd.R_reads' HO_8.out).2.2 x96_3 p25017 q25017
                      cases e25017
                      replace p25017 := eq_true p25017
                      replace q25017 := eq_true q25017
                      have p25018 : 0 ≤ (x96_3 : Int) := of_decide_eq_true as_
                      have q25018 : x96_3 < (x8_2.length : Int) := of_decide_eq_true as_
                      obtain ⟨ad25018, e25018, hx25018_0⟩ := Kd.at_int (Kd.R_reads' HO_8.out).2.2 x96_3 p25018 q25018
                      obtain rfl : ad25017 = ad25018 := (by injection e25018)
                      replace p25018 := eq_true p25018
                      replace q25018 := eq_true q25018
                      have p25019 : 0 ≤ (x13_3 : Int) := of_decide_eq_true as_
                      have q25019 : x13_3 < (x8_2.length : Int) := of_decide_eq_true as_
                      obtain ⟨ad25019, e25019, hx25019_0⟩ := Kd.at_int (Kd.R_reads' HO_8.out).2.2 x13_3 p25019 q25019
                      obtain rfl : ad25017 = ad25019 := (by injection e25019)
                      replace p25019 := eq_true p25019
                      replace q25019 := eq_true q25019
                      refine start_ (n := 34) (S := fun w' => w'.cell? ⟨gb25001, 0, none⟩ = some (.int .i64 a0_0) ∧ w'.cell? ⟨gb25001, 1, none⟩ = some (.slice A0_1 l0_1.length c0_1) ∧ w'.cell? (ad25017.add (x96_3).toNat) = some (.int .i64 (rd x8_2 x96_3)) ∧ w'.cell? (ad25017.add (x96_3).toNat) = some (.int .i64 (rd x8_2 x96_3)) ∧ w'.cell? (ad25017.add (x13_3).toNat) = some (.int .i64 (rd x8_2 x13_3))) (ds := []) #[false, false, false, false, false, false, false, false, false, false, false, false, false, false, false, false, false, false, false, false, false, false, false, false, false, false, false, false, false, false, false, false, false, false] (by kernel_rfl) rfl rfl ⟨(blk_cell BK25001.out 0).trans rfl, (blk_cell BK25001.out 1).trans rfl, hx25017_0, hx25018_0, hx25019_0⟩ (fun hHeld => ?_); refine with_tabW impl_AugmentingPath.tab28 impl_AugmentingPath.bits28 (fun HT_ HW_ => ?_)
                      generalize wr.drew = w84 at HO_8 BK25001 BK25002 HB hx25017_0 hx25018_0 hx25019_0 hHeld ⊢
                      refine puA (i := 0) (N := some 99) HT_ (h := ?_)
                      refine puA (i := 1) (N := some 100) HT_ (h := ?_)
                      refine onA (i := 2) (N := some 101) HT_ (h := fun K hK => ?_)
                      refine goes_ Try.func72 (by kernel_rfl) rfl #[.int .i64 a2, .int .i64 x96_3] (by rfl) rfl rfl lm ?_
                      with_reducible refine (impl_HasElement.calls a2 x96_3 false _ A69.out).mono ?_
                      rintro e w' ⟨rfl, ⟨nd, rfl⟩⟩
                      refine ⟨_, rfl, ?_⟩
                      refine hK.out _ _ ⟨(blk_cell BK25001.out 0).trans rfl, (blk_cell BK25001.out 1).trans rfl, hHeld.2.2.1, hHeld.2.2.2.1, hHeld.2.2.2.2⟩ (fun hHeld => ?_)
                      clear hK K
                      refine noA (h := ?_)
                      refine puA (i := 3) (N := some 102) HT_ (h := ?_)
                      refine puA (i := 4) (N := some 103) HT_ (h := ?_)
                      refine puA (i := 6) (N := some 105) HT_ (h := ?_)
                      refine puA (i := 7) (N := some 106) HT_ (h := ?_)
                      refine puA (i := 8) (N := some 107) HT_ (h := ?_)
                      refine puA (i := 9) (N := some 108) HT_ (h := ?_)
                      refine taA5 (i := 5) (N := some 104) HT_ HW_ hHeld (h := ?_)
                      refine onA (i := 10) (N := some 109) HT_ (h := fun K hK => ?_)
                      refine goes_ Try.func65 (by kernel_rfl) rfl #[.agg #[.int .i64 a0_0, .slice A0_1 l0_1.length c0_1], .int .i64 (Go.bits .or .i64 a2 (ji73))] (by rfl) rfl rfl (by (try simp only [List.map_toArray, List.map_cons, List.map_nil]); first | done | (simp only [hji73]; rfl) | rfl | (simp only [List.length_drop, List.length_take]; rfl)) ?_
                      with_reducible refine (impl_independent.calls k3 a0_0 _ _ l0_1 (Go.bits .or .i64 a2 (ji73)) true _ ?side1 ?side2 A74.out).mono ?_
                      (case side1 => repeat (first | exact (Kd.C_below HR0_1.out (pB2 HB.out GE25001.out GE25002.out)) | (with_reducible refine Kd.C_alloc ?_ _) | (with_reducible refine Kd.C_drewN ?_ _) | (with_reducible refine Kd.C_drew ?_)))
                      (case side2 => exact HC0_1.out)
                      rintro e w85 ⟨rfl, hb⟩
                      have HS2_ := (hb.cell (World.block_lt_of_cell? _ _ (hHeld.2.2.1))).trans (hHeld.2.2.1)
                      have HS3_ := (hb.cell (World.block_lt_of_cell? _ _ (hHeld.2.2.2.1))).trans (hHeld.2.2.2.1)
                      have HS4_ := (hb.cell (World.block_lt_of_cell? _ _ (hHeld.2.2.2.2))).trans (hHeld.2.2.2.2)
                      refine ⟨_, rfl, ?_⟩
                      have n0_ := aQ (Kd.R_below (pR HO_8.out) hb)
                      have n1_ := aQ (blk_below (g := gb25001) (o := .cells #[.int .i64 a0_0, .slice A0_1 l0_1.length c0_1] 26 (0, 0)) (pk BK25001.out) hb)
                      have n2_ := aQ (blk_below (g := gb25002) (o := .cells #[.int .i64 a1_0, .slice A1_1 l1_1.length c1_1] 26 (0, 0)) (pk BK25002.out) hb)
                      have n3_ := aQ (below_step (pB2 HB.out GE25001.out GE25002.out) hb)
                      clear HO_8
                      clear BK25001
                      clear BK25002
                      clear HB
                      have HO_8 := n0_
                      have BK25001 := n1_
                      have BK25002 := n2_
                      have HB := n3_
                      clear n0_ n1_ n2_ n3_
                      (try clear hb)
                      (try clear hb2)
                      (try clear hk)
                      (try clear hi)
                      refine hK.out _ _ ⟨(blk_cell BK25001.out 0).trans rfl, (blk_cell BK25001.out 1).trans rfl, HS2_, HS3_, HS4_⟩ (fun hHeld => ?_)
                      clear hK K
                      refine noA (h := ?_)
                      refine puA (i := 11) (N := some 110) HT_ (h := ?_)
                      refine puA (i := 12) (N := some 111) HT_ (h := ?_)
                      refine puA (i := 13) (N := some 112) HT_ (h := ?_)
                      refine puA (i := 14) (N := some 113) HT_ (h := ?_)
                      refine puA (i := 15) (N := some 114) HT_ (h := ?_)
                      refine taA5 (i := 16) (N := some 115) HT_ HW_ hHeld (h := ?_)
                      refine puA (i := 17) (N := some 116) HT_ (h := ?_)
                      refine puA (i := 18) (N := some 117) HT_ (h := ?_)
                      refine puA (i := 19) (N := some 118) HT_ (h := ?_)
                      refine puA (i := 20) (N := some 119) HT_ (h := ?_)
                      refine puA (i := 21) (N := some 120) HT_ (h := ?_)
                      refine puA (i := 22) (N := some 121) HT_ (h := ?_)
                      refine puA (i := 23) (N := some 122) HT_ (h := ?_)
                      refine puA (i := 24) (N := some 123) HT_ (h := ?_)
                      refine puA (i := 25) (N := some 124) HT_ (h := ?_)
                      refine puA (i := 27) (N := some 126) HT_ (h := ?_)
                      refine puA (i := 28) (N := some 127) HT_ (h := ?_)
                      refine puA (i := 29) (N := some 128) HT_ (h := ?_)
                      refine taA5 (i := 26) (N := some 125) HT_ HW_ hHeld (h := ?_)
                      refine taA5 (i := 30) (N := some 129) HT_ HW_ hHeld (h := ?_)
                      refine puA (i := 31) (N := some 130) HT_ (h := ?_)
                      refine puA (i := 32) (N := some 131) HT_ (h := ?_)
                      refine puA (i := 33) (N := some 132) HT_ (h := ?_)
                      refine done_ (done_of HT_.out (by kernel_rfl)) ?_
                      try go_wp2
                      go_roundg k3
                      case measure => have := HK1.out; have := HK2.out; have := HK3.out; omega
                      case rel => exact ⟨(x96_3), (wrap64 (x96_3 + 1)), rs_, rs_, H', ⟨by have := HK1.out; have := HK2.out; have := HK3.out; omega⟩, ⟨by (try simp only [hl8_1]); (try simp only [hl8_2]); (with_reducible repeat (first | apply Kd.R_alloc | apply Kd.R_drewN | apply Kd.R_drew)); exact HO_8.out⟩, ⟨by (try simp only [hl8_1]); (try simp only [hl8_2]); (with_reducible repeat (first | refine blk_drewN ?_ _ | refine blk_drew ?_ | refine blk_alloc ?_ _)); exact BK25001.out⟩, ⟨by (try simp only [hl8_1]); (try simp only [hl8_2]); (with_reducible repeat (first | refine blk_drewN ?_ _ | refine blk_drew ?_ | refine blk_alloc ?_ _)); exact BK25002.out⟩, ⟨pB2 HB.out GE25001.out GE25002.out⟩⟩
                     ·rw [if_neg c83] at H
                      have c83b0 : decide ((rd x8_2 x96_3) < (rd x8_2 x13_3)) = false := decide_eq_false c83
                      clear c83
                      have H' := aQ H
                      clear H
                      try go_wp2
                      have n0_ := aQ (Kd.R_drew HO_8.out)
                      have n1_ := aQ (blk_drew BK25001.out)
                      have n2_ := aQ (blk_drew BK25002.out)
                      have n3_ := aQ (below_drew1 HB.out)
                      clear HO_8
                      clear BK25001
                      clear BK25002
                      clear HB
                      have HO_8 := n0_
                      have BK25001 := n1_
                      have BK25002 := n2_
                      have HB := n3_
                      clear n0_ n1_ n2_ n3_
                      have p25017 : 0 ≤ (x96_3 : Int) := of_decide_eq_true as_
                      have q25017 : x96_3 < (x8_2.length : Int) := of_decide_eq_true as_
                      obtain ⟨ad25017, e25017, hx25017_0⟩ := Kd.at_int (Kd.R_reads' HO_8.out).2.2 x96_3 p25017 q25017
                      cases e25017
                      replace p25017 := eq_true p25017
                      replace q25017 := eq_true q25017
                      have p25018 : 0 ≤ (x96_3 : Int) := of_decide_eq_true as_
                      have q25018 : x96_3 < (x8_2.length : Int) := of_decide_eq_true as_
                      obtain ⟨ad25018, e25018, hx25018_0⟩ := Kd.at_int (Kd.R_reads' HO_8.out).2.2 x96_3 p25018 q25018
                      obtain rfl : ad25017 = ad25018 := (by injection e25018)
                      replace p25018 := eq_true p25018
                      replace q25018 := eq_true q25018
                      have p25019 : 0 ≤ (x13_3 : Int) := of_decide_eq_true as_
                      have q25019 : x13_3 < (x8_2.length : Int) := of_decide_eq_true as_
                      obtain ⟨ad25019, e25019, hx25019_0⟩ := Kd.at_int (Kd.R_reads' HO_8.out).2.2 x13_3 p25019 q25019
                      obtain rfl : ad25017 = ad25019 := (by injection e25019)
                      replace p25019 := eq_true p25019
                      replace q25019 := eq_true q25019
                      refine start_ (n := 34) (S := fun w' => w'.cell? ⟨gb25001, 0, none⟩ = some (.int .i64 a0_0) ∧ w'.cell? ⟨gb25001, 1, none⟩ = some (.slice A0_1 l0_1.length c0_1) ∧ w'.cell? (ad25017.add (x96_3).toNat) = some (.int .i64 (rd x8_2 x96_3)) ∧ w'.cell? (ad25017.add (x96_3).toNat) = some (.int .i64 (rd x8_2 x96_3)) ∧ w'.cell? (ad25017.add (x13_3).toNat) = some (.int .i64 (rd x8_2 x13_3))) (ds := []) #[false, false, false, false, false, false, false, false, false, false, false, false, false, false, false, false, false, false, false, false, false, false, false, false, false, false, false, false, false, false, false, false, false, false] (by kernel_rfl) rfl rfl ⟨(blk_cell BK25001.out 0).trans rfl, (blk_cell BK25001.out 1).trans rfl, hx25017_0, hx25018_0, hx25019_0⟩ (fun hHeld => ?_); refine with_tabW impl_AugmentingPath.tab28 impl_AugmentingPath.bits28 (fun HT_ HW_ => ?_)
                      generalize wr.drew = w86 at HO_8 BK25001 BK25002 HB hx25017_0 hx25018_0 hx25019_0 hHeld ⊢
                      refine puA (i := 0) (N := some 99) HT_ (h := ?_)
                      refine puA (i := 1) (N := some 100) HT_ (h := ?_)
                      refine onA (i := 2) (N := some 101) HT_ (h := fun K hK => ?_)
                      refine goes_ Try.func72 (by kernel_rfl) rfl #[.int .i64 a2, .int .i64 x96_3] (by rfl) rfl rfl lm ?_
                      with_reducible refine (impl_HasElement.calls a2 x96_3 false _ A69.out).mono ?_
                      rintro e w' ⟨rfl, ⟨nd, rfl⟩⟩
                      refine ⟨_, rfl, ?_⟩
                      refine hK.out _ _ ⟨(blk_cell BK25001.out 0).trans rfl, (blk_cell BK25001.out 1).trans rfl, hHeld.2.2.1, hHeld.2.2.2.1, hHeld.2.2.2.2⟩ (fun hHeld => ?_)
                      clear hK K
                      refine noA (h := ?_)
                      refine puA (i := 3) (N := some 102) HT_ (h := ?_)
                      refine puA (i := 4) (N := some 103) HT_ (h := ?_)
                      refine puA (i := 6) (N := some 105) HT_ (h := ?_)
                      refine puA (i := 7) (N := some 106) HT_ (h := ?_)
                      refine puA (i := 8) (N := some 107) HT_ (h := ?_)
                      refine puA (i := 9) (N := some 108) HT_ (h := ?_)
                      refine taA5 (i := 5) (N := some 104) HT_ HW_ hHeld (h := ?_)
                      refine onA (i := 10) (N := some 109) HT_ (h := fun K hK => ?_)
                      refine goes_ Try.func65 (by kernel_rfl) rfl #[.agg #[.int .i64 a0_0, .slice A0_1 l0_1.length c0_1], .int .i64 (Go.bits .or .i64 a2 (ji73))] (by rfl) rfl rfl (by (try simp only [List.map_toArray, List.map_cons, List.map_nil]); first | done | (simp only [hji73]; rfl) | rfl | (simp only [List.length_drop, List.length_take]; rfl)) ?_
                      with_reducible refine (impl_independent.calls k3 a0_0 _ _ l0_1 (Go.bits .or .i64 a2 (ji73)) true _ ?side1 ?side2 A74.out).mono ?_
                      (case side1 => repeat (first | exact (Kd.C_below HR0_1.out (pB2 HB.out GE25001.out GE25002.out)) | (with_reducible refine Kd.C_alloc ?_ _) | (with_reducible refine Kd.C_drewN ?_ _) | (with_reducible refine Kd.C_drew ?_)))
                      (case side2 => exact HC0_1.out)
                      rintro e w87 ⟨rfl, hb⟩
                      have HS2_ := (hb.cell (World.block_lt_of_cell? _ _ (hHeld.2.2.1))).trans (hHeld.2.2.1)
                      have HS3_ := (hb.cell (World.block_lt_of_cell? _ _ (hHeld.2.2.2.1))).trans (hHeld.2.2.2.1)
                      have HS4_ := (hb.cell (World.block_lt_of_cell? _ _ (hHeld.2.2.2.2))).trans (hHeld.2.2.2.2)
                      refine ⟨_, rfl, ?_⟩
                      have n0_ := aQ (Kd.R_below (pR HO_8.out) hb)
                      have n1_ := aQ (blk_below (g := gb25001) (o := .cells #[.int .i64 a0_0, .slice A0_1 l0_1.length c0_1] 26 (0, 0)) (pk BK25001.out) hb)
                      have n2_ := aQ (blk_below (g := gb25002) (o := .cells #[.int .i64 a1_0, .slice A1_1 l1_1.length c1_1] 26 (0, 0)) (pk BK25002.out) hb)
                      have n3_ := aQ (below_step (pB2 HB.out GE25001.out GE25002.out) hb)
                      clear HO_8
                      clear BK25001
                      clear BK25002
                      clear HB
                      have HO_8 := n0_
                      have BK25001 := n1_
                      have BK25002 := n2_
                      have HB := n3_
                      clear n0_ n1_ n2_ n3_
                      (try clear hb)
                      (try clear hb2)
                      (try clear hk)
                      (try clear hi)
                      refine hK.out _ _ ⟨(blk_cell BK25001.out 0).trans rfl, (blk_cell BK25001.out 1).trans rfl, HS2_, HS3_, HS4_⟩ (fun hHeld => ?_)
                      clear hK K
                      refine noA (h := ?_)
                      refine puA (i := 11) (N := some 110) HT_ (h := ?_)
                      refine puA (i := 12) (N := some 111) HT_ (h := ?_)
                      refine puA (i := 13) (N := some 112) HT_ (h := ?_)
                      refine puA (i := 14) (N := some 113) HT_ (h := ?_)
                      refine puA (i := 15) (N := some 114) HT_ (h := ?_)
                      refine taA5 (i := 16) (N := some 115) HT_ HW_ hHeld (h := ?_)
                      refine puA (i := 17) (N := some 116) HT_ (h := ?_)
                      refine puA (i := 18) (N := some 117) HT_ (h := ?_)
                      refine puA (i := 19) (N := some 118) HT_ (h := ?_)
                      refine puA (i := 20) (N := some 119) HT_ (h := ?_)
                      refine puA (i := 21) (N := some 120) HT_ (h := ?_)
                      refine puA (i := 22) (N := some 121) HT_ (h := ?_)
                      refine puA (i := 23) (N := some 122) HT_ (h := ?_)
                      refine puA (i := 24) (N := some 123) HT_ (h := ?_)
                      refine puA (i := 25) (N := some 124) HT_ (h := ?_)
                      refine puA (i := 27) (N := some 126) HT_ (h := ?_)
                      refine puA (i := 28) (N := some 127) HT_ (h := ?_)
                      refine puA (i := 29) (N := some 128) HT_ (h := ?_)
                      refine taA5 (i := 26) (N := some 125) HT_ HW_ hHeld (h := ?_)
                      refine taA5 (i := 30) (N := some 129) HT_ HW_ hHeld (h := ?_)
                      refine puA (i := 31) (N := some 130) HT_ (h := ?_)
                      refine puA (i := 32) (N := some 131) HT_ (h := ?_)
                      refine puA (i := 33) (N := some 132) HT_ (h := ?_)
                      refine done_ (done_of HT_.out (by kernel_rfl)) ?_
                      try go_wp2
                      go_roundg k3
                      case measure => have := HK1.out; have := HK2.out; have := HK3.out; omega
                      case rel => exact ⟨(x13_3), (wrap64 (x96_3 + 1)), rs_, rs_, H', ⟨by have := HK1.out; have := HK2.out; have := HK3.out; omega⟩, ⟨by (try simp only [hl8_1]); (try simp only [hl8_2]); (with_reducible repeat (first | apply Kd.R_alloc | apply Kd.R_drewN | apply Kd.R_drew)); exact HO_8.out⟩, ⟨by (try simp only [hl8_1]); (try simp only [hl8_2]); (with_reducible repeat (first | refine blk_drewN ?_ _ | refine blk_drew ?_ | refine blk_alloc ?_ _)); exact BK25001.out⟩, ⟨by (try simp only [hl8_1]); (try simp only [hl8_2]); (with_reducible repeat (first | refine blk_drewN ?_ _ | refine blk_drew ?_ | refine blk_alloc ?_ _)); exact BK25002.out⟩, ⟨pB2 HB.out GE25001.out GE25002.out⟩⟩
                    ·rw [if_neg c82] at H
                     exact absurd H (by simp)
                   ·rw [if_neg c81] at H
                    exact absurd H (by simp)
                 ·rw [if_neg c77] at H
                  have c77b0 : decide (0 < (rd x8_2 x96_3)) = false := decide_eq_false c77
                  clear c77
                  have H' := aQ H
                  clear H
                  try go_wp2
                  have n0_ := aQ (Kd.R_drew HO_8.out)
                  have n1_ := aQ (blk_drew BK25001.out)
                  have n2_ := aQ (blk_drew BK25002.out)
                  have n3_ := aQ (below_drew1 HB.out)
                  clear HO_8
                  clear BK25001
                  clear BK25002
                  clear HB
                  have HO_8 := n0_
                  have BK25001 := n1_
                  have BK25002 := n2_
                  have HB := n3_
                  clear n0_ n1_ n2_ n3_
                  have p25017 : 0 ≤ (x96_3 : Int) := of_decide_eq_true as_
                  have q25017 : x96_3 < (x8_2.length : Int) := of_decide_eq_true as_
                  obtain ⟨ad25017, e25017, hx25017_0⟩ := Kd.at_int (Kd.R_reads' HO_8.out).2.2 x96_3 p25017 q25017
                  cases e25017
                  replace p25017 := eq_true p25017
                  replace q25017 := eq_true q25017
                  refine start_ (n := 34) (S := fun w' => w'.cell? ⟨gb25001, 0, none⟩ = some (.int .i64 a0_0) ∧ w'.cell? ⟨gb25001, 1, none⟩ = some (.slice A0_1 l0_1.length c0_1) ∧ w'.cell? (ad25017.add (x96_3).toNat) = some (.int .i64 (rd x8_2 x96_3))) (ds := []) #[false, false, false, false, false, false, false, false, false, false, false, false, false, false, false, false, false, false, false, false, false, false, false, false, false, false, false, false, false, false, false, false, false, false] (by kernel_rfl) rfl rfl ⟨(blk_cell BK25001.out 0).trans rfl, (blk_cell BK25001.out 1).trans rfl, hx25017_0⟩ (fun hHeld => ?_); refine with_tabW impl_AugmentingPath.tab28 impl_AugmentingPath.bits28 (fun HT_ HW_ => ?_)
                  generalize wr.drew = w88 at HO_8 BK25001 BK25002 HB hx25017_0 hHeld ⊢
                  refine puA (i := 0) (N := some 99) HT_ (h := ?_)
                  refine puA (i := 1) (N := some 100) HT_ (h := ?_)
                  refine onA (i := 2) (N := some 101) HT_ (h := fun K hK => ?_)
                  refine goes_ Try.func72 (by kernel_rfl) rfl #[.int .i64 a2, .int .i64 x96_3] (by rfl) rfl rfl lm ?_
                  with_reducible refine (impl_HasElement.calls a2 x96_3 false _ A69.out).mono ?_
                  rintro e w' ⟨rfl, ⟨nd, rfl⟩⟩
                  refine ⟨_, rfl, ?_⟩
                  refine hK.out _ _ ⟨(blk_cell BK25001.out 0).trans rfl, (blk_cell BK25001.out 1).trans rfl, hHeld.2.2⟩ (fun hHeld => ?_)
                  clear hK K
                  refine noA (h := ?_)
                  refine puA (i := 3) (N := some 102) HT_ (h := ?_)
                  refine puA (i := 4) (N := some 103) HT_ (h := ?_)
                  refine puA (i := 6) (N := some 105) HT_ (h := ?_)
                  refine puA (i := 7) (N := some 106) HT_ (h := ?_)
                  refine puA (i := 8) (N := some 107) HT_ (h := ?_)
                  refine puA (i := 9) (N := some 108) HT_ (h := ?_)
                  refine taA3 (i := 5) (N := some 104) HT_ HW_ hHeld (h := ?_)
                  refine onA (i := 10) (N := some 109) HT_ (h := fun K hK => ?_)
                  refine goes_ Try.func65 (by kernel_rfl) rfl #[.agg #[.int .i64 a0_0, .slice A0_1 l0_1.length c0_1], .int .i64 (Go.bits .or .i64 a2 (ji73))] (by rfl) rfl rfl (by (try simp only [List.map_toArray, List.map_cons, List.map_nil]); first | done | (simp only [hji73]; rfl) | rfl | (simp only [List.length_drop, List.length_take]; rfl)) ?_
                  with_reducible refine (impl_independent.calls k3 a0_0 _ _ l0_1 (Go.bits .or .i64 a2 (ji73)) true _ ?side1 ?side2 A74.out).mono ?_
                  (case side1 => repeat (first | exact (Kd.C_below HR0_1.out (pB2 HB.out GE25001.out GE25002.out)) | (with_reducible refine Kd.C_alloc ?_ _) | (with_reducible refine Kd.C_drewN ?_ _) | (with_reducible refine Kd.C_drew ?_)))
                  (case side2 => exact HC0_1.out)
                  rintro e w89 ⟨rfl, hb⟩
                  have HS2_ := (hb.cell (World.block_lt_of_cell? _ _ (hHeld.2.2))).trans (hHeld.2.2)
                  refine ⟨_, rfl, ?_⟩
                  have n0_ := aQ (Kd.R_below (pR HO_8.out) hb)
                  have n1_ := aQ (blk_below (g := gb25001) (o := .cells #[.int .i64 a0_0, .slice A0_1 l0_1.length c0_1] 26 (0, 0)) (pk BK25001.out) hb)
                  have n2_ := aQ (blk_below (g := gb25002) (o := .cells #[.int .i64 a1_0, .slice A1_1 l1_1.length c1_1] 26 (0, 0)) (pk BK25002.out) hb)
                  have n3_ := aQ (below_step (pB2 HB.out GE25001.out GE25002.out) hb)
                  clear HO_8
                  clear BK25001
                  clear BK25002
                  clear HB
                  have HO_8 := n0_
                  have BK25001 := n1_
                  have BK25002 := n2_
                  have HB := n3_
                  clear n0_ n1_ n2_ n3_
                  (try clear hb)
                  (try clear hb2)
                  (try clear hk)
                  (try clear hi)
                  refine hK.out _ _ ⟨(blk_cell BK25001.out 0).trans rfl, (blk_cell BK25001.out 1).trans rfl, HS2_⟩ (fun hHeld => ?_)
                  clear hK K
                  refine noA (h := ?_)
                  refine puA (i := 11) (N := some 110) HT_ (h := ?_)
                  refine puA (i := 12) (N := some 111) HT_ (h := ?_)
                  refine puA (i := 13) (N := some 112) HT_ (h := ?_)
                  refine puA (i := 14) (N := some 113) HT_ (h := ?_)
                  refine puA (i := 15) (N := some 114) HT_ (h := ?_)
                  refine taA3 (i := 16) (N := some 115) HT_ HW_ hHeld (h := ?_)
                  refine puA (i := 17) (N := some 116) HT_ (h := ?_)
                  refine puA (i := 18) (N := some 117) HT_ (h := ?_)
                  refine puA (i := 19) (N := some 118) HT_ (h := ?_)
                  refine puU (i := 20) (N := some 119) HT_ (h := ?_)
                  refine puU (i := 21) (N := some 120) HT_ (h := ?_)
                  refine puU (i := 22) (N := some 121) HT_ (h := ?_)
                  refine puU (i := 23) (N := some 122) HT_ (h := ?_)
                  refine puU (i := 24) (N := some 123) HT_ (h := ?_)
                  refine puU (i := 25) (N := some 124) HT_ (h := ?_)
                  refine puU (i := 26) (N := some 125) HT_ (h := ?_)
                  refine puU (i := 27) (N := some 126) HT_ (h := ?_)
                  refine puU (i := 28) (N := some 127) HT_ (h := ?_)
                  refine puU (i := 29) (N := some 128) HT_ (h := ?_)
                  refine puU (i := 30) (N := some 129) HT_ (h := ?_)
                  refine puU (i := 31) (N := some 130) HT_ (h := ?_)
                  refine puU (i := 32) (N := some 131) HT_ (h := ?_)
                  refine puA (i := 33) (N := some 132) HT_ (h := ?_)
                  refine done_ (done_of HT_.out (by kernel_rfl)) ?_
                  try go_wp2
                  go_roundg k3
                  case measure => have := HK1.out; have := HK2.out; have := HK3.out; omega
                  case rel => exact ⟨(x13_3), (wrap64 (x96_3 + 1)), rs_, rs_, H', ⟨by have := HK1.out; have := HK2.out; have := HK3.out; omega⟩, ⟨by (try simp only [hl8_1]); (try simp only [hl8_2]); (with_reducible repeat (first | apply Kd.R_alloc | apply Kd.R_drewN | apply Kd.R_drew)); exact HO_8.out⟩, ⟨by (try simp only [hl8_1]); (try simp only [hl8_2]); (with_reducible repeat (first | refine blk_drewN ?_ _ | refine blk_drew ?_ | refine blk_alloc ?_ _)); exact BK25001.out⟩, ⟨by (try simp only [hl8_1]); (try simp only [hl8_2]); (with_reducible repeat (first | refine blk_drewN ?_ _ | refine blk_drew ?_ | refine blk_alloc ?_ _)); exact BK25002.out⟩, ⟨pB2 HB.out GE25001.out GE25002.out⟩⟩
                ·rw [if_neg c76] at H
                 exact absurd H (by simp)
               ·replace c75 := Bool.eq_false_iff.mpr c75
                subst c75
                have H1 : (impl_AugmentingPath.l4 k3 a2 x8_2 x13_3 (x8_2.length : Int) (wrap64 (x96_3 + 1)) a0_0 l0_1 a1_0 l1_1) = some (r1, r2) := by rw [if_neg (show ¬ (false = true) by decide)] at H; exact H
                clear H
                have H := H1
                clear H1
                have H' := aQ H
                clear H
                try go_wp2
                have n0_ := aQ (Kd.R_drew HO_8.out)
                have n1_ := aQ (blk_drew BK25001.out)
                have n2_ := aQ (blk_drew BK25002.out)
                have n3_ := aQ (below_drew1 HB.out)
                clear HO_8
                clear BK25001
                clear BK25002
                clear HB
                have HO_8 := n0_
                have BK25001 := n1_
                have BK25002 := n2_
                have HB := n3_
                clear n0_ n1_ n2_ n3_
                refine start_ (n := 34) (S := fun w' => w'.cell? ⟨gb25001, 0, none⟩ = some (.int .i64 a0_0) ∧ w'.cell? ⟨gb25001, 1, none⟩ = some (.slice A0_1 l0_1.length c0_1)) (ds := []) #[false, false, false, false, false, false, false, false, false, false, false, false, false, false, false, false, false, false, false, false, false, false, false, false, false, false, false, false, false, false, false, false, false, false] (by kernel_rfl) rfl rfl ⟨(blk_cell BK25001.out 0).trans rfl, (blk_cell BK25001.out 1).trans rfl⟩ (fun hHeld => ?_); refine with_tabW impl_AugmentingPath.tab28 impl_AugmentingPath.bits28 (fun HT_ HW_ => ?_)
                generalize wr.drew = w90 at HO_8 BK25001 BK25002 HB hHeld ⊢
                refine puA (i := 0) (N := some 99) HT_ (h := ?_)
                refine puA (i := 1) (N := some 100) HT_ (h := ?_)
                refine onA (i := 2) (N := some 101) HT_ (h := fun K hK => ?_)
                refine goes_ Try.func72 (by kernel_rfl) rfl #[.int .i64 a2, .int .i64 x96_3] (by rfl) rfl rfl lm ?_
                with_reducible refine (impl_HasElement.calls a2 x96_3 false _ A69.out).mono ?_
                rintro e w' ⟨rfl, ⟨nd, rfl⟩⟩
                refine ⟨_, rfl, ?_⟩
                refine hK.out _ _ ⟨(blk_cell BK25001.out 0).trans rfl, (blk_cell BK25001.out 1).trans rfl⟩ (fun hHeld => ?_)
                clear hK K
                refine noA (h := ?_)
                refine puA (i := 3) (N := some 102) HT_ (h := ?_)
                refine puA (i := 4) (N := some 103) HT_ (h := ?_)
                refine puA (i := 6) (N := some 105) HT_ (h := ?_)
                refine puA (i := 7) (N := some 106) HT_ (h := ?_)
                refine puA (i := 8) (N := some 107) HT_ (h := ?_)
                refine puA (i := 9) (N := some 108) HT_ (h := ?_)
                refine taA2 (i := 5) (N := some 104) HT_ HW_ hHeld (h := ?_)
                refine onA (i := 10) (N := some 109) HT_ (h := fun K hK => ?_)
                refine goes_ Try.func65 (by kernel_rfl) rfl #[.agg #[.int .i64 a0_0, .slice A0_1 l0_1.length c0_1], .int .i64 (Go.bits .or .i64 a2 (ji73))] (by rfl) rfl rfl (by (try simp only [List.map_toArray, List.map_cons, List.map_nil]); first | done | (simp only [hji73]; rfl) | rfl | (simp only [List.length_drop, List.length_take]; rfl)) ?_
                with_reducible refine (impl_independent.calls k3 a0_0 _ _ l0_1 (Go.bits .or .i64 a2 (ji73)) false _ ?side1 ?side2 A74.out).mono ?_
                (case side1 => repeat (first | exact (Kd.C_below HR0_1.out (pB2 HB.out GE25001.out GE25002.out)) | (with_reducible refine Kd.C_alloc ?_ _) | (with_reducible refine Kd.C_drewN ?_ _) | (with_reducible refine Kd.C_drew ?_)))
                (case side2 => exact HC0_1.out)
                rintro e w91 ⟨rfl, hb⟩
                refine ⟨_, rfl, ?_⟩
                have n0_ := aQ (Kd.R_below (pR HO_8.out) hb)
                have n1_ := aQ (blk_below (g := gb25001) (o := .cells #[.int .i64 a0_0, .slice A0_1 l0_1.length c0_1] 26 (0, 0)) (pk BK25001.out) hb)
                have n2_ := aQ (blk_below (g := gb25002) (o := .cells #[.int .i64 a1_0, .slice A1_1 l1_1.length c1_1] 26 (0, 0)) (pk BK25002.out) hb)
                have n3_ := aQ (below_step (pB2 HB.out GE25001.out GE25002.out) hb)
                clear HO_8
                clear BK25001
                clear BK25002
                clear HB
                have HO_8 := n0_
                have BK25001 := n1_
                have BK25002 := n2_
                have HB := n3_
                clear n0_ n1_ n2_ n3_
                (try clear hb)
                (try clear hb2)
                (try clear hk)
                (try clear hi)
                refine hK.out _ _ ⟨(blk_cell BK25001.out 0).trans rfl, (blk_cell BK25001.out 1).trans rfl⟩ (fun hHeld => ?_)
                clear hK K
                refine noA (h := ?_)
                refine puA (i := 11) (N := some 110) HT_ (h := ?_)
                refine puA (i := 12) (N := some 111) HT_ (h := ?_)
                refine puU (i := 13) (N := some 112) HT_ (h := ?_)
                refine puU (i := 14) (N := some 113) HT_ (h := ?_)
                refine puU (i := 15) (N := some 114) HT_ (h := ?_)
                refine puU (i := 16) (N := some 115) HT_ (h := ?_)
                refine puU (i := 17) (N := some 116) HT_ (h := ?_)
                refine puA (i := 18) (N := some 117) HT_ (h := ?_)
                refine puA (i := 19) (N := some 118) HT_ (h := ?_)
                refine puU (i := 20) (N := some 119) HT_ (h := ?_)
                refine puU (i := 21) (N := some 120) HT_ (h := ?_)
                refine puU (i := 22) (N := some 121) HT_ (h := ?_)
                refine puU (i := 23) (N := some 122) HT_ (h := ?_)
                refine puU (i := 24) (N := some 123) HT_ (h := ?_)
                refine puU (i := 25) (N := some 124) HT_ (h := ?_)
                refine puU (i := 26) (N := some 125) HT_ (h := ?_)
                refine puU (i := 27) (N := some 126) HT_ (h := ?_)
                refine puU (i := 28) (N := some 127) HT_ (h := ?_)
                refine puU (i := 29) (N := some 128) HT_ (h := ?_)
                refine puU (i := 30) (N := some 129) HT_ (h := ?_)
                refine puU (i := 31) (N := some 130) HT_ (h := ?_)
                refine puU (i := 32) (N := some 131) HT_ (h := ?_)
                refine puA (i := 33) (N := some 132) HT_ (h := ?_)
                refine done_ (done_of HT_.out (by kernel_rfl)) ?_
                try go_wp2
                go_roundg k3
                case measure => have := HK1.out; have := HK2.out; have := HK3.out; omega
                case rel => exact ⟨(x13_3), (wrap64 (x96_3 + 1)), rs_, rs_, H', ⟨by have := HK1.out; have := HK2.out; have := HK3.out; omega⟩, ⟨by (try simp only [hl8_1]); (try simp only [hl8_2]); (with_reducible repeat (first | apply Kd.R_alloc | apply Kd.R_drewN | apply Kd.R_drew)); exact HO_8.out⟩, ⟨by (try simp only [hl8_1]); (try simp only [hl8_2]); (with_reducible repeat (first | refine blk_drewN ?_ _ | refine blk_drew ?_ | refine blk_alloc ?_ _)); exact BK25001.out⟩, ⟨by (try simp only [hl8_1]); (try simp only [hl8_2]); (with_reducible repeat (first | refine blk_drewN ?_ _ | refine blk_drew ?_ | refine blk_alloc ?_ _)); exact BK25002.out⟩, ⟨pB2 HB.out GE25001.out GE25002.out⟩⟩
              ·rw [if_neg c72] at H
               exact absurd H (by simp)
            ·rw [if_neg c68] at H
             have c68b0 : decide (x96_3 < (x8_2.length : Int)) = false := decide_eq_false c68
             have c68b9 := c68b0
             (try simp only [hl8_1] at c68b9)
             have c68b8 := c68b0
             (try simp only [hl8_2] at c68b8)
             have c68bA := c68b0
             (try simp only [hl8_1, hl8_2] at c68bA)
             clear c68
             by_cases c92 : x13_3 < 0
             ·rw [if_pos c92] at H
              have c92b0 : decide (x13_3 < 0) = true := decide_eq_true c92
              clear c92
              simp only [Option.some.injEq, Prod.mk.injEq] at H
              obtain ⟨rfl, rfl⟩ := H
              go_wp2
              go_ret2
              exact ⟨_, by first | rfl | (simp [errW_none, errW_some] <;> rfl) | (simp [*, errW_none, errW_some] <;> rfl), by first | exact Kd.R_nil _ _ _ _ _ | exact Kd.N_nil _ _ _ _ _ | exact Kd.V_nil _ _ _ _ _ | exact Kd.Q_nil _ _ _ _ _ | exact Kd.S_nil _ _ _ _ _, pB2 HB.out GE25001.out GE25002.out⟩
             ·rw [if_neg c92] at H
              have c92b0 : decide (x13_3 < 0) = false := decide_eq_false c92
              clear c92
              obtain ⟨y25020, hy25020⟩ : ∃ y_ : List Int, y_ = (([x13_3] : List Int)) := ⟨_, rfl⟩
              replace H : (impl_AugmentingPath.l5 k3 a2 x8_2 x13_3 y25020 a0_0 l0_1 a1_0 l1_1) = some (r1, r2) := by first | (rw [hy25020]; with_reducible exact H) | (have H2_ := (Option.bind_some _ _).symm.trans H; rw [hy25020]; with_reducible exact H2_) | (have H2_ := (Option.bind_some _ _).symm.trans H; with_reducible exact H2_) | with_reducible exact H | (rw [hy25020]; exact H) | exact H
              have Ny25020 := aQ hy25020
              clear hy25020
              have H' := aQ H
              clear H
              go_wp2_with (first | ((with_reducible refine gate_dst (N := 138) rfl ?_); refine Kd.R_lit (Kd.int .i64) _ 3 ?hg (N := 138) ?hd (xs := ([x13_3] : List Int)) (inner := [.int .i64 x13_3]) (ok := fun _ => True) (okp := fun _ => True) ?hr ?hp (fun _ hk => hk) trivial (Below.refl _ _) (Nat.le_refl _) (by simp) ?_; (case hd => rfl); (case hg => rfl); (case hr => first | (go_simp; done) | (go_simp; rfl)); (case hp => exact (Reps.one (show Kd.M (Kd.int .i64) _ _ _ x13_3 [.int .i64 x13_3] from rfl) (Reps.none _ _))); intro v25021 w93 ho94 hb hg_ hnew_; clear hg_ hnew_; (first | rw [← Ny25020.out] at ho94 | (simp only [Int.reduceToNat] at ho94; rw [← Ny25020.out] at ho94)); have HO25022 := aQ (Kd.R_lower (Kd.R_new' ho94 (Kd.R_lt (pR HO_8.out))) (below_size (pB2 HB.out GE25001.out GE25002.out))); replace HO_8 := aQ (Kd.R_elder' (pR HO_8.out) (Kd.R_base ho94) hb); replace BK25001 := aQ (blk_below (g := gb25001) (o := .cells #[.int .i64 a0_0, .slice A0_1 l0_1.length c0_1] 26 (0, 0)) (pk BK25001.out) hb); replace BK25002 := aQ (blk_below (g := gb25002) (o := .cells #[.int .i64 a1_0, .slice A1_1 l1_1.length c1_1] 26 (0, 0)) (pk BK25002.out) hb); replace HB := aQ (below_step (pB2 HB.out GE25001.out GE25002.out) hb); clear hb ho94))
              go_loopg [13, 15] k3 (fun kq v13 v15 w' => ∃ (x13_4 : Int) (x15_4 : List Int), v13 = .int .i64 x13_4 ∧ Aside0 (impl_AugmentingPath.l5 kq a2 x8_2 x13_4 x15_4 a0_0 l0_1 a1_0 l1_1 = some (r1, r2)) ∧ Aside0 (kq ≤ k3) ∧ Aside0 (Kd.R (Kd.int .i64) 3 w' w.heap.size (fun k_ => some k_ ≠ (v15 : Value).ownBlock) (.slice Ao17 x8_2.length co17) x8_2) ∧ Aside0 (Kd.R (Kd.int .i64) 3 w' w.heap.size (fun k_ => some k_ ≠ ((.slice Ao17 x8_2.length co17) : Value).ownBlock) v15 x15_4) ∧ Aside0 (w'.heap[gb25001]? = some (.cells #[.int .i64 a0_0, (.slice A0_1 l0_1.length c0_1)] 26 (0, 0))) ∧ Aside0 (w'.heap[gb25002]? = some (.cells #[.int .i64 a1_0, (.slice A1_1 l1_1.length c1_1)] 26 (0, 0))) ∧ Aside0 (Below w.heap.size w w'))
              case atStart => exact ⟨(x13_3), (y25020), rs_, H', ⟨Nat.le_refl _⟩, ⟨by (try simp only [hl8_1]); (try simp only [hl8_2]); (with_reducible repeat (first | apply Kd.R_alloc | apply Kd.R_drewN | apply Kd.R_drew)); exact Kd.R_mono HO_8.out (fun _ hk => hk.2)⟩, ⟨by (try simp only [hl8_1]); (try simp only [hl8_2]); (with_reducible repeat (first | apply Kd.R_alloc | apply Kd.R_drewN | apply Kd.R_drew)); exact Kd.R_mono HO25022.out (fun _ hk => hk.2)⟩, ⟨by (try simp only [hl8_1]); (try simp only [hl8_2]); (with_reducible repeat (first | refine blk_drewN ?_ _ | refine blk_drew ?_ | refine blk_alloc ?_ _)); exact BK25001.out⟩, ⟨by (try simp only [hl8_1]); (try simp only [hl8_2]); (with_reducible repeat (first | refine blk_drewN ?_ _ | refine blk_drew ?_ | refine blk_alloc ?_ _)); exact BK25002.out⟩, ⟨pB2 HB.out GE25001.out GE25002.out⟩⟩
              case round =>
               clear H'
               try clear c1
               try clear p2
               try clear q2
               try clear hx2
               try clear c6
               try clear p6
               try clear c7
               try clear c8
               try clear c9
               try clear p25
               try clear q25
               try clear hx25
               try clear p64
               try clear c65
               try clear c68
               try clear c68b0
               try clear c72
               try clear c75
               try clear c76
               try clear c77
               try clear c77b0
               try clear c81
               try clear c82
               try clear c92
               try clear c92b0
               try clear hx25017_0
               try clear p25017
               try clear q25017
               obtain ⟨x13_4, x15_4, rfl, HA, HK4, HO_8, HO_15, BK25001, BK25002, HB⟩ := hrel
               cases gk with
               | zero => exact absurd HA.out (by simp [impl_AugmentingPath.l5])
               | succ k4 =>
                have H := HA.out
                clear HA
                simp only [impl_AugmentingPath.l5] at H
                by_cases c95 : 0 ≤ x13_4
                ·rw [if_pos c95] at H
                 have c95b0 : decide (0 ≤ x13_4) = true := decide_eq_true c95
                 clear c95
                 by_cases c96 : x13_4 < (x8_2.length : Int)
                 ·rw [if_pos c96] at H
                  have c96b0 : decide (x13_4 < (x8_2.length : Int)) = true := decide_eq_true c96
                  have c96b9 := c96b0
                  (try simp only [hl8_1] at c96b9)
                  have c96b8 := c96b0
                  (try simp only [hl8_2] at c96b8)
                  have c96bA := c96b0
                  (try simp only [hl8_1, hl8_2] at c96bA)
                  clear c96
                  by_cases c97 : (rd x8_2 x13_4) > 1
                  ·rw [if_pos c97] at H
                   have c97b0 : decide (1 < (rd x8_2 x13_4)) = true := decide_eq_true c97
                   clear c97
                   have H' := aQ H
                   clear H
                   have p25023 : 0 ≤ (x13_4 : Int) := of_decide_eq_true as_
                   have q25023 : x13_4 < (x8_2.length : Int) := of_decide_eq_true as_
                   obtain ⟨ad25023, e25023, hx25023_0⟩ := Kd.at_int (Kd.R_reads' HO_8.out).2.2 x13_4 p25023 q25023
                   cases e25023
                   replace p25023 := eq_true p25023
                   replace q25023 := eq_true q25023
                   go_wp2
                   go_loopg [16, 146] k4 (fun kq v16 v146 w' => ∃ (x16_5 : Int) (x146_5 : Int), v16 = .int .i64 x16_5 ∧ v146 = .int .i64 x146_5 ∧ Aside0 (impl_AugmentingPath.l6 kq a2 x8_2 x13_4 x15_4 x16_5 (x8_2.length : Int) x146_5 a0_0 l0_1 a1_0 l1_1 = some (r1, r2)) ∧ Aside0 (kq ≤ k4) ∧ Aside0 (Kd.R (Kd.int .i64) 3 w' w.heap.size (fun k_ => some k_ ≠ (u15 : Value).ownBlock) (.slice (some ad25023) x8_2.length co17) x8_2) ∧ Aside0 (Kd.R (Kd.int .i64) 3 w' w.heap.size (fun k_ => some k_ ≠ ((.slice (some ad25023) x8_2.length co17) : Value).ownBlock) u15 x15_4) ∧ Aside0 (w'.heap[gb25001]? = some (.cells #[.int .i64 a0_0, (.slice A0_1 l0_1.length c0_1)] 26 (0, 0))) ∧ Aside0 (w'.heap[gb25002]? = some (.cells #[.int .i64 a1_0, (.slice A1_1 l1_1.length c1_1)] 26 (0, 0))) ∧ Aside0 (Below w.heap.size w w'))
                   case atStart => exact ⟨((-1)), (0), rs_, rs_, H', ⟨Nat.le_refl _⟩, ⟨by (try simp only [hl8_1]); (try simp only [hl8_2]); (with_reducible repeat (first | apply Kd.R_alloc | apply Kd.R_drewN | apply Kd.R_drew)); exact HO_8.out⟩, ⟨by (try simp only [hl8_1]); (try simp only [hl8_2]); (with_reducible repeat (first | apply Kd.R_alloc | apply Kd.R_drewN | apply Kd.R_drew)); exact HO_15.out⟩, ⟨by (try simp only [hl8_1]); (try simp only [hl8_2]); (with_reducible repeat (first | refine blk_drewN ?_ _ | refine blk_drew ?_ | refine blk_alloc ?_ _)); exact BK25001.out⟩, ⟨by (try simp only [hl8_1]); (try simp only [hl8_2]); (with_reducible repeat (first | refine blk_drewN ?_ _ | refine blk_drew ?_ | refine blk_alloc ?_ _)); exact BK25002.out⟩, ⟨pB2 HB.out GE25001.out GE25002.out⟩⟩
                   case round =>
                    clear H'
                    try clear c1
                    try clear p2
                    try clear q2
                    try clear hx2
                    try clear c6
                    try clear p6
                    try clear c7
                    try clear c8
                    try clear c9
                    try clear p25
                    try clear q25
                    try clear hx25
                    try clear p64
                    try clear c65
                    try clear c68
                    try clear c68b0
                    try clear c72
                    try clear c75
                    try clear c76
                    try clear c77
                    try clear c77b0
                    try clear c81
                    try clear c82
                    try clear c92
                    try clear c92b0
                    try clear c95
                    try clear c95b0
                    try clear c96
                    try clear c96b0
                    try clear c97
                    try clear c97b0
                    try clear hx25017_0
                    try clear hx25023_0
                    try clear p2
                    try clear p25
                    try clear p25017
                    try clear p25023
                    try clear p6
                    try clear p64
                    try clear q2
                    try clear q25
                    try clear q25017
                    try clear q25023
                    obtain ⟨x16_5, x146_5, rfl, rfl, HA, HK5, HO_8, HO_15, BK25001, BK25002, HB⟩ := hrel
                    cases gk with
                    | zero => exact absurd HA.out (by simp [impl_AugmentingPath.l6])
                    | succ k5 =>
                     have H := HA.out
                     clear HA
                     simp only [impl_AugmentingPath.l6] at H
                     by_cases c98 : x146_5 < (x8_2.length : Int)
                     ·rw [if_pos c98] at H
                      have c98b0 : decide (x146_5 < (x8_2.length : Int)) = true := decide_eq_true c98
                      have c98b9 := c98b0
                      (try simp only [hl8_1] at c98b9)
                      have c98b8 := c98b0
                      (try simp only [hl8_2] at c98b8)
                      have c98bA := c98b0
                      (try simp only [hl8_1, hl8_2] at c98bA)
                      clear c98
                      by_cases c99 : x16_5 < 0
                      ·rw [if_pos c99] at H
                       have c99b0 : decide (x16_5 < 0) = true := decide_eq_true c99
                       clear c99
                       by_cases c100 : 0 ≤ x146_5
                       ·rw [if_pos c100] at H
                        have c100b0 : decide (0 ≤ x146_5) = true := decide_eq_true c100
                        clear c100
                        by_cases c101 : x146_5 < (x8_2.length : Int)
                        ·rw [if_pos c101] at H
                         have c101b0 : decide (x146_5 < (x8_2.length : Int)) = true := decide_eq_true c101
                         have c101b9 := c101b0
                         (try simp only [hl8_1] at c101b9)
                         have c101b8 := c101b0
                         (try simp only [hl8_2] at c101b8)
                         have c101bA := c101b0
                         (try simp only [hl8_1, hl8_2] at c101bA)
                         clear c101
                         by_cases c102 : 0 ≤ x13_4
                         ·rw [if_pos c102] at H
                          have c102b0 : decide (0 ≤ x13_4) = true := decide_eq_true c102
                          clear c102
                          by_cases c103 : x13_4 < (x8_2.length : Int)
                          ·rw [if_pos c103] at H
                           have c103b0 : decide (x13_4 < (x8_2.length : Int)) = true := decide_eq_true c103
                           have c103b9 := c103b0
                           (try simp only [hl8_1] at c103b9)
                           have c103b8 := c103b0
                           (try simp only [hl8_2] at c103b8)
                           have c103bA := c103b0
                           (try simp only [hl8_1, hl8_2] at c103bA)
                           clear c103
                           by_cases c104 : (rd x8_2 x146_5) = (wrap64 ((rd x8_2 x13_4) - 1))
                           ·rw [if_pos c104] at H
                            have c104b0 : ((rd x8_2 x146_5) == (wrap64 ((rd x8_2 x13_4) - 1))) = true := beq_iff_eq.mpr c104
                            have c104b1 : ((rd x8_2 x146_5) != (wrap64 ((rd x8_2 x13_4) - 1))) = false := bne_eq_false_iff_eq.mpr c104
                            clear c104
                            replace H := Option.bind_eq_some_iff.mp H
                            obtain ⟨t25026, A1050, H⟩ := H
                            replace H : (if t25026 = true then (impl_AugmentingPath.l6 k5 a2 x8_2 x13_4 x15_4 x146_5 (x8_2.length : Int) (wrap64 (x146_5 + 1)) a0_0 l0_1 a1_0 l1_1) else (impl_AugmentingPath.l6 k5 a2 x8_2 x13_4 x15_4 x16_5 (x8_2.length : Int) (wrap64 (x146_5 + 1)) a0_0 l0_1 a1_0 l1_1)) = some (r1, r2) := H
                            have A105 := aQ A1050
                            clear A1050
                            by_cases c106 : t25026 = true
                            ·subst c106
                             have H1 : (impl_AugmentingPath.l6 k5 a2 x8_2 x13_4 x15_4 x146_5 (x8_2.length : Int) (wrap64 (x146_5 + 1)) a0_0 l0_1 a1_0 l1_1) = some (r1, r2) := by rw [if_pos rfl] at H; exact H
                             clear H
                             have H := H1
                             clear H1
                             have H' := aQ H
                             clear H
                             try go_wp2
                             have n0_ := aQ (Kd.R_drew HO_8.out)
                             have n1_ := aQ (Kd.R_drew HO_15.out)
                             have n2_ := aQ (blk_drew BK25001.out)
                             have n3_ := aQ (blk_drew BK25002.out)
                             have n4_ := aQ (below_drew1 HB.out)
                             clear HO_8
                             clear HO_15
                             clear BK25001
                             clear BK25002
                             clear HB
                             have HO_8 := n0_
                             have HO_15 := n1_
                             have BK25001 := n2_
                             have BK25002 := n3_
                             have HB := n4_
                             clear n0_ n1_ n2_ n3_ n4_
                             have p25024 : 0 ≤ (x146_5 : Int) := of_decide_eq_true as_
                             have q25024 : x146_5 < (x8_2.length : Int) := of_decide_eq_true as_
                             obtain ⟨ad25024, e25024, hx25024_0⟩ := Kd.at_int (Kd.R_reads' HO_8.out).2.2 x146_5 p25024 q25024
                             obtain rfl : ad25023 = ad25024 := (by injection e25024)
                             replace p25024 := eq_true p25024
                             replace q25024 := eq_true q25024
                             have p25025 : 0 ≤ (x13_4 : Int) := of_decide_eq_true as_
                             have q25025 : x13_4 < (x8_2.length : Int) := of_decide_eq_true as_
                             obtain ⟨ad25025, e25025, hx25025_0⟩ := Kd.at_int (Kd.R_reads' HO_8.out).2.2 x13_4 p25025 q25025
                             obtain rfl : ad25023 = ad25025 := (by injection e25025)
                             replace p25025 := eq_true p25025
                             replace q25025 := eq_true q25025
                             refine start_ (n := 22) (S := fun w' => w'.cell? ⟨gb25001, 0, none⟩ = some (.int .i64 a0_0) ∧ w'.cell? ⟨gb25001, 1, none⟩ = some (.slice A0_1 l0_1.length c0_1) ∧ w'.cell? ⟨gb25002, 0, none⟩ = some (.int .i64 a1_0) ∧ w'.cell? ⟨gb25002, 1, none⟩ = some (.slice A1_1 l1_1.length c1_1) ∧ w'.cell? (ad25023.add (x146_5).toNat) = some (.int .i64 (rd x8_2 x146_5)) ∧ w'.cell? (ad25023.add (x13_4).toNat) = some (.int .i64 (rd x8_2 x13_4))) (ds := []) #[false, false, false, false, false, false, false, false, false, false, false, false, false, false, false, false, false, false, false, false, false, false] (by kernel_rfl) rfl rfl ⟨(blk_cell BK25001.out 0).trans rfl, (blk_cell BK25001.out 1).trans rfl, (blk_cell BK25002.out 0).trans rfl, (blk_cell BK25002.out 1).trans rfl, hx25024_0, hx25025_0⟩ (fun hHeld => ?_); refine with_tabW impl_AugmentingPath.tab39 impl_AugmentingPath.bits39 (fun HT_ HW_ => ?_)
                             generalize wr.drew = w107 at HO_8 HO_15 BK25001 BK25002 HB hx25024_0 hx25025_0 hHeld ⊢
                             refine puA (i := 0) (N := some 149) HT_ (h := ?_)
                             refine puA (i := 1) (N := some 150) HT_ (h := ?_)
                             refine puA (i := 2) (N := some 151) HT_ (h := ?_)
                             refine puA (i := 3) (N := some 152) HT_ (h := ?_)
                             refine puA (i := 4) (N := some 153) HT_ (h := ?_)
                             refine puA (i := 5) (N := some 154) HT_ (h := ?_)
                             refine puA (i := 7) (N := some 156) HT_ (h := ?_)
                             refine puA (i := 8) (N := some 157) HT_ (h := ?_)
                             refine puA (i := 9) (N := some 158) HT_ (h := ?_)
                             refine taA6 (i := 6) (N := some 155) HT_ HW_ hHeld (h := ?_)
                             refine taA6 (i := 10) (N := some 159) HT_ HW_ hHeld (h := ?_)
                             refine puA (i := 11) (N := some 160) HT_ (h := ?_)
                             refine puA (i := 12) (N := some 161) HT_ (h := ?_)
                             refine puA (i := 13) (N := some 162) HT_ (h := ?_)
                             refine puA (i := 14) (N := some 163) HT_ (h := ?_)
                             refine puA (i := 17) (N := some 166) HT_ (h := ?_)
                             refine puA (i := 18) (N := some 167) HT_ (h := ?_)
                             refine puA (i := 19) (N := some 168) HT_ (h := ?_)
                             refine taA6 (i := 15) (N := some 164) HT_ HW_ hHeld (h := ?_)
                             refine taA6 (i := 16) (N := some 165) HT_ HW_ hHeld (h := ?_)
                             refine onA (i := 20) (N := some 169) HT_ (h := fun K hK => ?_)
                             refine goes_ Try.func73 (by kernel_rfl) rfl #[.agg #[.int .i64 a0_0, .slice A0_1 l0_1.length c0_1], .agg #[.int .i64 a1_0, .slice A1_1 l1_1.length c1_1], .int .i64 a2, .int .i64 x13_4, .int .i64 x146_5] (by rfl) rfl rfl lm ?_
                             with_reducible refine (impl_goesOn.calls k5 a0_0 _ _ l0_1 a1_0 _ _ l1_1 a2 x13_4 x146_5 true _ ?side1 ?side2 ?side3 ?side4 A105.out).mono ?_
                             (case side1 => exact pC (Kd.C_below HR0_1.out HB.out))
                             (case side2 => exact HC0_1.out)
                             (case side3 => exact pC (Kd.C_below HR1_1.out HB.out))
                             (case side4 => exact HC1_1.out)
                             rintro e w108 ⟨rfl, hb⟩
                             have HS4_ := (hb.cell (World.block_lt_of_cell? _ _ (hHeld.2.2.2.2.1))).trans (hHeld.2.2.2.2.1)
                             have HS5_ := (hb.cell (World.block_lt_of_cell? _ _ (hHeld.2.2.2.2.2))).trans (hHeld.2.2.2.2.2)
                             refine ⟨_, rfl, ?_⟩
                             have n0_ := aQ (Kd.R_below (pR HO_8.out) hb)
                             have n1_ := aQ (Kd.R_below (pR HO_15.out) hb)
                             have n2_ := aQ (blk_below (g := gb25001) (o := .cells #[.int .i64 a0_0, .slice A0_1 l0_1.length c0_1] 26 (0, 0)) (pk BK25001.out) hb)
                             have n3_ := aQ (blk_below (g := gb25002) (o := .cells #[.int .i64 a1_0, .slice A1_1 l1_1.length c1_1] 26 (0, 0)) (pk BK25002.out) hb)
                             have n4_ := aQ (below_step (pB2 HB.out GE25001.out GE25002.out) hb)
                             clear HO_8
                             clear HO_15
                             clear BK25001
                             clear BK25002
                             clear HB
                             have HO_8 := n0_
                             have HO_15 := n1_
                             have BK25001 := n2_
                             have BK25002 := n3_
                             have HB := n4_
                             clear n0_ n1_ n2_ n3_ n4_
                             (try clear hb)
                             (try clear hb2)
                             (try clear hk)
                             (try clear hi)
                             refine hK.out _ _ ⟨(blk_cell BK25001.out 0).trans rfl, (blk_cell BK25001.out 1).trans rfl, (blk_cell BK25002.out 0).trans rfl, (blk_cell BK25002.out 1).trans rfl, HS4_, HS5_⟩ (fun hHeld => ?_)
                             clear hK K
                             refine noA (h := ?_)
                             refine puA (i := 21) (N := some 170) HT_ (h := ?_)
                             refine done_ (done_of HT_.out (by kernel_rfl)) ?_
                             try go_wp2
                             go_roundg k5
                             case measure => have := HK1.out; have := HK2.out; have := HK3.out; have := HK4.out; have := HK5.out; omega
                             case rel => exact ⟨(x146_5), (wrap64 (x146_5 + 1)), rs_, rs_, H', ⟨by have := HK1.out; have := HK2.out; have := HK3.out; have := HK4.out; have := HK5.out; omega⟩, ⟨by (try simp only [hl8_1]); (try simp only [hl8_2]); (with_reducible repeat (first | apply Kd.R_alloc | apply Kd.R_drewN | apply Kd.R_drew)); exact HO_8.out⟩, ⟨by (try simp only [hl8_1]); (try simp only [hl8_2]); (with_reducible repeat (first | apply Kd.R_alloc | apply Kd.R_drewN | apply Kd.R_drew)); exact HO_15.out⟩, ⟨by (try simp only [hl8_1]); (try simp only [hl8_2]); (with_reducible repeat (first | refine blk_drewN ?_ _ | refine blk_drew ?_ | refine blk_alloc ?_ _)); exact BK25001.out⟩, ⟨by (try simp only [hl8_1]); (try simp only [hl8_2]); (with_reducible repeat (first | refine blk_drewN ?_ _ | refine blk_drew ?_ | refine blk_alloc ?_ _)); exact BK25002.out⟩, ⟨pB2 HB.out GE25001.out GE25002.out⟩⟩
                            ·replace c106 := Bool.eq_false_iff.mpr c106
                             subst c106
                             have H1 : (impl_AugmentingPath.l6 k5 a2 x8_2 x13_4 x15_4 x16_5 (x8_2.length : Int) (wrap64 (x146_5 + 1)) a0_0 l0_1 a1_0 l1_1) = some (r1, r2) := by rw [if_neg (show ¬ (false = true) by decide)] at H; exact H
                             clear H
                             have H := H1
                             clear H1
                             have H' := aQ H
                             clear H
                             try go_wp2
                             have n0_ := aQ (Kd.R_drew HO_8.out)
                             have n1_ := aQ (Kd.R_drew HO_15.out)
                             have n2_ := aQ (blk_drew BK25001.out)
                             have n3_ := aQ (blk_drew BK25002.out)
                             have n4_ := aQ (below_drew1 HB.out)
                             clear HO_8
                             clear HO_15
                             clear BK25001
                             clear BK25002
                             clear HB
                             have HO_8 := n0_
                             have HO_15 := n1_
                             have BK25001 := n2_
                             have BK25002 := n3_
                             have HB := n4_
                             clear n0_ n1_ n2_ n3_ n4_
                             have p25024 : 0 ≤ (x146_5 : Int) := of_decide_eq_true as_
                             have q25024 : x146_5 < (x8_2.length : Int) := of_decide_eq_true as_
                             obtain ⟨ad25024, e25024, hx25024_0⟩ := Kd.at_int (Kd.R_reads' HO_8.out).2.2 x146_5 p25024 q25024
                             obtain rfl : ad25023 = ad25024 := (by injection e25024)
                             replace p25024 := eq_true p25024
                             replace q25024 := eq_true q25024
                             have p25025 : 0 ≤ (x13_4 : Int) := of_decide_eq_true as_
                             have q25025 : x13_4 < (x8_2.length : Int) := of_decide_eq_true as_
                             obtain ⟨ad25025, e25025, hx25025_0⟩ := Kd.at_int (Kd.R_reads' HO_8.out).2.2 x13_4 p25025 q25025
                             obtain rfl : ad25023 = ad25025 := (by injection e25025)
                             replace p25025 := eq_true p25025
                             replace q25025 := eq_true q25025
                             refine start_ (n := 22) (S := fun w' => w'.cell? ⟨gb25001, 0, none⟩ = some (.int .i64 a0_0) ∧ w'.cell? ⟨gb25001, 1, none⟩ = some (.slice A0_1 l0_1.length c0_1) ∧ w'.cell? ⟨gb25002, 0, none⟩ = some (.int .i64 a1_0) ∧ w'.cell? ⟨gb25002, 1, none⟩ = some (.slice A1_1 l1_1.length c1_1) ∧ w'.cell? (ad25023.add (x146_5).toNat) = some (.int .i64 (rd x8_2 x146_5)) ∧ w'.cell? (ad25023.add (x13_4).toNat) = some (.int .i64 (rd x8_2 x13_4))) (ds := []) #[false, false, false, false, false, false, false, false, false, false, false, false, false, false, false, false, false, false, false, false, false, false] (by kernel_rfl) rfl rfl ⟨(blk_cell BK25001.out 0).trans rfl, (blk_cell BK25001.out 1).trans rfl, (blk_cell BK25002.out 0).trans rfl, (blk_cell BK25002.out 1).trans rfl, hx25024_0, hx25025_0⟩ (fun hHeld => ?_); refine with_tabW impl_AugmentingPath.tab39 impl_AugmentingPath.bits39 (fun HT_ HW_ => ?_)
                             generalize wr.drew = w109 at HO_8 HO_15 BK25001 BK25002 HB hx25024_0 hx25025_0 hHeld ⊢
                             refine puA (i := 0) (N := some 149) HT_ (h := ?_)
                             refine puA (i := 1) (N := some 150) HT_ (h := ?_)
                             refine puA (i := 2) (N := some 151) HT_ (h := ?_)
                             refine puA (i := 3) (N := some 152) HT_ (h := ?_)
                             refine puA (i := 4) (N := some 153) HT_ (h := ?_)
                             refine puA (i := 5) (N := some 154) HT_ (h := ?_)
                             refine puA (i := 7) (N := some 156) HT_ (h := ?_)
                             refine puA (i := 8) (N := some 157) HT_ (h := ?_)
                             refine puA (i := 9) (N := some 158) HT_ (h := ?_)
                             refine taA6 (i := 6) (N := some 155) HT_ HW_ hHeld (h := ?_)
                             refine taA6 (i := 10) (N := some 159) HT_ HW_ hHeld (h := ?_)
                             refine puA (i := 11) (N := some 160) HT_ (h := ?_)
                             refine puA (i := 12) (N := some 161) HT_ (h := ?_)
                             refine puA (i := 13) (N := some 162) HT_ (h := ?_)
                             refine puA (i := 14) (N := some 163) HT_ (h := ?_)
                             refine puA (i := 17) (N := some 166) HT_ (h := ?_)
                             refine puA (i := 18) (N := some 167) HT_ (h := ?_)
                             refine puA (i := 19) (N := some 168) HT_ (h := ?_)
                             refine taA6 (i := 15) (N := some 164) HT_ HW_ hHeld (h := ?_)
                             refine taA6 (i := 16) (N := some 165) HT_ HW_ hHeld (h := ?_)
                             refine onA (i := 20) (N := some 169) HT_ (h := fun K hK => ?_)
                             refine goes_ Try.func73 (by kernel_rfl) rfl #[.agg #[.int .i64 a0_0, .slice A0_1 l0_1.length c0_1], .agg #[.int .i64 a1_0, .slice A1_1 l1_1.length c1_1], .int .i64 a2, .int .i64 x13_4, .int .i64 x146_5] (by rfl) rfl rfl lm ?_
                             with_reducible refine (impl_goesOn.calls k5 a0_0 _ _ l0_1 a1_0 _ _ l1_1 a2 x13_4 x146_5 false _ ?side1 ?side2 ?side3 ?side4 A105.out).mono ?_
                             (case side1 => exact pC (Kd.C_below HR0_1.out HB.out))
                             (case side2 => exact HC0_1.out)
                             (case side3 => exact pC (Kd.C_below HR1_1.out HB.out))
                             (case side4 => exact HC1_1.out)
                             rintro e w110 ⟨rfl, hb⟩
                             have HS4_ := (hb.cell (World.block_lt_of_cell? _ _ (hHeld.2.2.2.2.1))).trans (hHeld.2.2.2.2.1)
                             have HS5_ := (hb.cell (World.block_lt_of_cell? _ _ (hHeld.2.2.2.2.2))).trans (hHeld.2.2.2.2.2)
                             refine ⟨_, rfl, ?_⟩
                             have n0_ := aQ (Kd.R_below (pR HO_8.out) hb)
                             have n1_ := aQ (Kd.R_below (pR HO_15.out) hb)
                             have n2_ := aQ (blk_below (g := gb25001) (o := .cells #[.int .i64 a0_0, .slice A0_1 l0_1.length c0_1] 26 (0, 0)) (pk BK25001.out) hb)
                             have n3_ := aQ (blk_below (g := gb25002) (o := .cells #[.int .i64 a1_0, .slice A1_1 l1_1.length c1_1] 26 (0, 0)) (pk BK25002.out) hb)
                             have n4_ := aQ (below_step (pB2 HB.out GE25001.out GE25002.out) hb)
                             clear HO_8
                             clear HO_15
                             clear BK25001
                             clear BK25002
                             clear HB
                             have HO_8 := n0_
                             have HO_15 := n1_
                             have BK25001 := n2_
                             have BK25002 := n3_
                             have HB := n4_
                             clear n0_ n1_ n2_ n3_ n4_
                             (try clear hb)
                             (try clear hb2)
                             (try clear hk)
                             (try clear hi)
                             refine hK.out _ _ ⟨(blk_cell BK25001.out 0).trans rfl, (blk_cell BK25001.out 1).trans rfl, (blk_cell BK25002.out 0).trans rfl, (blk_cell BK25002.out 1).trans rfl, HS4_, HS5_⟩ (fun hHeld => ?_)
                             clear hK K
                             refine noA (h := ?_)
                             refine puA (i := 21) (N := some 170) HT_ (h := ?_)
                             refine done_ (done_of HT_.out (by kernel_rfl)) ?_
                             try go_wp2
                             go_roundg k5
                             case measure => have := HK1.out; have := HK2.out; have := HK3.out; have := HK4.out; have := HK5.out; omega
                             case rel => exact ⟨(x16_5), (wrap64 (x146_5 + 1)), rs_, rs_, H', ⟨by have := HK1.out; have := HK2.out; have := HK3.out; have := HK4.out; have := HK5.out; omega⟩, ⟨by (try simp only [hl8_1]); (try simp only [hl8_2]); (with_reducible repeat (first | apply Kd.R_alloc | apply Kd.R_drewN | apply Kd.R_drew)); exact HO_8.out⟩, ⟨by (try simp only [hl8_1]); (try simp only [hl8_2]); (with_reducible repeat (first | apply Kd.R_alloc | apply Kd.R_drewN | apply Kd.R_drew)); exact HO_15.out⟩, ⟨by (try simp only [hl8_1]); (try simp only [hl8_2]); (with_reducible repeat (first | refine blk_drewN ?_ _ | refine blk_drew ?_ | refine blk_alloc ?_ _)); exact BK25001.out⟩, ⟨by (try simp only [hl8_1]); (try simp only [hl8_2]); (with_reducible repeat (first | refine blk_drewN ?_ _ | refine blk_drew ?_ | refine blk_alloc ?_ _)); exact BK25002.out⟩, ⟨pB2 HB.out GE25001.out GE25002.out⟩⟩
                           ·rw [if_neg c104] at H
                            have c104b0 : ((rd x8_2 x146_5) == (wrap64 ((rd x8_2 x13_4) - 1))) = false := beq_eq_false_iff_ne.mpr c104
                            have c104b1 : ((rd x8_2 x146_5) != (wrap64 ((rd x8_2 x13_4) - 1))) = true := bne_iff_ne.mpr c104
                            have H' := aQ H
                            clear H
                            try go_wp2
                            have n0_ := aQ (Kd.R_drew HO_8.out)
                            have n1_ := aQ (Kd.R_drew HO_15.out)
                            have n2_ := aQ (blk_drew BK25001.out)
                            have n3_ := aQ (blk_drew BK25002.out)
                            have n4_ := aQ (below_drew1 HB.out)
                            clear HO_8
                            clear HO_15
                            clear BK25001
                            clear BK25002
                            clear HB
                            have HO_8 := n0_
                            have HO_15 := n1_
                            have BK25001 := n2_
                            have BK25002 := n3_
                            have HB := n4_
                            clear n0_ n1_ n2_ n3_ n4_
                            have p25024 : 0 ≤ (x146_5 : Int) := of_decide_eq_true as_
                            have q25024 : x146_5 < (x8_2.length : Int) := of_decide_eq_true as_
                            obtain ⟨ad25024, e25024, hx25024_0⟩ := Kd.at_int (Kd.R_reads' HO_8.out).2.2 x146_5 p25024 q25024
                            obtain rfl : ad25023 = ad25024 := (by injection e25024)
                            replace p25024 := eq_true p25024
                            replace q25024 := eq_true q25024
                            have p25025 : 0 ≤ (x13_4 : Int) := of_decide_eq_true as_
                            have q25025 : x13_4 < (x8_2.length : Int) := of_decide_eq_true as_
                            obtain ⟨ad25025, e25025, hx25025_0⟩ := Kd.at_int (Kd.R_reads' HO_8.out).2.2 x13_4 p25025 q25025
                            obtain rfl : ad25023 = ad25025 := (by injection e25025)
                            replace p25025 := eq_true p25025
                            replace q25025 := eq_true q25025
                            refine start_ (n := 22) (S := fun w' => w'.cell? (ad25023.add (x146_5).toNat) = some (.int .i64 (rd x8_2 x146_5)) ∧ w'.cell? (ad25023.add (x13_4).toNat) = some (.int .i64 (rd x8_2 x13_4))) (ds := []) #[false, false, false, false, false, false, false, false, false, false, false, false, false, false, false, false, false, false, false, false, false, false] (by kernel_rfl) rfl rfl ⟨hx25024_0, hx25025_0⟩ (fun hHeld => ?_); refine with_tabW impl_AugmentingPath.tab39 impl_AugmentingPath.bits39 (fun HT_ HW_ => ?_)
                            generalize wr.drew = w111 at HO_8 HO_15 BK25001 BK25002 HB hx25024_0 hx25025_0 hHeld ⊢
                            refine puA (i := 0) (N := some 149) HT_ (h := ?_)
                            refine puA (i := 1) (N := some 150) HT_ (h := ?_)
                            refine puA (i := 2) (N := some 151) HT_ (h := ?_)
                            refine puA (i := 3) (N := some 152) HT_ (h := ?_)
                            refine puA (i := 4) (N := some 153) HT_ (h := ?_)
                            refine puA (i := 5) (N := some 154) HT_ (h := ?_)
                            refine puA (i := 7) (N := some 156) HT_ (h := ?_)
                            refine puA (i := 8) (N := some 157) HT_ (h := ?_)
                            refine puA (i := 9) (N := some 158) HT_ (h := ?_)
                            refine taA2 (i := 6) (N := some 155) HT_ HW_ hHeld (h := ?_)
                            refine taA2 (i := 10) (N := some 159) HT_ HW_ hHeld (h := ?_)
                            refine puA (i := 11) (N := some 160) HT_ (h := ?_)
                            refine puA (i := 12) (N := some 161) HT_ (h := ?_)
                            refine puA (i := 13) (N := some 162) HT_ (h := ?_)
                            refine puA (i := 14) (N := some 163) HT_ (h := ?_)
                            refine puU (i := 15) (N := some 164) HT_ (h := ?_)
                            refine puU (i := 16) (N := some 165) HT_ (h := ?_)
                            refine puU (i := 17) (N := some 166) HT_ (h := ?_)
                            refine puU (i := 18) (N := some 167) HT_ (h := ?_)
                            refine puU (i := 19) (N := some 168) HT_ (h := ?_)
                            refine puU (i := 20) (N := some 169) HT_ (h := ?_)
                            refine puA (i := 21) (N := some 170) HT_ (h := ?_)
                            refine done_ (done_of HT_.out (by kernel_rfl)) ?_
                            try go_wp2
                            go_roundg k5
                            case measure => have := HK1.out; have := HK2.out; have := HK3.out; have := HK4.out; have := HK5.out; omega
                            case rel => exact ⟨(x16_5), (wrap64 (x146_5 + 1)), rs_, rs_, H', ⟨by have := HK1.out; have := HK2.out; have := HK3.out; have := HK4.out; have := HK5.out; omega⟩, ⟨by (try simp only [hl8_1]); (try simp only [hl8_2]); (with_reducible repeat (first | apply Kd.R_alloc | apply Kd.R_drewN | apply Kd.R_drew)); exact HO_8.out⟩, ⟨by (try simp only [hl8_1]); (try simp only [hl8_2]); (with_reducible repeat (first | apply Kd.R_alloc | apply Kd.R_drewN | apply Kd.R_drew)); exact HO_15.out⟩, ⟨by (try simp only [hl8_1]); (try simp only [hl8_2]); (with_reducible repeat (first | refine blk_drewN ?_ _ | refine blk_drew ?_ | refine blk_alloc ?_ _)); exact BK25001.out⟩, ⟨by (try simp only [hl8_1]); (try simp only [hl8_2]); (with_reducible repeat (first | refine blk_drewN ?_ _ | refine blk_drew ?_ | refine blk_alloc ?_ _)); exact BK25002.out⟩, ⟨pB2 HB.out GE25001.out GE25002.out⟩⟩
                          ·rw [if_neg c103] at H
                           exact absurd H (by simp)
                         ·rw [if_neg c102] at H
                          exact absurd H (by simp)
                        ·rw [if_neg c101] at H
                         exact absurd H (by simp)
                       ·rw [if_neg c100] at H
                        exact absurd H (by simp)
                      ·rw [if_neg c99] at H
                       have c99b0 : decide (x16_5 < 0) = false := decide_eq_false c99
                       clear c99
                       have H' := aQ H
                       clear H
                       try go_wp2
                       have n0_ := aQ (Kd.R_drew HO_8.out)
                       have n1_ := aQ (Kd.R_drew HO_15.out)
                       have n2_ := aQ (blk_drew BK25001.out)
                       have n3_ := aQ (blk_drew BK25002.out)
                       have n4_ := aQ (below_drew1 HB.out)
                       clear HO_8
                       clear HO_15
                       clear BK25001
                       clear BK25002
                       clear HB
                       have HO_8 := n0_
                       have HO_15 := n1_
                       have BK25001 := n2_
                       have BK25002 := n3_
                       have HB := n4_
                       clear n0_ n1_ n2_ n3_ n4_
                       refine start_ (n := 22) (S := fun w' => True) (ds := []) #[false, false, false, false, false, false, false, false, false, false, false, false, false, false, false, false, false, false, false, false, false, false] (by kernel_rfl) rfl rfl trivial (fun hHeld => ?_); refine with_tabW impl_AugmentingPath.tab39 impl_AugmentingPath.bits39 (fun HT_ HW_ => ?_)
                       generalize wr.drew = w112 at HO_8 HO_15 BK25001 BK25002 HB hHeld ⊢
                       refine puA (i := 0) (N := some 149) HT_ (h := ?_)
                       refine puA (i := 1) (N := some 150) HT_ (h := ?_)
                       refine puA (i := 2) (N := some 151) HT_ (h := ?_)
                       refine puU (i := 3) (N := some 152) HT_ (h := ?_)
                       refine puU (i := 4) (N := some 153) HT_ (h := ?_)
                       refine puU (i := 5) (N := some 154) HT_ (h := ?_)
                       refine puU (i := 6) (N := some 155) HT_ (h := ?_)
                       refine puU (i := 7) (N := some 156) HT_ (h := ?_)
                       refine puU (i := 8) (N := some 157) HT_ (h := ?_)
                       refine puU (i := 9) (N := some 158) HT_ (h := ?_)
                       refine puU (i := 10) (N := some 159) HT_ (h := ?_)
                       refine puU (i := 11) (N := some 160) HT_ (h := ?_)
                       refine puU (i := 12) (N := some 161) HT_ (h := ?_)
                       refine puA (i := 13) (N := some 162) HT_ (h := ?_)
                       refine puA (i := 14) (N := some 163) HT_ (h := ?_)
                       refine puU (i := 15) (N := some 164) HT_ (h := ?_)
                       refine puU (i := 16) (N := some 165) HT_ (h := ?_)
                       refine puU (i := 17) (N := some 166) HT_ (h := ?_)
                       refine puU (i := 18) (N := some 167) HT_ (h := ?_)
                       refine puU (i := 19) (N := some 168) HT_ (h := ?_)
                       refine puU (i := 20) (N := some 169) HT_ (h := ?_)
                       refine puA (i := 21) (N := some 170) HT_ (h := ?_)
                       refine done_ (done_of HT_.out (by kernel_rfl)) ?_
                       try go_wp2
                       go_roundg k5
                       case measure => have := HK1.out; have := HK2.out; have := HK3.out; have := HK4.out; have := HK5.out; omega
                       case rel => exact ⟨(x16_5), (wrap64 (x146_5 + 1)), rs_, rs_, H', ⟨by have := HK1.out; have := HK2.out; have := HK3.out; have := HK4.out; have := HK5.out; omega⟩, ⟨by (try simp only [hl8_1]); (try simp only [hl8_2]); (with_reducible repeat (first | apply Kd.R_alloc | apply Kd.R_drewN | apply Kd.R_drew)); exact HO_8.out⟩, ⟨by (try simp only [hl8_1]); (try simp only [hl8_2]); (with_reducible repeat (first | apply Kd.R_alloc | apply Kd.R_drewN | apply Kd.R_drew)); exact HO_15.out⟩, ⟨by (try simp only [hl8_1]); (try simp only [hl8_2]); (with_reducible repeat (first | refine blk_drewN ?_ _ | refine blk_drew ?_ | refine blk_alloc ?_ _)); exact BK25001.out⟩, ⟨by (try simp only [hl8_1]); (try simp only [hl8_2]); (with_reducible repeat (first | refine blk_drewN ?_ _ | refine blk_drew ?_ | refine blk_alloc ?_ _)); exact BK25002.out⟩, ⟨pB2 HB.out GE25001.out GE25002.out⟩⟩
                     ·rw [if_neg c98] at H
                      have c98b0 : decide (x146_5 < (x8_2.length : Int)) = false := decide_eq_false c98
                      have c98b9 := c98b0
                      (try simp only [hl8_1] at c98b9)
                      have c98b8 := c98b0
                      (try simp only [hl8_2] at c98b8)
                      have c98bA := c98b0
                      (try simp only [hl8_1, hl8_2] at c98bA)
                      clear c98
                      by_cases c113 : x15_4.length < 17592186044416
                      ·rw [if_pos c113] at H
                       have LMc113 := aQ c113
                       clear c113
                       obtain ⟨y25027, hy25027⟩ : ∃ y_ : List Int, y_ = (x15_4 ++ [x16_5]) := ⟨_, rfl⟩
                       replace H : (impl_AugmentingPath.l5 k5 a2 x8_2 x16_5 y25027 a0_0 l0_1 a1_0 l1_1) = some (r1, r2) := by first | (rw [hy25027]; with_reducible exact H) | (have H2_ := (Option.bind_some _ _).symm.trans H; rw [hy25027]; with_reducible exact H2_) | (have H2_ := (Option.bind_some _ _).symm.trans H; with_reducible exact H2_) | with_reducible exact H | (rw [hy25027]; exact H) | exact H
                       have Ny25027 := aQ hy25027
                       clear hy25027
                       have H' := aQ H
                       clear H
                       go_wp2_with (first | ((with_reducible refine gate_builtin (b := .append) (xs := #[.tmp 174, .tmp 176]) rfl ?_); at_builtin; refine Kd.R_append (Kd.int .i64) (w0 := w) w.heap.size rfl (.tmp 174) (.tmp 176) 22 3 (.int .i64 0) 8 rfl Try.underlying22 info3 rfl (by decide) (by omega) u15 x15_4 x16_5 [.int .i64 x16_5] (fun k_ => some k_ ≠ (.slice (some ad25023) x8_2.length co17 : Value).ownBlock) (fun _ => False) rfl rfl ?aP (fun _ hk => hk.elim) ?aF ?aO ?aB ?aS ?aL ?_; (case aP => exact rfl); (case aB => exact (pB2 HB.out GE25001.out GE25002.out)); (case aF => exact (fun k_ hk => Kd.fresh' (Kd.R_lt (pR HO_8.out)) k_ hk)); (case aO => exact (pR HO_15.out)); (case aS => exact (below_size (pB2 HB.out GE25001.out GE25002.out))); (case aL => have := LMc113.out; omega); intro v25028 w114 ho hb hg hat; rw [← Ny25027.out] at ho; replace HO_8 := aQ (Kd.R_after (ok := (fun _ => True)) (by (with_reducible repeat (first | apply Kd.R_alloc | apply Kd.R_drewN | apply Kd.R_drew)); exact Kd.R_mono HO_8.out (fun _ hk => ⟨trivial, hk⟩)) hg hat); replace BK25001 := aQ (blk_grown (g := gb25001) (o := .cells #[.int .i64 a0_0, .slice A0_1 l0_1.length c0_1] 26 (0, 0)) (pk BK25001.out) hg (Kd.R_ne HO_15.out BK25001.out (by decide))); replace BK25002 := aQ (blk_grown (g := gb25002) (o := .cells #[.int .i64 a1_0, .slice A1_1 l1_1.length c1_1] 26 (0, 0)) (pk BK25002.out) hg (Kd.R_ne HO_15.out BK25002.out (by decide))); replace HB := aQ (hb); have HO25029 := aQ (ho); clear HO_15; clear ho hb hg hat))
                       go_roundg k5
                       case measure => have := HK1.out; have := HK2.out; have := HK3.out; have := HK4.out; have := HK5.out; omega
                       case rel => exact ⟨(x16_5), (y25027), rs_, H', ⟨by have := HK1.out; have := HK2.out; have := HK3.out; have := HK4.out; have := HK5.out; omega⟩, ⟨by (try simp only [hl8_1]); (try simp only [hl8_2]); (with_reducible repeat (first | apply Kd.R_alloc | apply Kd.R_drewN | apply Kd.R_drew)); exact Kd.R_mono HO_8.out (fun _ hk => hk.2)⟩, ⟨by (try simp only [hl8_1]); (try simp only [hl8_2]); (with_reducible repeat (first | apply Kd.R_alloc | apply Kd.R_drewN | apply Kd.R_drew)); exact HO25029.out⟩, ⟨by (try simp only [hl8_1]); (try simp only [hl8_2]); (with_reducible repeat (first | refine blk_drewN ?_ _ | refine blk_drew ?_ | refine blk_alloc ?_ _)); exact BK25001.out⟩, ⟨by (try simp only [hl8_1]); (try simp only [hl8_2]); (with_reducible repeat (first | refine blk_drewN ?_ _ | refine blk_drew ?_ | refine blk_alloc ?_ _)); exact BK25002.out⟩, ⟨pB2 HB.out GE25001.out GE25002.out⟩⟩
                      ·rw [if_neg c113] at H
                       exact absurd H (by simp)
                  ·rw [if_neg c97] at H
                   have c97b0 : decide (1 < (rd x8_2 x13_4)) = false := decide_eq_false c97
                   clear c97
                   simp only [Option.some.injEq, Prod.mk.injEq] at H
                   obtain ⟨rfl, rfl⟩ := H
                   have p25023 : 0 ≤ (x13_4 : Int) := of_decide_eq_true as_
                   have q25023 : x13_4 < (x8_2.length : Int) := of_decide_eq_true as_
                   obtain ⟨ad25023, e25023, hx25023_0⟩ := Kd.at_int (Kd.R_reads' HO_8.out).2.2 x13_4 p25023 q25023
                   cases e25023
                   replace p25023 := eq_true p25023
                   replace q25023 := eq_true q25023
                   go_wp2
                   go_ret2
                   exact ⟨_, by first | rfl | (simp [errW_none, errW_some] <;> rfl) | (simp [*, errW_none, errW_some] <;> rfl), by (with_reducible repeat (first | apply Kd.R_alloc | apply Kd.R_drewN | apply Kd.R_drew)); exact Kd.R_mono HO_15.out (fun _ hk => trivial), pB2 HB.out GE25001.out GE25002.out⟩
                 ·rw [if_neg c96] at H
                  exact absurd H (by simp)
                ·rw [if_neg c95] at H
                 exact absurd H (by simp)
   ·rw [if_neg c7] at H
    exact absurd H (by simp)
  ·rw [if_neg c6] at H
   exact absurd H (by simp)
 ·replace c5 := Bool.eq_false_iff.mpr c5
  subst c5
  have H1 : (some (([] : List Int), false)) = some (r1, r2) := by rw [if_neg (show ¬ (false = true) by decide)] at H; exact H
  clear H
  have H := H1
  clear H1
  simp only [Option.some.injEq, Prod.mk.injEq] at H
  obtain ⟨rfl, rfl⟩ := H
  go_enter Try.func24, Try.ntmps24
  go_wp2_with (first | ((with_reducible refine gate_dst (N := 3) rfl ?_); refine box_event ?hg (N := 3) ?hd (cs := #[.int .i64 a0_0, .slice A0_1 l0_1.length c0_1]) (t := 26) ?hr ?_; (case hd => rfl); (case hg => rfl); (case hr => first | (go_simp; done) | (go_simp; rfl)); intro gb25001 hg w115 hbox hb; have BK25001 := aQ (hbox); have GW25001 := aQ ((by rw [hg]; exact (below_size (pB HB.out)) : w.heap.size ≤ gb25001)); have GE25001 := aQ ((by rw [hg]; exact (below_size (pB HB.out)) : w.heap.size ≤ gb25001)); replace HB := aQ (below_step (pB HB.out) hb); clear hb hbox hg) | ((with_reducible refine gate_dst (N := 4) rfl ?_); refine box_event ?hg (N := 4) ?hd (cs := #[.int .i64 a1_0, .slice A1_1 l1_1.length c1_1]) (t := 26) ?hr ?_; (case hd => rfl); (case hg => rfl); (case hr => first | (go_simp; done) | (go_simp; rfl)); intro gb25002 hg w116 hbox hb; have BK25002 := aQ (hbox); have GW25002 := aQ ((by rw [hg]; exact (below_size (pB1 HB.out GE25001.out)) : w.heap.size ≤ gb25002)); have GE25002 := aQ ((by rw [hg]; exact (below_size (pB1 HB.out GE25001.out)) : w.heap.size ≤ gb25002)); replace HB := aQ (below_step (pB1 HB.out GE25001.out) hb); have NB25001_25002 := aQ ((by rw [hg]; exact Nat.ne_of_lt (blk_lt (g := gb25001) (o := .cells #[.int .i64 a0_0, .slice A0_1 l0_1.length c0_1] 26 (0, 0)) (pk BK25001.out)) : gb25001 ≠ gb25002)); have NB25002_25001 := aQ ((by rw [hg]; exact Nat.ne_of_gt (blk_lt (g := gb25001) (o := .cells #[.int .i64 a0_0, .slice A0_1 l0_1.length c0_1] 26 (0, 0)) (pk BK25001.out)) : gb25002 ≠ gb25001)); replace BK25001 := aQ (blk_below (g := gb25001) (o := .cells #[.int .i64 a0_0, .slice A0_1 l0_1.length c0_1] 26 (0, 0)) (pk BK25001.out) hb); clear hb hbox hg; have hnb117 := NB25001_25002.out; have hnc117 := NB25002_25001.out; have hcz118_0 := bc (v := (.int .i64 a0_0)) BK25001.out 0; have hcz118_1 := bc (v := (.slice A0_1 l0_1.length c0_1)) BK25001.out 1; have hfz118_0 := blk_frozen BK25001.out 0; have hfz118_1 := blk_frozen BK25001.out 1; have hcz119_0 := bc (v := (.int .i64 a1_0)) BK25002.out 0; have hcz119_1 := bc (v := (.slice A1_1 l1_1.length c1_1)) BK25002.out 1; have hfz119_0 := blk_frozen BK25002.out 0; have hfz119_1 := blk_frozen BK25002.out 1) | ((with_reducible refine gate_callee (f := 71) rfl ?_); refine goesL_ (some 21) rfl rfl Try.func71 (by kernel_rfl) rfl #[.agg #[.int .i64 a0_0, .slice A0_1 l0_1.length c0_1], .agg #[.int .i64 a1_0, .slice A1_1 l1_1.length c1_1], .int .i64 a2] rfl lm ?_; (with_reducible refine (impl_IsCommon.calls k a0_0 _ _ l0_1 a1_0 _ _ l1_1 a2 false _ ?side1 ?side2 ?side3 ?side4 A4.out).mono ?_); (case side1 => exact pC (Kd.C_below HR0_1.out HB.out)); (case side2 => exact HC0_1.out); (case side3 => exact pC (Kd.C_below HR1_1.out HB.out)); (case side4 => exact HC1_1.out); rintro e w120 ⟨rfl, hb⟩; refine ⟨_, rfl, ?_⟩; replace BK25001 := aQ (blk_below (g := gb25001) (o := .cells #[.int .i64 a0_0, .slice A0_1 l0_1.length c0_1] 26 (0, 0)) (pk BK25001.out) hb); replace BK25002 := aQ (blk_below (g := gb25002) (o := .cells #[.int .i64 a1_0, .slice A1_1 l1_1.length c1_1] 26 (0, 0)) (pk BK25002.out) hb); replace HB := aQ (below_step (pB2 HB.out GE25001.out GE25002.out) hb); (try clear hb)))
  go_ret2
  exact ⟨_, by first | rfl | (simp [errW_none, errW_some] <;> rfl) | (simp [*, errW_none, errW_some] <;> rfl), by first | exact Kd.R_nil _ _ _ _ _ | exact Kd.N_nil _ _ _ _ _ | exact Kd.V_nil _ _ _ _ _ | exact Kd.Q_nil _ _ _ _ _ | exact Kd.S_nil _ _ _ _ _, pB2 HB.out GE25001.out GE25002.out⟩
end Go.Proofs.Ytagncnjllpebjaa.A
