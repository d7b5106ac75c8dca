/- The machine side of the law FnExactPartitionMatroid, laid by a program of this work over the kit's print and contracts by hand: Go functions as Lean functions, and proofs that calls come to what these tell. Conditions: those in each theorem. -/
import Derived.Test.YtagncnjllpebjaaMFnExactPartitionMatroid0
import Derived.Test.YtagncnjllpebjaaMFnExactPartitionMatroid1
import Derived.Test.YtagncnjllpebjaaMFnExactPartitionMatroid2
import Derived.Test.YtagncnjllpebjaaMFnExactPartitionMatroid4
import Derived.Test.YtagncnjllpebjaaMFnExactPartitionMatroid5
namespace Go.Proofs.Ytagncnjllpebjaa.A
open Go.RowKit Go.Proofs.YtagncnjllpebjaaW.PrintWords Go.Proofs.YtagncnjllpebjaaW.PrintLast Go.Proofs.YtagncnjllpebjaaW.PrintMore
attribute [local go_sem] max2_int min2_int max_two min_two max_three min_three max_four min_four   -- for this text's walks alone
set_option linter.unusedVariables false
set_option linter.unusedSimpArgs false

/-! ### laws_FnExactPartitionMatroid: function 13 -/
mutual
def laws_FnExactPartitionMatroid.j0 : Nat → Int → List Int → List Int → Bool → List Int → List Int → Bool → Bool → Int → List Int → Int → List Int → Option (Bool)
 | 0, _, _, _, _, _, _, _, _, _, _, _, _ => none
 | k + 1, x0, x1, x2, x8, x9, x10, x12, x52, x14013000, x14013001, x14025000, x14025001 => if x52 = true then (some false) else ((laws_toIntS.f k x1).bind fun t14026 => ((laws_eqIntS.f k x9 t14026).bind fun t14029 => (if t14029 = true then ((laws_toIntS.f k x2).bind fun t14030 => ((laws_eqIntS.f k x10 t14030).bind fun t14033 => (if t14033 = true then ((laws_markIntS.f k x9 1).bind fun bt14034 => ((laws_markIntS.f k x10 bt14034.1).bind fun bt14036 => (if bt14036.1 < 0 then (laws_FnExactPartitionMatroid.j1 k x0 x1 x2 x8 true x14013000 x14013001 x14025000 x14025001) else ((laws_eqMatroid.f k x14025000 x14025001 x14013000 x14013001).bind fun t14038 => (if t14038 = true then (laws_FnExactPartitionMatroid.j1 k x0 x1 x2 x8 (x12 != x8) x14013000 x14013001 x14025000 x14025001) else (laws_FnExactPartitionMatroid.j1 k x0 x1 x2 x8 true x14013000 x14013001 x14025000 x14025001)))))) else (some false)))) else (some false))))
def laws_FnExactPartitionMatroid.j1 : Nat → Int → List Int → List Int → Bool → Bool → Int → List Int → Int → List Int → Option (Bool)
 | 0, _, _, _, _, _, _, _, _, _ => none
 | k + 1, x0, x1, x2, x8, x81, x14013000, x14013001, x14025000, x14025001 => if x81 = true then (some false) else ((laws_markMatroid.f k x14025000 x14025001 1).bind fun bt14039 => ((laws_heldMatroid.f k x14025000 bt14039.2 1).bind fun t14041 => (if t14041 < 0 then (some false) else (if t14041 = bt14039.1 then ((laws_toIntS.f k x1).bind fun t14042 => ((laws_toIntS.f k x2).bind fun t14045 => ((impl_PartitionMatroid.f k x0 t14042 t14045).bind fun bt14048 => ((laws_eqMatroid.f k bt14048.1 bt14048.2.1 x14013000 x14013001).bind fun t14054 => (if t14054 = true then (laws_FnExactPartitionMatroid.j2 k bt14039.1 (bt14048.2.2 != x8) x14025000 bt14039.2) else (laws_FnExactPartitionMatroid.j2 k bt14039.1 true x14025000 bt14039.2)))))) else (some false)))))
def laws_FnExactPartitionMatroid.j2 : Nat → Int → Bool → Int → List Int → Option (Bool)
 | 0, _, _, _, _ => none
 | k + 1, x14, x110, x14025000, x14025001 => if x110 = true then (some false) else ((laws_heldMatroid.f k x14025000 x14025001 1).bind fun t14055 => (if t14055 < 0 then (some false) else (if t14055 = x14 then (some true) else (some false))))
end
def laws_FnExactPartitionMatroid.f (k : Nat) (a0 : Int) (l1 : List Int) (l2 : List Int) : Option (Bool) := if (l1.length : Int) > 1048576 then (some true) else (if (l2.length : Int) > 1048576 then (some true) else ((laws_toIntS.f k l1).bind fun t14001 => ((laws_toIntS.f k l2).bind fun t14004 => ((spec_PartitionMatroid.f k a0 t14001 t14004).bind fun bt14007 => ((laws_toIntS.f k l1).bind fun t14013 => ((laws_toIntS.f k l2).bind fun t14016 => ((impl_PartitionMatroid.f k a0 t14013 t14016).bind fun bt14019 => ((laws_eqMatroid.f k bt14019.1 bt14019.2.1 bt14007.1 bt14007.2.1).bind fun t14025 => (if t14025 = true then (laws_FnExactPartitionMatroid.j0 k a0 l1 l2 bt14007.2.2 t14013 t14016 bt14019.2.2 (bt14019.2.2 != bt14007.2.2) bt14007.1 bt14007.2.1 bt14019.1 bt14019.2.1) else (laws_FnExactPartitionMatroid.j0 k a0 l1 l2 bt14007.2.2 t14013 t14016 bt14019.2.2 true bt14007.1 bt14007.2.1 bt14019.1 bt14019.2.1))))))))))
theorem laws_FnExactPartitionMatroid.mono_l : ∀ k, (∀ y0 y1 y2 y3 y4 y5 y6 y7 y8 y9 y10 y11, LeO (laws_FnExactPartitionMatroid.j0 k y0 y1 y2 y3 y4 y5 y6 y7 y8 y9 y10 y11) (laws_FnExactPartitionMatroid.j0 (k + 1) y0 y1 y2 y3 y4 y5 y6 y7 y8 y9 y10 y11)) ∧ (∀ y0 y1 y2 y3 y4 y5 y6 y7 y8, LeO (laws_FnExactPartitionMatroid.j1 k y0 y1 y2 y3 y4 y5 y6 y7 y8) (laws_FnExactPartitionMatroid.j1 (k + 1) y0 y1 y2 y3 y4 y5 y6 y7 y8)) ∧ (∀ y0 y1 y2 y3, LeO (laws_FnExactPartitionMatroid.j2 k y0 y1 y2 y3) (laws_FnExactPartitionMatroid.j2 (k + 1) y0 y1 y2 y3))
 | 0 => ⟨fun _ _ _ _ _ _ _ _ _ _ _ _ r h => by simp [laws_FnExactPartitionMatroid.j0] at h, fun _ _ _ _ _ _ _ _ _ r h => by simp [laws_FnExactPartitionMatroid.j1] at h, fun _ _ _ _ r h => by simp [laws_FnExactPartitionMatroid.j2] at h⟩
 | k + 1 => by
  obtain ⟨ih0, ih1, ih2⟩ := laws_FnExactPartitionMatroid.mono_l k
  refine ⟨?_, ?_, ?_⟩
  ·intro y0 y1 y2 y3 y4 y5 y6 y7 y8 y9 y10 y11
   unfold laws_FnExactPartitionMatroid.j0
   repeat' first
   | (with_reducible exact ih0 _ _ _ _ _ _ _ _ _ _ _ _)
   | (with_reducible exact ih1 _ _ _ _ _ _ _ _ _)
   | (with_reducible exact ih2 _ _ _ _)
   | (with_reducible exact impl_PartitionMatroid.mono _ _ _ _)
   | (with_reducible exact laws_eqIntS.mono _ _ _)
   | (with_reducible exact laws_eqMatroid.mono _ _ _ _ _)
   | (with_reducible exact laws_heldMatroid.mono _ _ _ _)
   | (with_reducible exact laws_markIntS.mono _ _ _)
   | (with_reducible exact laws_markMatroid.mono _ _ _ _)
   | (with_reducible exact laws_toIntS.mono _ _)
   | (with_reducible exact spec_PartitionMatroid.mono _ _ _ _)
   | (with_reducible exact LeO.refl _)
   | (with_reducible exact LeO.none _)
   | (with_reducible refine LeO.ite ?_ ?_)
   | (with_reducible refine LeO.bind ?_ (fun _ => ?_))
   | exact ih0 _ _ _ _ _ _ _ _ _ _ _ _
   | exact ih1 _ _ _ _ _ _ _ _ _
   | exact ih2 _ _ _ _
   | exact impl_PartitionMatroid.mono _ _ _ _
   | exact laws_eqIntS.mono _ _ _
   | exact laws_eqMatroid.mono _ _ _ _ _
   | exact laws_heldMatroid.mono _ _ _ _
   | exact laws_markIntS.mono _ _ _
   | exact laws_markMatroid.mono _ _ _ _
   | exact laws_toIntS.mono _ _
   | exact spec_PartitionMatroid.mono _ _ _ _
   | exact LeO.none _
   | refine LeO.ite ?_ ?_
   | refine LeO.bind ?_ (fun _ => ?_)
  ·intro y0 y1 y2 y3 y4 y5 y6 y7 y8
   unfold laws_FnExactPartitionMatroid.j1
   repeat' first
   | (with_reducible exact ih0 _ _ _ _ _ _ _ _ _ _ _ _)
   | (with_reducible exact ih1 _ _ _ _ _ _ _ _ _)
   | (with_reducible exact ih2 _ _ _ _)
   | (with_reducible exact impl_PartitionMatroid.mono _ _ _ _)
   | (with_reducible exact laws_eqIntS.mono _ _ _)
   | (with_reducible exact laws_eqMatroid.mono _ _ _ _ _)
   | (with_reducible exact laws_heldMatroid.mono _ _ _ _)
   | (with_reducible exact laws_markIntS.mono _ _ _)
   | (with_reducible exact laws_markMatroid.mono _ _ _ _)
   | (with_reducible exact laws_toIntS.mono _ _)
   | (with_reducible exact spec_PartitionMatroid.mono _ _ _ _)
   | (with_reducible exact LeO.refl _)
   | (with_reducible exact LeO.none _)
   | (with_reducible refine LeO.ite ?_ ?_)
   | (with_reducible refine LeO.bind ?_ (fun _ => ?_))
   | exact ih0 _ _ _ _ _ _ _ _ _ _ _ _
   | exact ih1 _ _ _ _ _ _ _ _ _
   | exact ih2 _ _ _ _
   | exact impl_PartitionMatroid.mono _ _ _ _
   | exact laws_eqIntS.mono _ _ _
   | exact laws_eqMatroid.mono _ _ _ _ _
   | exact laws_heldMatroid.mono _ _ _ _
   | exact laws_markIntS.mono _ _ _
   | exact laws_markMatroid.mono _ _ _ _
   | exact laws_toIntS.mono _ _
   | exact spec_PartitionMatroid.mono _ _ _ _
   | exact LeO.none _
   | refine LeO.ite ?_ ?_
   | refine LeO.bind ?_ (fun _ => ?_)
  ·intro y0 y1 y2 y3
   unfold laws_FnExactPartitionMatroid.j2
   repeat' first
   | (with_reducible exact ih0 _ _ _ _ _ _ _ _ _ _ _ _)
   | (with_reducible exact ih1 _ _ _ _ _ _ _ _ _)
   | (with_reducible exact ih2 _ _ _ _)
   | (with_reducible exact impl_PartitionMatroid.mono _ _ _ _)
   | (with_reducible exact laws_eqIntS.mono _ _ _)
   | (with_reducible exact laws_eqMatroid.mono _ _ _ _ _)
   | (with_reducible exact laws_heldMatroid.mono _ _ _ _)
   | (with_reducible exact laws_markIntS.mono _ _ _)
   | (with_reducible exact laws_markMatroid.mono _ _ _ _)
   | (with_reducible exact laws_toIntS.mono _ _)
   | (with_reducible exact spec_PartitionMatroid.mono _ _ _ _)
   | (with_reducible exact LeO.refl _)
   | (with_reducible exact LeO.none _)
   | (with_reducible refine LeO.ite ?_ ?_)
   | (with_reducible refine LeO.bind ?_ (fun _ => ?_))
   | exact ih0 _ _ _ _ _ _ _ _ _ _ _ _
   | exact ih1 _ _ _ _ _ _ _ _ _
   | exact ih2 _ _ _ _
   | exact impl_PartitionMatroid.mono _ _ _ _
   | exact laws_eqIntS.mono _ _ _
   | exact laws_eqMatroid.mono _ _ _ _ _
   | exact laws_heldMatroid.mono _ _ _ _
   | exact laws_markIntS.mono _ _ _
   | exact laws_markMatroid.mono _ _ _ _
   | exact laws_toIntS.mono _ _
   | exact spec_PartitionMatroid.mono _ _ _ _
   | exact LeO.none _
   | refine LeO.ite ?_ ?_
   | refine LeO.bind ?_ (fun _ => ?_)
theorem laws_FnExactPartitionMatroid.mono : ∀ a0 a1 a2 k, LeO (laws_FnExactPartitionMatroid.f k a0 a1 a2) (laws_FnExactPartitionMatroid.f (k + 1) a0 a1 a2) := by
 intro a0 a1 a2 k
 obtain ⟨ih0, ih1, ih2⟩ := laws_FnExactPartitionMatroid.mono_l k
 unfold laws_FnExactPartitionMatroid.f
 repeat' first
   | (with_reducible exact ih0 _ _ _ _ _ _ _ _ _ _ _ _)
   | (with_reducible exact ih1 _ _ _ _ _ _ _ _ _)
   | (with_reducible exact ih2 _ _ _ _)
   | (with_reducible exact impl_PartitionMatroid.mono _ _ _ _)
   | (with_reducible exact laws_eqIntS.mono _ _ _)
   | (with_reducible exact laws_eqMatroid.mono _ _ _ _ _)
   | (with_reducible exact laws_heldMatroid.mono _ _ _ _)
   | (with_reducible exact laws_markIntS.mono _ _ _)
   | (with_reducible exact laws_markMatroid.mono _ _ _ _)
   | (with_reducible exact laws_toIntS.mono _ _)
   | (with_reducible exact spec_PartitionMatroid.mono _ _ _ _)
   | (with_reducible exact LeO.refl _)
   | (with_reducible exact LeO.none _)
   | (with_reducible refine LeO.ite ?_ ?_)
   | (with_reducible refine LeO.bind ?_ (fun _ => ?_))
   | exact ih0 _ _ _ _ _ _ _ _ _ _ _ _
   | exact ih1 _ _ _ _ _ _ _ _ _
   | exact ih2 _ _ _ _
   | exact impl_PartitionMatroid.mono _ _ _ _
   | exact laws_eqIntS.mono _ _ _
   | exact laws_eqMatroid.mono _ _ _ _ _
   | exact laws_heldMatroid.mono _ _ _ _
   | exact laws_markIntS.mono _ _ _
   | exact laws_markMatroid.mono _ _ _ _
   | exact laws_toIntS.mono _ _
   | exact spec_PartitionMatroid.mono _ _ _ _
   | exact LeO.none _
   | refine LeO.ite ?_ ?_
   | refine LeO.bind ?_ (fun _ => ?_)
set_option maxHeartbeats 8000000 in
set_option maxRecDepth 100000 in
theorem laws_FnExactPartitionMatroid.calls (k : Nat) (a0 : Int) (A1 : Option Addr) (c1 : Nat) (l1 : List Int) (A2 : Option Addr) (c2 : Nat) (l2 : List Int) (w : World) (hr1 : Kd.C (Kd.int .i64) w A1 l1.length l1) (hc1 : l1.length ≤ c1) (hr2 : Kd.C (Kd.int .i64) w A2 l2.length l2) (hc2 : l2.length ≤ c2) (h : laws_FnExactPartitionMatroid.f k a0 l1 l2 = some true) :
  Calls Try.prog 13 #[.int .i64 a0, .slice A1 l1.length c1, .slice A2 l2.length c2] w fun e w' => e = .returned (.bool true) ∧ Below w.heap.size w w' := by
 have hu26 := Try.underlying26
 have HR1 := aQ hr1
 have HC1 := aQ hc1
 clear hr1 hc1
 have HR2 := aQ hr2
 have HC2 := aQ hc2
 clear hr2 hc2
 have HB := aQ (Below.refl w.heap.size w)
 have H : (if (l1.length : Int) > 1048576 then (some true) else (if (l2.length : Int) > 1048576 then (some true) else ((laws_toIntS.f k l1).bind fun t14001 => ((laws_toIntS.f k l2).bind fun t14004 => ((spec_PartitionMatroid.f k a0 t14001 t14004).bind fun bt14007 => ((laws_toIntS.f k l1).bind fun t14013 => ((laws_toIntS.f k l2).bind fun t14016 => ((impl_PartitionMatroid.f k a0 t14013 t14016).bind fun bt14019 => ((laws_eqMatroid.f k bt14019.1 bt14019.2.1 bt14007.1 bt14007.2.1).bind fun t14025 => (if t14025 = true then (laws_FnExactPartitionMatroid.j0 k a0 l1 l2 bt14007.2.2 t14013 t14016 bt14019.2.2 (bt14019.2.2 != bt14007.2.2) bt14007.1 bt14007.2.1 bt14019.1 bt14019.2.1) else (laws_FnExactPartitionMatroid.j0 k a0 l1 l2 bt14007.2.2 t14013 t14016 bt14019.2.2 true bt14007.1 bt14007.2.1 bt14019.1 bt14019.2.1))))))))))) = some true := h
 clear h
 by_cases c4 : (l1.length : Int) > 1048576
 ·rw [if_pos c4] at H
  have c4b0 : decide (1048576 < (l1.length : Int)) = true := decide_eq_true c4
  have c4b1 : decide (1048576 < l1.length) = true := decide_eq_true (by omega)
  clear c4
  clear H
  go_enter Try.func13, Try.ntmps13
  go_wp2
  go_ret
  exact ⟨by first | rfl | (simp [errW_none, errW_some] <;> rfl) | (simp [*, errW_none, errW_some] <;> rfl), by repeat (first | (with_reducible first | exact HB.out | apply below_alloc | apply pw_below_drewN | apply below_drew1) | exact HB.out)⟩
 ·rw [if_neg c4] at H
  have c4b0 : decide (1048576 < (l1.length : Int)) = false := decide_eq_false c4
  have c4b1 : decide (1048576 < l1.length) = false := decide_eq_false (by omega)
  clear c4
  by_cases c5 : (l2.length : Int) > 1048576
  ·rw [if_pos c5] at H
   have c5b0 : decide (1048576 < (l2.length : Int)) = true := decide_eq_true c5
   have c5b1 : decide (1048576 < l2.length) = true := decide_eq_true (by omega)
   clear c5
   clear H
   go_enter Try.func13, Try.ntmps13
   go_wp2
   go_ret
   exact ⟨by first | rfl | (simp [errW_none, errW_some] <;> rfl) | (simp [*, errW_none, errW_some] <;> rfl), by repeat (first | (with_reducible first | exact HB.out | apply below_alloc | apply pw_below_drewN | apply below_drew1) | exact HB.out)⟩
  ·rw [if_neg c5] at H
   have c5b0 : decide (1048576 < (l2.length : Int)) = false := decide_eq_false c5
   have c5b1 : decide (1048576 < l2.length) = false := decide_eq_false (by omega)
   clear c5
   replace H := Option.bind_eq_some_iff.mp H
   obtain ⟨t14001, A60, H⟩ := H
   replace H : ((laws_toIntS.f k l2).bind fun t14004 => ((spec_PartitionMatroid.f k a0 t14001 t14004).bind fun bt14007 => ((laws_toIntS.f k l1).bind fun t14013 => ((laws_toIntS.f k l2).bind fun t14016 => ((impl_PartitionMatroid.f k a0 t14013 t14016).bind fun bt14019 => ((laws_eqMatroid.f k bt14019.1 bt14019.2.1 bt14007.1 bt14007.2.1).bind fun t14025 => (if t14025 = true then (laws_FnExactPartitionMatroid.j0 k a0 l1 l2 bt14007.2.2 t14013 t14016 bt14019.2.2 (bt14019.2.2 != bt14007.2.2) bt14007.1 bt14007.2.1 bt14019.1 bt14019.2.1) else (laws_FnExactPartitionMatroid.j0 k a0 l1 l2 bt14007.2.2 t14013 t14016 bt14019.2.2 true bt14007.1 bt14007.2.1 bt14019.1 bt14019.2.1)))))))) = some true := H
   have A6 := aQ A60
   clear A60
   replace H := Option.bind_eq_some_iff.mp H
   obtain ⟨t14004, A70, H⟩ := H
   replace H : ((spec_PartitionMatroid.f k a0 t14001 t14004).bind fun bt14007 => ((laws_toIntS.f k l1).bind fun t14013 => ((laws_toIntS.f k l2).bind fun t14016 => ((impl_PartitionMatroid.f k a0 t14013 t14016).bind fun bt14019 => ((laws_eqMatroid.f k bt14019.1 bt14019.2.1 bt14007.1 bt14007.2.1).bind fun t14025 => (if t14025 = true then (laws_FnExactPartitionMatroid.j0 k a0 l1 l2 bt14007.2.2 t14013 t14016 bt14019.2.2 (bt14019.2.2 != bt14007.2.2) bt14007.1 bt14007.2.1 bt14019.1 bt14019.2.1) else (laws_FnExactPartitionMatroid.j0 k a0 l1 l2 bt14007.2.2 t14013 t14016 bt14019.2.2 true bt14007.1 bt14007.2.1 bt14019.1 bt14019.2.1))))))) = some true := H
   have A7 := aQ A70
   clear A70
   replace H := Option.bind_eq_some_iff.mp H
   obtain ⟨⟨t14007, t14008, t14011⟩, A80, H⟩ := H
   replace H : ((laws_toIntS.f k l1).bind fun t14013 => ((laws_toIntS.f k l2).bind fun t14016 => ((impl_PartitionMatroid.f k a0 t14013 t14016).bind fun bt14019 => ((laws_eqMatroid.f k bt14019.1 bt14019.2.1 t14007 t14008).bind fun t14025 => (if t14025 = true then (laws_FnExactPartitionMatroid.j0 k a0 l1 l2 t14011 t14013 t14016 bt14019.2.2 (bt14019.2.2 != t14011) t14007 t14008 bt14019.1 bt14019.2.1) else (laws_FnExactPartitionMatroid.j0 k a0 l1 l2 t14011 t14013 t14016 bt14019.2.2 true t14007 t14008 bt14019.1 bt14019.2.1)))))) = some true := H
   have A8 := aQ A80
   clear A80
   replace H := Option.bind_eq_some_iff.mp H
   obtain ⟨t14013, A90, H⟩ := H
   replace H : ((laws_toIntS.f k l2).bind fun t14016 => ((impl_PartitionMatroid.f k a0 t14013 t14016).bind fun bt14019 => ((laws_eqMatroid.f k bt14019.1 bt14019.2.1 t14007 t14008).bind fun t14025 => (if t14025 = true then (laws_FnExactPartitionMatroid.j0 k a0 l1 l2 t14011 t14013 t14016 bt14019.2.2 (bt14019.2.2 != t14011) t14007 t14008 bt14019.1 bt14019.2.1) else (laws_FnExactPartitionMatroid.j0 k a0 l1 l2 t14011 t14013 t14016 bt14019.2.2 true t14007 t14008 bt14019.1 bt14019.2.1))))) = some true := H
   have A9 := aQ A90
   clear A90
   replace H := Option.bind_eq_some_iff.mp H
   obtain ⟨t14016, A100, H⟩ := H
   replace H : ((impl_PartitionMatroid.f k a0 t14013 t14016).bind fun bt14019 => ((laws_eqMatroid.f k bt14019.1 bt14019.2.1 t14007 t14008).bind fun t14025 => (if t14025 = true then (laws_FnExactPartitionMatroid.j0 k a0 l1 l2 t14011 t14013 t14016 bt14019.2.2 (bt14019.2.2 != t14011) t14007 t14008 bt14019.1 bt14019.2.1) else (laws_FnExactPartitionMatroid.j0 k a0 l1 l2 t14011 t14013 t14016 bt14019.2.2 true t14007 t14008 bt14019.1 bt14019.2.1)))) = some true := H
   have A10 := aQ A100
   clear A100
   replace H := Option.bind_eq_some_iff.mp H
   obtain ⟨⟨t14019, t14020, t14023⟩, A110, H⟩ := H
   replace H : ((laws_eqMatroid.f k t14019 t14020 t14007 t14008).bind fun t14025 => (if t14025 = true then (laws_FnExactPartitionMatroid.j0 k a0 l1 l2 t14011 t14013 t14016 t14023 (t14023 != t14011) t14007 t14008 t14019 t14020) else (laws_FnExactPartitionMatroid.j0 k a0 l1 l2 t14011 t14013 t14016 t14023 true t14007 t14008 t14019 t14020))) = some true := H
   have A11 := aQ A110
   clear A110
   have HC12 := aQ H
   clear H
   go_enter Try.func13, Try.ntmps13
   go_upto_region 9 with (first | ((with_reducible refine gate_callee (f := 31) rfl ?_); refine goesL_ (some 27) rfl rfl Try.func31 (by kernel_rfl) rfl #[.slice A1 l1.length c1] rfl (by (try simp only [List.map_toArray, List.map_cons, List.map_nil]); first | done | rfl | (simp only [List.length_drop, List.length_take]; rfl)) ?_; (with_reducible refine (laws_toIntS.calls k _ _ l1 t14001 _ ?side1 ?side2 A6.out).mono ?_); (case side1 => repeat (first | exact HR1.out | (with_reducible refine Kd.C_alloc ?_ _) | (with_reducible refine Kd.C_drewN ?_ _) | (with_reducible refine Kd.C_drew ?_))); (case side2 => exact HC1.out); rintro e w13 ⟨v14002, rfl, ho0, hb⟩; refine ⟨_, rfl, ?_⟩; have HO14003 := aQ (Kd.R_lower ho0 (below_size (by repeat (first | (with_reducible first | exact HB.out | apply below_alloc | apply pw_below_drewN | apply below_drew1) | exact HB.out)))); replace HB := aQ (below_step (by repeat (first | (with_reducible first | exact HB.out | apply below_alloc | apply pw_below_drewN | apply below_drew1) | exact HB.out)) hb); (try clear hb); (try clear hb2); (try clear hk); (try clear hi); (try clear ho0)) | ((with_reducible refine gate_callee (f := 31) rfl ?_); refine goesL_ (some 29) rfl rfl Try.func31 (by kernel_rfl) rfl #[.slice A2 l2.length c2] rfl (by (try simp only [List.map_toArray, List.map_cons, List.map_nil]); first | done | rfl | (simp only [List.length_drop, List.length_take]; rfl)) ?_; (with_reducible refine (laws_toIntS.calls k _ _ l2 t14004 _ ?side1 ?side2 A7.out).mono ?_); (case side1 => repeat (first | exact (Kd.C_below HR2.out HB.out) | (with_reducible refine Kd.C_alloc ?_ _) | (with_reducible refine Kd.C_drewN ?_ _) | (with_reducible refine Kd.C_drew ?_))); (case side2 => exact HC2.out); rintro e w14 ⟨v14005, rfl, ho0, hb⟩; refine ⟨_, rfl, ?_⟩; have HO14006 := aQ (Kd.R_lower (Kd.R_new' ho0 (Kd.R_lt (by (with_reducible repeat (first | apply Kd.R_alloc | apply Kd.R_drewN | apply Kd.R_drew)); exact HO14003.out))) (below_size (by repeat (first | (with_reducible first | exact HB.out | apply below_alloc | apply pw_below_drewN | apply below_drew1) | exact HB.out)))); replace HO14003 := aQ (Kd.R_elder' (by (with_reducible repeat (first | apply Kd.R_alloc | apply Kd.R_drewN | apply Kd.R_drew)); exact HO14003.out) (Kd.R_base ho0) hb); replace HB := aQ (below_step (by repeat (first | (with_reducible first | exact HB.out | apply below_alloc | apply pw_below_drewN | apply below_drew1) | exact HB.out)) hb); (try clear hb); (try clear hb2); (try clear hk); (try clear hi); (try clear ho0); obtain ⟨Ao15, co15, eo15⟩ := Kd.R_slice HO14003.out; subst eo15; obtain ⟨Ao16, co16, eo16⟩ := Kd.R_slice HO14006.out; subst eo16) | ((with_reducible refine gate_callee (f := 45) rfl ?_); refine goesL_ (some 30) rfl rfl Try.func45 (by kernel_rfl) rfl #[.int .i64 a0, .slice Ao15 t14001.length co15, .slice Ao16 t14004.length co16] rfl (by (try simp only [List.map_toArray, List.map_cons, List.map_nil]); first | done | rfl | (simp only [List.length_drop, List.length_take]; rfl)) ?_; (with_reducible refine (spec_PartitionMatroid.calls k a0 _ _ t14001 _ _ t14004 t14007 t14008 t14011 _ ?side1 ?side2 ?side3 ?side4 A8.out).mono ?_); (case side1 => repeat (first | exact (Kd.R_reads' HO14003.out).2.2 | (with_reducible refine Kd.C_alloc ?_ _) | (with_reducible refine Kd.C_drewN ?_ _) | (with_reducible refine Kd.C_drew ?_))); (case side2 => exact (Kd.R_reads' HO14003.out).2.1); (case side3 => repeat (first | exact (Kd.R_reads' HO14006.out).2.2 | (with_reducible refine Kd.C_alloc ?_ _) | (with_reducible refine Kd.C_drewN ?_ _) | (with_reducible refine Kd.C_drew ?_))); (case side4 => exact (Kd.R_reads' HO14006.out).2.1); rintro e w17 ⟨v14009, rfl, ho0, hb⟩; refine ⟨_, rfl, ?_⟩; have HO14010 := aQ (Kd.R_lower (Kd.R_new' (Kd.R_new' ho0 (Kd.R_lt (by (with_reducible repeat (first | apply Kd.R_alloc | apply Kd.R_drewN | apply Kd.R_drew)); exact HO14003.out))) (Kd.R_lt (by (with_reducible repeat (first | apply Kd.R_alloc | apply Kd.R_drewN | apply Kd.R_drew)); exact HO14006.out))) (below_size (by repeat (first | (with_reducible first | exact HB.out | apply below_alloc | apply pw_below_drewN | apply below_drew1) | exact HB.out)))); replace HO14003 := aQ (Kd.R_elder' (by (with_reducible repeat (first | apply Kd.R_alloc | apply Kd.R_drewN | apply Kd.R_drew)); exact HO14003.out) (Kd.R_base ho0) hb); replace HO14006 := aQ (Kd.R_elder' (by (with_reducible repeat (first | apply Kd.R_alloc | apply Kd.R_drewN | apply Kd.R_drew)); exact HO14006.out) (Kd.R_base ho0) hb); replace HB := aQ (below_step (by repeat (first | (with_reducible first | exact HB.out | apply below_alloc | apply pw_below_drewN | apply below_drew1) | exact HB.out)) hb); (try clear hb); (try clear hb2); (try clear hk); (try clear hi); (try clear ho0)) | ((with_reducible refine gate_dst (N := 7) rfl ?_); refine box_event ?hg (N := 7) ?hd (cs := #[.int .i64 0, .slice none 0 0]) (t := 26) ?hr ?_; (case hd => rfl); (case hg => rfl); (case hr => first | (go_simp; done) | (go_simp; rfl)); intro gb14012 hg w18 hbox hb; replace HO14003 := aQ (Kd.R_below (by (with_reducible repeat (first | apply Kd.R_alloc | apply Kd.R_drewN | apply Kd.R_drew)); exact HO14003.out) hb); replace HO14006 := aQ (Kd.R_below (by (with_reducible repeat (first | apply Kd.R_alloc | apply Kd.R_drewN | apply Kd.R_drew)); exact HO14006.out) hb); replace HO14010 := aQ (Kd.R_below (by (with_reducible repeat (first | apply Kd.R_alloc | apply Kd.R_drewN | apply Kd.R_drew)); exact HO14010.out) hb); have BK14012 := aQ (hbox); have GW14012 := aQ ((by rw [hg]; exact (below_size (by repeat (first | (with_reducible first | exact HB.out | apply below_alloc | apply pw_below_drewN | apply below_drew1) | exact HB.out))) : w.heap.size ≤ gb14012)); have GE14012 := aQ ((by rw [hg]; exact (below_size (by repeat (first | (with_reducible first | exact HB.out | apply below_alloc | apply pw_below_drewN | apply below_drew1) | exact HB.out))) : w.heap.size ≤ gb14012)); replace HB := aQ (below_step (by repeat (first | (with_reducible first | exact HB.out | apply below_alloc | apply pw_below_drewN | apply below_drew1) | exact HB.out)) hb); clear hb hbox hg; have hcz19_0 : w18.cell? ⟨gb14012, 0, none⟩ = some (.int .i64 0) := (blk_cell BK14012.out 0).trans rfl; have hcz19_1 : w18.cell? ⟨gb14012, 1, none⟩ = some (.slice none 0 0) := (blk_cell BK14012.out 1).trans rfl; have hfz19_0 := blk_frozen BK14012.out 0; have hfz19_1 := blk_frozen BK14012.out 1; obtain ⟨Ao20, co20, eo20⟩ := Kd.R_slice HO14010.out; subst eo20) | ((with_reducible refine gate_callee (f := 31) rfl ?_); refine goesL_ (some 34) rfl rfl Try.func31 (by kernel_rfl) rfl #[.slice A1 l1.length c1] rfl (by (try simp only [List.map_toArray, List.map_cons, List.map_nil]); first | done | rfl | (simp only [List.length_drop, List.length_take]; rfl)) ?_; (with_reducible refine (laws_toIntS.calls k _ _ l1 t14013 _ ?side1 ?side2 A9.out).mono ?_); (case side1 => exact Kd.C_below HR1.out (by repeat (first | (with_reducible first | exact HB.out | apply below_alloc | apply pw_below_drewN | apply below_drew1 | refine below_set ?_ GE14012.out) | exact HB.out))); (case side2 => exact HC1.out); rintro e w21 ⟨v14014, rfl, ho0, hb⟩; refine ⟨_, rfl, ?_⟩; have HO14015 := aQ (Kd.R_lower (Kd.R_new' (Kd.R_new' (Kd.R_new' ho0 (Kd.R_lt (by (with_reducible repeat (first | apply Kd.R_alloc | apply Kd.R_drewN | apply Kd.R_drew)); exact (Kd.R_mono (Kd.R_far (p := ⟨gb14012, 1, none⟩) (Kd.R_far (p := ⟨gb14012, 0, none⟩) (Kd.R_types HO14003.out BK14012.out (by decide)) (fun _ hk => hk.2) (.int .i64 t14007)) (fun _ hk => hk.2) (.slice Ao20 t14008.length co20)) (fun _ h_ => h_.1))))) (Kd.R_lt (by (with_reducible repeat (first | apply Kd.R_alloc | apply Kd.R_drewN | apply Kd.R_drew)); exact (Kd.R_mono (Kd.R_far (p := ⟨gb14012, 1, none⟩) (Kd.R_far (p := ⟨gb14012, 0, none⟩) (Kd.R_types HO14006.out BK14012.out (by decide)) (fun _ hk => hk.2) (.int .i64 t14007)) (fun _ hk => hk.2) (.slice Ao20 t14008.length co20)) (fun _ h_ => h_.1))))) (Kd.R_lt (by (with_reducible repeat (first | apply Kd.R_alloc | apply Kd.R_drewN | apply Kd.R_drew)); exact (Kd.R_mono (Kd.R_far (p := ⟨gb14012, 1, none⟩) (Kd.R_far (p := ⟨gb14012, 0, none⟩) (Kd.R_types HO14010.out BK14012.out (by decide)) (fun _ hk => hk.2) (.int .i64 t14007)) (fun _ hk => hk.2) (.slice Ao20 t14008.length co20)) (fun _ h_ => h_.1))))) (below_size (by repeat (first | (with_reducible first | exact HB.out | apply below_alloc | apply pw_below_drewN | apply below_drew1 | refine below_set ?_ GE14012.out) | exact HB.out)))); replace HO14003 := aQ (Kd.R_elder' (by (with_reducible repeat (first | apply Kd.R_alloc | apply Kd.R_drewN | apply Kd.R_drew)); exact (Kd.R_mono (Kd.R_far (p := ⟨gb14012, 1, none⟩) (Kd.R_far (p := ⟨gb14012, 0, none⟩) (Kd.R_types HO14003.out BK14012.out (by decide)) (fun _ hk => hk.2) (.int .i64 t14007)) (fun _ hk => hk.2) (.slice Ao20 t14008.length co20)) (fun _ h_ => h_.1))) (Kd.R_base ho0) hb); replace HO14006 := aQ (Kd.R_elder' (by (with_reducible repeat (first | apply Kd.R_alloc | apply Kd.R_drewN | apply Kd.R_drew)); exact (Kd.R_mono (Kd.R_far (p := ⟨gb14012, 1, none⟩) (Kd.R_far (p := ⟨gb14012, 0, none⟩) (Kd.R_types HO14006.out BK14012.out (by decide)) (fun _ hk => hk.2) (.int .i64 t14007)) (fun _ hk => hk.2) (.slice Ao20 t14008.length co20)) (fun _ h_ => h_.1))) (Kd.R_base ho0) hb); replace HO14010 := aQ (Kd.R_elder' (by (with_reducible repeat (first | apply Kd.R_alloc | apply Kd.R_drewN | apply Kd.R_drew)); exact (Kd.R_mono (Kd.R_far (p := ⟨gb14012, 1, none⟩) (Kd.R_far (p := ⟨gb14012, 0, none⟩) (Kd.R_types HO14010.out BK14012.out (by decide)) (fun _ hk => hk.2) (.int .i64 t14007)) (fun _ hk => hk.2) (.slice Ao20 t14008.length co20)) (fun _ h_ => h_.1))) (Kd.R_base ho0) hb); replace BK14012 := aQ (blk_below (g := gb14012) (o := .cells #[.int .i64 t14007, .slice Ao20 t14008.length co20] 26 (0, 0)) (by (with_reducible repeat (first | refine blk_drewN ?_ _ | refine blk_drew ?_ | refine blk_alloc ?_ _)); refine blk_put (cs := #[.int .i64 t14007, .slice none 0 0]) ?_ 1 _ rfl; (with_reducible repeat (first | refine blk_drewN ?_ _ | refine blk_drew ?_ | refine blk_alloc ?_ _)); refine blk_put (cs := #[.int .i64 0, .slice none 0 0]) ?_ 0 _ rfl; (with_reducible repeat (first | refine blk_drewN ?_ _ | refine blk_drew ?_ | refine blk_alloc ?_ _)); exact BK14012.out) hb); replace HB := aQ (below_step (by repeat (first | (with_reducible first | exact HB.out | apply below_alloc | apply pw_below_drewN | apply below_drew1 | refine below_set ?_ GE14012.out) | exact HB.out)) hb); (try clear hb); (try clear hb2); (try clear hk); (try clear hi); (try clear ho0)) | ((with_reducible refine gate_callee (f := 31) rfl ?_); refine goesL_ (some 36) rfl rfl Try.func31 (by kernel_rfl) rfl #[.slice A2 l2.length c2] rfl (by (try simp only [List.map_toArray, List.map_cons, List.map_nil]); first | done | rfl | (simp only [List.length_drop, List.length_take]; rfl)) ?_; (with_reducible refine (laws_toIntS.calls k _ _ l2 t14016 _ ?side1 ?side2 A10.out).mono ?_); (case side1 => repeat (first | exact (Kd.C_below HR2.out HB.out) | (with_reducible refine Kd.C_alloc ?_ _) | (with_reducible refine Kd.C_drewN ?_ _) | (with_reducible refine Kd.C_drew ?_))); (case side2 => exact HC2.out); rintro e w22 ⟨v14017, rfl, ho0, hb⟩; refine ⟨_, rfl, ?_⟩; have HO14018 := aQ (Kd.R_lower (Kd.R_new' (Kd.R_new' (Kd.R_new' (Kd.R_new' ho0 (Kd.R_lt (by (with_reducible repeat (first | apply Kd.R_alloc | apply Kd.R_drewN | apply Kd.R_drew)); exact HO14003.out))) (Kd.R_lt (by (with_reducible repeat (first | apply Kd.R_alloc | apply Kd.R_drewN | apply Kd.R_drew)); exact HO14006.out))) (Kd.R_lt (by (with_reducible repeat (first | apply Kd.R_alloc | apply Kd.R_drewN | apply Kd.R_drew)); exact HO14010.out))) (Kd.R_lt (by (with_reducible repeat (first | apply Kd.R_alloc | apply Kd.R_drewN | apply Kd.R_drew)); exact HO14015.out))) (below_size (by repeat (first | (with_reducible first | exact HB.out | apply below_alloc | apply pw_below_drewN | apply below_drew1 | refine below_set ?_ GE14012.out) | exact HB.out)))); replace HO14003 := aQ (Kd.R_elder' (by (with_reducible repeat (first | apply Kd.R_alloc | apply Kd.R_drewN | apply Kd.R_drew)); exact HO14003.out) (Kd.R_base ho0) hb); replace HO14006 := aQ (Kd.R_elder' (by (with_reducible repeat (first | apply Kd.R_alloc | apply Kd.R_drewN | apply Kd.R_drew)); exact HO14006.out) (Kd.R_base ho0) hb); replace HO14010 := aQ (Kd.R_elder' (by (with_reducible repeat (first | apply Kd.R_alloc | apply Kd.R_drewN | apply Kd.R_drew)); exact HO14010.out) (Kd.R_base ho0) hb); replace HO14015 := aQ (Kd.R_elder' (by (with_reducible repeat (first | apply Kd.R_alloc | apply Kd.R_drewN | apply Kd.R_drew)); exact HO14015.out) (Kd.R_base ho0) hb); replace BK14012 := aQ (blk_below (g := gb14012) (o := .cells #[.int .i64 t14007, .slice Ao20 t14008.length co20] 26 (0, 0)) (by (with_reducible repeat (first | refine blk_drewN ?_ _ | refine blk_drew ?_ | refine blk_alloc ?_ _)); exact BK14012.out) hb); replace HB := aQ (below_step (by repeat (first | (with_reducible first | exact HB.out | apply below_alloc | apply pw_below_drewN | apply below_drew1 | refine below_set ?_ GE14012.out) | exact HB.out)) hb); (try clear hb); (try clear hb2); (try clear hk); (try clear hi); (try clear ho0); obtain ⟨Ao23, co23, eo23⟩ := Kd.R_slice HO14015.out; subst eo23; obtain ⟨Ao24, co24, eo24⟩ := Kd.R_slice HO14018.out; subst eo24) | ((with_reducible refine gate_callee (f := 46) rfl ?_); refine goesL_ (some 41) rfl rfl Try.func46 (by kernel_rfl) rfl #[.int .i64 a0, .slice Ao23 t14013.length co23, .slice Ao24 t14016.length co24] rfl (by (try simp only [List.map_toArray, List.map_cons, List.map_nil]); first | done | rfl | (simp only [List.length_drop, List.length_take]; rfl)) ?_; (with_reducible refine (impl_PartitionMatroid.calls k a0 _ _ t14013 _ _ t14016 t14019 t14020 t14023 _ ?side1 ?side2 ?side3 ?side4 A11.out).mono ?_); (case side1 => repeat (first | exact (Kd.R_reads' HO14015.out).2.2 | (with_reducible refine Kd.C_alloc ?_ _) | (with_reducible refine Kd.C_drewN ?_ _) | (with_reducible refine Kd.C_drew ?_))); (case side2 => exact (Kd.R_reads' HO14015.out).2.1); (case side3 => repeat (first | exact (Kd.R_reads' HO14018.out).2.2 | (with_reducible refine Kd.C_alloc ?_ _) | (with_reducible refine Kd.C_drewN ?_ _) | (with_reducible refine Kd.C_drew ?_))); (case side4 => exact (Kd.R_reads' HO14018.out).2.1); rintro e w25 ⟨v14021, rfl, ho0, hb⟩; refine ⟨_, rfl, ?_⟩; have HO14022 := aQ (Kd.R_lower (Kd.R_new' (Kd.R_new' (Kd.R_new' (Kd.R_new' (Kd.R_new' ho0 (Kd.R_lt (by (with_reducible repeat (first | apply Kd.R_alloc | apply Kd.R_drewN | apply Kd.R_drew)); exact HO14003.out))) (Kd.R_lt (by (with_reducible repeat (first | apply Kd.R_alloc | apply Kd.R_drewN | apply Kd.R_drew)); exact HO14006.out))) (Kd.R_lt (by (with_reducible repeat (first | apply Kd.R_alloc | apply Kd.R_drewN | apply Kd.R_drew)); exact HO14010.out))) (Kd.R_lt (by (with_reducible repeat (first | apply Kd.R_alloc | apply Kd.R_drewN | apply Kd.R_drew)); exact HO14015.out))) (Kd.R_lt (by (with_reducible repeat (first | apply Kd.R_alloc | apply Kd.R_drewN | apply Kd.R_drew)); exact HO14018.out))) (below_size (by repeat (first | (with_reducible first | exact HB.out | apply below_alloc | apply pw_below_drewN | apply below_drew1 | refine below_set ?_ GE14012.out) | exact HB.out)))); replace HO14003 := aQ (Kd.R_elder' (by (with_reducible repeat (first | apply Kd.R_alloc | apply Kd.R_drewN | apply Kd.R_drew)); exact HO14003.out) (Kd.R_base ho0) hb); replace HO14006 := aQ (Kd.R_elder' (by (with_reducible repeat (first | apply Kd.R_alloc | apply Kd.R_drewN | apply Kd.R_drew)); exact HO14006.out) (Kd.R_base ho0) hb); replace HO14010 := aQ (Kd.R_elder' (by (with_reducible repeat (first | apply Kd.R_alloc | apply Kd.R_drewN | apply Kd.R_drew)); exact HO14010.out) (Kd.R_base ho0) hb); replace HO14015 := aQ (Kd.R_elder' (by (with_reducible repeat (first | apply Kd.R_alloc | apply Kd.R_drewN | apply Kd.R_drew)); exact HO14015.out) (Kd.R_base ho0) hb); replace HO14018 := aQ (Kd.R_elder' (by (with_reducible repeat (first | apply Kd.R_alloc | apply Kd.R_drewN | apply Kd.R_drew)); exact HO14018.out) (Kd.R_base ho0) hb); replace BK14012 := aQ (blk_below (g := gb14012) (o := .cells #[.int .i64 t14007, .slice Ao20 t14008.length co20] 26 (0, 0)) (by (with_reducible repeat (first | refine blk_drewN ?_ _ | refine blk_drew ?_ | refine blk_alloc ?_ _)); exact BK14012.out) hb); replace HB := aQ (below_step (by repeat (first | (with_reducible first | exact HB.out | apply below_alloc | apply pw_below_drewN | apply below_drew1 | refine below_set ?_ GE14012.out) | exact HB.out)) hb); (try clear hb); (try clear hb2); (try clear hk); (try clear hi); (try clear ho0)) | ((with_reducible refine gate_dst (N := 11) rfl ?_); refine box_event ?hg (N := 11) ?hd (cs := #[.int .i64 0, .slice none 0 0]) (t := 26) ?hr ?_; (case hd => rfl); (case hg => rfl); (case hr => first | (go_simp; done) | (go_simp; rfl)); intro gb14024 hg w26 hbox hb; replace HO14003 := aQ (Kd.R_below (by (with_reducible repeat (first | apply Kd.R_alloc | apply Kd.R_drewN | apply Kd.R_drew)); exact HO14003.out) hb); replace HO14006 := aQ (Kd.R_below (by (with_reducible repeat (first | apply Kd.R_alloc | apply Kd.R_drewN | apply Kd.R_drew)); exact HO14006.out) hb); replace HO14010 := aQ (Kd.R_below (by (with_reducible repeat (first | apply Kd.R_alloc | apply Kd.R_drewN | apply Kd.R_drew)); exact HO14010.out) hb); replace HO14015 := aQ (Kd.R_below (by (with_reducible repeat (first | apply Kd.R_alloc | apply Kd.R_drewN | apply Kd.R_drew)); exact HO14015.out) hb); replace HO14018 := aQ (Kd.R_below (by (with_reducible repeat (first | apply Kd.R_alloc | apply Kd.R_drewN | apply Kd.R_drew)); exact HO14018.out) hb); replace HO14022 := aQ (Kd.R_below (by (with_reducible repeat (first | apply Kd.R_alloc | apply Kd.R_drewN | apply Kd.R_drew)); exact HO14022.out) hb); have BK14024 := aQ (hbox); have GW14024 := aQ ((by rw [hg]; exact (below_size (by repeat (first | (with_reducible first | exact HB.out | apply below_alloc | apply pw_below_drewN | apply below_drew1 | refine below_set ?_ GE14012.out) | exact HB.out))) : w.heap.size ≤ gb14024)); have GE14024 := aQ ((by rw [hg]; exact (below_size (by repeat (first | (with_reducible first | exact HB.out | apply below_alloc | apply pw_below_drewN | apply below_drew1 | refine below_set ?_ GE14012.out) | exact HB.out))) : w.heap.size ≤ gb14024)); replace HB := aQ (below_step (by repeat (first | (with_reducible first | exact HB.out | apply below_alloc | apply pw_below_drewN | apply below_drew1 | refine below_set ?_ GE14012.out) | exact HB.out)) hb); have NB14012_14024 := aQ ((by rw [hg]; exact Nat.ne_of_lt (blk_lt (g := gb14012) (o := .cells #[.int .i64 t14007, .slice Ao20 t14008.length co20] 26 (0, 0)) (by (with_reducible repeat (first | refine blk_drewN ?_ _ | refine blk_drew ?_ | refine blk_alloc ?_ _)); exact BK14012.out)) : gb14012 ≠ gb14024)); have NB14024_14012 := aQ ((by rw [hg]; exact Nat.ne_of_gt (blk_lt (g := gb14012) (o := .cells #[.int .i64 t14007, .slice Ao20 t14008.length co20] 26 (0, 0)) (by (with_reducible repeat (first | refine blk_drewN ?_ _ | refine blk_drew ?_ | refine blk_alloc ?_ _)); exact BK14012.out)) : gb14024 ≠ gb14012)); replace BK14012 := aQ (blk_below (g := gb14012) (o := .cells #[.int .i64 t14007, .slice Ao20 t14008.length co20] 26 (0, 0)) (by (with_reducible repeat (first | refine blk_drewN ?_ _ | refine blk_drew ?_ | refine blk_alloc ?_ _)); exact BK14012.out) hb); clear hb hbox hg; have hnb27 := NB14024_14012.out; have hnc27 := NB14012_14024.out; have hcz28_0 : w26.cell? ⟨gb14024, 0, none⟩ = some (.int .i64 0) := (blk_cell BK14024.out 0).trans rfl; have hcz28_1 : w26.cell? ⟨gb14024, 1, none⟩ = some (.slice none 0 0) := (blk_cell BK14024.out 1).trans rfl; have hfz28_0 := blk_frozen BK14024.out 0; have hfz28_1 := blk_frozen BK14024.out 1; obtain ⟨Ao29, co29, eo29⟩ := Kd.R_slice HO14022.out; subst eo29))
   (try simp only [Act.put, List.setIfInBounds_toArray, List.set_cons_zero, List.set_cons_succ])
   go_cut [52] (fun v52 wc => ∃ (kq : Nat) (x52_11 : Bool), v52 = .bool x52_11 ∧ Aside0 (laws_FnExactPartitionMatroid.j0 kq a0 l1 l2 t14011 t14013 t14016 t14023 x52_11 t14007 t14008 t14019 t14020 = some true) ∧ Aside0 (kq ≤ k) ∧ Aside0 (Kd.R (Kd.int .i64) 3 wc w.heap.size (fun k_ => some k_ ≠ ((.slice Ao24 t14016.length co24) : Value).ownBlock ∧ some k_ ≠ ((.slice Ao20 t14008.length co20) : Value).ownBlock ∧ some k_ ≠ ((.slice Ao29 t14020.length co29) : Value).ownBlock) (.slice Ao23 t14013.length co23) t14013) ∧ Aside0 (Kd.R (Kd.int .i64) 3 wc w.heap.size (fun k_ => some k_ ≠ ((.slice Ao23 t14013.length co23) : Value).ownBlock ∧ some k_ ≠ ((.slice Ao20 t14008.length co20) : Value).ownBlock ∧ some k_ ≠ ((.slice Ao29 t14020.length co29) : Value).ownBlock) (.slice Ao24 t14016.length co24) t14016) ∧ Aside0 (Kd.R (Kd.int .i64) 3 wc w.heap.size (fun k_ => some k_ ≠ ((.slice Ao23 t14013.length co23) : Value).ownBlock ∧ some k_ ≠ ((.slice Ao24 t14016.length co24) : Value).ownBlock ∧ some k_ ≠ ((.slice Ao29 t14020.length co29) : Value).ownBlock) (.slice Ao20 t14008.length co20) t14008) ∧ Aside0 (Kd.R (Kd.int .i64) 3 wc w.heap.size (fun k_ => some k_ ≠ ((.slice Ao23 t14013.length co23) : Value).ownBlock ∧ some k_ ≠ ((.slice Ao24 t14016.length co24) : Value).ownBlock ∧ some k_ ≠ ((.slice Ao20 t14008.length co20) : Value).ownBlock) (.slice Ao29 t14020.length co29) t14020) ∧ Aside0 (wc.heap[gb14012]? = some (.cells #[.int .i64 t14007, (.slice Ao20 t14008.length co20)] 26 (0, 0))) ∧ Aside0 (wc.heap[gb14024]? = some (.cells #[.int .i64 t14019, (.slice Ao29 t14020.length co29)] 26 (0, 0))) ∧ Aside0 (Below w.heap.size w wc))
   case first =>
    have H := HC12.out
    clear HC12
    replace H := Option.bind_eq_some_iff.mp H
    obtain ⟨t14025, A300, H⟩ := H
    replace H : (if t14025 = true then (laws_FnExactPartitionMatroid.j0 k a0 l1 l2 t14011 t14013 t14016 t14023 (t14023 != t14011) t14007 t14008 t14019 t14020) else (laws_FnExactPartitionMatroid.j0 k a0 l1 l2 t14011 t14013 t14016 t14023 true t14007 t14008 t14019 t14020)) = some true := H
    have A30 := aQ A300
    clear A300
    by_cases c31 : t14025 = true
    ·subst c31
     have H1 : (laws_FnExactPartitionMatroid.j0 k a0 l1 l2 t14011 t14013 t14016 t14023 (t14023 != t14011) t14007 t14008 t14019 t14020) = some true := by rw [if_pos rfl] at H; exact H
     clear H
     have H := H1
     clear H1
     have H' := aQ H
     clear H
     have hnb32 := NB14024_14012.out
     have hnc32 := NB14012_14024.out
     have hcz33_0 : w26.cell? ⟨gb14024, 0, none⟩ = some (.int .i64 0) := (blk_cell BK14024.out 0).trans rfl
     have hcz33_1 : w26.cell? ⟨gb14024, 1, none⟩ = some (.slice none 0 0) := (blk_cell BK14024.out 1).trans rfl
     have hfz33_0 := blk_frozen BK14024.out 0
     have hfz33_1 := blk_frozen BK14024.out 1
     have hcz34_0 : w26.cell? ⟨gb14012, 0, none⟩ = some (.int .i64 t14007) := (blk_cell BK14012.out 0).trans rfl
     have hcz34_1 : w26.cell? ⟨gb14012, 1, none⟩ = some (.slice Ao20 t14008.length co20) := (blk_cell BK14012.out 1).trans rfl
     have hfz34_0 := blk_frozen BK14012.out 0
     have hfz34_1 := blk_frozen BK14012.out 1
     go_wp2_with (first | ((with_reducible refine gate_callee (f := 20) rfl ?_); refine goesL_ (some 46) rfl rfl Try.func20 (by kernel_rfl) rfl #[.agg #[.int .i64 t14019, .slice Ao29 t14020.length co29], .agg #[.int .i64 t14007, .slice Ao20 t14008.length co20]] rfl (by (try simp only [List.map_toArray, List.map_cons, List.map_nil]); first | done | rfl | (simp only [List.length_drop, List.length_take]; rfl)) ?_; (with_reducible refine (laws_eqMatroid.calls k t14019 _ _ t14020 t14007 _ _ t14008 true _ ?side1 ?side2 ?side3 ?side4 A30.out).mono ?_); (case side1 => refine (Kd.R_reads' (e := 3) (base := w.heap.size) (ok := fun k_ => (((((True ∧ some k_ ≠ (.slice Ao15 t14001.length co15 : Value).ownBlock) ∧ some k_ ≠ (.slice Ao16 t14004.length co16 : Value).ownBlock) ∧ some k_ ≠ (.slice Ao20 t14008.length co20 : Value).ownBlock) ∧ some k_ ≠ (.slice Ao23 t14013.length co23 : Value).ownBlock) ∧ some k_ ≠ (.slice Ao24 t14016.length co24 : Value).ownBlock)) (n := t14020.length) (c := co29) ?_).2.2; exact (by (with_reducible repeat (first | apply Kd.R_alloc | apply Kd.R_drewN | apply Kd.R_drew)); exact (Kd.R_mono (Kd.R_far (p := ⟨gb14024, 1, none⟩) (Kd.R_far (p := ⟨gb14024, 0, none⟩) (Kd.R_types HO14022.out BK14024.out (by decide)) (fun _ hk => hk.2) (.int .i64 t14019)) (fun _ hk => hk.2) (.slice Ao29 t14020.length co29)) (fun _ h_ => h_.1)))); (case side2 => exact (Kd.R_reads' HO14022.out).2.1); (case side3 => refine (Kd.R_reads' (e := 3) (base := w.heap.size) (ok := fun k_ => (((((True ∧ some k_ ≠ (.slice Ao15 t14001.length co15 : Value).ownBlock) ∧ some k_ ≠ (.slice Ao16 t14004.length co16 : Value).ownBlock) ∧ some k_ ≠ (.slice Ao23 t14013.length co23 : Value).ownBlock) ∧ some k_ ≠ (.slice Ao24 t14016.length co24 : Value).ownBlock) ∧ some k_ ≠ (.slice Ao29 t14020.length co29 : Value).ownBlock)) (n := t14008.length) (c := co20) ?_).2.2; exact (by (with_reducible repeat (first | apply Kd.R_alloc | apply Kd.R_drewN | apply Kd.R_drew)); exact (Kd.R_mono (Kd.R_far (p := ⟨gb14024, 1, none⟩) (Kd.R_far (p := ⟨gb14024, 0, none⟩) (Kd.R_types HO14010.out BK14024.out (by decide)) (fun _ hk => hk.2) (.int .i64 t14019)) (fun _ hk => hk.2) (.slice Ao29 t14020.length co29)) (fun _ h_ => h_.1)))); (case side4 => exact (Kd.R_reads' HO14010.out).2.1); rintro e w35 ⟨rfl, hb⟩; refine ⟨_, rfl, ?_⟩; replace HO14003 := aQ (Kd.R_below (by (with_reducible repeat (first | apply Kd.R_alloc | apply Kd.R_drewN | apply Kd.R_drew)); exact (Kd.R_mono (Kd.R_far (p := ⟨gb14024, 1, none⟩) (Kd.R_far (p := ⟨gb14024, 0, none⟩) (Kd.R_types HO14003.out BK14024.out (by decide)) (fun _ hk => hk.2) (.int .i64 t14019)) (fun _ hk => hk.2) (.slice Ao29 t14020.length co29)) (fun _ h_ => h_.1))) hb); replace HO14006 := aQ (Kd.R_below (by (with_reducible repeat (first | apply Kd.R_alloc | apply Kd.R_drewN | apply Kd.R_drew)); exact (Kd.R_mono (Kd.R_far (p := ⟨gb14024, 1, none⟩) (Kd.R_far (p := ⟨gb14024, 0, none⟩) (Kd.R_types HO14006.out BK14024.out (by decide)) (fun _ hk => hk.2) (.int .i64 t14019)) (fun _ hk => hk.2) (.slice Ao29 t14020.length co29)) (fun _ h_ => h_.1))) hb); replace HO14010 := aQ (Kd.R_below (by (with_reducible repeat (first | apply Kd.R_alloc | apply Kd.R_drewN | apply Kd.R_drew)); exact (Kd.R_mono (Kd.R_far (p := ⟨gb14024, 1, none⟩) (Kd.R_far (p := ⟨gb14024, 0, none⟩) (Kd.R_types HO14010.out BK14024.out (by decide)) (fun _ hk => hk.2) (.int .i64 t14019)) (fun _ hk => hk.2) (.slice Ao29 t14020.length co29)) (fun _ h_ => h_.1))) hb); replace HO14015 := aQ (Kd.R_below (by (with_reducible repeat (first | apply Kd.R_alloc | apply Kd.R_drewN | apply Kd.R_drew)); exact (Kd.R_mono (Kd.R_far (p := ⟨gb14024, 1, none⟩) (Kd.R_far (p := ⟨gb14024, 0, none⟩) (Kd.R_types HO14015.out BK14024.out (by decide)) (fun _ hk => hk.2) (.int .i64 t14019)) (fun _ hk => hk.2) (.slice Ao29 t14020.length co29)) (fun _ h_ => h_.1))) hb); replace HO14018 := aQ (Kd.R_below (by (with_reducible repeat (first | apply Kd.R_alloc | apply Kd.R_drewN | apply Kd.R_drew)); exact (Kd.R_mono (Kd.R_far (p := ⟨gb14024, 1, none⟩) (Kd.R_far (p := ⟨gb14024, 0, none⟩) (Kd.R_types HO14018.out BK14024.out (by decide)) (fun _ hk => hk.2) (.int .i64 t14019)) (fun _ hk => hk.2) (.slice Ao29 t14020.length co29)) (fun _ h_ => h_.1))) hb); replace HO14022 := aQ (Kd.R_below (by (with_reducible repeat (first | apply Kd.R_alloc | apply Kd.R_drewN | apply Kd.R_drew)); exact (Kd.R_mono (Kd.R_far (p := ⟨gb14024, 1, none⟩) (Kd.R_far (p := ⟨gb14024, 0, none⟩) (Kd.R_types HO14022.out BK14024.out (by decide)) (fun _ hk => hk.2) (.int .i64 t14019)) (fun _ hk => hk.2) (.slice Ao29 t14020.length co29)) (fun _ h_ => h_.1))) hb); replace BK14012 := aQ (blk_below (g := gb14012) (o := .cells #[.int .i64 t14007, .slice Ao20 t14008.length co20] 26 (0, 0)) (by (with_reducible repeat (first | refine blk_drewN ?_ _ | refine blk_drew ?_ | refine blk_alloc ?_ _)); refine blk_far ?_ NB14012_14024.out _; (with_reducible repeat (first | refine blk_drewN ?_ _ | refine blk_drew ?_ | refine blk_alloc ?_ _)); refine blk_far ?_ NB14012_14024.out _; (with_reducible repeat (first | refine blk_drewN ?_ _ | refine blk_drew ?_ | refine blk_alloc ?_ _)); exact BK14012.out) hb); replace BK14024 := aQ (blk_below (g := gb14024) (o := .cells #[.int .i64 t14019, .slice Ao29 t14020.length co29] 26 (0, 0)) (by (with_reducible repeat (first | refine blk_drewN ?_ _ | refine blk_drew ?_ | refine blk_alloc ?_ _)); refine blk_put (cs := #[.int .i64 t14019, .slice none 0 0]) ?_ 1 _ rfl; (with_reducible repeat (first | refine blk_drewN ?_ _ | refine blk_drew ?_ | refine blk_alloc ?_ _)); refine blk_put (cs := #[.int .i64 0, .slice none 0 0]) ?_ 0 _ rfl; (with_reducible repeat (first | refine blk_drewN ?_ _ | refine blk_drew ?_ | refine blk_alloc ?_ _)); exact BK14024.out) hb); replace HB := aQ (below_step (by repeat (first | (with_reducible first | exact HB.out | apply below_alloc | apply pw_below_drewN | apply below_drew1 | refine below_set ?_ GE14012.out | refine below_set ?_ GE14024.out) | exact HB.out)) hb); (try clear hb); (try clear hb2); (try clear hk); (try clear hi)))
     go_meet
     case rel => exact ⟨_, ((t14023 != t14011)), (by first | rfl | (simp; done) | (simp [*]; done)), H', ⟨by first | omega | exact Nat.le_refl _⟩, ⟨by (with_reducible repeat (first | apply Kd.R_alloc | apply Kd.R_drewN | apply Kd.R_drew)); exact Kd.R_mono HO14015.out (fun _ hk => ⟨hk.1.2, ⟨hk.1.1.2, hk.2⟩⟩)⟩, ⟨by (with_reducible repeat (first | apply Kd.R_alloc | apply Kd.R_drewN | apply Kd.R_drew)); exact Kd.R_mono HO14018.out (fun _ hk => ⟨hk.1.2, ⟨hk.1.1.2, hk.2⟩⟩)⟩, ⟨by (with_reducible repeat (first | apply Kd.R_alloc | apply Kd.R_drewN | apply Kd.R_drew)); exact Kd.R_mono HO14010.out (fun _ hk => ⟨hk.1.1.2, ⟨hk.1.2, hk.2⟩⟩)⟩, ⟨by (with_reducible repeat (first | apply Kd.R_alloc | apply Kd.R_drewN | apply Kd.R_drew)); exact Kd.R_mono HO14022.out (fun _ hk => ⟨hk.1.2, ⟨hk.2, hk.1.1.2⟩⟩)⟩, ⟨by (with_reducible repeat (first | refine blk_drewN ?_ _ | refine blk_drew ?_ | refine blk_alloc ?_ _)); exact BK14012.out⟩, ⟨by (with_reducible repeat (first | refine blk_drewN ?_ _ | refine blk_drew ?_ | refine blk_alloc ?_ _)); exact BK14024.out⟩, ⟨by repeat (first | (with_reducible first | exact HB.out | apply below_alloc | apply pw_below_drewN | apply below_drew1 | refine below_set ?_ GE14012.out | refine below_set ?_ GE14024.out) | exact HB.out)⟩⟩
    ·replace c31 := Bool.eq_false_iff.mpr c31
     subst c31
     have H1 : (laws_FnExactPartitionMatroid.j0 k a0 l1 l2 t14011 t14013 t14016 t14023 true t14007 t14008 t14019 t14020) = some true := by rw [if_neg (show ¬ (false = true) by decide)] at H; exact H
     clear H
     have H := H1
     clear H1
     have H' := aQ H
     clear H
     have hnb36 := NB14024_14012.out
     have hnc36 := NB14012_14024.out
     have hcz37_0 : w26.cell? ⟨gb14024, 0, none⟩ = some (.int .i64 0) := (blk_cell BK14024.out 0).trans rfl
     have hcz37_1 : w26.cell? ⟨gb14024, 1, none⟩ = some (.slice none 0 0) := (blk_cell BK14024.out 1).trans rfl
     have hfz37_0 := blk_frozen BK14024.out 0
     have hfz37_1 := blk_frozen BK14024.out 1
     have hcz38_0 : w26.cell? ⟨gb14012, 0, none⟩ = some (.int .i64 t14007) := (blk_cell BK14012.out 0).trans rfl
     have hcz38_1 : w26.cell? ⟨gb14012, 1, none⟩ = some (.slice Ao20 t14008.length co20) := (blk_cell BK14012.out 1).trans rfl
     have hfz38_0 := blk_frozen BK14012.out 0
     have hfz38_1 := blk_frozen BK14012.out 1
     go_wp2_with (first | ((with_reducible refine gate_callee (f := 20) rfl ?_); refine goesL_ (some 46) rfl rfl Try.func20 (by kernel_rfl) rfl #[.agg #[.int .i64 t14019, .slice Ao29 t14020.length co29], .agg #[.int .i64 t14007, .slice Ao20 t14008.length co20]] rfl (by (try simp only [List.map_toArray, List.map_cons, List.map_nil]); first | done | rfl | (simp only [List.length_drop, List.length_take]; rfl)) ?_; (with_reducible refine (laws_eqMatroid.calls k t14019 _ _ t14020 t14007 _ _ t14008 false _ ?side1 ?side2 ?side3 ?side4 A30.out).mono ?_); (case side1 => refine (Kd.R_reads' (e := 3) (base := w.heap.size) (ok := fun k_ => (((((True ∧ some k_ ≠ (.slice Ao15 t14001.length co15 : Value).ownBlock) ∧ some k_ ≠ (.slice Ao16 t14004.length co16 : Value).ownBlock) ∧ some k_ ≠ (.slice Ao20 t14008.length co20 : Value).ownBlock) ∧ some k_ ≠ (.slice Ao23 t14013.length co23 : Value).ownBlock) ∧ some k_ ≠ (.slice Ao24 t14016.length co24 : Value).ownBlock)) (n := t14020.length) (c := co29) ?_).2.2; exact (by (with_reducible repeat (first | apply Kd.R_alloc | apply Kd.R_drewN | apply Kd.R_drew)); exact (Kd.R_mono (Kd.R_far (p := ⟨gb14024, 1, none⟩) (Kd.R_far (p := ⟨gb14024, 0, none⟩) (Kd.R_types HO14022.out BK14024.out (by decide)) (fun _ hk => hk.2) (.int .i64 t14019)) (fun _ hk => hk.2) (.slice Ao29 t14020.length co29)) (fun _ h_ => h_.1)))); (case side2 => exact (Kd.R_reads' HO14022.out).2.1); (case side3 => refine (Kd.R_reads' (e := 3) (base := w.heap.size) (ok := fun k_ => (((((True ∧ some k_ ≠ (.slice Ao15 t14001.length co15 : Value).ownBlock) ∧ some k_ ≠ (.slice Ao16 t14004.length co16 : Value).ownBlock) ∧ some k_ ≠ (.slice Ao23 t14013.length co23 : Value).ownBlock) ∧ some k_ ≠ (.slice Ao24 t14016.length co24 : Value).ownBlock) ∧ some k_ ≠ (.slice Ao29 t14020.length co29 : Value).ownBlock)) (n := t14008.length) (c := co20) ?_).2.2; exact (by (with_reducible repeat (first | apply Kd.R_alloc | apply Kd.R_drewN | apply Kd.R_drew)); exact (Kd.R_mono (Kd.R_far (p := ⟨gb14024, 1, none⟩) (Kd.R_far (p := ⟨gb14024, 0, none⟩) (Kd.R_types HO14010.out BK14024.out (by decide)) (fun _ hk => hk.2) (.int .i64 t14019)) (fun _ hk => hk.2) (.slice Ao29 t14020.length co29)) (fun _ h_ => h_.1)))); (case side4 => exact (Kd.R_reads' HO14010.out).2.1); rintro e w39 ⟨rfl, hb⟩; refine ⟨_, rfl, ?_⟩; replace HO14003 := aQ (Kd.R_below (by (with_reducible repeat (first | apply Kd.R_alloc | apply Kd.R_drewN | apply Kd.R_drew)); exact (Kd.R_mono (Kd.R_far (p := ⟨gb14024, 1, none⟩) (Kd.R_far (p := ⟨gb14024, 0, none⟩) (Kd.R_types HO14003.out BK14024.out (by decide)) (fun _ hk => hk.2) (.int .i64 t14019)) (fun _ hk => hk.2) (.slice Ao29 t14020.length co29)) (fun _ h_ => h_.1))) hb); replace HO14006 := aQ (Kd.R_below (by (with_reducible repeat (first | apply Kd.R_alloc | apply Kd.R_drewN | apply Kd.R_drew)); exact (Kd.R_mono (Kd.R_far (p := ⟨gb14024, 1, none⟩) (Kd.R_far (p := ⟨gb14024, 0, none⟩) (Kd.R_types HO14006.out BK14024.out (by decide)) (fun _ hk => hk.2) (.int .i64 t14019)) (fun _ hk => hk.2) (.slice Ao29 t14020.length co29)) (fun _ h_ => h_.1))) hb); replace HO14010 := aQ (Kd.R_below (by (with_reducible repeat (first | apply Kd.R_alloc | apply Kd.R_drewN | apply Kd.R_drew)); exact (Kd.R_mono (Kd.R_far (p := ⟨gb14024, 1, none⟩) (Kd.R_far (p := ⟨gb14024, 0, none⟩) (Kd.R_types HO14010.out BK14024.out (by decide)) (fun _ hk => hk.2) (.int .i64 t14019)) (fun _ hk => hk.2) (.slice Ao29 t14020.length co29)) (fun _ h_ => h_.1))) hb); replace HO14015 := aQ (Kd.R_below (by (with_reducible repeat (first | apply Kd.R_alloc | apply Kd.R_drewN | apply Kd.R_drew)); exact (Kd.R_mono (Kd.R_far (p := ⟨gb14024, 1, none⟩) (Kd.R_far (p := ⟨gb14024, 0, none⟩) (Kd.R_types HO14015.out BK14024.out (by decide)) (fun _ hk => hk.2) (.int .i64 t14019)) (fun _ hk => hk.2) (.slice Ao29 t14020.length co29)) (fun _ h_ => h_.1))) hb); replace HO14018 := aQ (Kd.R_below (by (with_reducible repeat (first | apply Kd.R_alloc | apply Kd.R_drewN | apply Kd.R_drew)); exact (Kd.R_mono (Kd.R_far (p := ⟨gb14024, 1, none⟩) (Kd.R_far (p := ⟨gb14024, 0, none⟩) (Kd.R_types HO14018.out BK14024.out (by decide)) (fun _ hk => hk.2) (.int .i64 t14019)) (fun _ hk => hk.2) (.slice Ao29 t14020.length co29)) (fun _ h_ => h_.1))) hb); replace HO14022 := aQ (Kd.R_below (by (with_reducible repeat (first | apply Kd.R_alloc | apply Kd.R_drewN | apply Kd.R_drew)); exact (Kd.R_mono (Kd.R_far (p := ⟨gb14024, 1, none⟩) (Kd.R_far (p := ⟨gb14024, 0, none⟩) (Kd.R_types HO14022.out BK14024.out (by decide)) (fun _ hk => hk.2) (.int .i64 t14019)) (fun _ hk => hk.2) (.slice Ao29 t14020.length co29)) (fun _ h_ => h_.1))) hb); replace BK14012 := aQ (blk_below (g := gb14012) (o := .cells #[.int .i64 t14007, .slice Ao20 t14008.length co20] 26 (0, 0)) (by (with_reducible repeat (first | refine blk_drewN ?_ _ | refine blk_drew ?_ | refine blk_alloc ?_ _)); refine blk_far ?_ NB14012_14024.out _; (with_reducible repeat (first | refine blk_drewN ?_ _ | refine blk_drew ?_ | refine blk_alloc ?_ _)); refine blk_far ?_ NB14012_14024.out _; (with_reducible repeat (first | refine blk_drewN ?_ _ | refine blk_drew ?_ | refine blk_alloc ?_ _)); exact BK14012.out) hb); replace BK14024 := aQ (blk_below (g := gb14024) (o := .cells #[.int .i64 t14019, .slice Ao29 t14020.length co29] 26 (0, 0)) (by (with_reducible repeat (first | refine blk_drewN ?_ _ | refine blk_drew ?_ | refine blk_alloc ?_ _)); refine blk_put (cs := #[.int .i64 t14019, .slice none 0 0]) ?_ 1 _ rfl; (with_reducible repeat (first | refine blk_drewN ?_ _ | refine blk_drew ?_ | refine blk_alloc ?_ _)); refine blk_put (cs := #[.int .i64 0, .slice none 0 0]) ?_ 0 _ rfl; (with_reducible repeat (first | refine blk_drewN ?_ _ | refine blk_drew ?_ | refine blk_alloc ?_ _)); exact BK14024.out) hb); replace HB := aQ (below_step (by repeat (first | (with_reducible first | exact HB.out | apply below_alloc | apply pw_below_drewN | apply below_drew1 | refine below_set ?_ GE14012.out | refine below_set ?_ GE14024.out) | exact HB.out)) hb); (try clear hb); (try clear hb2); (try clear hk); (try clear hi)))
     go_meet
     case rel => exact ⟨_, (true), (by first | rfl | (simp; done) | (simp [*]; done)), H', ⟨by first | omega | exact Nat.le_refl _⟩, ⟨by (with_reducible repeat (first | apply Kd.R_alloc | apply Kd.R_drewN | apply Kd.R_drew)); exact Kd.R_mono HO14015.out (fun _ hk => ⟨hk.1.2, ⟨hk.1.1.2, hk.2⟩⟩)⟩, ⟨by (with_reducible repeat (first | apply Kd.R_alloc | apply Kd.R_drewN | apply Kd.R_drew)); exact Kd.R_mono HO14018.out (fun _ hk => ⟨hk.1.2, ⟨hk.1.1.2, hk.2⟩⟩)⟩, ⟨by (with_reducible repeat (first | apply Kd.R_alloc | apply Kd.R_drewN | apply Kd.R_drew)); exact Kd.R_mono HO14010.out (fun _ hk => ⟨hk.1.1.2, ⟨hk.1.2, hk.2⟩⟩)⟩, ⟨by (with_reducible repeat (first | apply Kd.R_alloc | apply Kd.R_drewN | apply Kd.R_drew)); exact Kd.R_mono HO14022.out (fun _ hk => ⟨hk.1.2, ⟨hk.2, hk.1.1.2⟩⟩)⟩, ⟨by (with_reducible repeat (first | refine blk_drewN ?_ _ | refine blk_drew ?_ | refine blk_alloc ?_ _)); exact BK14012.out⟩, ⟨by (with_reducible repeat (first | refine blk_drewN ?_ _ | refine blk_drew ?_ | refine blk_alloc ?_ _)); exact BK14024.out⟩, ⟨by repeat (first | (with_reducible first | exact HB.out | apply below_alloc | apply pw_below_drewN | apply below_drew1 | refine below_set ?_ GE14012.out | refine below_set ?_ GE14024.out) | exact HB.out)⟩⟩
   case rest =>
    clear HC12
    try clear c1
    try clear c2
    try clear p2
    try clear c3
    try clear c4
    try clear c4b0
    try clear c4b1
    try clear c5
    try clear c5b0
    try clear c5b1
    try clear c13
    try clear c20
    try clear c27
    try clear c31
    try clear c32
    try clear c36
    try clear hcz19_0
    try clear hcz19_1
    try clear hcz28_0
    try clear hcz28_1
    try clear hcz33_0
    try clear hcz33_1
    try clear hcz34_0
    try clear hcz34_1
    try clear hcz37_0
    try clear hcz37_1
    try clear hcz38_0
    try clear hcz38_1
    try clear hfz19_0
    try clear hfz19_1
    try clear hfz28_0
    try clear hfz28_1
    try clear hfz33_0
    try clear hfz33_1
    try clear hfz34_0
    try clear hfz34_1
    try clear hfz37_0
    try clear hfz37_1
    try clear hfz38_0
    try clear hfz38_1
    obtain ⟨kq, x52_11, rfl, HA, HJ11, HO_9, HO_10, HO_14013001, HO_14025001, BK14012, BK14024, HB⟩ := hcut
    cases kq with
    | zero => exact absurd HA.out (by simp [laws_FnExactPartitionMatroid.j0])
    | succ kj11 =>
     have H := HA.out
     clear HA
     simp only [laws_FnExactPartitionMatroid.j0] at H
     by_cases c40 : x52_11 = true
     ·subst c40
      have H1 : (some false) = some true := by rw [if_pos rfl] at H; exact H
      clear H
      have H := H1
      clear H1
      exact absurd (Option.some.inj H) (by decide)
     ·replace c40 := Bool.eq_false_iff.mpr c40
      subst c40
      have H1 : ((laws_toIntS.f kj11 l1).bind fun t14026 => ((laws_eqIntS.f kj11 t14013 t14026).bind fun t14029 => (if t14029 = true then ((laws_toIntS.f kj11 l2).bind fun t14030 => ((laws_eqIntS.f kj11 t14016 t14030).bind fun t14033 => (if t14033 = true then ((laws_markIntS.f kj11 t14013 1).bind fun bt14034 => ((laws_markIntS.f kj11 t14016 bt14034.1).bind fun bt14036 => (if bt14036.1 < 0 then (laws_FnExactPartitionMatroid.j1 kj11 a0 l1 l2 t14011 true t14007 t14008 t14019 t14020) else ((laws_eqMatroid.f kj11 t14019 t14020 t14007 t14008).bind fun t14038 => (if t14038 = true then (laws_FnExactPartitionMatroid.j1 kj11 a0 l1 l2 t14011 (t14023 != t14011) t14007 t14008 t14019 t14020) else (laws_FnExactPartitionMatroid.j1 kj11 a0 l1 l2 t14011 true t14007 t14008 t14019 t14020)))))) else (some false)))) else (some false)))) = some true := by rw [if_neg (show ¬ (false = true) by decide)] at H; exact H
      clear H
      have H := H1
      clear H1
      replace H := Option.bind_eq_some_iff.mp H
      obtain ⟨t14026, A410, H⟩ := H
      replace H : ((laws_eqIntS.f kj11 t14013 t14026).bind fun t14029 => (if t14029 = true then ((laws_toIntS.f kj11 l2).bind fun t14030 => ((laws_eqIntS.f kj11 t14016 t14030).bind fun t14033 => (if t14033 = true then ((laws_markIntS.f kj11 t14013 1).bind fun bt14034 => ((laws_markIntS.f kj11 t14016 bt14034.1).bind fun bt14036 => (if bt14036.1 < 0 then (laws_FnExactPartitionMatroid.j1 kj11 a0 l1 l2 t14011 true t14007 t14008 t14019 t14020) else ((laws_eqMatroid.f kj11 t14019 t14020 t14007 t14008).bind fun t14038 => (if t14038 = true then (laws_FnExactPartitionMatroid.j1 kj11 a0 l1 l2 t14011 (t14023 != t14011) t14007 t14008 t14019 t14020) else (laws_FnExactPartitionMatroid.j1 kj11 a0 l1 l2 t14011 true t14007 t14008 t14019 t14020)))))) else (some false)))) else (some false))) = some true := H
      have A41 := aQ A410
      clear A410
      replace H := Option.bind_eq_some_iff.mp H
      obtain ⟨t14029, A420, H⟩ := H
      replace H : (if t14029 = true then ((laws_toIntS.f kj11 l2).bind fun t14030 => ((laws_eqIntS.f kj11 t14016 t14030).bind fun t14033 => (if t14033 = true then ((laws_markIntS.f kj11 t14013 1).bind fun bt14034 => ((laws_markIntS.f kj11 t14016 bt14034.1).bind fun bt14036 => (if bt14036.1 < 0 then (laws_FnExactPartitionMatroid.j1 kj11 a0 l1 l2 t14011 true t14007 t14008 t14019 t14020) else ((laws_eqMatroid.f kj11 t14019 t14020 t14007 t14008).bind fun t14038 => (if t14038 = true then (laws_FnExactPartitionMatroid.j1 kj11 a0 l1 l2 t14011 (t14023 != t14011) t14007 t14008 t14019 t14020) else (laws_FnExactPartitionMatroid.j1 kj11 a0 l1 l2 t14011 true t14007 t14008 t14019 t14020)))))) else (some false)))) else (some false)) = some true := H
      have A42 := aQ A420
      clear A420
      by_cases c43 : t14029 = true
      ·subst c43
       have H1 : ((laws_toIntS.f kj11 l2).bind fun t14030 => ((laws_eqIntS.f kj11 t14016 t14030).bind fun t14033 => (if t14033 = true then ((laws_markIntS.f kj11 t14013 1).bind fun bt14034 => ((laws_markIntS.f kj11 t14016 bt14034.1).bind fun bt14036 => (if bt14036.1 < 0 then (laws_FnExactPartitionMatroid.j1 kj11 a0 l1 l2 t14011 true t14007 t14008 t14019 t14020) else ((laws_eqMatroid.f kj11 t14019 t14020 t14007 t14008).bind fun t14038 => (if t14038 = true then (laws_FnExactPartitionMatroid.j1 kj11 a0 l1 l2 t14011 (t14023 != t14011) t14007 t14008 t14019 t14020) else (laws_FnExactPartitionMatroid.j1 kj11 a0 l1 l2 t14011 true t14007 t14008 t14019 t14020)))))) else (some false)))) = some true := by rw [if_pos rfl] at H; exact H
       clear H
       have H := H1
       clear H1
       replace H := Option.bind_eq_some_iff.mp H
       obtain ⟨t14030, A440, H⟩ := H
       replace H : ((laws_eqIntS.f kj11 t14016 t14030).bind fun t14033 => (if t14033 = true then ((laws_markIntS.f kj11 t14013 1).bind fun bt14034 => ((laws_markIntS.f kj11 t14016 bt14034.1).bind fun bt14036 => (if bt14036.1 < 0 then (laws_FnExactPartitionMatroid.j1 kj11 a0 l1 l2 t14011 true t14007 t14008 t14019 t14020) else ((laws_eqMatroid.f kj11 t14019 t14020 t14007 t14008).bind fun t14038 => (if t14038 = true then (laws_FnExactPartitionMatroid.j1 kj11 a0 l1 l2 t14011 (t14023 != t14011) t14007 t14008 t14019 t14020) else (laws_FnExactPartitionMatroid.j1 kj11 a0 l1 l2 t14011 true t14007 t14008 t14019 t14020)))))) else (some false))) = some true := H
       have A44 := aQ A440
       clear A440
       replace H := Option.bind_eq_some_iff.mp H
       obtain ⟨t14033, A450, H⟩ := H
       replace H : (if t14033 = true then ((laws_markIntS.f kj11 t14013 1).bind fun bt14034 => ((laws_markIntS.f kj11 t14016 bt14034.1).bind fun bt14036 => (if bt14036.1 < 0 then (laws_FnExactPartitionMatroid.j1 kj11 a0 l1 l2 t14011 true t14007 t14008 t14019 t14020) else ((laws_eqMatroid.f kj11 t14019 t14020 t14007 t14008).bind fun t14038 => (if t14038 = true then (laws_FnExactPartitionMatroid.j1 kj11 a0 l1 l2 t14011 (t14023 != t14011) t14007 t14008 t14019 t14020) else (laws_FnExactPartitionMatroid.j1 kj11 a0 l1 l2 t14011 true t14007 t14008 t14019 t14020)))))) else (some false)) = some true := H
       have A45 := aQ A450
       clear A450
       by_cases c46 : t14033 = true
       ·subst c46
        have H1 : ((laws_markIntS.f kj11 t14013 1).bind fun bt14034 => ((laws_markIntS.f kj11 t14016 bt14034.1).bind fun bt14036 => (if bt14036.1 < 0 then (laws_FnExactPartitionMatroid.j1 kj11 a0 l1 l2 t14011 true t14007 t14008 t14019 t14020) else ((laws_eqMatroid.f kj11 t14019 t14020 t14007 t14008).bind fun t14038 => (if t14038 = true then (laws_FnExactPartitionMatroid.j1 kj11 a0 l1 l2 t14011 (t14023 != t14011) t14007 t14008 t14019 t14020) else (laws_FnExactPartitionMatroid.j1 kj11 a0 l1 l2 t14011 true t14007 t14008 t14019 t14020)))))) = some true := by rw [if_pos rfl] at H; exact H
        clear H
        have H := H1
        clear H1
        replace H := Option.bind_eq_some_iff.mp H
        obtain ⟨⟨t14034, t14035⟩, A470, H⟩ := H
        replace H : ((laws_markIntS.f kj11 t14016 t14034).bind fun bt14036 => (if bt14036.1 < 0 then (laws_FnExactPartitionMatroid.j1 kj11 a0 l1 l2 t14011 true t14007 t14008 t14019 t14020) else ((laws_eqMatroid.f kj11 t14019 t14020 t14007 t14008).bind fun t14038 => (if t14038 = true then (laws_FnExactPartitionMatroid.j1 kj11 a0 l1 l2 t14011 (t14023 != t14011) t14007 t14008 t14019 t14020) else (laws_FnExactPartitionMatroid.j1 kj11 a0 l1 l2 t14011 true t14007 t14008 t14019 t14020))))) = some true := H
        have A47 := aQ A470
        clear A470
        replace H := Option.bind_eq_some_iff.mp H
        obtain ⟨⟨t14036, t14037⟩, A480, H⟩ := H
        replace H : (if t14036 < 0 then (laws_FnExactPartitionMatroid.j1 kj11 a0 l1 l2 t14011 true t14007 t14008 t14019 t14020) else ((laws_eqMatroid.f kj11 t14019 t14020 t14007 t14008).bind fun t14038 => (if t14038 = true then (laws_FnExactPartitionMatroid.j1 kj11 a0 l1 l2 t14011 (t14023 != t14011) t14007 t14008 t14019 t14020) else (laws_FnExactPartitionMatroid.j1 kj11 a0 l1 l2 t14011 true t14007 t14008 t14019 t14020)))) = some true := H
        have A48 := aQ A480
        clear A480
        have HC49 := aQ H
        clear H
        go_upto_region 18 with (first | ((with_reducible refine gate_callee (f := 31) rfl ?_); refine goesL_ (some 55) rfl rfl Try.func31 (by kernel_rfl) rfl #[.slice A1 l1.length c1] rfl (by (try simp only [List.map_toArray, List.map_cons, List.map_nil]); first | done | rfl | (simp only [List.length_drop, List.length_take]; rfl)) ?_; (with_reducible refine (laws_toIntS.calls kj11 _ _ l1 t14026 _ ?side1 ?side2 A41.out).mono ?_); (case side1 => repeat (first | exact (Kd.C_below HR1.out HB.out) | (with_reducible refine Kd.C_alloc ?_ _) | (with_reducible refine Kd.C_drewN ?_ _) | (with_reducible refine Kd.C_drew ?_))); (case side2 => exact HC1.out); rintro e w50 ⟨v14027, rfl, ho0, hb⟩; refine ⟨_, rfl, ?_⟩; have HO14028 := aQ (Kd.R_lower (Kd.R_new' (Kd.R_new' (Kd.R_new' (Kd.R_new' ho0 (Kd.R_lt (by (with_reducible repeat (first | apply Kd.R_alloc | apply Kd.R_drewN | apply Kd.R_drew)); exact HO_9.out))) (Kd.R_lt (by (with_reducible repeat (first | apply Kd.R_alloc | apply Kd.R_drewN | apply Kd.R_drew)); exact HO_10.out))) (Kd.R_lt (by (with_reducible repeat (first | apply Kd.R_alloc | apply Kd.R_drewN | apply Kd.R_drew)); exact HO_14013001.out))) (Kd.R_lt (by (with_reducible repeat (first | apply Kd.R_alloc | apply Kd.R_drewN | apply Kd.R_drew)); exact HO_14025001.out))) (below_size (by repeat (first | (with_reducible first | exact HB.out | apply below_alloc | apply pw_below_drewN | apply below_drew1 | refine below_set ?_ GE14012.out | refine below_set ?_ GE14024.out) | exact HB.out)))); replace HO_9 := aQ (Kd.R_elder' (by (with_reducible repeat (first | apply Kd.R_alloc | apply Kd.R_drewN | apply Kd.R_drew)); exact HO_9.out) (Kd.R_base ho0) hb); replace HO_10 := aQ (Kd.R_elder' (by (with_reducible repeat (first | apply Kd.R_alloc | apply Kd.R_drewN | apply Kd.R_drew)); exact HO_10.out) (Kd.R_base ho0) hb); replace HO_14013001 := aQ (Kd.R_elder' (by (with_reducible repeat (first | apply Kd.R_alloc | apply Kd.R_drewN | apply Kd.R_drew)); exact HO_14013001.out) (Kd.R_base ho0) hb); replace HO_14025001 := aQ (Kd.R_elder' (by (with_reducible repeat (first | apply Kd.R_alloc | apply Kd.R_drewN | apply Kd.R_drew)); exact HO_14025001.out) (Kd.R_base ho0) hb); replace BK14012 := aQ (blk_below (g := gb14012) (o := .cells #[.int .i64 t14007, .slice Ao20 t14008.length co20] 26 (0, 0)) (by (with_reducible repeat (first | refine blk_drewN ?_ _ | refine blk_drew ?_ | refine blk_alloc ?_ _)); exact BK14012.out) hb); replace BK14024 := aQ (blk_below (g := gb14024) (o := .cells #[.int .i64 t14019, .slice Ao29 t14020.length co29] 26 (0, 0)) (by (with_reducible repeat (first | refine blk_drewN ?_ _ | refine blk_drew ?_ | refine blk_alloc ?_ _)); exact BK14024.out) hb); replace HB := aQ (below_step (by repeat (first | (with_reducible first | exact HB.out | apply below_alloc | apply pw_below_drewN | apply below_drew1 | refine below_set ?_ GE14012.out | refine below_set ?_ GE14024.out) | exact HB.out)) hb); (try clear hb); (try clear hb2); (try clear hk); (try clear hi); (try clear ho0); obtain ⟨Ao51, co51, eo51⟩ := Kd.R_slice HO14028.out; subst eo51) | ((with_reducible refine gate_callee (f := 25) rfl ?_); refine goesL_ (some 56) rfl rfl Try.func25 (by kernel_rfl) rfl #[.slice Ao23 t14013.length co23, .slice Ao51 t14026.length co51] rfl (by (try simp only [List.map_toArray, List.map_cons, List.map_nil]); first | done | rfl | (simp only [List.length_drop, List.length_take]; rfl)) ?_; (with_reducible refine (laws_eqIntS.calls kj11 _ _ t14013 _ _ t14026 true _ ?side1 ?side2 ?side3 ?side4 A42.out).mono ?_); (case side1 => repeat (first | exact (Kd.R_reads' HO_9.out).2.2 | (with_reducible refine Kd.C_alloc ?_ _) | (with_reducible refine Kd.C_drewN ?_ _) | (with_reducible refine Kd.C_drew ?_))); (case side2 => exact (Kd.R_reads' HO_9.out).2.1); (case side3 => repeat (first | exact (Kd.R_reads' HO14028.out).2.2 | (with_reducible refine Kd.C_alloc ?_ _) | (with_reducible refine Kd.C_drewN ?_ _) | (with_reducible refine Kd.C_drew ?_))); (case side4 => exact (Kd.R_reads' HO14028.out).2.1); rintro e w' ⟨rfl, ⟨nd, rfl⟩⟩; refine ⟨_, rfl, ?_⟩) | ((with_reducible refine gate_callee (f := 31) rfl ?_); refine goesL_ (some 60) rfl rfl Try.func31 (by kernel_rfl) rfl #[.slice A2 l2.length c2] rfl (by (try simp only [List.map_toArray, List.map_cons, List.map_nil]); first | done | rfl | (simp only [List.length_drop, List.length_take]; rfl)) ?_; (with_reducible refine (laws_toIntS.calls kj11 _ _ l2 t14030 _ ?side1 ?side2 A44.out).mono ?_); (case side1 => repeat (first | exact (Kd.C_below HR2.out (by repeat (first | (with_reducible first | exact HB.out | apply below_alloc | apply pw_below_drewN | apply below_drew1 | refine below_set ?_ GE14012.out | refine below_set ?_ GE14024.out) | exact HB.out))) | (with_reducible refine Kd.C_alloc ?_ _) | (with_reducible refine Kd.C_drewN ?_ _) | (with_reducible refine Kd.C_drew ?_))); (case side2 => exact HC2.out); rintro e w52 ⟨v14031, rfl, ho0, hb⟩; refine ⟨_, rfl, ?_⟩; have HO14032 := aQ (Kd.R_lower (Kd.R_new' (Kd.R_new' (Kd.R_new' (Kd.R_new' (Kd.R_new' ho0 (Kd.R_lt (by (with_reducible repeat (first | apply Kd.R_alloc | apply Kd.R_drewN | apply Kd.R_drew)); exact HO_9.out))) (Kd.R_lt (by (with_reducible repeat (first | apply Kd.R_alloc | apply Kd.R_drewN | apply Kd.R_drew)); exact HO_10.out))) (Kd.R_lt (by (with_reducible repeat (first | apply Kd.R_alloc | apply Kd.R_drewN | apply Kd.R_drew)); exact HO_14013001.out))) (Kd.R_lt (by (with_reducible repeat (first | apply Kd.R_alloc | apply Kd.R_drewN | apply Kd.R_drew)); exact HO_14025001.out))) (Kd.R_lt (by (with_reducible repeat (first | apply Kd.R_alloc | apply Kd.R_drewN | apply Kd.R_drew)); exact HO14028.out))) (below_size (by repeat (first | (with_reducible first | exact HB.out | apply below_alloc | apply pw_below_drewN | apply below_drew1 | refine below_set ?_ GE14012.out | refine below_set ?_ GE14024.out) | exact HB.out)))); replace HO_9 := aQ (Kd.R_elder' (by (with_reducible repeat (first | apply Kd.R_alloc | apply Kd.R_drewN | apply Kd.R_drew)); exact HO_9.out) (Kd.R_base ho0) hb); replace HO_10 := aQ (Kd.R_elder' (by (with_reducible repeat (first | apply Kd.R_alloc | apply Kd.R_drewN | apply Kd.R_drew)); exact HO_10.out) (Kd.R_base ho0) hb); replace HO_14013001 := aQ (Kd.R_elder' (by (with_reducible repeat (first | apply Kd.R_alloc | apply Kd.R_drewN | apply Kd.R_drew)); exact HO_14013001.out) (Kd.R_base ho0) hb); replace HO_14025001 := aQ (Kd.R_elder' (by (with_reducible repeat (first | apply Kd.R_alloc | apply Kd.R_drewN | apply Kd.R_drew)); exact HO_14025001.out) (Kd.R_base ho0) hb); replace HO14028 := aQ (Kd.R_elder' (by (with_reducible repeat (first | apply Kd.R_alloc | apply Kd.R_drewN | apply Kd.R_drew)); exact HO14028.out) (Kd.R_base ho0) hb); replace BK14012 := aQ (blk_below (g := gb14012) (o := .cells #[.int .i64 t14007, .slice Ao20 t14008.length co20] 26 (0, 0)) (by (with_reducible repeat (first | refine blk_drewN ?_ _ | refine blk_drew ?_ | refine blk_alloc ?_ _)); exact BK14012.out) hb); replace BK14024 := aQ (blk_below (g := gb14024) (o := .cells #[.int .i64 t14019, .slice Ao29 t14020.length co29] 26 (0, 0)) (by (with_reducible repeat (first | refine blk_drewN ?_ _ | refine blk_drew ?_ | refine blk_alloc ?_ _)); exact BK14024.out) hb); replace HB := aQ (below_step (by repeat (first | (with_reducible first | exact HB.out | apply below_alloc | apply pw_below_drewN | apply below_drew1 | refine below_set ?_ GE14012.out | refine below_set ?_ GE14024.out) | exact HB.out)) hb); (try clear hb); (try clear hb2); (try clear hk); (try clear hi); (try clear ho0); obtain ⟨Ao53, co53, eo53⟩ := Kd.R_slice HO14032.out; subst eo53) | ((with_reducible refine gate_callee (f := 25) rfl ?_); refine goesL_ (some 61) rfl rfl Try.func25 (by kernel_rfl) rfl #[.slice Ao24 t14016.length co24, .slice Ao53 t14030.length co53] rfl (by (try simp only [List.map_toArray, List.map_cons, List.map_nil]); first | done | rfl | (simp only [List.length_drop, List.length_take]; rfl)) ?_; (with_reducible refine (laws_eqIntS.calls kj11 _ _ t14016 _ _ t14030 true _ ?side1 ?side2 ?side3 ?side4 A45.out).mono ?_); (case side1 => repeat (first | exact (Kd.R_reads' HO_10.out).2.2 | (with_reducible refine Kd.C_alloc ?_ _) | (with_reducible refine Kd.C_drewN ?_ _) | (with_reducible refine Kd.C_drew ?_))); (case side2 => exact (Kd.R_reads' HO_10.out).2.1); (case side3 => repeat (first | exact (Kd.R_reads' HO14032.out).2.2 | (with_reducible refine Kd.C_alloc ?_ _) | (with_reducible refine Kd.C_drewN ?_ _) | (with_reducible refine Kd.C_drew ?_))); (case side4 => exact (Kd.R_reads' HO14032.out).2.1); rintro e w' ⟨rfl, ⟨nd, rfl⟩⟩; refine ⟨_, rfl, ?_⟩) | ((with_reducible refine gate_callee (f := 26) rfl ?_); refine goesL_ (some 65) rfl rfl Try.func26 (by kernel_rfl) rfl #[.slice Ao23 t14013.length co23, .int .i64 1] rfl (by (try simp only [List.map_toArray, List.map_cons, List.map_nil]); first | done | rfl | (simp only [List.length_drop, List.length_take]; rfl)) ?_; (with_reducible refine (laws_markIntS.calls kj11 (fun k_ => some k_ = (.slice Ao23 t14013.length co23 : Value).ownBlock) (.slice Ao23 t14013.length co23) t14013 1 t14034 t14035 w _ ?side1 ?side2 A47.out).mono ?_); (case side1 => repeat (first | (with_reducible first | exact HB.out | apply below_alloc | apply pw_below_drewN | apply below_drew1 | refine below_set ?_ GE14012.out | refine below_set ?_ GE14024.out) | exact HB.out)); (case side2 => exact Kd.R_tight rfl HO_9.out); rintro e w54 ⟨rfl, hy0, hb, hkp⟩; refine ⟨_, rfl, ?_⟩; replace HO_10 := aQ (Kd.R_mono (ok' := fun k_ => some k_ ≠ (.slice Ao23 t14013.length co23 : Value).ownBlock ∧ some k_ ≠ (.slice Ao20 t14008.length co20 : Value).ownBlock ∧ some k_ ≠ (.slice Ao29 t14020.length co29 : Value).ownBlock ∧ some k_ ≠ (.slice Ao51 t14026.length co51 : Value).ownBlock ∧ some k_ ≠ (.slice Ao53 t14030.length co53 : Value).ownBlock) (Kd.R_keptB (HO_10.out) hkp (fun k_ hk_ hs_ => (hk_.1.1.1) hs_)) (fun k_ hk_ => ⟨hk_.1.1.1.1, hk_.1.1.1.2.1, hk_.1.1.1.2.2, hk_.1.1.2, hk_.1.2⟩)); replace HO_14013001 := aQ (Kd.R_mono (ok' := fun k_ => some k_ ≠ (.slice Ao23 t14013.length co23 : Value).ownBlock ∧ some k_ ≠ (.slice Ao24 t14016.length co24 : Value).ownBlock ∧ some k_ ≠ (.slice Ao29 t14020.length co29 : Value).ownBlock ∧ some k_ ≠ (.slice Ao51 t14026.length co51 : Value).ownBlock ∧ some k_ ≠ (.slice Ao53 t14030.length co53 : Value).ownBlock) (Kd.R_keptB (HO_14013001.out) hkp (fun k_ hk_ hs_ => (hk_.1.1.1) hs_)) (fun k_ hk_ => ⟨hk_.1.1.1.1, hk_.1.1.1.2.1, hk_.1.1.1.2.2, hk_.1.1.2, hk_.1.2⟩)); replace HO_14025001 := aQ (Kd.R_mono (ok' := fun k_ => some k_ ≠ (.slice Ao23 t14013.length co23 : Value).ownBlock ∧ some k_ ≠ (.slice Ao24 t14016.length co24 : Value).ownBlock ∧ some k_ ≠ (.slice Ao20 t14008.length co20 : Value).ownBlock ∧ some k_ ≠ (.slice Ao51 t14026.length co51 : Value).ownBlock ∧ some k_ ≠ (.slice Ao53 t14030.length co53 : Value).ownBlock) (Kd.R_keptB (HO_14025001.out) hkp (fun k_ hk_ hs_ => (hk_.1.1.1) hs_)) (fun k_ hk_ => ⟨hk_.1.1.1.1, hk_.1.1.1.2.1, hk_.1.1.1.2.2, hk_.1.1.2, hk_.1.2⟩)); replace BK14012 := aQ (blk_kept (by (with_reducible repeat (first | refine blk_drewN ?_ _ | refine blk_drew ?_ | refine blk_alloc ?_ _)); exact BK14012.out) hkp (fun hs_ => (fun e_ => (Kd.R_ne HO_9.out BK14012.out (by decide)) e_) hs_)); replace BK14024 := aQ (blk_kept (by (with_reducible repeat (first | refine blk_drewN ?_ _ | refine blk_drew ?_ | refine blk_alloc ?_ _)); exact BK14024.out) hkp (fun hs_ => (fun e_ => (Kd.R_ne HO_9.out BK14024.out (by decide)) e_) hs_)); replace HO_9 := aQ (Kd.R_reok rfl hy0 (fun k_ e_ => HO_9.out.1 k_ e_)); replace HO14028 := aQ (Kd.R_mono (ok' := fun k_ => some k_ ≠ (.slice Ao23 t14013.length co23 : Value).ownBlock ∧ some k_ ≠ (.slice Ao24 t14016.length co24 : Value).ownBlock ∧ some k_ ≠ (.slice Ao20 t14008.length co20 : Value).ownBlock ∧ some k_ ≠ (.slice Ao29 t14020.length co29 : Value).ownBlock ∧ some k_ ≠ (.slice Ao53 t14030.length co53 : Value).ownBlock) (Kd.R_keptB (HO14028.out) hkp (fun k_ hk_ hs_ => (hk_.1.1.1.1.2) hs_)) (fun k_ hk_ => ⟨hk_.1.1.1.1.1.2, hk_.1.1.1.1.2, hk_.1.1.1.2, hk_.1.1.2, hk_.1.2⟩)); replace HO14032 := aQ (Kd.R_mono (ok' := fun k_ => some k_ ≠ (.slice Ao23 t14013.length co23 : Value).ownBlock ∧ some k_ ≠ (.slice Ao24 t14016.length co24 : Value).ownBlock ∧ some k_ ≠ (.slice Ao20 t14008.length co20 : Value).ownBlock ∧ some k_ ≠ (.slice Ao29 t14020.length co29 : Value).ownBlock ∧ some k_ ≠ (.slice Ao51 t14026.length co51 : Value).ownBlock) (Kd.R_keptB (HO14032.out) hkp (fun k_ hk_ hs_ => (hk_.1.1.1.1.2) hs_)) (fun k_ hk_ => ⟨hk_.1.1.1.1.1.2, hk_.1.1.1.1.2, hk_.1.1.1.2, hk_.1.1.2, hk_.1.2⟩)); replace HB := aQ (hb); (try clear hb); (try clear hkp); (try clear hy0)) | ((with_reducible refine gate_callee (f := 26) rfl ?_); refine goesL_ (some 68) rfl rfl Try.func26 (by kernel_rfl) rfl #[.slice Ao24 t14016.length co24, .int .i64 t14034] rfl (by (try simp only [List.map_toArray, List.map_cons, List.map_nil]); first | done | rfl | (simp only [List.length_drop, List.length_take]; rfl)) ?_; (with_reducible refine (laws_markIntS.calls kj11 (fun k_ => some k_ = (.slice Ao24 t14016.length co24 : Value).ownBlock) (.slice Ao24 t14016.length co24) t14016 t14034 t14036 t14037 w _ ?side1 ?side2 A48.out).mono ?_); (case side1 => repeat (first | (with_reducible first | exact HB.out | apply below_alloc | apply pw_below_drewN | apply below_drew1 | refine below_set ?_ GE14012.out | refine below_set ?_ GE14024.out) | exact HB.out)); (case side2 => exact Kd.R_tight rfl HO_10.out); rintro e w55 ⟨rfl, hy0, hb, hkp⟩; refine ⟨_, rfl, ?_⟩; replace HO_9 := aQ (Kd.R_mono (ok' := fun k_ => some k_ ≠ (.slice Ao24 t14016.length co24 : Value).ownBlock ∧ some k_ ≠ (.slice Ao20 t14008.length co20 : Value).ownBlock ∧ some k_ ≠ (.slice Ao29 t14020.length co29 : Value).ownBlock ∧ some k_ ≠ (.slice Ao51 t14026.length co51 : Value).ownBlock ∧ some k_ ≠ (.slice Ao53 t14030.length co53 : Value).ownBlock) (Kd.R_keptB (HO_9.out) hkp (fun k_ hk_ hs_ => (hk_.1.1.1) hs_)) (fun k_ hk_ => ⟨hk_.1.1.1.1, hk_.1.1.1.2.1, hk_.1.1.1.2.2, hk_.1.1.2, hk_.1.2⟩)); replace HO_14013001 := aQ (Kd.R_mono (ok' := fun k_ => some k_ ≠ (.slice Ao23 t14013.length co23 : Value).ownBlock ∧ some k_ ≠ (.slice Ao24 t14016.length co24 : Value).ownBlock ∧ some k_ ≠ (.slice Ao29 t14020.length co29 : Value).ownBlock ∧ some k_ ≠ (.slice Ao51 t14026.length co51 : Value).ownBlock ∧ some k_ ≠ (.slice Ao53 t14030.length co53 : Value).ownBlock) (Kd.R_keptB (HO_14013001.out) hkp (fun k_ hk_ hs_ => (hk_.2.1) hs_)) (fun k_ hk_ => ⟨hk_.1.1, hk_.1.2.1, hk_.1.2.2.1, hk_.1.2.2.2.1, hk_.1.2.2.2.2⟩)); replace HO_14025001 := aQ (Kd.R_mono (ok' := fun k_ => some k_ ≠ (.slice Ao23 t14013.length co23 : Value).ownBlock ∧ some k_ ≠ (.slice Ao24 t14016.length co24 : Value).ownBlock ∧ some k_ ≠ (.slice Ao20 t14008.length co20 : Value).ownBlock ∧ some k_ ≠ (.slice Ao51 t14026.length co51 : Value).ownBlock ∧ some k_ ≠ (.slice Ao53 t14030.length co53 : Value).ownBlock) (Kd.R_keptB (HO_14025001.out) hkp (fun k_ hk_ hs_ => (hk_.2.1) hs_)) (fun k_ hk_ => ⟨hk_.1.1, hk_.1.2.1, hk_.1.2.2.1, hk_.1.2.2.2.1, hk_.1.2.2.2.2⟩)); replace BK14012 := aQ (blk_kept (by (with_reducible repeat (first | refine blk_drewN ?_ _ | refine blk_drew ?_ | refine blk_alloc ?_ _)); exact BK14012.out) hkp (fun hs_ => (fun e_ => (Kd.R_ne HO_10.out BK14012.out (by decide)) e_) hs_)); replace BK14024 := aQ (blk_kept (by (with_reducible repeat (first | refine blk_drewN ?_ _ | refine blk_drew ?_ | refine blk_alloc ?_ _)); exact BK14024.out) hkp (fun hs_ => (fun e_ => (Kd.R_ne HO_10.out BK14024.out (by decide)) e_) hs_)); replace HO_10 := aQ (Kd.R_reok rfl hy0 (fun k_ e_ => HO_10.out.1 k_ e_)); replace HO14028 := aQ (Kd.R_mono (ok' := fun k_ => some k_ ≠ (.slice Ao23 t14013.length co23 : Value).ownBlock ∧ some k_ ≠ (.slice Ao24 t14016.length co24 : Value).ownBlock ∧ some k_ ≠ (.slice Ao20 t14008.length co20 : Value).ownBlock ∧ some k_ ≠ (.slice Ao29 t14020.length co29 : Value).ownBlock ∧ some k_ ≠ (.slice Ao53 t14030.length co53 : Value).ownBlock) (Kd.R_keptB (HO14028.out) hkp (fun k_ hk_ hs_ => (hk_.2.1) hs_)) (fun k_ hk_ => ⟨hk_.1.1, hk_.1.2.1, hk_.1.2.2.1, hk_.1.2.2.2.1, hk_.1.2.2.2.2⟩)); replace HO14032 := aQ (Kd.R_mono (ok' := fun k_ => some k_ ≠ (.slice Ao23 t14013.length co23 : Value).ownBlock ∧ some k_ ≠ (.slice Ao24 t14016.length co24 : Value).ownBlock ∧ some k_ ≠ (.slice Ao20 t14008.length co20 : Value).ownBlock ∧ some k_ ≠ (.slice Ao29 t14020.length co29 : Value).ownBlock ∧ some k_ ≠ (.slice Ao51 t14026.length co51 : Value).ownBlock) (Kd.R_keptB (HO14032.out) hkp (fun k_ hk_ hs_ => (hk_.2.1) hs_)) (fun k_ hk_ => ⟨hk_.1.1, hk_.1.2.1, hk_.1.2.2.1, hk_.1.2.2.2.1, hk_.1.2.2.2.2⟩)); replace HB := aQ (hb); (try clear hb); (try clear hkp); (try clear hy0)))
        (try simp only [Act.put, List.setIfInBounds_toArray, List.set_cons_zero, List.set_cons_succ])
        go_cut [81] (fun v81 wc => ∃ (kq : Nat) (x81_48 : Bool), v81 = .bool x81_48 ∧ Aside0 (laws_FnExactPartitionMatroid.j1 kq a0 l1 l2 t14011 x81_48 t14007 t14008 t14019 t14020 = some true) ∧ Aside0 (kq ≤ kj11) ∧ Aside0 (Kd.R (Kd.int .i64) 3 wc w.heap.size (fun k_ => some k_ ≠ ((.slice Ao29 t14020.length co29) : Value).ownBlock) (.slice Ao20 t14008.length co20) t14008) ∧ Aside0 (Kd.R (Kd.int .i64) 3 wc w.heap.size (fun k_ => some k_ ≠ ((.slice Ao20 t14008.length co20) : Value).ownBlock) (.slice Ao29 t14020.length co29) t14020) ∧ Aside0 (wc.heap[gb14012]? = some (.cells #[.int .i64 t14007, (.slice Ao20 t14008.length co20)] 26 (0, 0))) ∧ Aside0 (wc.heap[gb14024]? = some (.cells #[.int .i64 t14019, (.slice Ao29 t14020.length co29)] 26 (0, 0))) ∧ Aside0 (Below w.heap.size w wc))
        case first =>
         have H := HC49.out
         clear HC49
         by_cases c56 : t14036 < 0
         ·rw [if_pos c56] at H
          have c56b0 : decide (t14036 < 0) = true := decide_eq_true c56
          clear c56
          (first | rw [c56b0] | (simp only [i64_w, i32_w]; rw [c56b0]) | skip)
          have H' := aQ H
          clear H
          go_wp2
          go_meet
          case rel => exact ⟨_, (true), (by first | rfl | (simp; done) | (simp [*]; done)), H', ⟨by have := HJ11.out; first | omega | exact Nat.le_refl _⟩, ⟨by (with_reducible repeat (first | apply Kd.R_alloc | apply Kd.R_drewN | apply Kd.R_drew)); exact Kd.R_mono HO_14013001.out (fun _ hk => hk.2.2.1)⟩, ⟨by (with_reducible repeat (first | apply Kd.R_alloc | apply Kd.R_drewN | apply Kd.R_drew)); exact Kd.R_mono HO_14025001.out (fun _ hk => hk.2.2.1)⟩, ⟨by (with_reducible repeat (first | refine blk_drewN ?_ _ | refine blk_drew ?_ | refine blk_alloc ?_ _)); exact BK14012.out⟩, ⟨by (with_reducible repeat (first | refine blk_drewN ?_ _ | refine blk_drew ?_ | refine blk_alloc ?_ _)); exact BK14024.out⟩, ⟨by repeat (first | (with_reducible first | exact HB.out | apply below_alloc | apply pw_below_drewN | apply below_drew1 | refine below_set ?_ GE14012.out | refine below_set ?_ GE14024.out) | exact HB.out)⟩⟩
         ·rw [if_neg c56] at H
          have c56b0 : decide (t14036 < 0) = false := decide_eq_false c56
          clear c56
          (first | rw [c56b0] | (simp only [i64_w, i32_w]; rw [c56b0]) | skip)
          replace H := Option.bind_eq_some_iff.mp H
          obtain ⟨t14038, A570, H⟩ := H
          replace H : (if t14038 = true then (laws_FnExactPartitionMatroid.j1 kj11 a0 l1 l2 t14011 (t14023 != t14011) t14007 t14008 t14019 t14020) else (laws_FnExactPartitionMatroid.j1 kj11 a0 l1 l2 t14011 true t14007 t14008 t14019 t14020)) = some true := H
          have A57 := aQ A570
          clear A570
          by_cases c58 : t14038 = true
          ·subst c58
           have H1 : (laws_FnExactPartitionMatroid.j1 kj11 a0 l1 l2 t14011 (t14023 != t14011) t14007 t14008 t14019 t14020) = some true := by rw [if_pos rfl] at H; exact H
           clear H
           have H := H1
           clear H1
           have H' := aQ H
           clear H
           have hnb59 := NB14024_14012.out
           have hnc59 := NB14012_14024.out
           have hcz60_0 : w55.cell? ⟨gb14024, 0, none⟩ = some (.int .i64 t14019) := (blk_cell BK14024.out 0).trans rfl
           have hcz60_1 : w55.cell? ⟨gb14024, 1, none⟩ = some (.slice Ao29 t14020.length co29) := (blk_cell BK14024.out 1).trans rfl
           have hfz60_0 := blk_frozen BK14024.out 0
           have hfz60_1 := blk_frozen BK14024.out 1
           have hcz61_0 : w55.cell? ⟨gb14012, 0, none⟩ = some (.int .i64 t14007) := (blk_cell BK14012.out 0).trans rfl
           have hcz61_1 : w55.cell? ⟨gb14012, 1, none⟩ = some (.slice Ao20 t14008.length co20) := (blk_cell BK14012.out 1).trans rfl
           have hfz61_0 := blk_frozen BK14012.out 0
           have hfz61_1 := blk_frozen BK14012.out 1
           go_wp2_with (first | (go_at_call 20; (with_reducible refine (laws_eqMatroid.calls kj11 t14019 _ _ t14020 t14007 _ _ t14008 true _ ?side1 ?side2 ?side3 ?side4 A57.out).mono ?_); (case side1 => repeat (first | exact (Kd.R_reads' HO_14025001.out).2.2 | (with_reducible refine Kd.C_alloc ?_ _) | (with_reducible refine Kd.C_drewN ?_ _) | (with_reducible refine Kd.C_drew ?_))); (case side2 => exact (Kd.R_reads' HO_14025001.out).2.1); (case side3 => repeat (first | exact (Kd.R_reads' HO_14013001.out).2.2 | (with_reducible refine Kd.C_alloc ?_ _) | (with_reducible refine Kd.C_drewN ?_ _) | (with_reducible refine Kd.C_drew ?_))); (case side4 => exact (Kd.R_reads' HO_14013001.out).2.1); rintro e w62 ⟨rfl, hb⟩; replace HO_9 := aQ (Kd.R_below (by (with_reducible repeat (first | apply Kd.R_alloc | apply Kd.R_drewN | apply Kd.R_drew)); exact HO_9.out) hb); replace HO_10 := aQ (Kd.R_below (by (with_reducible repeat (first | apply Kd.R_alloc | apply Kd.R_drewN | apply Kd.R_drew)); exact HO_10.out) hb); replace HO_14013001 := aQ (Kd.R_below (by (with_reducible repeat (first | apply Kd.R_alloc | apply Kd.R_drewN | apply Kd.R_drew)); exact HO_14013001.out) hb); replace HO_14025001 := aQ (Kd.R_below (by (with_reducible repeat (first | apply Kd.R_alloc | apply Kd.R_drewN | apply Kd.R_drew)); exact HO_14025001.out) hb); replace HO14028 := aQ (Kd.R_below (by (with_reducible repeat (first | apply Kd.R_alloc | apply Kd.R_drewN | apply Kd.R_drew)); exact HO14028.out) hb); replace HO14032 := aQ (Kd.R_below (by (with_reducible repeat (first | apply Kd.R_alloc | apply Kd.R_drewN | apply Kd.R_drew)); exact HO14032.out) hb); replace BK14012 := aQ (blk_below (g := gb14012) (o := .cells #[.int .i64 t14007, .slice Ao20 t14008.length co20] 26 (0, 0)) (by (with_reducible repeat (first | refine blk_drewN ?_ _ | refine blk_drew ?_ | refine blk_alloc ?_ _)); exact BK14012.out) hb); replace BK14024 := aQ (blk_below (g := gb14024) (o := .cells #[.int .i64 t14019, .slice Ao29 t14020.length co29] 26 (0, 0)) (by (with_reducible repeat (first | refine blk_drewN ?_ _ | refine blk_drew ?_ | refine blk_alloc ?_ _)); exact BK14024.out) hb); replace HB := aQ (below_step (by repeat (first | (with_reducible first | exact HB.out | apply below_alloc | apply pw_below_drewN | apply below_drew1 | refine below_set ?_ GE14012.out | refine below_set ?_ GE14024.out) | exact HB.out)) hb); (try clear hb); (try clear hb2); (try clear hk); (try clear hi)))
           go_meet
           case rel => exact ⟨_, ((t14023 != t14011)), (by first | rfl | (simp; done) | (simp [*]; done)), H', ⟨by have := HJ11.out; first | omega | exact Nat.le_refl _⟩, ⟨by (with_reducible repeat (first | apply Kd.R_alloc | apply Kd.R_drewN | apply Kd.R_drew)); exact Kd.R_mono HO_14013001.out (fun _ hk => hk.2.2.1)⟩, ⟨by (with_reducible repeat (first | apply Kd.R_alloc | apply Kd.R_drewN | apply Kd.R_drew)); exact Kd.R_mono HO_14025001.out (fun _ hk => hk.2.2.1)⟩, ⟨by (with_reducible repeat (first | refine blk_drewN ?_ _ | refine blk_drew ?_ | refine blk_alloc ?_ _)); exact BK14012.out⟩, ⟨by (with_reducible repeat (first | refine blk_drewN ?_ _ | refine blk_drew ?_ | refine blk_alloc ?_ _)); exact BK14024.out⟩, ⟨by repeat (first | (with_reducible first | exact HB.out | apply below_alloc | apply pw_below_drewN | apply below_drew1 | refine below_set ?_ GE14012.out | refine below_set ?_ GE14024.out) | exact HB.out)⟩⟩
          ·replace c58 := Bool.eq_false_iff.mpr c58
           subst c58
           have H1 : (laws_FnExactPartitionMatroid.j1 kj11 a0 l1 l2 t14011 true t14007 t14008 t14019 t14020) = some true := by rw [if_neg (show ¬ (false = true) by decide)] at H; exact H
           clear H
           have H := H1
           clear H1
           have H' := aQ H
           clear H
           have hnb63 := NB14024_14012.out
           have hnc63 := NB14012_14024.out
           have hcz64_0 : w55.cell? ⟨gb14024, 0, none⟩ = some (.int .i64 t14019) := (blk_cell BK14024.out 0).trans rfl
           have hcz64_1 : w55.cell? ⟨gb14024, 1, none⟩ = some (.slice Ao29 t14020.length co29) := (blk_cell BK14024.out 1).trans rfl
           have hfz64_0 := blk_frozen BK14024.out 0
           have hfz64_1 := blk_frozen BK14024.out 1
           have hcz65_0 : w55.cell? ⟨gb14012, 0, none⟩ = some (.int .i64 t14007) := (blk_cell BK14012.out 0).trans rfl
           have hcz65_1 : w55.cell? ⟨gb14012, 1, none⟩ = some (.slice Ao20 t14008.length co20) := (blk_cell BK14012.out 1).trans rfl
           have hfz65_0 := blk_frozen BK14012.out 0
           have hfz65_1 := blk_frozen BK14012.out 1
           go_wp2_with (first | (go_at_call 20; (with_reducible refine (laws_eqMatroid.calls kj11 t14019 _ _ t14020 t14007 _ _ t14008 false _ ?side1 ?side2 ?side3 ?side4 A57.out).mono ?_); (case side1 => repeat (first | exact (Kd.R_reads' HO_14025001.out).2.2 | (with_reducible refine Kd.C_alloc ?_ _) | (with_reducible refine Kd.C_drewN ?_ _) | (with_reducible refine Kd.C_drew ?_))); (case side2 => exact (Kd.R_reads' HO_14025001.out).2.1); (case side3 => repeat (first | exact (Kd.R_reads' HO_14013001.out).2.2 | (with_reducible refine Kd.C_alloc ?_ _) | (with_reducible refine Kd.C_drewN ?_ _) | (with_reducible refine Kd.C_drew ?_))); (case side4 => exact (Kd.R_reads' HO_14013001.out).2.1); rintro e w66 ⟨rfl, hb⟩; replace HO_9 := aQ (Kd.R_below (by (with_reducible repeat (first | apply Kd.R_alloc | apply Kd.R_drewN | apply Kd.R_drew)); exact HO_9.out) hb); replace HO_10 := aQ (Kd.R_below (by (with_reducible repeat (first | apply Kd.R_alloc | apply Kd.R_drewN | apply Kd.R_drew)); exact HO_10.out) hb); replace HO_14013001 := aQ (Kd.R_below (by (with_reducible repeat (first | apply Kd.R_alloc | apply Kd.R_drewN | apply Kd.R_drew)); exact HO_14013001.out) hb); replace HO_14025001 := aQ (Kd.R_below (by (with_reducible repeat (first | apply Kd.R_alloc | apply Kd.R_drewN | apply Kd.R_drew)); exact HO_14025001.out) hb); replace HO14028 := aQ (Kd.R_below (by (with_reducible repeat (first | apply Kd.R_alloc | apply Kd.R_drewN | apply Kd.R_drew)); exact HO14028.out) hb); replace HO14032 := aQ (Kd.R_below (by (with_reducible repeat (first | apply Kd.R_alloc | apply Kd.R_drewN | apply Kd.R_drew)); exact HO14032.out) hb); replace BK14012 := aQ (blk_below (g := gb14012) (o := .cells #[.int .i64 t14007, .slice Ao20 t14008.length co20] 26 (0, 0)) (by (with_reducible repeat (first | refine blk_drewN ?_ _ | refine blk_drew ?_ | refine blk_alloc ?_ _)); exact BK14012.out) hb); replace BK14024 := aQ (blk_below (g := gb14024) (o := .cells #[.int .i64 t14019, .slice Ao29 t14020.length co29] 26 (0, 0)) (by (with_reducible repeat (first | refine blk_drewN ?_ _ | refine blk_drew ?_ | refine blk_alloc ?_ _)); exact BK14024.out) hb); replace HB := aQ (below_step (by repeat (first | (with_reducible first | exact HB.out | apply below_alloc | apply pw_below_drewN | apply below_drew1 | refine below_set ?_ GE14012.out | refine below_set ?_ GE14024.out) | exact HB.out)) hb); (try clear hb); (try clear hb2); (try clear hk); (try clear hi)))
           go_meet
           case rel => exact ⟨_, (true), (by first | rfl | (simp; done) | (simp [*]; done)), H', ⟨by have := HJ11.out; first | omega | exact Nat.le_refl _⟩, ⟨by (with_reducible repeat (first | apply Kd.R_alloc | apply Kd.R_drewN | apply Kd.R_drew)); exact Kd.R_mono HO_14013001.out (fun _ hk => hk.2.2.1)⟩, ⟨by (with_reducible repeat (first | apply Kd.R_alloc | apply Kd.R_drewN | apply Kd.R_drew)); exact Kd.R_mono HO_14025001.out (fun _ hk => hk.2.2.1)⟩, ⟨by (with_reducible repeat (first | refine blk_drewN ?_ _ | refine blk_drew ?_ | refine blk_alloc ?_ _)); exact BK14012.out⟩, ⟨by (with_reducible repeat (first | refine blk_drewN ?_ _ | refine blk_drew ?_ | refine blk_alloc ?_ _)); exact BK14024.out⟩, ⟨by repeat (first | (with_reducible first | exact HB.out | apply below_alloc | apply pw_below_drewN | apply below_drew1 | refine below_set ?_ GE14012.out | refine below_set ?_ GE14024.out) | exact HB.out)⟩⟩
        case rest =>
         clear HC49
         try clear c1
         try clear c2
         try clear p2
         try clear c3
         try clear c4
         try clear c4b0
         try clear c4b1
         try clear c5
         try clear c5b0
         try clear c5b1
         try clear c6
         try clear c13
         try clear c20
         try clear c25
         try clear c26
         try clear c27
         try clear c31
         try clear c32
         try clear c36
         try clear c40
         try clear c43
         try clear c45
         try clear c46
         try clear c56
         try clear c56b0
         try clear c58
         try clear c59
         try clear c63
         try clear hcz19_0
         try clear hcz19_1
         try clear hcz28_0
         try clear hcz28_1
         try clear hcz33_0
         try clear hcz33_1
         try clear hcz34_0
         try clear hcz34_1
         try clear hcz37_0
         try clear hcz37_1
         try clear hcz38_0
         try clear hcz38_1
         try clear hcz60_0
         try clear hcz60_1
         try clear hcz61_0
         try clear hcz61_1
         try clear hcz64_0
         try clear hcz64_1
         try clear hcz65_0
         try clear hcz65_1
         try clear hfz19_0
         try clear hfz19_1
         try clear hfz28_0
         try clear hfz28_1
         try clear hfz33_0
         try clear hfz33_1
         try clear hfz34_0
         try clear hfz34_1
         try clear hfz37_0
         try clear hfz37_1
         try clear hfz38_0
         try clear hfz38_1
         try clear hfz60_0
         try clear hfz60_1
         try clear hfz61_0
         try clear hfz61_1
         try clear hfz64_0
         try clear hfz64_1
         try clear hfz65_0
         try clear hfz65_1
         try clear p2
         obtain ⟨kq, x81_48, rfl, HA, HJ48, HO_14013001, HO_14025001, BK14012, BK14024, HB⟩ := hcut
         cases kq with
         | zero => exact absurd HA.out (by simp [laws_FnExactPartitionMatroid.j1])
         | succ kj48 =>
          have H := HA.out
          clear HA
          simp only [laws_FnExactPartitionMatroid.j1] at H
          by_cases c67 : x81_48 = true
          ·subst c67
           have H1 : (some false) = some true := by rw [if_pos rfl] at H; exact H
           clear H
           have H := H1
           clear H1
           exact absurd (Option.some.inj H) (by decide)
          ·replace c67 := Bool.eq_false_iff.mpr c67
           subst c67
           have H1 : ((laws_markMatroid.f kj48 t14019 t14020 1).bind fun bt14039 => ((laws_heldMatroid.f kj48 t14019 bt14039.2 1).bind fun t14041 => (if t14041 < 0 then (some false) else (if t14041 = bt14039.1 then ((laws_toIntS.f kj48 l1).bind fun t14042 => ((laws_toIntS.f kj48 l2).bind fun t14045 => ((impl_PartitionMatroid.f kj48 a0 t14042 t14045).bind fun bt14048 => ((laws_eqMatroid.f kj48 bt14048.1 bt14048.2.1 t14007 t14008).bind fun t14054 => (if t14054 = true then (laws_FnExactPartitionMatroid.j2 kj48 bt14039.1 (bt14048.2.2 != t14011) t14019 bt14039.2) else (laws_FnExactPartitionMatroid.j2 kj48 bt14039.1 true t14019 bt14039.2)))))) else (some false))))) = some true := by rw [if_neg (show ¬ (false = true) by decide)] at H; exact H
           clear H
           have H := H1
           clear H1
           replace H := Option.bind_eq_some_iff.mp H
           obtain ⟨⟨t14039, t14040⟩, A680, H⟩ := H
           replace H : ((laws_heldMatroid.f kj48 t14019 t14040 1).bind fun t14041 => (if t14041 < 0 then (some false) else (if t14041 = t14039 then ((laws_toIntS.f kj48 l1).bind fun t14042 => ((laws_toIntS.f kj48 l2).bind fun t14045 => ((impl_PartitionMatroid.f kj48 a0 t14042 t14045).bind fun bt14048 => ((laws_eqMatroid.f kj48 bt14048.1 bt14048.2.1 t14007 t14008).bind fun t14054 => (if t14054 = true then (laws_FnExactPartitionMatroid.j2 kj48 t14039 (bt14048.2.2 != t14011) t14019 t14040) else (laws_FnExactPartitionMatroid.j2 kj48 t14039 true t14019 t14040)))))) else (some false)))) = some true := H
           have A68 := aQ A680
           clear A680
           replace H := Option.bind_eq_some_iff.mp H
           obtain ⟨t14041, A690, H⟩ := H
           replace H : (if t14041 < 0 then (some false) else (if t14041 = t14039 then ((laws_toIntS.f kj48 l1).bind fun t14042 => ((laws_toIntS.f kj48 l2).bind fun t14045 => ((impl_PartitionMatroid.f kj48 a0 t14042 t14045).bind fun bt14048 => ((laws_eqMatroid.f kj48 bt14048.1 bt14048.2.1 t14007 t14008).bind fun t14054 => (if t14054 = true then (laws_FnExactPartitionMatroid.j2 kj48 t14039 (bt14048.2.2 != t14011) t14019 t14040) else (laws_FnExactPartitionMatroid.j2 kj48 t14039 true t14019 t14040)))))) else (some false))) = some true := H
           have A69 := aQ A690
           clear A690
           by_cases c70 : t14041 < 0
           ·rw [if_pos c70] at H
            have c70b0 : decide (t14041 < 0) = true := decide_eq_true c70
            clear c70
            exact absurd (Option.some.inj H) (by decide)
           ·rw [if_neg c70] at H
            have c70b0 : decide (t14041 < 0) = false := decide_eq_false c70
            clear c70
            by_cases c76 : t14041 = t14039
            ·rw [if_pos c76] at H
             have c76b0 : (t14041 == t14039) = true := beq_iff_eq.mpr c76
             have c76b1 : (t14041 != t14039) = false := bne_eq_false_iff_eq.mpr c76
             clear c76
             replace H := Option.bind_eq_some_iff.mp H
             obtain ⟨t14042, A770, H⟩ := H
             replace H : ((laws_toIntS.f kj48 l2).bind fun t14045 => ((impl_PartitionMatroid.f kj48 a0 t14042 t14045).bind fun bt14048 => ((laws_eqMatroid.f kj48 bt14048.1 bt14048.2.1 t14007 t14008).bind fun t14054 => (if t14054 = true then (laws_FnExactPartitionMatroid.j2 kj48 t14039 (bt14048.2.2 != t14011) t14019 t14040) else (laws_FnExactPartitionMatroid.j2 kj48 t14039 true t14019 t14040))))) = some true := H
             have A77 := aQ A770
             clear A770
             replace H := Option.bind_eq_some_iff.mp H
             obtain ⟨t14045, A780, H⟩ := H
             replace H : ((impl_PartitionMatroid.f kj48 a0 t14042 t14045).bind fun bt14048 => ((laws_eqMatroid.f kj48 bt14048.1 bt14048.2.1 t14007 t14008).bind fun t14054 => (if t14054 = true then (laws_FnExactPartitionMatroid.j2 kj48 t14039 (bt14048.2.2 != t14011) t14019 t14040) else (laws_FnExactPartitionMatroid.j2 kj48 t14039 true t14019 t14040)))) = some true := H
             have A78 := aQ A780
             clear A780
             replace H := Option.bind_eq_some_iff.mp H
             obtain ⟨⟨t14048, t14049, t14052⟩, A790, H⟩ := H
             replace H : ((laws_eqMatroid.f kj48 t14048 t14049 t14007 t14008).bind fun t14054 => (if t14054 = true then (laws_FnExactPartitionMatroid.j2 kj48 t14039 (t14052 != t14011) t14019 t14040) else (laws_FnExactPartitionMatroid.j2 kj48 t14039 true t14019 t14040))) = some true := H
             have A79 := aQ A790
             clear A790
             have HC80 := aQ H
             clear H
             have hnb81 := NB14024_14012.out
             have hnc81 := NB14012_14024.out
             have hcz82_0 : wc.cell? ⟨gb14024, 0, none⟩ = some (.int .i64 t14019) := (blk_cell BK14024.out 0).trans rfl
             have hcz82_1 : wc.cell? ⟨gb14024, 1, none⟩ = some (.slice Ao29 t14020.length co29) := (blk_cell BK14024.out 1).trans rfl
             have hfz82_0 := blk_frozen BK14024.out 0
             have hfz82_1 := blk_frozen BK14024.out 1
             go_upto_region 29 with (first | ((with_reducible refine gate_callee (f := 21) rfl ?_); refine goesL_ (some 84) rfl rfl Try.func21 (by kernel_rfl) rfl #[.agg #[.int .i64 t14019, .slice Ao29 t14020.length co29], .int .i64 1] rfl (by (try simp only [List.map_toArray, List.map_cons, List.map_nil]); first | done | rfl | (simp only [List.length_drop, List.length_take]; rfl)) ?_; (with_reducible refine (laws_markMatroid.calls kj48 t14019 (fun k_ => some k_ = (.slice Ao29 t14020.length co29 : Value).ownBlock) (.slice Ao29 t14020.length co29) t14020 1 t14039 t14040 w _ ?side1 ?side2 A68.out).mono ?_); (case side1 => repeat (first | (with_reducible first | exact HB.out | apply below_alloc | apply pw_below_drewN | apply below_drew1 | refine below_set ?_ GE14012.out | refine below_set ?_ GE14024.out) | exact HB.out)); (case side2 => exact Kd.R_tight rfl HO_14025001.out); rintro e w83 ⟨rfl, hy0, hb, hkp⟩; refine ⟨_, rfl, ?_⟩; replace HO_14013001 := aQ (Kd.R_mono (ok' := fun k_ => some k_ ≠ (.slice Ao29 t14020.length co29 : Value).ownBlock) (Kd.R_keptB (HO_14013001.out) hkp (fun k_ hk_ hs_ => (hk_) hs_)) (fun k_ hk_ => hk_.1)); replace BK14012 := aQ (blk_kept (by (with_reducible repeat (first | refine blk_drewN ?_ _ | refine blk_drew ?_ | refine blk_alloc ?_ _)); exact BK14012.out) hkp (fun hs_ => (fun e_ => (Kd.R_ne HO_14025001.out BK14012.out (by decide)) e_) hs_)); replace BK14024 := aQ (blk_kept (by (with_reducible repeat (first | refine blk_drewN ?_ _ | refine blk_drew ?_ | refine blk_alloc ?_ _)); exact BK14024.out) hkp (fun hs_ => (fun e_ => (Kd.R_ne HO_14025001.out BK14024.out (by decide)) e_) hs_)); replace HO_14025001 := aQ (Kd.R_reok rfl hy0 (fun k_ e_ => HO_14025001.out.1 k_ e_)); replace HB := aQ (hb); (try clear hb); (try clear hkp); (try clear hy0); have hcz84_0 : w83.cell? ⟨gb14024, 0, none⟩ = some (.int .i64 t14019) := (blk_cell BK14024.out 0).trans rfl; have hcz84_1 : w83.cell? ⟨gb14024, 1, none⟩ = some (.slice Ao29 t14020.length co29) := (blk_cell BK14024.out 1).trans rfl; have hfz84_0 := blk_frozen BK14024.out 0; have hfz84_1 := blk_frozen BK14024.out 1) | ((with_reducible refine gate_callee (f := 22) rfl ?_); refine goesL_ (some 87) rfl rfl Try.func22 (by kernel_rfl) rfl #[.agg #[.int .i64 t14019, .slice Ao29 t14040.length co29], .int .i64 1] rfl (by (try simp only [List.map_toArray, List.map_cons, List.map_nil]); first | done | (rw [show t14040.length = t14020.length from (Kd.R_reads' HO_14025001.out).1.symm] <;> rfl) | rfl | (simp only [List.length_drop, List.length_take]; rfl)) ?_; (with_reducible refine (laws_heldMatroid.calls kj48 t14019 _ _ t14040 1 t14041 _ ?side1 ?side2 A69.out).mono ?_); (case side1 => repeat (first | exact (Kd.R_reads' HO_14025001.out).2.2 | (with_reducible refine Kd.C_alloc ?_ _) | (with_reducible refine Kd.C_drewN ?_ _) | (with_reducible refine Kd.C_drew ?_))); (case side2 => rw [show t14040.length = t14020.length from (Kd.R_reads' HO_14025001.out).1.symm]; exact (Kd.R_reads' HO_14025001.out).2.1); rintro e w85 ⟨rfl, hb⟩; refine ⟨_, rfl, ?_⟩; replace HO_14013001 := aQ (Kd.R_below (by (with_reducible repeat (first | apply Kd.R_alloc | apply Kd.R_drewN | apply Kd.R_drew)); exact HO_14013001.out) hb); replace HO_14025001 := aQ (Kd.R_below (by (with_reducible repeat (first | apply Kd.R_alloc | apply Kd.R_drewN | apply Kd.R_drew)); exact HO_14025001.out) hb); replace BK14012 := aQ (blk_below (g := gb14012) (o := .cells #[.int .i64 t14007, .slice Ao20 t14008.length co20] 26 (0, 0)) (by (with_reducible repeat (first | refine blk_drewN ?_ _ | refine blk_drew ?_ | refine blk_alloc ?_ _)); exact BK14012.out) hb); replace BK14024 := aQ (blk_below (g := gb14024) (o := .cells #[.int .i64 t14019, .slice Ao29 t14020.length co29] 26 (0, 0)) (by (with_reducible repeat (first | refine blk_drewN ?_ _ | refine blk_drew ?_ | refine blk_alloc ?_ _)); exact BK14024.out) hb); replace HB := aQ (below_step (by repeat (first | (with_reducible first | exact HB.out | apply below_alloc | apply pw_below_drewN | apply below_drew1 | refine below_set ?_ GE14012.out | refine below_set ?_ GE14024.out) | exact HB.out)) hb); (try clear hb); (try clear hb2); (try clear hk); (try clear hi)) | ((with_reducible refine gate_callee (f := 31) rfl ?_); refine goesL_ (some 96) rfl rfl Try.func31 (by kernel_rfl) rfl #[.slice A1 l1.length c1] rfl (by (try simp only [List.map_toArray, List.map_cons, List.map_nil]); first | done | rfl | (simp only [List.length_drop, List.length_take]; rfl)) ?_; (with_reducible refine (laws_toIntS.calls kj48 _ _ l1 t14042 _ ?side1 ?side2 A77.out).mono ?_); (case side1 => repeat (first | exact (Kd.C_below HR1.out HB.out) | (with_reducible refine Kd.C_alloc ?_ _) | (with_reducible refine Kd.C_drewN ?_ _) | (with_reducible refine Kd.C_drew ?_))); (case side2 => exact HC1.out); rintro e w86 ⟨v14043, rfl, ho0, hb⟩; refine ⟨_, rfl, ?_⟩; have HO14044 := aQ (Kd.R_lower (Kd.R_new' (Kd.R_new' ho0 (Kd.R_lt (by (with_reducible repeat (first | apply Kd.R_alloc | apply Kd.R_drewN | apply Kd.R_drew)); exact HO_14013001.out))) (Kd.R_lt (by (with_reducible repeat (first | apply Kd.R_alloc | apply Kd.R_drewN | apply Kd.R_drew)); exact HO_14025001.out))) (below_size (by repeat (first | (with_reducible first | exact HB.out | apply below_alloc | apply pw_below_drewN | apply below_drew1 | refine below_set ?_ GE14012.out | refine below_set ?_ GE14024.out) | exact HB.out)))); replace HO_14013001 := aQ (Kd.R_elder' (by (with_reducible repeat (first | apply Kd.R_alloc | apply Kd.R_drewN | apply Kd.R_drew)); exact HO_14013001.out) (Kd.R_base ho0) hb); replace HO_14025001 := aQ (Kd.R_elder' (by (with_reducible repeat (first | apply Kd.R_alloc | apply Kd.R_drewN | apply Kd.R_drew)); exact HO_14025001.out) (Kd.R_base ho0) hb); replace BK14012 := aQ (blk_below (g := gb14012) (o := .cells #[.int .i64 t14007, .slice Ao20 t14008.length co20] 26 (0, 0)) (by (with_reducible repeat (first | refine blk_drewN ?_ _ | refine blk_drew ?_ | refine blk_alloc ?_ _)); exact BK14012.out) hb); replace BK14024 := aQ (blk_below (g := gb14024) (o := .cells #[.int .i64 t14019, .slice Ao29 t14020.length co29] 26 (0, 0)) (by (with_reducible repeat (first | refine blk_drewN ?_ _ | refine blk_drew ?_ | refine blk_alloc ?_ _)); exact BK14024.out) hb); replace HB := aQ (below_step (by repeat (first | (with_reducible first | exact HB.out | apply below_alloc | apply pw_below_drewN | apply below_drew1 | refine below_set ?_ GE14012.out | refine below_set ?_ GE14024.out) | exact HB.out)) hb); (try clear hb); (try clear hb2); (try clear hk); (try clear hi); (try clear ho0)) | ((with_reducible refine gate_callee (f := 31) rfl ?_); refine goesL_ (some 98) rfl rfl Try.func31 (by kernel_rfl) rfl #[.slice A2 l2.length c2] rfl (by (try simp only [List.map_toArray, List.map_cons, List.map_nil]); first | done | rfl | (simp only [List.length_drop, List.length_take]; rfl)) ?_; (with_reducible refine (laws_toIntS.calls kj48 _ _ l2 t14045 _ ?side1 ?side2 A78.out).mono ?_); (case side1 => repeat (first | exact (Kd.C_below HR2.out HB.out) | (with_reducible refine Kd.C_alloc ?_ _) | (with_reducible refine Kd.C_drewN ?_ _) | (with_reducible refine Kd.C_drew ?_))); (case side2 => exact HC2.out); rintro e w87 ⟨v14046, rfl, ho0, hb⟩; refine ⟨_, rfl, ?_⟩; have HO14047 := aQ (Kd.R_lower (Kd.R_new' (Kd.R_new' (Kd.R_new' ho0 (Kd.R_lt (by (with_reducible repeat (first | apply Kd.R_alloc | apply Kd.R_drewN | apply Kd.R_drew)); exact HO_14013001.out))) (Kd.R_lt (by (with_reducible repeat (first | apply Kd.R_alloc | apply Kd.R_drewN | apply Kd.R_drew)); exact HO_14025001.out))) (Kd.R_lt (by (with_reducible repeat (first | apply Kd.R_alloc | apply Kd.R_drewN | apply Kd.R_drew)); exact HO14044.out))) (below_size (by repeat (first | (with_reducible first | exact HB.out | apply below_alloc | apply pw_below_drewN | apply below_drew1 | refine below_set ?_ GE14012.out | refine below_set ?_ GE14024.out) | exact HB.out)))); replace HO_14013001 := aQ (Kd.R_elder' (by (with_reducible repeat (first | apply Kd.R_alloc | apply Kd.R_drewN | apply Kd.R_drew)); exact HO_14013001.out) (Kd.R_base ho0) hb); replace HO_14025001 := aQ (Kd.R_elder' (by (with_reducible repeat (first | apply Kd.R_alloc | apply Kd.R_drewN | apply Kd.R_drew)); exact HO_14025001.out) (Kd.R_base ho0) hb); replace HO14044 := aQ (Kd.R_elder' (by (with_reducible repeat (first | apply Kd.R_alloc | apply Kd.R_drewN | apply Kd.R_drew)); exact HO14044.out) (Kd.R_base ho0) hb); replace BK14012 := aQ (blk_below (g := gb14012) (o := .cells #[.int .i64 t14007, .slice Ao20 t14008.length co20] 26 (0, 0)) (by (with_reducible repeat (first | refine blk_drewN ?_ _ | refine blk_drew ?_ | refine blk_alloc ?_ _)); exact BK14012.out) hb); replace BK14024 := aQ (blk_below (g := gb14024) (o := .cells #[.int .i64 t14019, .slice Ao29 t14020.length co29] 26 (0, 0)) (by (with_reducible repeat (first | refine blk_drewN ?_ _ | refine blk_drew ?_ | refine blk_alloc ?_ _)); exact BK14024.out) hb); replace HB := aQ (below_step (by repeat (first | (with_reducible first | exact HB.out | apply below_alloc | apply pw_below_drewN | apply below_drew1 | refine below_set ?_ GE14012.out | refine below_set ?_ GE14024.out) | exact HB.out)) hb); (try clear hb); (try clear hb2); (try clear hk); (try clear hi); (try clear ho0); obtain ⟨Ao88, co88, eo88⟩ := Kd.R_slice HO14044.out; subst eo88; obtain ⟨Ao89, co89, eo89⟩ := Kd.R_slice HO14047.out; subst eo89) | ((with_reducible refine gate_callee (f := 46) rfl ?_); refine goesL_ (some 99) rfl rfl Try.func46 (by kernel_rfl) rfl #[.int .i64 a0, .slice Ao88 t14042.length co88, .slice Ao89 t14045.length co89] rfl (by (try simp only [List.map_toArray, List.map_cons, List.map_nil]); first | done | rfl | (simp only [List.length_drop, List.length_take]; rfl)) ?_; (with_reducible refine (impl_PartitionMatroid.calls kj48 a0 _ _ t14042 _ _ t14045 t14048 t14049 t14052 _ ?side1 ?side2 ?side3 ?side4 A79.out).mono ?_); (case side1 => repeat (first | exact (Kd.R_reads' HO14044.out).2.2 | (with_reducible refine Kd.C_alloc ?_ _) | (with_reducible refine Kd.C_drewN ?_ _) | (with_reducible refine Kd.C_drew ?_))); (case side2 => exact (Kd.R_reads' HO14044.out).2.1); (case side3 => repeat (first | exact (Kd.R_reads' HO14047.out).2.2 | (with_reducible refine Kd.C_alloc ?_ _) | (with_reducible refine Kd.C_drewN ?_ _) | (with_reducible refine Kd.C_drew ?_))); (case side4 => exact (Kd.R_reads' HO14047.out).2.1); rintro e w90 ⟨v14050, rfl, ho0, hb⟩; refine ⟨_, rfl, ?_⟩; have HO14051 := aQ (Kd.R_lower (Kd.R_new' (Kd.R_new' (Kd.R_new' (Kd.R_new' ho0 (Kd.R_lt (by (with_reducible repeat (first | apply Kd.R_alloc | apply Kd.R_drewN | apply Kd.R_drew)); exact HO_14013001.out))) (Kd.R_lt (by (with_reducible repeat (first | apply Kd.R_alloc | apply Kd.R_drewN | apply Kd.R_drew)); exact HO_14025001.out))) (Kd.R_lt (by (with_reducible repeat (first | apply Kd.R_alloc | apply Kd.R_drewN | apply Kd.R_drew)); exact HO14044.out))) (Kd.R_lt (by (with_reducible repeat (first | apply Kd.R_alloc | apply Kd.R_drewN | apply Kd.R_drew)); exact HO14047.out))) (below_size (by repeat (first | (with_reducible first | exact HB.out | apply below_alloc | apply pw_below_drewN | apply below_drew1 | refine below_set ?_ GE14012.out | refine below_set ?_ GE14024.out) | exact HB.out)))); replace HO_14013001 := aQ (Kd.R_elder' (by (with_reducible repeat (first | apply Kd.R_alloc | apply Kd.R_drewN | apply Kd.R_drew)); exact HO_14013001.out) (Kd.R_base ho0) hb); replace HO_14025001 := aQ (Kd.R_elder' (by (with_reducible repeat (first | apply Kd.R_alloc | apply Kd.R_drewN | apply Kd.R_drew)); exact HO_14025001.out) (Kd.R_base ho0) hb); replace HO14044 := aQ (Kd.R_elder' (by (with_reducible repeat (first | apply Kd.R_alloc | apply Kd.R_drewN | apply Kd.R_drew)); exact HO14044.out) (Kd.R_base ho0) hb); replace HO14047 := aQ (Kd.R_elder' (by (with_reducible repeat (first | apply Kd.R_alloc | apply Kd.R_drewN | apply Kd.R_drew)); exact HO14047.out) (Kd.R_base ho0) hb); replace BK14012 := aQ (blk_below (g := gb14012) (o := .cells #[.int .i64 t14007, .slice Ao20 t14008.length co20] 26 (0, 0)) (by (with_reducible repeat (first | refine blk_drewN ?_ _ | refine blk_drew ?_ | refine blk_alloc ?_ _)); exact BK14012.out) hb); replace BK14024 := aQ (blk_below (g := gb14024) (o := .cells #[.int .i64 t14019, .slice Ao29 t14020.length co29] 26 (0, 0)) (by (with_reducible repeat (first | refine blk_drewN ?_ _ | refine blk_drew ?_ | refine blk_alloc ?_ _)); exact BK14024.out) hb); replace HB := aQ (below_step (by repeat (first | (with_reducible first | exact HB.out | apply below_alloc | apply pw_below_drewN | apply below_drew1 | refine below_set ?_ GE14012.out | refine below_set ?_ GE14024.out) | exact HB.out)) hb); (try clear hb); (try clear hb2); (try clear hk); (try clear hi); (try clear ho0)) | ((with_reducible refine gate_dst (N := 16) rfl ?_); refine box_event ?hg (N := 16) ?hd (cs := #[.int .i64 0, .slice none 0 0]) (t := 26) ?hr ?_; (case hd => rfl); (case hg => rfl); (case hr => first | (go_simp; done) | (go_simp; rfl)); intro gb14053 hg w91 hbox hb; replace HO_14013001 := aQ (Kd.R_below (by (with_reducible repeat (first | apply Kd.R_alloc | apply Kd.R_drewN | apply Kd.R_drew)); exact HO_14013001.out) hb); replace HO_14025001 := aQ (Kd.R_below (by (with_reducible repeat (first | apply Kd.R_alloc | apply Kd.R_drewN | apply Kd.R_drew)); exact HO_14025001.out) hb); replace HO14044 := aQ (Kd.R_below (by (with_reducible repeat (first | apply Kd.R_alloc | apply Kd.R_drewN | apply Kd.R_drew)); exact HO14044.out) hb); replace HO14047 := aQ (Kd.R_below (by (with_reducible repeat (first | apply Kd.R_alloc | apply Kd.R_drewN | apply Kd.R_drew)); exact HO14047.out) hb); replace HO14051 := aQ (Kd.R_below (by (with_reducible repeat (first | apply Kd.R_alloc | apply Kd.R_drewN | apply Kd.R_drew)); exact HO14051.out) hb); have BK14053 := aQ (hbox); have GW14053 := aQ ((by rw [hg]; exact (below_size (by repeat (first | (with_reducible first | exact HB.out | apply below_alloc | apply pw_below_drewN | apply below_drew1 | refine below_set ?_ GE14012.out | refine below_set ?_ GE14024.out) | exact HB.out))) : w.heap.size ≤ gb14053)); have GE14053 := aQ ((by rw [hg]; exact (below_size (by repeat (first | (with_reducible first | exact HB.out | apply below_alloc | apply pw_below_drewN | apply below_drew1 | refine below_set ?_ GE14012.out | refine below_set ?_ GE14024.out) | exact HB.out))) : w.heap.size ≤ gb14053)); replace HB := aQ (below_step (by repeat (first | (with_reducible first | exact HB.out | apply below_alloc | apply pw_below_drewN | apply below_drew1 | refine below_set ?_ GE14012.out | refine below_set ?_ GE14024.out) | exact HB.out)) hb); have NB14012_14053 := aQ ((by rw [hg]; exact Nat.ne_of_lt (blk_lt (g := gb14012) (o := .cells #[.int .i64 t14007, .slice Ao20 t14008.length co20] 26 (0, 0)) (by (with_reducible repeat (first | refine blk_drewN ?_ _ | refine blk_drew ?_ | refine blk_alloc ?_ _)); exact BK14012.out)) : gb14012 ≠ gb14053)); have NB14053_14012 := aQ ((by rw [hg]; exact Nat.ne_of_gt (blk_lt (g := gb14012) (o := .cells #[.int .i64 t14007, .slice Ao20 t14008.length co20] 26 (0, 0)) (by (with_reducible repeat (first | refine blk_drewN ?_ _ | refine blk_drew ?_ | refine blk_alloc ?_ _)); exact BK14012.out)) : gb14053 ≠ gb14012)); replace BK14012 := aQ (blk_below (g := gb14012) (o := .cells #[.int .i64 t14007, .slice Ao20 t14008.length co20] 26 (0, 0)) (by (with_reducible repeat (first | refine blk_drewN ?_ _ | refine blk_drew ?_ | refine blk_alloc ?_ _)); exact BK14012.out) hb); have NB14024_14053 := aQ ((by rw [hg]; exact Nat.ne_of_lt (blk_lt (g := gb14024) (o := .cells #[.int .i64 t14019, .slice Ao29 t14020.length co29] 26 (0, 0)) (by (with_reducible repeat (first | refine blk_drewN ?_ _ | refine blk_drew ?_ | refine blk_alloc ?_ _)); exact BK14024.out)) : gb14024 ≠ gb14053)); have NB14053_14024 := aQ ((by rw [hg]; exact Nat.ne_of_gt (blk_lt (g := gb14024) (o := .cells #[.int .i64 t14019, .slice Ao29 t14020.length co29] 26 (0, 0)) (by (with_reducible repeat (first | refine blk_drewN ?_ _ | refine blk_drew ?_ | refine blk_alloc ?_ _)); exact BK14024.out)) : gb14053 ≠ gb14024)); replace BK14024 := aQ (blk_below (g := gb14024) (o := .cells #[.int .i64 t14019, .slice Ao29 t14020.length co29] 26 (0, 0)) (by (with_reducible repeat (first | refine blk_drewN ?_ _ | refine blk_drew ?_ | refine blk_alloc ?_ _)); exact BK14024.out) hb); clear hb hbox hg; have hnb92 := NB14053_14012.out; have hnc92 := NB14012_14053.out; have hnb93 := NB14053_14024.out; have hnc93 := NB14024_14053.out; have hcz94_0 : w91.cell? ⟨gb14053, 0, none⟩ = some (.int .i64 0) := (blk_cell BK14053.out 0).trans rfl; have hcz94_1 : w91.cell? ⟨gb14053, 1, none⟩ = some (.slice none 0 0) := (blk_cell BK14053.out 1).trans rfl; have hfz94_0 := blk_frozen BK14053.out 0; have hfz94_1 := blk_frozen BK14053.out 1; obtain ⟨Ao95, co95, eo95⟩ := Kd.R_slice HO14051.out; subst eo95))
             (try simp only [Act.put, List.setIfInBounds_toArray, List.set_cons_zero, List.set_cons_succ])
             go_cut [110] (fun v110 wc => ∃ (kq : Nat) (x110_79 : Bool), v110 = .bool x110_79 ∧ Aside0 (laws_FnExactPartitionMatroid.j2 kq t14039 x110_79 t14019 t14040 = some true) ∧ Aside0 (kq ≤ kj48) ∧ Aside0 (Kd.R (Kd.int .i64) 3 wc w.heap.size (fun k_ => some k_ ≠ ((.slice Ao29 t14020.length co29) : Value).ownBlock ∧ some k_ ≠ ((.slice Ao95 t14049.length co95) : Value).ownBlock) (.slice Ao20 t14008.length co20) t14008) ∧ Aside0 (Kd.R (Kd.int .i64) 3 wc w.heap.size (fun k_ => some k_ ≠ ((.slice Ao20 t14008.length co20) : Value).ownBlock ∧ some k_ ≠ ((.slice Ao95 t14049.length co95) : Value).ownBlock) (.slice Ao29 t14020.length co29) t14040) ∧ Aside0 (Kd.R (Kd.int .i64) 3 wc w.heap.size (fun k_ => some k_ ≠ ((.slice Ao20 t14008.length co20) : Value).ownBlock ∧ some k_ ≠ ((.slice Ao29 t14020.length co29) : Value).ownBlock) (.slice Ao95 t14049.length co95) t14049) ∧ Aside0 (wc.heap[gb14012]? = some (.cells #[.int .i64 t14007, (.slice Ao20 t14008.length co20)] 26 (0, 0))) ∧ Aside0 (wc.heap[gb14024]? = some (.cells #[.int .i64 t14019, (.slice Ao29 t14020.length co29)] 26 (0, 0))) ∧ Aside0 (wc.heap[gb14053]? = some (.cells #[.int .i64 t14048, (.slice Ao95 t14049.length co95)] 26 (0, 0))) ∧ Aside0 (Below w.heap.size w wc))
             case first =>
              have H := HC80.out
              clear HC80
              replace H := Option.bind_eq_some_iff.mp H
              obtain ⟨t14054, A960, H⟩ := H
              replace H : (if t14054 = true then (laws_FnExactPartitionMatroid.j2 kj48 t14039 (t14052 != t14011) t14019 t14040) else (laws_FnExactPartitionMatroid.j2 kj48 t14039 true t14019 t14040)) = some true := H
              have A96 := aQ A960
              clear A960
              by_cases c97 : t14054 = true
              ·subst c97
               have H1 : (laws_FnExactPartitionMatroid.j2 kj48 t14039 (t14052 != t14011) t14019 t14040) = some true := by rw [if_pos rfl] at H; exact H
               clear H
               have H := H1
               clear H1
               have H' := aQ H
               clear H
               have hnb98 := NB14053_14012.out
               have hnc98 := NB14012_14053.out
               have hnb99 := NB14053_14024.out
               have hnc99 := NB14024_14053.out
               have hcz100_0 : w91.cell? ⟨gb14053, 0, none⟩ = some (.int .i64 0) := (blk_cell BK14053.out 0).trans rfl
               have hcz100_1 : w91.cell? ⟨gb14053, 1, none⟩ = some (.slice none 0 0) := (blk_cell BK14053.out 1).trans rfl
               have hfz100_0 := blk_frozen BK14053.out 0
               have hfz100_1 := blk_frozen BK14053.out 1
               have hnb101 := NB14012_14024.out
               have hnc101 := NB14024_14012.out
               have hcz102_0 : w91.cell? ⟨gb14012, 0, none⟩ = some (.int .i64 t14007) := (blk_cell BK14012.out 0).trans rfl
               have hcz102_1 : w91.cell? ⟨gb14012, 1, none⟩ = some (.slice Ao20 t14008.length co20) := (blk_cell BK14012.out 1).trans rfl
               have hfz102_0 := blk_frozen BK14012.out 0
               have hfz102_1 := blk_frozen BK14012.out 1
               go_wp2_with (first | ((with_reducible refine gate_callee (f := 20) rfl ?_); refine goesL_ (some 104) rfl rfl Try.func20 (by kernel_rfl) rfl #[.agg #[.int .i64 t14048, .slice Ao95 t14049.length co95], .agg #[.int .i64 t14007, .slice Ao20 t14008.length co20]] rfl (by (try simp only [List.map_toArray, List.map_cons, List.map_nil]); first | done | rfl | (simp only [List.length_drop, List.length_take]; rfl)) ?_; (with_reducible refine (laws_eqMatroid.calls kj48 t14048 _ _ t14049 t14007 _ _ t14008 true _ ?side1 ?side2 ?side3 ?side4 A96.out).mono ?_); (case side1 => refine (Kd.R_reads' (e := 3) (base := w.heap.size) (ok := fun k_ => ((((True ∧ some k_ ≠ (.slice Ao20 t14008.length co20 : Value).ownBlock) ∧ some k_ ≠ (.slice Ao29 t14020.length co29 : Value).ownBlock) ∧ some k_ ≠ (.slice Ao88 t14042.length co88 : Value).ownBlock) ∧ some k_ ≠ (.slice Ao89 t14045.length co89 : Value).ownBlock)) (n := t14049.length) (c := co95) ?_).2.2; exact (by (with_reducible repeat (first | apply Kd.R_alloc | apply Kd.R_drewN | apply Kd.R_drew)); exact (Kd.R_mono (Kd.R_far (p := ⟨gb14053, 1, none⟩) (Kd.R_far (p := ⟨gb14053, 0, none⟩) (Kd.R_types HO14051.out BK14053.out (by decide)) (fun _ hk => hk.2) (.int .i64 t14048)) (fun _ hk => hk.2) (.slice Ao95 t14049.length co95)) (fun _ h_ => h_.1)))); (case side2 => exact (Kd.R_reads' HO14051.out).2.1); (case side3 => refine (Kd.R_reads' (e := 3) (base := w.heap.size) (ok := fun k_ => (((some k_ ≠ (.slice Ao29 t14020.length co29 : Value).ownBlock ∧ some k_ ≠ (.slice Ao88 t14042.length co88 : Value).ownBlock) ∧ some k_ ≠ (.slice Ao89 t14045.length co89 : Value).ownBlock) ∧ some k_ ≠ (.slice Ao95 t14049.length co95 : Value).ownBlock)) (n := t14008.length) (c := co20) ?_).2.2; exact (by (with_reducible repeat (first | apply Kd.R_alloc | apply Kd.R_drewN | apply Kd.R_drew)); exact (Kd.R_mono (Kd.R_far (p := ⟨gb14053, 1, none⟩) (Kd.R_far (p := ⟨gb14053, 0, none⟩) (Kd.R_types HO_14013001.out BK14053.out (by decide)) (fun _ hk => hk.2) (.int .i64 t14048)) (fun _ hk => hk.2) (.slice Ao95 t14049.length co95)) (fun _ h_ => h_.1)))); (case side4 => exact (Kd.R_reads' HO_14013001.out).2.1); rintro e w103 ⟨rfl, hb⟩; refine ⟨_, rfl, ?_⟩; replace HO_14013001 := aQ (Kd.R_below (by (with_reducible repeat (first | apply Kd.R_alloc | apply Kd.R_drewN | apply Kd.R_drew)); exact (Kd.R_mono (Kd.R_far (p := ⟨gb14053, 1, none⟩) (Kd.R_far (p := ⟨gb14053, 0, none⟩) (Kd.R_types HO_14013001.out BK14053.out (by decide)) (fun _ hk => hk.2) (.int .i64 t14048)) (fun _ hk => hk.2) (.slice Ao95 t14049.length co95)) (fun _ h_ => h_.1))) hb); replace HO_14025001 := aQ (Kd.R_below (by (with_reducible repeat (first | apply Kd.R_alloc | apply Kd.R_drewN | apply Kd.R_drew)); exact (Kd.R_mono (Kd.R_far (p := ⟨gb14053, 1, none⟩) (Kd.R_far (p := ⟨gb14053, 0, none⟩) (Kd.R_types HO_14025001.out BK14053.out (by decide)) (fun _ hk => hk.2) (.int .i64 t14048)) (fun _ hk => hk.2) (.slice Ao95 t14049.length co95)) (fun _ h_ => h_.1))) hb); replace HO14044 := aQ (Kd.R_below (by (with_reducible repeat (first | apply Kd.R_alloc | apply Kd.R_drewN | apply Kd.R_drew)); exact (Kd.R_mono (Kd.R_far (p := ⟨gb14053, 1, none⟩) (Kd.R_far (p := ⟨gb14053, 0, none⟩) (Kd.R_types HO14044.out BK14053.out (by decide)) (fun _ hk => hk.2) (.int .i64 t14048)) (fun _ hk => hk.2) (.slice Ao95 t14049.length co95)) (fun _ h_ => h_.1))) hb); replace HO14047 := aQ (Kd.R_below (by (with_reducible repeat (first | apply Kd.R_alloc | apply Kd.R_drewN | apply Kd.R_drew)); exact (Kd.R_mono (Kd.R_far (p := ⟨gb14053, 1, none⟩) (Kd.R_far (p := ⟨gb14053, 0, none⟩) (Kd.R_types HO14047.out BK14053.out (by decide)) (fun _ hk => hk.2) (.int .i64 t14048)) (fun _ hk => hk.2) (.slice Ao95 t14049.length co95)) (fun _ h_ => h_.1))) hb); replace HO14051 := aQ (Kd.R_below (by (with_reducible repeat (first | apply Kd.R_alloc | apply Kd.R_drewN | apply Kd.R_drew)); exact (Kd.R_mono (Kd.R_far (p := ⟨gb14053, 1, none⟩) (Kd.R_far (p := ⟨gb14053, 0, none⟩) (Kd.R_types HO14051.out BK14053.out (by decide)) (fun _ hk => hk.2) (.int .i64 t14048)) (fun _ hk => hk.2) (.slice Ao95 t14049.length co95)) (fun _ h_ => h_.1))) hb); replace BK14012 := aQ (blk_below (g := gb14012) (o := .cells #[.int .i64 t14007, .slice Ao20 t14008.length co20] 26 (0, 0)) (by (with_reducible repeat (first | refine blk_drewN ?_ _ | refine blk_drew ?_ | refine blk_alloc ?_ _)); refine blk_far ?_ NB14012_14053.out _; (with_reducible repeat (first | refine blk_drewN ?_ _ | refine blk_drew ?_ | refine blk_alloc ?_ _)); refine blk_far ?_ NB14012_14053.out _; (with_reducible repeat (first | refine blk_drewN ?_ _ | refine blk_drew ?_ | refine blk_alloc ?_ _)); exact BK14012.out) hb); replace BK14024 := aQ (blk_below (g := gb14024) (o := .cells #[.int .i64 t14019, .slice Ao29 t14020.length co29] 26 (0, 0)) (by (with_reducible repeat (first | refine blk_drewN ?_ _ | refine blk_drew ?_ | refine blk_alloc ?_ _)); refine blk_far ?_ NB14024_14053.out _; (with_reducible repeat (first | refine blk_drewN ?_ _ | refine blk_drew ?_ | refine blk_alloc ?_ _)); refine blk_far ?_ NB14024_14053.out _; (with_reducible repeat (first | refine blk_drewN ?_ _ | refine blk_drew ?_ | refine blk_alloc ?_ _)); exact BK14024.out) hb); replace BK14053 := aQ (blk_below (g := gb14053) (o := .cells #[.int .i64 t14048, .slice Ao95 t14049.length co95] 26 (0, 0)) (by (with_reducible repeat (first | refine blk_drewN ?_ _ | refine blk_drew ?_ | refine blk_alloc ?_ _)); refine blk_put (cs := #[.int .i64 t14048, .slice none 0 0]) ?_ 1 _ rfl; (with_reducible repeat (first | refine blk_drewN ?_ _ | refine blk_drew ?_ | refine blk_alloc ?_ _)); refine blk_put (cs := #[.int .i64 0, .slice none 0 0]) ?_ 0 _ rfl; (with_reducible repeat (first | refine blk_drewN ?_ _ | refine blk_drew ?_ | refine blk_alloc ?_ _)); exact BK14053.out) hb); replace HB := aQ (below_step (by repeat (first | (with_reducible first | exact HB.out | apply below_alloc | apply pw_below_drewN | apply below_drew1 | refine below_set ?_ GE14012.out | refine below_set ?_ GE14024.out | refine below_set ?_ GE14053.out) | exact HB.out)) hb); (try clear hb); (try clear hb2); (try clear hk); (try clear hi)))
               go_meet
               case rel => exact ⟨_, ((t14052 != t14011)), (by first | rfl | (simp; done) | (simp [*]; done)), H', ⟨by have := HJ11.out; have := HJ48.out; first | omega | exact Nat.le_refl _⟩, ⟨by (with_reducible repeat (first | apply Kd.R_alloc | apply Kd.R_drewN | apply Kd.R_drew)); exact Kd.R_mono HO_14013001.out (fun _ hk => ⟨hk.1.1.1, hk.2⟩)⟩, ⟨by (with_reducible repeat (first | apply Kd.R_alloc | apply Kd.R_drewN | apply Kd.R_drew)); exact Kd.R_mono HO_14025001.out (fun _ hk => ⟨hk.1.1.1, hk.2⟩)⟩, ⟨by (with_reducible repeat (first | apply Kd.R_alloc | apply Kd.R_drewN | apply Kd.R_drew)); exact Kd.R_mono HO14051.out (fun _ hk => ⟨hk.1.1.1.2, hk.1.1.2⟩)⟩, ⟨by (with_reducible repeat (first | refine blk_drewN ?_ _ | refine blk_drew ?_ | refine blk_alloc ?_ _)); exact BK14012.out⟩, ⟨by (with_reducible repeat (first | refine blk_drewN ?_ _ | refine blk_drew ?_ | refine blk_alloc ?_ _)); exact BK14024.out⟩, ⟨by (with_reducible repeat (first | refine blk_drewN ?_ _ | refine blk_drew ?_ | refine blk_alloc ?_ _)); exact BK14053.out⟩, ⟨by repeat (first | (with_reducible first | exact HB.out | apply below_alloc | apply pw_below_drewN | apply below_drew1 | refine below_set ?_ GE14012.out | refine below_set ?_ GE14024.out | refine below_set ?_ GE14053.out) | exact HB.out)⟩⟩
              ·replace c97 := Bool.eq_false_iff.mpr c97
               subst c97
               have H1 : (laws_FnExactPartitionMatroid.j2 kj48 t14039 true t14019 t14040) = some true := by rw [if_neg (show ¬ (false = true) by decide)] at H; exact H
               clear H
               have H := H1
               clear H1
               have H' := aQ H
               clear H
               have hnb104 := NB14053_14012.out
               have hnc104 := NB14012_14053.out
               have hnb105 := NB14053_14024.out
               have hnc105 := NB14024_14053.out
               have hcz106_0 : w91.cell? ⟨gb14053, 0, none⟩ = some (.int .i64 0) := (blk_cell BK14053.out 0).trans rfl
               have hcz106_1 : w91.cell? ⟨gb14053, 1, none⟩ = some (.slice none 0 0) := (blk_cell BK14053.out 1).trans rfl
               have hfz106_0 := blk_frozen BK14053.out 0
               have hfz106_1 := blk_frozen BK14053.out 1
               have hnb107 := NB14012_14024.out
               have hnc107 := NB14024_14012.out
               have hcz108_0 : w91.cell? ⟨gb14012, 0, none⟩ = some (.int .i64 t14007) := (blk_cell BK14012.out 0).trans rfl
               have hcz108_1 : w91.cell? ⟨gb14012, 1, none⟩ = some (.slice Ao20 t14008.length co20) := (blk_cell BK14012.out 1).trans rfl
               have hfz108_0 := blk_frozen BK14012.out 0
               have hfz108_1 := blk_frozen BK14012.out 1
               go_wp2_with (first | ((with_reducible refine gate_callee (f := 20) rfl ?_); refine goesL_ (some 104) rfl rfl Try.func20 (by kernel_rfl) rfl #[.agg #[.int .i64 t14048, .slice Ao95 t14049.length co95], .agg #[.int .i64 t14007, .slice Ao20 t14008.length co20]] rfl (by (try simp only [List.map_toArray, List.map_cons, List.map_nil]); first | done | rfl | (simp only [List.length_drop, List.length_take]; rfl)) ?_; (with_reducible refine (laws_eqMatroid.calls kj48 t14048 _ _ t14049 t14007 _ _ t14008 false _ ?side1 ?side2 ?side3 ?side4 A96.out).mono ?_); (case side1 => refine (Kd.R_reads' (e := 3) (base := w.heap.size) (ok := fun k_ => ((((True ∧ some k_ ≠ (.slice Ao20 t14008.length co20 : Value).ownBlock) ∧ some k_ ≠ (.slice Ao29 t14020.length co29 : Value).ownBlock) ∧ some k_ ≠ (.slice Ao88 t14042.length co88 : Value).ownBlock) ∧ some k_ ≠ (.slice Ao89 t14045.length co89 : Value).ownBlock)) (n := t14049.length) (c := co95) ?_).2.2; exact (by (with_reducible repeat (first | apply Kd.R_alloc | apply Kd.R_drewN | apply Kd.R_drew)); exact (Kd.R_mono (Kd.R_far (p := ⟨gb14053, 1, none⟩) (Kd.R_far (p := ⟨gb14053, 0, none⟩) (Kd.R_types HO14051.out BK14053.out (by decide)) (fun _ hk => hk.2) (.int .i64 t14048)) (fun _ hk => hk.2) (.slice Ao95 t14049.length co95)) (fun _ h_ => h_.1)))); (case side2 => exact (Kd.R_reads' HO14051.out).2.1); (case side3 => refine (Kd.R_reads' (e := 3) (base := w.heap.size) (ok := fun k_ => (((some k_ ≠ (.slice Ao29 t14020.length co29 : Value).ownBlock ∧ some k_ ≠ (.slice Ao88 t14042.length co88 : Value).ownBlock) ∧ some k_ ≠ (.slice Ao89 t14045.length co89 : Value).ownBlock) ∧ some k_ ≠ (.slice Ao95 t14049.length co95 : Value).ownBlock)) (n := t14008.length) (c := co20) ?_).2.2; exact (by (with_reducible repeat (first | apply Kd.R_alloc | apply Kd.R_drewN | apply Kd.R_drew)); exact (Kd.R_mono (Kd.R_far (p := ⟨gb14053, 1, none⟩) (Kd.R_far (p := ⟨gb14053, 0, none⟩) (Kd.R_types HO_14013001.out BK14053.out (by decide)) (fun _ hk => hk.2) (.int .i64 t14048)) (fun _ hk => hk.2) (.slice Ao95 t14049.length co95)) (fun _ h_ => h_.1)))); (case side4 => exact (Kd.R_reads' HO_14013001.out).2.1); rintro e w109 ⟨rfl, hb⟩; refine ⟨_, rfl, ?_⟩; replace HO_14013001 := aQ (Kd.R_below (by (with_reducible repeat (first | apply Kd.R_alloc | apply Kd.R_drewN | apply Kd.R_drew)); exact (Kd.R_mono (Kd.R_far (p := ⟨gb14053, 1, none⟩) (Kd.R_far (p := ⟨gb14053, 0, none⟩) (Kd.R_types HO_14013001.out BK14053.out (by decide)) (fun _ hk => hk.2) (.int .i64 t14048)) (fun _ hk => hk.2) (.slice Ao95 t14049.length co95)) (fun _ h_ => h_.1))) hb); replace HO_14025001 := aQ (Kd.R_below (by (with_reducible repeat (first | apply Kd.R_alloc | apply Kd.R_drewN | apply Kd.R_drew)); exact (Kd.R_mono (Kd.R_far (p := ⟨gb14053, 1, none⟩) (Kd.R_far (p := ⟨gb14053, 0, none⟩) (Kd.R_types HO_14025001.out BK14053.out (by decide)) (fun _ hk => hk.2) (.int .i64 t14048)) (fun _ hk => hk.2) (.slice Ao95 t14049.length co95)) (fun _ h_ => h_.1))) hb); replace HO14044 := aQ (Kd.R_below (by (with_reducible repeat (first | apply Kd.R_alloc | apply Kd.R_drewN | apply Kd.R_drew)); exact (Kd.R_mono (Kd.R_far (p := ⟨gb14053, 1, none⟩) (Kd.R_far (p := ⟨gb14053, 0, none⟩) (Kd.R_types HO14044.out BK14053.out (by decide)) (fun _ hk => hk.2) (.int .i64 t14048)) (fun _ hk => hk.2) (.slice Ao95 t14049.length co95)) (fun _ h_ => h_.1))) hb); replace HO14047 := aQ (Kd.R_below (by (with_reducible repeat (first | apply Kd.R_alloc | apply Kd.R_drewN | apply Kd.R_drew)); exact (Kd.R_mono (Kd.R_far (p := ⟨gb14053, 1, none⟩) (Kd.R_far (p := ⟨gb14053, 0, none⟩) (Kd.R_types HO14047.out BK14053.out (by decide)) (fun _ hk => hk.2) (.int .i64 t14048)) (fun _ hk => hk.2) (.slice Ao95 t14049.length co95)) (fun _ h_ => h_.1))) hb); replace HO14051 := aQ (Kd.R_below (by (with_reducible repeat (first | apply Kd.R_alloc | apply Kd.R_drewN | apply Kd.R_drew)); exact (Kd.R_mono (Kd.R_far (p := ⟨gb14053, 1, none⟩) (Kd.R_far (p := ⟨gb14053, 0, none⟩) (Kd.R_types HO14051.out BK14053.out (by decide)) (fun _ hk => hk.2) (.int .i64 t14048)) (fun _ hk => hk.2) (.slice Ao95 t14049.length co95)) (fun _ h_ => h_.1))) hb); replace BK14012 := aQ (blk_below (g := gb14012) (o := .cells #[.int .i64 t14007, .slice Ao20 t14008.length co20] 26 (0, 0)) (by (with_reducible repeat (first | refine blk_drewN ?_ _ | refine blk_drew ?_ | refine blk_alloc ?_ _)); refine blk_far ?_ NB14012_14053.out _; (with_reducible repeat (first | refine blk_drewN ?_ _ | refine blk_drew ?_ | refine blk_alloc ?_ _)); refine blk_far ?_ NB14012_14053.out _; (with_reducible repeat (first | refine blk_drewN ?_ _ | refine blk_drew ?_ | refine blk_alloc ?_ _)); exact BK14012.out) hb); replace BK14024 := aQ (blk_below (g := gb14024) (o := .cells #[.int .i64 t14019, .slice Ao29 t14020.length co29] 26 (0, 0)) (by (with_reducible repeat (first | refine blk_drewN ?_ _ | refine blk_drew ?_ | refine blk_alloc ?_ _)); refine blk_far ?_ NB14024_14053.out _; (with_reducible repeat (first | refine blk_drewN ?_ _ | refine blk_drew ?_ | refine blk_alloc ?_ _)); refine blk_far ?_ NB14024_14053.out _; (with_reducible repeat (first | refine blk_drewN ?_ _ | refine blk_drew ?_ | refine blk_alloc ?_ _)); exact BK14024.out) hb); replace BK14053 := aQ (blk_below (g := gb14053) (o := .cells #[.int .i64 t14048, .slice Ao95 t14049.length co95] 26 (0, 0)) (by (with_reducible repeat (first | refine blk_drewN ?_ _ | refine blk_drew ?_ | refine blk_alloc ?_ _)); refine blk_put (cs := #[.int .i64 t14048, .slice none 0 0]) ?_ 1 _ rfl; (with_reducible repeat (first | refine blk_drewN ?_ _ | refine blk_drew ?_ | refine blk_alloc ?_ _)); refine blk_put (cs := #[.int .i64 0, .slice none 0 0]) ?_ 0 _ rfl; (with_reducible repeat (first | refine blk_drewN ?_ _ | refine blk_drew ?_ | refine blk_alloc ?_ _)); exact BK14053.out) hb); replace HB := aQ (below_step (by repeat (first | (with_reducible first | exact HB.out | apply below_alloc | apply pw_below_drewN | apply below_drew1 | refine below_set ?_ GE14012.out | refine below_set ?_ GE14024.out | refine below_set ?_ GE14053.out) | exact HB.out)) hb); (try clear hb); (try clear hb2); (try clear hk); (try clear hi)))
               go_meet
               case rel => exact ⟨_, (true), (by first | rfl | (simp; done) | (simp [*]; done)), H', ⟨by have := HJ11.out; have := HJ48.out; first | omega | exact Nat.le_refl _⟩, ⟨by (with_reducible repeat (first | apply Kd.R_alloc | apply Kd.R_drewN | apply Kd.R_drew)); exact Kd.R_mono HO_14013001.out (fun _ hk => ⟨hk.1.1.1, hk.2⟩)⟩, ⟨by (with_reducible repeat (first | apply Kd.R_alloc | apply Kd.R_drewN | apply Kd.R_drew)); exact Kd.R_mono HO_14025001.out (fun _ hk => ⟨hk.1.1.1, hk.2⟩)⟩, ⟨by (with_reducible repeat (first | apply Kd.R_alloc | apply Kd.R_drewN | apply Kd.R_drew)); exact Kd.R_mono HO14051.out (fun _ hk => ⟨hk.1.1.1.2, hk.1.1.2⟩)⟩, ⟨by (with_reducible repeat (first | refine blk_drewN ?_ _ | refine blk_drew ?_ | refine blk_alloc ?_ _)); exact BK14012.out⟩, ⟨by (with_reducible repeat (first | refine blk_drewN ?_ _ | refine blk_drew ?_ | refine blk_alloc ?_ _)); exact BK14024.out⟩, ⟨by (with_reducible repeat (first | refine blk_drewN ?_ _ | refine blk_drew ?_ | refine blk_alloc ?_ _)); exact BK14053.out⟩, ⟨by repeat (first | (with_reducible first | exact HB.out | apply below_alloc | apply pw_below_drewN | apply below_drew1 | refine below_set ?_ GE14012.out | refine below_set ?_ GE14024.out | refine below_set ?_ GE14053.out) | exact HB.out)⟩⟩
             case rest =>
              clear HC80
              try clear c1
              try clear c2
              try clear p2
              try clear c3
              try clear c4
              try clear c4b0
              try clear c4b1
              try clear c5
              try clear c5b0
              try clear c5b1
              try clear c6
              try clear c7
              try clear c8
              try clear c9
              try clear c10
              try clear c13
              try clear c20
              try clear c21
              try clear c22
              try clear c25
              try clear c26
              try clear c27
              try clear c31
              try clear c32
              try clear c36
              try clear c40
              try clear c43
              try clear c45
              try clear c46
              try clear c56
              try clear c56b0
              try clear c58
              try clear c59
              try clear c63
              try clear c67
              try clear c70
              try clear c70b0
              try clear c71
              try clear c76
              try clear c76b0
              try clear c76b1
              try clear c81
              try clear c92
              try clear c93
              try clear c97
              try clear c98
              try clear c99
              try clear c101
              try clear c104
              try clear c105
              try clear c107
              try clear hcz100_0
              try clear hcz100_1
              try clear hcz102_0
              try clear hcz102_1
              try clear hcz106_0
              try clear hcz106_1
              try clear hcz108_0
              try clear hcz108_1
              try clear hcz19_0
              try clear hcz19_1
              try clear hcz28_0
              try clear hcz28_1
              try clear hcz33_0
              try clear hcz33_1
              try clear hcz34_0
              try clear hcz34_1
              try clear hcz37_0
              try clear hcz37_1
              try clear hcz38_0
              try clear hcz38_1
              try clear hcz60_0
              try clear hcz60_1
              try clear hcz61_0
              try clear hcz61_1
              try clear hcz64_0
              try clear hcz64_1
              try clear hcz65_0
              try clear hcz65_1
              try clear hcz72_0
              try clear hcz72_1
              try clear hcz74_0
              try clear hcz74_1
              try clear hcz82_0
              try clear hcz82_1
              try clear hcz84_0
              try clear hcz84_1
              try clear hcz94_0
              try clear hcz94_1
              try clear hfz100_0
              try clear hfz100_1
              try clear hfz102_0
              try clear hfz102_1
              try clear hfz106_0
              try clear hfz106_1
              try clear hfz108_0
              try clear hfz108_1
              try clear hfz19_0
              try clear hfz19_1
              try clear hfz28_0
              try clear hfz28_1
              try clear hfz33_0
              try clear hfz33_1
              try clear hfz34_0
              try clear hfz34_1
              try clear hfz37_0
              try clear hfz37_1
              try clear hfz38_0
              try clear hfz38_1
              try clear hfz60_0
              try clear hfz60_1
              try clear hfz61_0
              try clear hfz61_1
              try clear hfz64_0
              try clear hfz64_1
              try clear hfz65_0
              try clear hfz65_1
              try clear hfz72_0
              try clear hfz72_1
              try clear hfz74_0
              try clear hfz74_1
              try clear hfz82_0
              try clear hfz82_1
              try clear hfz84_0
              try clear hfz84_1
              try clear hfz94_0
              try clear hfz94_1
              try clear p2
              obtain ⟨kq, x110_79, rfl, HA, HJ79, HO_14013001, HO_14025001, HO_14054001, BK14012, BK14024, BK14053, HB⟩ := hcut
              have hl14025001_79 := (Kd.R_reads' HO_14025001.out).1
              rw [hl14025001_79] at HO_14025001
              (try simp only [hl14025001_79])
              (try simp only [hl14025001_79] at BK14012)
              (try simp only [hl14025001_79] at BK14024)
              (try simp only [hl14025001_79] at BK14053)
              (try simp only [hl14025001_79] at HO_14013001)
              (try simp only [hl14025001_79] at HO_14054001)
              cases kq with
              | zero => exact absurd HA.out (by simp [laws_FnExactPartitionMatroid.j2])
              | succ kj79 =>
               have H := HA.out
               clear HA
               simp only [laws_FnExactPartitionMatroid.j2] at H
               by_cases c110 : x110_79 = true
               ·subst c110
                have H1 : (some false) = some true := by rw [if_pos rfl] at H; exact H
                clear H
                have H := H1
                clear H1
                exact absurd (Option.some.inj H) (by decide)
               ·replace c110 := Bool.eq_false_iff.mpr c110
                subst c110
                have H1 : ((laws_heldMatroid.f kj79 t14019 t14040 1).bind fun t14055 => (if t14055 < 0 then (some false) else (if t14055 = t14039 then (some true) else (some false)))) = some true := by rw [if_neg (show ¬ (false = true) by decide)] at H; exact H
                clear H
                have H := H1
                clear H1
                replace H := Option.bind_eq_some_iff.mp H
                obtain ⟨t14055, A1110, H⟩ := H
                replace H : (if t14055 < 0 then (some false) else (if t14055 = t14039 then (some true) else (some false))) = some true := H
                have A111 := aQ A1110
                clear A1110
                by_cases c112 : t14055 < 0
                ·rw [if_pos c112] at H
                 have c112b0 : decide (t14055 < 0) = true := decide_eq_true c112
                 clear c112
                 exact absurd (Option.some.inj H) (by decide)
                ·rw [if_neg c112] at H
                 have c112b0 : decide (t14055 < 0) = false := decide_eq_false c112
                 clear c112
                 by_cases c117 : t14055 = t14039
                 ·rw [if_pos c117] at H
                  have c117b0 : (t14055 == t14039) = true := beq_iff_eq.mpr c117
                  have c117b1 : (t14055 != t14039) = false := bne_eq_false_iff_eq.mpr c117
                  clear c117
                  clear H
                  have hnb118 := NB14024_14012.out
                  have hnc118 := NB14012_14024.out
                  have hnb119 := NB14024_14053.out
                  have hnc119 := NB14053_14024.out
                  have hcz120_0 : wc.cell? ⟨gb14024, 0, none⟩ = some (.int .i64 t14019) := (blk_cell BK14024.out 0).trans rfl
                  have hcz120_1 : wc.cell? ⟨gb14024, 1, none⟩ = some (.slice Ao29 t14040.length co29) := (blk_cell BK14024.out 1).trans rfl
                  have hfz120_0 := blk_frozen BK14024.out 0
                  have hfz120_1 := blk_frozen BK14024.out 1
                  go_wp2_with (first | ((with_reducible refine gate_callee (f := 22) rfl ?_); refine goesL_ (some 113) rfl rfl Try.func22 (by kernel_rfl) rfl #[.agg #[.int .i64 t14019, .slice Ao29 t14040.length co29], .int .i64 1] rfl (by (try simp only [List.map_toArray, List.map_cons, List.map_nil]); first | done | rfl | (simp only [List.length_drop, List.length_take]; rfl)) ?_; (with_reducible refine (laws_heldMatroid.calls kj79 t14019 _ _ t14040 1 t14055 _ ?side1 ?side2 A111.out).mono ?_); (case side1 => repeat (first | exact (Kd.R_reads' HO_14025001.out).2.2 | (with_reducible refine Kd.C_alloc ?_ _) | (with_reducible refine Kd.C_drewN ?_ _) | (with_reducible refine Kd.C_drew ?_))); (case side2 => exact (Kd.R_reads' HO_14025001.out).2.1); rintro e w121 ⟨rfl, hb⟩; refine ⟨_, rfl, ?_⟩; replace HO_14013001 := aQ (Kd.R_below (by (with_reducible repeat (first | apply Kd.R_alloc | apply Kd.R_drewN | apply Kd.R_drew)); exact HO_14013001.out) hb); replace HO_14025001 := aQ (Kd.R_below (by (with_reducible repeat (first | apply Kd.R_alloc | apply Kd.R_drewN | apply Kd.R_drew)); exact HO_14025001.out) hb); replace HO_14054001 := aQ (Kd.R_below (by (with_reducible repeat (first | apply Kd.R_alloc | apply Kd.R_drewN | apply Kd.R_drew)); exact HO_14054001.out) hb); replace BK14012 := aQ (blk_below (g := gb14012) (o := .cells #[.int .i64 t14007, .slice Ao20 t14008.length co20] 26 (0, 0)) (by (with_reducible repeat (first | refine blk_drewN ?_ _ | refine blk_drew ?_ | refine blk_alloc ?_ _)); exact BK14012.out) hb); replace BK14024 := aQ (blk_below (g := gb14024) (o := .cells #[.int .i64 t14019, .slice Ao29 t14040.length co29] 26 (0, 0)) (by (with_reducible repeat (first | refine blk_drewN ?_ _ | refine blk_drew ?_ | refine blk_alloc ?_ _)); exact BK14024.out) hb); replace BK14053 := aQ (blk_below (g := gb14053) (o := .cells #[.int .i64 t14048, .slice Ao95 t14049.length co95] 26 (0, 0)) (by (with_reducible repeat (first | refine blk_drewN ?_ _ | refine blk_drew ?_ | refine blk_alloc ?_ _)); exact BK14053.out) hb); replace HB := aQ (below_step (by repeat (first | (with_reducible first | exact HB.out | apply below_alloc | apply pw_below_drewN | apply below_drew1 | refine below_set ?_ GE14012.out | refine below_set ?_ GE14024.out | refine below_set ?_ GE14053.out) | exact HB.out)) hb); (try clear hb); (try clear hb2); (try clear hk); (try clear hi)))
                  go_ret
                  exact ⟨by first | rfl | (simp [errW_none, errW_some] <;> rfl) | (simp [*, errW_none, errW_some] <;> rfl), by repeat (first | (with_reducible first | exact HB.out | apply below_alloc | apply pw_below_drewN | apply below_drew1 | refine below_set ?_ GE14012.out | refine below_set ?_ GE14024.out | refine below_set ?_ GE14053.out) | exact HB.out)⟩
                 ·rw [if_neg c117] at H
                  have c117b0 : (t14055 == t14039) = false := beq_eq_false_iff_ne.mpr c117
                  have c117b1 : (t14055 != t14039) = true := bne_iff_ne.mpr c117
                  exact absurd (Option.some.inj H) (by decide)
            ·rw [if_neg c76] at H
             have c76b0 : (t14041 == t14039) = false := beq_eq_false_iff_ne.mpr c76
             have c76b1 : (t14041 != t14039) = true := bne_iff_ne.mpr c76
             exact absurd (Option.some.inj H) (by decide)
       ·replace c46 := Bool.eq_false_iff.mpr c46
        subst c46
        have H1 : (some false) = some true := by rw [if_neg (show ¬ (false = true) by decide)] at H; exact H
        clear H
        have H := H1
        clear H1
        exact absurd (Option.some.inj H) (by decide)
      ·replace c43 := Bool.eq_false_iff.mpr c43
       subst c43
       have H1 : (some false) = some true := by rw [if_neg (show ¬ (false = true) by decide)] at H; exact H
       clear H
       have H := H1
       clear H1
       exact absurd (Option.some.inj H) (by decide)
/-- THE ONE PURE STATEMENT of laws_FnExactPartitionMatroid: yours. -/
def laws_FnExactPartitionMatroid.Pure : Prop := ∀ (a0 : Int) (l1 : List Int) (l2 : List Int), (Lit.int .i64 a0).wf = true → l1.length ≤ maxLen → l1.length * 8 ≤ 140737488351232 → (∀ x ∈ l1, (Lit.int .i64 x).wf = true) → l2.length ≤ maxLen → l2.length * 8 ≤ 140737488351232 → (∀ x ∈ l2, (Lit.int .i64 x).wf = true) → ∃ k, laws_FnExactPartitionMatroid.f k a0 l1 l2 = some true
theorem laws_FnExactPartitionMatroid.walk (P : laws_FnExactPartitionMatroid.Pure) (a0 : Int) (a1 : Option Addr) (len1 cap1 : Nat) (z1 : List Int) (a2 : Option Addr) (len2 cap2 : Nat) (z2 : List Int) (w : World) (w0 : (Lit.int .i64 a0).wf = true) (w1 : (a1 = none ∧ len1 = 0 ∧ cap1 = 0 ∧ z1 = []) ∨ ∃ x, a1 = some x ∧ len1 ≤ cap1 ∧ cap1 ≤ maxLen ∧ z1.length = cap1 ∧ (∀ i, i < z1.length → w.cell? (x.add i) = some (.int .i64 (z1.getD i 0))) ∧ ∀ n ∈ z1, (Lit.int .i64 n).wf = true) (y1 : len1 * 8 ≤ 140737488351232) (w2 : (a2 = none ∧ len2 = 0 ∧ cap2 = 0 ∧ z2 = []) ∨ ∃ x, a2 = some x ∧ len2 ≤ cap2 ∧ cap2 ≤ maxLen ∧ z2.length = cap2 ∧ (∀ i, i < z2.length → w.cell? (x.add i) = some (.int .i64 (z2.getD i 0))) ∧ ∀ n ∈ z2, (Lit.int .i64 n).wf = true) (y2 : len2 * 8 ≤ 140737488351232) :
  Calls Try.prog 13 #[.int .i64 a0, .slice a1 len1 cap1, .slice a2 len2 cap2] w fun e w' => e = .returned (.bool true) ∧ Below w.heap.size w w' := by
 obtain ⟨l1, rfl, hr1, hm1, hw1, hc1⟩ := ReadsInt.ofRowC w1
 obtain ⟨l2, rfl, hr2, hm2, hw2, hc2⟩ := ReadsInt.ofRowC w2
 obtain ⟨k, h⟩ := P a0 l1 l2 w0 hm1 y1 hw1 hm2 y2 hw2
 refine (laws_FnExactPartitionMatroid.calls k a0 _ _ l1 _ _ l2 w (Kd.C_of_reads (d := (0 : Int)) (h1 := fun _ => rfl) hr1) hc1 (Kd.C_of_reads (d := (0 : Int)) (h1 := fun _ => rfl) hr2) hc2 h).mono ?_
 rintro e w' ⟨rfl, hd⟩
 exact ⟨rfl, hd⟩
end Go.Proofs.Ytagncnjllpebjaa.A
