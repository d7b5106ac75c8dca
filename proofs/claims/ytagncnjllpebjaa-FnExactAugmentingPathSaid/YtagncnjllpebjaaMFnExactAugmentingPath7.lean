/- Machine side of the law FnExactAugmentingPath: Go functions as Lean functions, and proofs that calls come to what these tell. Conditions: those in each theorem. -/
import Derived.Test.YtagncnjllpebjaaMFnExactAugmentingPath0
import Derived.Test.YtagncnjllpebjaaMFnExactAugmentingPath1
import Derived.Test.YtagncnjllpebjaaMFnExactAugmentingPath2
import Derived.Test.YtagncnjllpebjaaMFnExactAugmentingPath4
import Derived.Test.YtagncnjllpebjaaMFnExactAugmentingPath6
namespace Go.Proofs.Ytagncnjllpebjaa.A
open Go.RowKit Go.Proofs.YtagncnjllpebjaaW.PrintWords Go.Proofs.YtagncnjllpebjaaW.PrintLast Go.Proofs.YtagncnjllpebjaaW.PrintMore
attribute [local go_sem] max2_int min2_int max_two min_two max_three min_three max_four min_four
set_option linter.unusedVariables false
set_option linter.unusedSimpArgs false
/-! ### laws_FnExactAugmentingPath: function 4 -/
mutual
def laws_FnExactAugmentingPath.j0 : Nat → Int → List Int → Bool → List Int → Bool → Bool → Int → List Int → Int → List Int → Int → List Int → Int → List Int → Option (Bool)
 | 0, _, _, _, _, _, _, _, _, _, _, _, _, _, _ => none
 | k + 1, x2, x8, x9, x12, x13, x57, x5002000, x5002001, x5003000, x5003001, x5022000, x5022001, x5027000, x5027001 => if x57 = true then (some false) else ((laws_toMatroid.f k x5002000 x5002001).bind fun bt5032 => ((laws_eqMatroid.f k x5022000 x5022001 bt5032.1 bt5032.2).bind fun t5036 => (if t5036 = true then ((laws_toMatroid.f k x5003000 x5003001).bind fun bt5037 => ((laws_eqMatroid.f k x5027000 x5027001 bt5037.1 bt5037.2).bind fun t5041 => (if t5041 = true then ((laws_markMatroid.f k x5022000 x5022001 1).bind fun bt5042 => ((laws_markMatroid.f k x5027000 x5027001 bt5042.1).bind fun bt5044 => (if bt5044.1 < 0 then (laws_FnExactAugmentingPath.j1 k x2 x8 x9 x12 true x5002000 x5002001 x5003000 x5003001) else ((laws_eqIntS.f k x12 x8).bind fun t5046 => (if t5046 = true then (laws_FnExactAugmentingPath.j1 k x2 x8 x9 x12 (x13 != x9) x5002000 x5002001 x5003000 x5003001) else (laws_FnExactAugmentingPath.j1 k x2 x8 x9 x12 true x5002000 x5002001 x5003000 x5003001)))))) else (some false)))) else (some false))))
def laws_FnExactAugmentingPath.j1 : Nat → Int → List Int → Bool → List Int → Bool → Int → List Int → Int → List Int → Option (Bool)
 | 0, _, _, _, _, _, _, _, _, _ => none
 | k + 1, x2, x8, x9, x12, x86, x5002000, x5002001, x5003000, x5003001 => if x86 = true then (some false) else ((laws_markIntS.f k x12 1).bind fun bt5047 => ((laws_heldIntS.f k bt5047.2 1).bind fun t5049 => (if t5049 < 0 then (some false) else (if t5049 = bt5047.1 then ((laws_toMatroid.f k x5002000 x5002001).bind fun bt5050 => ((laws_toMatroid.f k x5003000 x5003001).bind fun bt5054 => ((impl_AugmentingPath.f k bt5050.1 bt5050.2 bt5054.1 bt5054.2 x2).bind fun bt5058 => ((laws_eqIntS.f k bt5058.1 x8).bind fun t5062 => (if t5062 = true then (laws_FnExactAugmentingPath.j2 k bt5047.2 bt5047.1 (bt5058.2 != x9)) else (laws_FnExactAugmentingPath.j2 k bt5047.2 bt5047.1 true)))))) else (some false)))))
def laws_FnExactAugmentingPath.j2 : Nat → List Int → Int → Bool → Option (Bool)
 | 0, _, _, _ => none
 | k + 1, x12, x15, x115 => if x115 = true then (some false) else ((laws_heldIntS.f k x12 1).bind fun t5063 => (if t5063 < 0 then (some false) else (if t5063 = x15 then (some true) else (some false))))
end
def laws_FnExactAugmentingPath.f (k : Nat) (a0_0 : Int) (l0_1 : List Int) (a1_0 : Int) (l1_1 : List Int) (a2 : Int) : Option (Bool) := (laws_szMatroid.f a0_0 l0_1 1048576).bind fun t5003 => (if t5003 < 0 then (some true) else ((laws_szMatroid.f a1_0 l1_1 t5003).bind fun t5004 => (if t5004 < 0 then (some true) else ((laws_toMatroid.f k a0_0 l0_1).bind fun bt5005 => ((laws_toMatroid.f k a1_0 l1_1).bind fun bt5009 => ((spec_AugmentingPath.f k bt5005.1 bt5005.2 bt5009.1 bt5009.2 a2).bind fun bt5013 => ((laws_toMatroid.f k a0_0 l0_1).bind fun bt5017 => ((laws_toMatroid.f k a1_0 l1_1).bind fun bt5022 => ((impl_AugmentingPath.f k bt5017.1 bt5017.2 bt5022.1 bt5022.2 a2).bind fun bt5027 => ((laws_eqIntS.f k bt5027.1 bt5013.1).bind fun t5031 => (if t5031 = true then (laws_FnExactAugmentingPath.j0 k a2 bt5013.1 bt5013.2 bt5027.1 bt5027.2 (bt5027.2 != bt5013.2) a0_0 l0_1 a1_0 l1_1 bt5017.1 bt5017.2 bt5022.1 bt5022.2) else (laws_FnExactAugmentingPath.j0 k a2 bt5013.1 bt5013.2 bt5027.1 bt5027.2 true a0_0 l0_1 a1_0 l1_1 bt5017.1 bt5017.2 bt5022.1 bt5022.2))))))))))))
theorem laws_FnExactAugmentingPath.mono_l : ∀ k, (∀ y0 y1 y2 y3 y4 y5 y6 y7 y8 y9 y10 y11 y12 y13, LeO (laws_FnExactAugmentingPath.j0 k y0 y1 y2 y3 y4 y5 y6 y7 y8 y9 y10 y11 y12 y13) (laws_FnExactAugmentingPath.j0 (k + 1) y0 y1 y2 y3 y4 y5 y6 y7 y8 y9 y10 y11 y12 y13)) ∧ (∀ y0 y1 y2 y3 y4 y5 y6 y7 y8, LeO (laws_FnExactAugmentingPath.j1 k y0 y1 y2 y3 y4 y5 y6 y7 y8) (laws_FnExactAugmentingPath.j1 (k + 1) y0 y1 y2 y3 y4 y5 y6 y7 y8)) ∧ (∀ y0 y1 y2, LeO (laws_FnExactAugmentingPath.j2 k y0 y1 y2) (laws_FnExactAugmentingPath.j2 (k + 1) y0 y1 y2))
 | 0 => ⟨fun _ _ _ _ _ _ _ _ _ _ _ _ _ _ r h => by simp [laws_FnExactAugmentingPath.j0] at h, fun _ _ _ _ _ _ _ _ _ r h => by simp [laws_FnExactAugmentingPath.j1] at h, fun _ _ _ r h => by simp [laws_FnExactAugmentingPath.j2] at h⟩
 | k + 1 => by
  obtain ⟨ih0, ih1, ih2⟩ := laws_FnExactAugmentingPath.mono_l k
  refine ⟨?_, ?_, ?_⟩
  ·intro y0 y1 y2 y3 y4 y5 y6 y7 y8 y9 y10 y11 y12 y13
   unfold laws_FnExactAugmentingPath.j0
   repeat' first
   | (with_reducible exact ih0 _ _ _ _ _ _ _ _ _ _ _ _ _ _)
   | (with_reducible exact ih1 _ _ _ _ _ _ _ _ _)
   | (with_reducible exact ih2 _ _ _)
   | (with_reducible exact impl_AugmentingPath.mono _ _ _ _ _ _)
   | (with_reducible exact laws_eqIntS.mono _ _ _)
   | (with_reducible exact laws_eqMatroid.mono _ _ _ _ _)
   | (with_reducible exact laws_heldIntS.mono _ _ _)
   | (with_reducible exact laws_markIntS.mono _ _ _)
   | (with_reducible exact laws_markMatroid.mono _ _ _ _)
   | (with_reducible exact laws_toMatroid.mono _ _ _)
   | (with_reducible exact spec_AugmentingPath.mono _ _ _ _ _ _)
   | (with_reducible exact LeO.refl _)
   | (with_reducible exact LeO.none _)
   | (with_reducible refine LeO.ite ?_ ?_)
   | (with_reducible refine LeO.bind ?_ (fun _ => ?_))
   | exact ih0 _ _ _ _ _ _ _ _ _ _ _ _ _ _
   | exact ih1 _ _ _ _ _ _ _ _ _
   | exact ih2 _ _ _
   | exact impl_AugmentingPath.mono _ _ _ _ _ _
   | exact laws_eqIntS.mono _ _ _
   | exact laws_eqMatroid.mono _ _ _ _ _
   | exact laws_heldIntS.mono _ _ _
   | exact laws_markIntS.mono _ _ _
   | exact laws_markMatroid.mono _ _ _ _
   | exact laws_toMatroid.mono _ _ _
   | exact spec_AugmentingPath.mono _ _ _ _ _ _
   | exact LeO.none _
   | refine LeO.ite ?_ ?_
   | refine LeO.bind ?_ (fun _ => ?_)
  ·intro y0 y1 y2 y3 y4 y5 y6 y7 y8
   unfold laws_FnExactAugmentingPath.j1
   repeat' first
   | (with_reducible exact ih0 _ _ _ _ _ _ _ _ _ _ _ _ _ _)
   | (with_reducible exact ih1 _ _ _ _ _ _ _ _ _)
   | (with_reducible exact ih2 _ _ _)
   | (with_reducible exact impl_AugmentingPath.mono _ _ _ _ _ _)
   | (with_reducible exact laws_eqIntS.mono _ _ _)
   | (with_reducible exact laws_eqMatroid.mono _ _ _ _ _)
   | (with_reducible exact laws_heldIntS.mono _ _ _)
   | (with_reducible exact laws_markIntS.mono _ _ _)
   | (with_reducible exact laws_markMatroid.mono _ _ _ _)
   | (with_reducible exact laws_toMatroid.mono _ _ _)
   | (with_reducible exact spec_AugmentingPath.mono _ _ _ _ _ _)
   | (with_reducible exact LeO.refl _)
   | (with_reducible exact LeO.none _)
   | (with_reducible refine LeO.ite ?_ ?_)
   | (with_reducible refine LeO.bind ?_ (fun _ => ?_))
   | exact ih0 _ _ _ _ _ _ _ _ _ _ _ _ _ _
   | exact ih1 _ _ _ _ _ _ _ _ _
   | exact ih2 _ _ _
   | exact impl_AugmentingPath.mono _ _ _ _ _ _
   | exact laws_eqIntS.mono _ _ _
   | exact laws_eqMatroid.mono _ _ _ _ _
   | exact laws_heldIntS.mono _ _ _
   | exact laws_markIntS.mono _ _ _
   | exact laws_markMatroid.mono _ _ _ _
   | exact laws_toMatroid.mono _ _ _
   | exact spec_AugmentingPath.mono _ _ _ _ _ _
   | exact LeO.none _
   | refine LeO.ite ?_ ?_
   | refine LeO.bind ?_ (fun _ => ?_)
  ·intro y0 y1 y2
   unfold laws_FnExactAugmentingPath.j2
   repeat' first
   | (with_reducible exact ih0 _ _ _ _ _ _ _ _ _ _ _ _ _ _)
   | (with_reducible exact ih1 _ _ _ _ _ _ _ _ _)
   | (with_reducible exact ih2 _ _ _)
   | (with_reducible exact impl_AugmentingPath.mono _ _ _ _ _ _)
   | (with_reducible exact laws_eqIntS.mono _ _ _)
   | (with_reducible exact laws_eqMatroid.mono _ _ _ _ _)
   | (with_reducible exact laws_heldIntS.mono _ _ _)
   | (with_reducible exact laws_markIntS.mono _ _ _)
   | (with_reducible exact laws_markMatroid.mono _ _ _ _)
   | (with_reducible exact laws_toMatroid.mono _ _ _)
   | (with_reducible exact spec_AugmentingPath.mono _ _ _ _ _ _)
   | (with_reducible exact LeO.refl _)
   | (with_reducible exact LeO.none _)
   | (with_reducible refine LeO.ite ?_ ?_)
   | (with_reducible refine LeO.bind ?_ (fun _ => ?_))
   | exact ih0 _ _ _ _ _ _ _ _ _ _ _ _ _ _
   | exact ih1 _ _ _ _ _ _ _ _ _
   | exact ih2 _ _ _
   | exact impl_AugmentingPath.mono _ _ _ _ _ _
   | exact laws_eqIntS.mono _ _ _
   | exact laws_eqMatroid.mono _ _ _ _ _
   | exact laws_heldIntS.mono _ _ _
   | exact laws_markIntS.mono _ _ _
   | exact laws_markMatroid.mono _ _ _ _
   | exact laws_toMatroid.mono _ _ _
   | exact spec_AugmentingPath.mono _ _ _ _ _ _
   | exact LeO.none _
   | refine LeO.ite ?_ ?_
   | refine LeO.bind ?_ (fun _ => ?_)
theorem laws_FnExactAugmentingPath.mono : ∀ a0 a1 a2 a3 a4 k, LeO (laws_FnExactAugmentingPath.f k a0 a1 a2 a3 a4) (laws_FnExactAugmentingPath.f (k + 1) a0 a1 a2 a3 a4) := by
 intro a0 a1 a2 a3 a4 k
 obtain ⟨ih0, ih1, ih2⟩ := laws_FnExactAugmentingPath.mono_l k
 unfold laws_FnExactAugmentingPath.f
 repeat' first
   | (with_reducible exact ih0 _ _ _ _ _ _ _ _ _ _ _ _ _ _)
   | (with_reducible exact ih1 _ _ _ _ _ _ _ _ _)
   | (with_reducible exact ih2 _ _ _)
   | (with_reducible exact impl_AugmentingPath.mono _ _ _ _ _ _)
   | (with_reducible exact laws_eqIntS.mono _ _ _)
   | (with_reducible exact laws_eqMatroid.mono _ _ _ _ _)
   | (with_reducible exact laws_heldIntS.mono _ _ _)
   | (with_reducible exact laws_markIntS.mono _ _ _)
   | (with_reducible exact laws_markMatroid.mono _ _ _ _)
   | (with_reducible exact laws_toMatroid.mono _ _ _)
   | (with_reducible exact spec_AugmentingPath.mono _ _ _ _ _ _)
   | (with_reducible exact LeO.refl _)
   | (with_reducible exact LeO.none _)
   | (with_reducible refine LeO.ite ?_ ?_)
   | (with_reducible refine LeO.bind ?_ (fun _ => ?_))
   | exact ih0 _ _ _ _ _ _ _ _ _ _ _ _ _ _
   | exact ih1 _ _ _ _ _ _ _ _ _
   | exact ih2 _ _ _
   | exact impl_AugmentingPath.mono _ _ _ _ _ _
   | exact laws_eqIntS.mono _ _ _
   | exact laws_eqMatroid.mono _ _ _ _ _
   | exact laws_heldIntS.mono _ _ _
   | exact laws_markIntS.mono _ _ _
   | exact laws_markMatroid.mono _ _ _ _
   | exact laws_toMatroid.mono _ _ _
   | exact spec_AugmentingPath.mono _ _ _ _ _ _
   | exact LeO.none _
   | refine LeO.ite ?_ ?_
   | refine LeO.bind ?_ (fun _ => ?_)
def laws_FnExactAugmentingPath.T8 : Bool × List (List Nat × List Nat) := (true, [([], []), ([0], [0]), ([], []), ([2, 1], [2]), ([], []), ([1, 3, 4, 3], [1, 3, 4]), ([5], [5]), ([6], [6]), ([6], [6]), ([7, 5, 0, 1, 2, 3, 4, 5, 6, 7], [7]), ([8, 9, 0, 1, 2, 3, 4, 5, 6, 7, 8, 9], [8])])
def laws_FnExactAugmentingPath.B8 : List Nat := [0, 1, 0, 7, 0, 31, 63, 127, 127, 255, 1023]
theorem laws_FnExactAugmentingPath.tab8 : rtab .any (opsOf Try.f4 8) = laws_FnExactAugmentingPath.T8 := by kernel_rfl
theorem laws_FnExactAugmentingPath.bits8 : waitsOk laws_FnExactAugmentingPath.T8.2 laws_FnExactAugmentingPath.B8 = true := by kernel_rfl
def laws_FnExactAugmentingPath.T31 : Bool × List (List Nat × List Nat) := (true, [([], []), ([0], [0]), ([], []), ([2, 1], [2]), ([], []), ([1, 3, 4, 3], [1, 3, 4]), ([5], [5]), ([6], [6]), ([6], [6]), ([7, 5, 0, 1, 2, 3, 4, 5, 6, 7], [7]), ([8, 9, 0, 1, 2, 3, 4, 5, 6, 7, 8, 9], [8])])
def laws_FnExactAugmentingPath.B31 : List Nat := [0, 1, 0, 7, 0, 31, 63, 127, 127, 255, 1023]
theorem laws_FnExactAugmentingPath.tab31 : rtab .any (opsOf Try.f4 31) = laws_FnExactAugmentingPath.T31 := by kernel_rfl
theorem laws_FnExactAugmentingPath.bits31 : waitsOk laws_FnExactAugmentingPath.T31.2 laws_FnExactAugmentingPath.B31 = true := by kernel_rfl
set_option maxHeartbeats 8000000 in
set_option maxRecDepth 100000 in
theorem laws_FnExactAugmentingPath.calls (k : Nat) (a0_0 : Int) (A0_1 : Option Addr) (c0_1 : Nat) (l0_1 : List Int) (a1_0 : Int) (A1_1 : Option Addr) (c1_1 : Nat) (l1_1 : List Int) (a2 : Int) (w : World) (hr0_1 : Kd.C (Kd.int .i64) w A0_1 l0_1.length l0_1) (hc0_1 : l0_1.length ≤ c0_1) (hr1_1 : Kd.C (Kd.int .i64) w A1_1 l1_1.length l1_1) (hc1_1 : l1_1.length ≤ c1_1) (h : laws_FnExactAugmentingPath.f k a0_0 l0_1 a1_0 l1_1 a2 = some true) :
  Calls Try.prog 4 #[.agg #[.int .i64 a0_0, .slice A0_1 l0_1.length c0_1], .agg #[.int .i64 a1_0, .slice A1_1 l1_1.length c1_1], .int .i64 a2] w fun e w' => e = .returned (.bool true) ∧ Below w.heap.size w w' := by
 have hu24 := Try.underlying24
 have hu26 := Try.underlying26
 have HR0_1 := aQ hr0_1
 have HC0_1 := aQ hc0_1
 clear hr0_1 hc0_1
 have HR1_1 := aQ hr1_1
 have HC1_1 := aQ hc1_1
 clear hr1_1 hc1_1
 have HB := aQ (Below.refl w.heap.size w)
 have H : ((laws_szMatroid.f a0_0 l0_1 1048576).bind fun t5003 => (if t5003 < 0 then (some true) else ((laws_szMatroid.f a1_0 l1_1 t5003).bind fun t5004 => (if t5004 < 0 then (some true) else ((laws_toMatroid.f k a0_0 l0_1).bind fun bt5005 => ((laws_toMatroid.f k a1_0 l1_1).bind fun bt5009 => ((spec_AugmentingPath.f k bt5005.1 bt5005.2 bt5009.1 bt5009.2 a2).bind fun bt5013 => ((laws_toMatroid.f k a0_0 l0_1).bind fun bt5017 => ((laws_toMatroid.f k a1_0 l1_1).bind fun bt5022 => ((impl_AugmentingPath.f k bt5017.1 bt5017.2 bt5022.1 bt5022.2 a2).bind fun bt5027 => ((laws_eqIntS.f k bt5027.1 bt5013.1).bind fun t5031 => (if t5031 = true then (laws_FnExactAugmentingPath.j0 k a2 bt5013.1 bt5013.2 bt5027.1 bt5027.2 (bt5027.2 != bt5013.2) a0_0 l0_1 a1_0 l1_1 bt5017.1 bt5017.2 bt5022.1 bt5022.2) else (laws_FnExactAugmentingPath.j0 k a2 bt5013.1 bt5013.2 bt5027.1 bt5027.2 true a0_0 l0_1 a1_0 l1_1 bt5017.1 bt5017.2 bt5022.1 bt5022.2))))))))))))) = some true := h
 clear h
 replace H := Option.bind_eq_some_iff.mp H
 obtain ⟨t5003, A40, H⟩ := H
 replace H : (if t5003 < 0 then (some true) else ((laws_szMatroid.f a1_0 l1_1 t5003).bind fun t5004 => (if t5004 < 0 then (some true) else ((laws_toMatroid.f k a0_0 l0_1).bind fun bt5005 => ((laws_toMatroid.f k a1_0 l1_1).bind fun bt5009 => ((spec_AugmentingPath.f k bt5005.1 bt5005.2 bt5009.1 bt5009.2 a2).bind fun bt5013 => ((laws_toMatroid.f k a0_0 l0_1).bind fun bt5017 => ((laws_toMatroid.f k a1_0 l1_1).bind fun bt5022 => ((impl_AugmentingPath.f k bt5017.1 bt5017.2 bt5022.1 bt5022.2 a2).bind fun bt5027 => ((laws_eqIntS.f k bt5027.1 bt5013.1).bind fun t5031 => (if t5031 = true then (laws_FnExactAugmentingPath.j0 k a2 bt5013.1 bt5013.2 bt5027.1 bt5027.2 (bt5027.2 != bt5013.2) a0_0 l0_1 a1_0 l1_1 bt5017.1 bt5017.2 bt5022.1 bt5022.2) else (laws_FnExactAugmentingPath.j0 k a2 bt5013.1 bt5013.2 bt5027.1 bt5027.2 true a0_0 l0_1 a1_0 l1_1 bt5017.1 bt5017.2 bt5022.1 bt5022.2)))))))))))) = some true := H
 have A4 := aQ A40
 clear A40
 by_cases c5 : t5003 < 0
 ·rw [if_pos c5] at H
  have c5b0 : decide (t5003 < 0) = true := decide_eq_true c5
  clear c5
  clear H
  go_enter Try.func4, Try.ntmps4
  go_wp2_with (first | ((with_reducible refine gate_dst (N := 3) rfl ?_); refine box_event ?hg (N := 3) ?hd (cs := #[.int .i64 a0_0, .slice A0_1 l0_1.length c0_1]) (t := 24) ?hr ?_; (case hd => rfl); (case hg => rfl); (case hr => first | (go_simp; done) | (go_simp; rfl)); intro gb5001 hg w6 hbox hb; have BK5001 := aQ (hbox); have GW5001 := aQ ((by rw [hg]; exact (below_size (pB HB.out)) : w.heap.size ≤ gb5001)); have GE5001 := aQ ((by rw [hg]; exact (below_size (pB HB.out)) : w.heap.size ≤ gb5001)); replace HB := aQ (below_step (pB HB.out) hb); clear hb hbox hg) | ((with_reducible refine gate_dst (N := 4) rfl ?_); refine box_event ?hg (N := 4) ?hd (cs := #[.int .i64 a1_0, .slice A1_1 l1_1.length c1_1]) (t := 24) ?hr ?_; (case hd => rfl); (case hg => rfl); (case hr => first | (go_simp; done) | (go_simp; rfl)); intro gb5002 hg w7 hbox hb; have BK5002 := aQ (hbox); have GW5002 := aQ ((by rw [hg]; exact (below_size (pB1 HB.out GE5001.out)) : w.heap.size ≤ gb5002)); have GE5002 := aQ ((by rw [hg]; exact (below_size (pB1 HB.out GE5001.out)) : w.heap.size ≤ gb5002)); replace HB := aQ (below_step (pB1 HB.out GE5001.out) hb); have NB5001_5002 := aQ ((by rw [hg]; exact Nat.ne_of_lt (blk_lt (g := gb5001) (o := .cells #[.int .i64 a0_0, .slice A0_1 l0_1.length c0_1] 24 (0, 0)) (pk BK5001.out)) : gb5001 ≠ gb5002)); have NB5002_5001 := aQ ((by rw [hg]; exact Nat.ne_of_gt (blk_lt (g := gb5001) (o := .cells #[.int .i64 a0_0, .slice A0_1 l0_1.length c0_1] 24 (0, 0)) (pk BK5001.out)) : gb5002 ≠ gb5001)); replace BK5001 := aQ (blk_below (g := gb5001) (o := .cells #[.int .i64 a0_0, .slice A0_1 l0_1.length c0_1] 24 (0, 0)) (pk BK5001.out) hb); clear hb hbox hg; have hnb8 := NB5001_5002.out; have hnc8 := NB5002_5001.out; have hcz9_0 := bc (v := (.int .i64 a0_0)) BK5001.out 0; have hcz9_1 := bc (v := (.slice A0_1 l0_1.length c0_1)) BK5001.out 1; have hfz9_0 := blk_frozen BK5001.out 0; have hfz9_1 := blk_frozen BK5001.out 1) | ((with_reducible refine gate_callee (f := 16) rfl ?_); refine goesL_ (some 21) rfl rfl Try.func16 (by kernel_rfl) rfl #[.agg #[.int .i64 a0_0, .slice A0_1 l0_1.length c0_1], .int .i64 1048576] rfl lm ?_; (with_reducible refine (laws_szMatroid.calls a0_0 _ _ l0_1 1048576 t5003 _ ?side1 ?side2 A4.out).mono ?_); (case side1 => exact pC (Kd.C_below HR0_1.out HB.out)); (case side2 => exact HC0_1.out); rintro e w10 ⟨rfl, hb⟩; refine ⟨_, rfl, ?_⟩; replace BK5001 := aQ (blk_below (g := gb5001) (o := .cells #[.int .i64 a0_0, .slice A0_1 l0_1.length c0_1] 24 (0, 0)) (pk BK5001.out) hb); replace BK5002 := aQ (blk_below (g := gb5002) (o := .cells #[.int .i64 a1_0, .slice A1_1 l1_1.length c1_1] 24 (0, 0)) (pk BK5002.out) hb); replace HB := aQ (below_step (pB2 HB.out GE5001.out GE5002.out) hb); (try clear hb)))
  go_ret
  exact ⟨re_, pB2 HB.out GE5001.out GE5002.out⟩
 ·rw [if_neg c5] at H
  have c5b0 : decide (t5003 < 0) = false := decide_eq_false c5
  clear c5
  replace H := Option.bind_eq_some_iff.mp H
  obtain ⟨t5004, A110, H⟩ := H
  replace H : (if t5004 < 0 then (some true) else ((laws_toMatroid.f k a0_0 l0_1).bind fun bt5005 => ((laws_toMatroid.f k a1_0 l1_1).bind fun bt5009 => ((spec_AugmentingPath.f k bt5005.1 bt5005.2 bt5009.1 bt5009.2 a2).bind fun bt5013 => ((laws_toMatroid.f k a0_0 l0_1).bind fun bt5017 => ((laws_toMatroid.f k a1_0 l1_1).bind fun bt5022 => ((impl_AugmentingPath.f k bt5017.1 bt5017.2 bt5022.1 bt5022.2 a2).bind fun bt5027 => ((laws_eqIntS.f k bt5027.1 bt5013.1).bind fun t5031 => (if t5031 = true then (laws_FnExactAugmentingPath.j0 k a2 bt5013.1 bt5013.2 bt5027.1 bt5027.2 (bt5027.2 != bt5013.2) a0_0 l0_1 a1_0 l1_1 bt5017.1 bt5017.2 bt5022.1 bt5022.2) else (laws_FnExactAugmentingPath.j0 k a2 bt5013.1 bt5013.2 bt5027.1 bt5027.2 true a0_0 l0_1 a1_0 l1_1 bt5017.1 bt5017.2 bt5022.1 bt5022.2)))))))))) = some true := H
  have A11 := aQ A110
  clear A110
  by_cases c12 : t5004 < 0
  ·rw [if_pos c12] at H
   have c12b0 : decide (t5004 < 0) = true := decide_eq_true c12
   clear c12
   clear H
   go_enter Try.func4, Try.ntmps4
   go_wp2_with (first | ((with_reducible refine gate_dst (N := 3) rfl ?_); refine box_event ?hg (N := 3) ?hd (cs := #[.int .i64 a0_0, .slice A0_1 l0_1.length c0_1]) (t := 24) ?hr ?_; (case hd => rfl); (case hg => rfl); (case hr => first | (go_simp; done) | (go_simp; rfl)); intro gb5001 hg w13 hbox hb; have BK5001 := aQ (hbox); have GW5001 := aQ ((by rw [hg]; exact (below_size (pB HB.out)) : w.heap.size ≤ gb5001)); have GE5001 := aQ ((by rw [hg]; exact (below_size (pB HB.out)) : w.heap.size ≤ gb5001)); replace HB := aQ (below_step (pB HB.out) hb); clear hb hbox hg) | ((with_reducible refine gate_dst (N := 4) rfl ?_); refine box_event ?hg (N := 4) ?hd (cs := #[.int .i64 a1_0, .slice A1_1 l1_1.length c1_1]) (t := 24) ?hr ?_; (case hd => rfl); (case hg => rfl); (case hr => first | (go_simp; done) | (go_simp; rfl)); intro gb5002 hg w14 hbox hb; have BK5002 := aQ (hbox); have GW5002 := aQ ((by rw [hg]; exact (below_size (pB1 HB.out GE5001.out)) : w.heap.size ≤ gb5002)); have GE5002 := aQ ((by rw [hg]; exact (below_size (pB1 HB.out GE5001.out)) : w.heap.size ≤ gb5002)); replace HB := aQ (below_step (pB1 HB.out GE5001.out) hb); have NB5001_5002 := aQ ((by rw [hg]; exact Nat.ne_of_lt (blk_lt (g := gb5001) (o := .cells #[.int .i64 a0_0, .slice A0_1 l0_1.length c0_1] 24 (0, 0)) (pk BK5001.out)) : gb5001 ≠ gb5002)); have NB5002_5001 := aQ ((by rw [hg]; exact Nat.ne_of_gt (blk_lt (g := gb5001) (o := .cells #[.int .i64 a0_0, .slice A0_1 l0_1.length c0_1] 24 (0, 0)) (pk BK5001.out)) : gb5002 ≠ gb5001)); replace BK5001 := aQ (blk_below (g := gb5001) (o := .cells #[.int .i64 a0_0, .slice A0_1 l0_1.length c0_1] 24 (0, 0)) (pk BK5001.out) hb); clear hb hbox hg; have hnb15 := NB5001_5002.out; have hnc15 := NB5002_5001.out; have hcz16_0 := bc (v := (.int .i64 a0_0)) BK5001.out 0; have hcz16_1 := bc (v := (.slice A0_1 l0_1.length c0_1)) BK5001.out 1; have hfz16_0 := blk_frozen BK5001.out 0; have hfz16_1 := blk_frozen BK5001.out 1) | ((with_reducible refine gate_callee (f := 16) rfl ?_); refine goesL_ (some 21) rfl rfl Try.func16 (by kernel_rfl) rfl #[.agg #[.int .i64 a0_0, .slice A0_1 l0_1.length c0_1], .int .i64 1048576] rfl lm ?_; (with_reducible refine (laws_szMatroid.calls a0_0 _ _ l0_1 1048576 t5003 _ ?side1 ?side2 A4.out).mono ?_); (case side1 => exact pC (Kd.C_below HR0_1.out HB.out)); (case side2 => exact HC0_1.out); rintro e w17 ⟨rfl, hb⟩; refine ⟨_, rfl, ?_⟩; replace BK5001 := aQ (blk_below (g := gb5001) (o := .cells #[.int .i64 a0_0, .slice A0_1 l0_1.length c0_1] 24 (0, 0)) (pk BK5001.out) hb); replace BK5002 := aQ (blk_below (g := gb5002) (o := .cells #[.int .i64 a1_0, .slice A1_1 l1_1.length c1_1] 24 (0, 0)) (pk BK5002.out) hb); replace HB := aQ (below_step (pB2 HB.out GE5001.out GE5002.out) hb); (try clear hb); have hcz18_0 := bc (v := (.int .i64 a1_0)) BK5002.out 0; have hcz18_1 := bc (v := (.slice A1_1 l1_1.length c1_1)) BK5002.out 1; have hfz18_0 := blk_frozen BK5002.out 0; have hfz18_1 := blk_frozen BK5002.out 1) | ((with_reducible refine gate_callee (f := 16) rfl ?_); refine goesL_ (some 26) rfl rfl Try.func16 (by kernel_rfl) rfl #[.agg #[.int .i64 a1_0, .slice A1_1 l1_1.length c1_1], .int .i64 t5003] rfl lm ?_; (with_reducible refine (laws_szMatroid.calls a1_0 _ _ l1_1 t5003 t5004 _ ?side1 ?side2 A11.out).mono ?_); (case side1 => exact pC (Kd.C_below HR1_1.out HB.out)); (case side2 => exact HC1_1.out); rintro e w19 ⟨rfl, hb⟩; refine ⟨_, rfl, ?_⟩; replace BK5001 := aQ (blk_below (g := gb5001) (o := .cells #[.int .i64 a0_0, .slice A0_1 l0_1.length c0_1] 24 (0, 0)) (pk BK5001.out) hb); replace BK5002 := aQ (blk_below (g := gb5002) (o := .cells #[.int .i64 a1_0, .slice A1_1 l1_1.length c1_1] 24 (0, 0)) (pk BK5002.out) hb); replace HB := aQ (below_step (pB2 HB.out GE5001.out GE5002.out) hb); (try clear hb)))
   go_ret
   exact ⟨re_, pB2 HB.out GE5001.out GE5002.out⟩
  ·rw [if_neg c12] at H
   have c12b0 : decide (t5004 < 0) = false := decide_eq_false c12
   clear c12
   replace H := Option.bind_eq_some_iff.mp H
   obtain ⟨⟨t5005, t5006⟩, A200, H⟩ := H
   replace H : ((laws_toMatroid.f k a1_0 l1_1).bind fun bt5009 => ((spec_AugmentingPath.f k t5005 t5006 bt5009.1 bt5009.2 a2).bind fun bt5013 => ((laws_toMatroid.f k a0_0 l0_1).bind fun bt5017 => ((laws_toMatroid.f k a1_0 l1_1).bind fun bt5022 => ((impl_AugmentingPath.f k bt5017.1 bt5017.2 bt5022.1 bt5022.2 a2).bind fun bt5027 => ((laws_eqIntS.f k bt5027.1 bt5013.1).bind fun t5031 => (if t5031 = true then (laws_FnExactAugmentingPath.j0 k a2 bt5013.1 bt5013.2 bt5027.1 bt5027.2 (bt5027.2 != bt5013.2) a0_0 l0_1 a1_0 l1_1 bt5017.1 bt5017.2 bt5022.1 bt5022.2) else (laws_FnExactAugmentingPath.j0 k a2 bt5013.1 bt5013.2 bt5027.1 bt5027.2 true a0_0 l0_1 a1_0 l1_1 bt5017.1 bt5017.2 bt5022.1 bt5022.2)))))))) = some true := H
   have A20 := aQ A200
   clear A200
   replace H := Option.bind_eq_some_iff.mp H
   obtain ⟨⟨t5009, t5010⟩, A210, H⟩ := H
   replace H : ((spec_AugmentingPath.f k t5005 t5006 t5009 t5010 a2).bind fun bt5013 => ((laws_toMatroid.f k a0_0 l0_1).bind fun bt5017 => ((laws_toMatroid.f k a1_0 l1_1).bind fun bt5022 => ((impl_AugmentingPath.f k bt5017.1 bt5017.2 bt5022.1 bt5022.2 a2).bind fun bt5027 => ((laws_eqIntS.f k bt5027.1 bt5013.1).bind fun t5031 => (if t5031 = true then (laws_FnExactAugmentingPath.j0 k a2 bt5013.1 bt5013.2 bt5027.1 bt5027.2 (bt5027.2 != bt5013.2) a0_0 l0_1 a1_0 l1_1 bt5017.1 bt5017.2 bt5022.1 bt5022.2) else (laws_FnExactAugmentingPath.j0 k a2 bt5013.1 bt5013.2 bt5027.1 bt5027.2 true a0_0 l0_1 a1_0 l1_1 bt5017.1 bt5017.2 bt5022.1 bt5022.2))))))) = some true := H
   have A21 := aQ A210
   clear A210
   replace H := Option.bind_eq_some_iff.mp H
   obtain ⟨⟨t5013, t5016⟩, A220, H⟩ := H
   replace H : ((laws_toMatroid.f k a0_0 l0_1).bind fun bt5017 => ((laws_toMatroid.f k a1_0 l1_1).bind fun bt5022 => ((impl_AugmentingPath.f k bt5017.1 bt5017.2 bt5022.1 bt5022.2 a2).bind fun bt5027 => ((laws_eqIntS.f k bt5027.1 t5013).bind fun t5031 => (if t5031 = true then (laws_FnExactAugmentingPath.j0 k a2 t5013 t5016 bt5027.1 bt5027.2 (bt5027.2 != t5016) a0_0 l0_1 a1_0 l1_1 bt5017.1 bt5017.2 bt5022.1 bt5022.2) else (laws_FnExactAugmentingPath.j0 k a2 t5013 t5016 bt5027.1 bt5027.2 true a0_0 l0_1 a1_0 l1_1 bt5017.1 bt5017.2 bt5022.1 bt5022.2)))))) = some true := H
   have A22 := aQ A220
   clear A220
   replace H := Option.bind_eq_some_iff.mp H
   obtain ⟨⟨t5017, t5018⟩, A230, H⟩ := H
   replace H : ((laws_toMatroid.f k a1_0 l1_1).bind fun bt5022 => ((impl_AugmentingPath.f k t5017 t5018 bt5022.1 bt5022.2 a2).bind fun bt5027 => ((laws_eqIntS.f k bt5027.1 t5013).bind fun t5031 => (if t5031 = true then (laws_FnExactAugmentingPath.j0 k a2 t5013 t5016 bt5027.1 bt5027.2 (bt5027.2 != t5016) a0_0 l0_1 a1_0 l1_1 t5017 t5018 bt5022.1 bt5022.2) else (laws_FnExactAugmentingPath.j0 k a2 t5013 t5016 bt5027.1 bt5027.2 true a0_0 l0_1 a1_0 l1_1 t5017 t5018 bt5022.1 bt5022.2))))) = some true := H
   have A23 := aQ A230
   clear A230
   replace H := Option.bind_eq_some_iff.mp H
   obtain ⟨⟨t5022, t5023⟩, A240, H⟩ := H
   replace H : ((impl_AugmentingPath.f k t5017 t5018 t5022 t5023 a2).bind fun bt5027 => ((laws_eqIntS.f k bt5027.1 t5013).bind fun t5031 => (if t5031 = true then (laws_FnExactAugmentingPath.j0 k a2 t5013 t5016 bt5027.1 bt5027.2 (bt5027.2 != t5016) a0_0 l0_1 a1_0 l1_1 t5017 t5018 t5022 t5023) else (laws_FnExactAugmentingPath.j0 k a2 t5013 t5016 bt5027.1 bt5027.2 true a0_0 l0_1 a1_0 l1_1 t5017 t5018 t5022 t5023)))) = some true := H
   have A24 := aQ A240
   clear A240
   replace H := Option.bind_eq_some_iff.mp H
   obtain ⟨⟨t5027, t5030⟩, A250, H⟩ := H
   replace H : ((laws_eqIntS.f k t5027 t5013).bind fun t5031 => (if t5031 = true then (laws_FnExactAugmentingPath.j0 k a2 t5013 t5016 t5027 t5030 (t5030 != t5016) a0_0 l0_1 a1_0 l1_1 t5017 t5018 t5022 t5023) else (laws_FnExactAugmentingPath.j0 k a2 t5013 t5016 t5027 t5030 true a0_0 l0_1 a1_0 l1_1 t5017 t5018 t5022 t5023))) = some true := H
   have A25 := aQ A250
   clear A250
   have HC26 := aQ H
   clear H
   go_enter Try.func4, Try.ntmps4
   try go_wp2_with (first | ((with_reducible refine gate_dst (N := 3) rfl ?_); refine box_event ?hg (N := 3) ?hd (cs := #[.int .i64 a0_0, .slice A0_1 l0_1.length c0_1]) (t := 24) ?hr ?_; (case hd => rfl); (case hg => rfl); (case hr => first | (go_simp; done) | (go_simp; rfl)); intro gb5001 hg w27 hbox hb; have BK5001 := aQ (hbox); have GW5001 := aQ ((by rw [hg]; exact (below_size (pB HB.out)) : w.heap.size ≤ gb5001)); have GE5001 := aQ ((by rw [hg]; exact (below_size (pB HB.out)) : w.heap.size ≤ gb5001)); replace HB := aQ (below_step (pB HB.out) hb); clear hb hbox hg) | ((with_reducible refine gate_dst (N := 4) rfl ?_); refine box_event ?hg (N := 4) ?hd (cs := #[.int .i64 a1_0, .slice A1_1 l1_1.length c1_1]) (t := 24) ?hr ?_; (case hd => rfl); (case hg => rfl); (case hr => first | (go_simp; done) | (go_simp; rfl)); intro gb5002 hg w28 hbox hb; have BK5002 := aQ (hbox); have GW5002 := aQ ((by rw [hg]; exact (below_size (pB1 HB.out GE5001.out)) : w.heap.size ≤ gb5002)); have GE5002 := aQ ((by rw [hg]; exact (below_size (pB1 HB.out GE5001.out)) : w.heap.size ≤ gb5002)); replace HB := aQ (below_step (pB1 HB.out GE5001.out) hb); have NB5001_5002 := aQ ((by rw [hg]; exact Nat.ne_of_lt (blk_lt (g := gb5001) (o := .cells #[.int .i64 a0_0, .slice A0_1 l0_1.length c0_1] 24 (0, 0)) (pk BK5001.out)) : gb5001 ≠ gb5002)); have NB5002_5001 := aQ ((by rw [hg]; exact Nat.ne_of_gt (blk_lt (g := gb5001) (o := .cells #[.int .i64 a0_0, .slice A0_1 l0_1.length c0_1] 24 (0, 0)) (pk BK5001.out)) : gb5002 ≠ gb5001)); replace BK5001 := aQ (blk_below (g := gb5001) (o := .cells #[.int .i64 a0_0, .slice A0_1 l0_1.length c0_1] 24 (0, 0)) (pk BK5001.out) hb); clear hb hbox hg; have hnb29 := NB5001_5002.out; have hnc29 := NB5002_5001.out; have hcz30_0 := bc (v := (.int .i64 a0_0)) BK5001.out 0; have hcz30_1 := bc (v := (.slice A0_1 l0_1.length c0_1)) BK5001.out 1; have hfz30_0 := blk_frozen BK5001.out 0; have hfz30_1 := blk_frozen BK5001.out 1) | ((with_reducible refine gate_callee (f := 16) rfl ?_); refine goesL_ (some 21) rfl rfl Try.func16 (by kernel_rfl) rfl #[.agg #[.int .i64 a0_0, .slice A0_1 l0_1.length c0_1], .int .i64 1048576] rfl lm ?_; (with_reducible refine (laws_szMatroid.calls a0_0 _ _ l0_1 1048576 t5003 _ ?side1 ?side2 A4.out).mono ?_); (case side1 => exact pC (Kd.C_below HR0_1.out HB.out)); (case side2 => exact HC0_1.out); rintro e w31 ⟨rfl, hb⟩; refine ⟨_, rfl, ?_⟩; replace BK5001 := aQ (blk_below (g := gb5001) (o := .cells #[.int .i64 a0_0, .slice A0_1 l0_1.length c0_1] 24 (0, 0)) (pk BK5001.out) hb); replace BK5002 := aQ (blk_below (g := gb5002) (o := .cells #[.int .i64 a1_0, .slice A1_1 l1_1.length c1_1] 24 (0, 0)) (pk BK5002.out) hb); replace HB := aQ (below_step (pB2 HB.out GE5001.out GE5002.out) hb); (try clear hb); have hcz32_0 := bc (v := (.int .i64 a1_0)) BK5002.out 0; have hcz32_1 := bc (v := (.slice A1_1 l1_1.length c1_1)) BK5002.out 1; have hfz32_0 := blk_frozen BK5002.out 0; have hfz32_1 := blk_frozen BK5002.out 1) | ((with_reducible refine gate_callee (f := 16) rfl ?_); refine goesL_ (some 26) rfl rfl Try.func16 (by kernel_rfl) rfl #[.agg #[.int .i64 a1_0, .slice A1_1 l1_1.length c1_1], .int .i64 t5003] rfl lm ?_; (with_reducible refine (laws_szMatroid.calls a1_0 _ _ l1_1 t5003 t5004 _ ?side1 ?side2 A11.out).mono ?_); (case side1 => exact pC (Kd.C_below HR1_1.out HB.out)); (case side2 => exact HC1_1.out); rintro e w33 ⟨rfl, hb⟩; refine ⟨_, rfl, ?_⟩; replace BK5001 := aQ (blk_below (g := gb5001) (o := .cells #[.int .i64 a0_0, .slice A0_1 l0_1.length c0_1] 24 (0, 0)) (pk BK5001.out) hb); replace BK5002 := aQ (blk_below (g := gb5002) (o := .cells #[.int .i64 a1_0, .slice A1_1 l1_1.length c1_1] 24 (0, 0)) (pk BK5002.out) hb); replace HB := aQ (below_step (pB2 HB.out GE5001.out GE5002.out) hb); (try clear hb)))
   have n0_ := aQ (blk_drew BK5001.out)
   have n1_ := aQ (blk_drew BK5002.out)
   have n2_ := aQ (below_drew1 HB.out)
   clear BK5001
   clear BK5002
   clear HB
   have BK5001 := n0_
   have BK5002 := n1_
   have HB := n2_
   clear n0_ n1_ n2_
   refine start_ (n := 11) (S := fun w' => w'.cell? ⟨gb5001, 0, none⟩ = some (.int .i64 a0_0) ∧ w'.cell? ⟨gb5001, 1, none⟩ = some (.slice A0_1 l0_1.length c0_1) ∧ w'.cell? ⟨gb5002, 0, none⟩ = some (.int .i64 a1_0) ∧ w'.cell? ⟨gb5002, 1, none⟩ = some (.slice A1_1 l1_1.length c1_1)) (ds := []) #[false, false, false, false, false, false, false, false, false, false, false] (by kernel_rfl) rfl rfl ⟨(blk_cell BK5001.out 0).trans rfl, (blk_cell BK5001.out 1).trans rfl, (blk_cell BK5002.out 0).trans rfl, (blk_cell BK5002.out 1).trans rfl⟩ (fun hHeld => ?_); refine with_tabW laws_FnExactAugmentingPath.tab8 laws_FnExactAugmentingPath.bits8 (fun HT_ HW_ => ?_)
   generalize w33.drew = w34 at BK5001 BK5002 HB hHeld ⊢
   refine puA (i := 4) (N := some 34) HT_ (h := ?_)
   refine taA4 (i := 0) (N := some 30) HT_ HW_ hHeld (h := ?_)
   refine taA4 (i := 2) (N := some 32) HT_ HW_ hHeld (h := ?_)
   refine onA (i := 1) (N := some 31) HT_ (h := fun K hK => ?_)
   refine goes_ Try.func18 (by kernel_rfl) rfl #[.agg #[.int .i64 a0_0, .slice A0_1 l0_1.length c0_1]] (by rfl) rfl rfl lm ?_
   with_reducible refine (laws_toMatroid.calls k a0_0 _ _ l0_1 t5005 t5006 _ ?side1 ?side2 A20.out).mono ?_
   (case side1 => exact pC (Kd.C_below HR0_1.out HB.out))
   (case side2 => exact HC0_1.out)
   rintro e w35 ⟨v5007, rfl, ho0, hb⟩
   refine ⟨_, rfl, ?_⟩
   have n0_ := aQ (Kd.R_lower ho0 (below_size (pB2 HB.out GE5001.out GE5002.out)))
   have n1_ := aQ (blk_below (g := gb5001) (o := .cells #[.int .i64 a0_0, .slice A0_1 l0_1.length c0_1] 24 (0, 0)) (pk BK5001.out) hb)
   have n2_ := aQ (blk_below (g := gb5002) (o := .cells #[.int .i64 a1_0, .slice A1_1 l1_1.length c1_1] 24 (0, 0)) (pk BK5002.out) hb)
   have n3_ := aQ (below_step (pB2 HB.out GE5001.out GE5002.out) hb)
   clear BK5001
   clear BK5002
   clear HB
   have HO5008 := n0_
   have BK5001 := n1_
   have BK5002 := n2_
   have HB := n3_
   clear n0_ n1_ n2_ n3_
   (try clear hb)
   (try clear hb2)
   (try clear hk)
   (try clear hi)
   (try clear ho0)
   refine hK.out _ _ ⟨(blk_cell BK5001.out 0).trans rfl, (blk_cell BK5001.out 1).trans rfl, (blk_cell BK5002.out 0).trans rfl, (blk_cell BK5002.out 1).trans rfl⟩ (fun hHeld => ?_)
   clear hK K
   refine noA (h := ?_)
   refine onA (i := 3) (N := some 33) HT_ (h := fun K hK => ?_)
   refine goes_ Try.func18 (by kernel_rfl) rfl #[.agg #[.int .i64 a1_0, .slice A1_1 l1_1.length c1_1]] (by rfl) rfl rfl lm ?_
   with_reducible refine (laws_toMatroid.calls k a1_0 _ _ l1_1 t5009 t5010 _ ?side1 ?side2 A21.out).mono ?_
   (case side1 => exact pC (Kd.C_below HR1_1.out HB.out))
   (case side2 => exact HC1_1.out)
   rintro e w36 ⟨v5011, rfl, ho0, hb⟩
   refine ⟨_, rfl, ?_⟩
   have n0_ := aQ (Kd.R_elder' (pR HO5008.out) (Kd.R_base ho0) hb)
   have n1_ := aQ (Kd.R_lower (Kd.R_new' ho0 (Kd.R_lt (pR HO5008.out))) (below_size (pB2 HB.out GE5001.out GE5002.out)))
   have n2_ := aQ (blk_below (g := gb5001) (o := .cells #[.int .i64 a0_0, .slice A0_1 l0_1.length c0_1] 24 (0, 0)) (pk BK5001.out) hb)
   have n3_ := aQ (blk_below (g := gb5002) (o := .cells #[.int .i64 a1_0, .slice A1_1 l1_1.length c1_1] 24 (0, 0)) (pk BK5002.out) hb)
   have n4_ := aQ (below_step (pB2 HB.out GE5001.out GE5002.out) hb)
   clear HO5008
   clear BK5001
   clear BK5002
   clear HB
   have HO5008 := n0_
   have HO5012 := n1_
   have BK5001 := n2_
   have BK5002 := n3_
   have HB := n4_
   clear n0_ n1_ n2_ n3_ n4_
   (try clear hb)
   (try clear hb2)
   (try clear hk)
   (try clear hi)
   (try clear ho0)
   obtain ⟨Ao37, co37, eo37⟩ := Kd.R_slice HO5008.out
   (first | subst eo37 | (injection eo37 with f1_ f2_ f3_; have f4_ := f1_.symm; have f5_ := f3_.symm; clear f1_ f2_ f3_; subst f4_; subst f5_))
   obtain ⟨Ao38, co38, eo38⟩ := Kd.R_slice HO5012.out
   (first | subst eo38 | (injection eo38 with f1_ f2_ f3_; have f4_ := f1_.symm; have f5_ := f3_.symm; clear f1_ f2_ f3_; subst f4_; subst f5_))
   refine hK.out _ _ ⟨(blk_cell BK5001.out 0).trans rfl, (blk_cell BK5001.out 1).trans rfl, (blk_cell BK5002.out 0).trans rfl, (blk_cell BK5002.out 1).trans rfl⟩ (fun hHeld => ?_)
   clear hK K
   refine noA (h := ?_)
   refine onA (i := 5) (N := some 35) HT_ (h := fun K hK => ?_)
   refine goes_ Try.func23 (by kernel_rfl) rfl #[.agg #[.int .i64 t5005, .slice Ao37 t5006.length co37], .agg #[.int .i64 t5009, .slice Ao38 t5010.length co38], .int .i64 a2] (by rfl) rfl rfl lm ?_
   with_reducible refine (spec_AugmentingPath.calls k t5005 _ _ t5006 t5009 _ _ t5010 a2 t5013 t5016 _ ?side1 ?side2 ?side3 ?side4 A22.out).mono ?_
   (case side1 => repeat (first | exact (Kd.R_reads' HO5008.out).2.2 | (with_reducible refine Kd.C_alloc ?_ _) | (with_reducible refine Kd.C_drewN ?_ _) | (with_reducible refine Kd.C_drew ?_)))
   (case side2 => exact (Kd.R_reads' HO5008.out).2.1)
   (case side3 => repeat (first | exact (Kd.R_reads' HO5012.out).2.2 | (with_reducible refine Kd.C_alloc ?_ _) | (with_reducible refine Kd.C_drewN ?_ _) | (with_reducible refine Kd.C_drew ?_)))
   (case side4 => exact (Kd.R_reads' HO5012.out).2.1)
   rintro e w39 ⟨v5014, rfl, ho0, hb⟩
   refine ⟨_, rfl, ?_⟩
   have n0_ := aQ (Kd.R_elder' (pR HO5008.out) (Kd.R_base ho0) hb)
   have n1_ := aQ (Kd.R_elder' (pR HO5012.out) (Kd.R_base ho0) hb)
   have n2_ := aQ (Kd.R_lower (Kd.R_new' (Kd.R_new' ho0 (Kd.R_lt (pR HO5008.out))) (Kd.R_lt (pR HO5012.out))) (below_size (pB2 HB.out GE5001.out GE5002.out)))
   have n3_ := aQ (blk_below (g := gb5001) (o := .cells #[.int .i64 a0_0, .slice A0_1 l0_1.length c0_1] 24 (0, 0)) (pk BK5001.out) hb)
   have n4_ := aQ (blk_below (g := gb5002) (o := .cells #[.int .i64 a1_0, .slice A1_1 l1_1.length c1_1] 24 (0, 0)) (pk BK5002.out) hb)
   have n5_ := aQ (below_step (pB2 HB.out GE5001.out GE5002.out) hb)
   clear HO5008
   clear HO5012
   clear BK5001
   clear BK5002
   clear HB
   have HO5008 := n0_
   have HO5012 := n1_
   have HO5015 := n2_
   have BK5001 := n3_
   have BK5002 := n4_
   have HB := n5_
   clear n0_ n1_ n2_ n3_ n4_ n5_
   (try clear hb)
   (try clear hb2)
   (try clear hk)
   (try clear hi)
   (try clear ho0)
   refine hK.out _ _ ⟨(blk_cell BK5001.out 0).trans rfl, (blk_cell BK5001.out 1).trans rfl, (blk_cell BK5002.out 0).trans rfl, (blk_cell BK5002.out 1).trans rfl⟩ (fun hHeld => ?_)
   clear hK K
   refine noA (h := ?_)
   refine puA (i := 6) (N := some 29) HT_ (h := ?_)
   refine puA (i := 7) (N := some 36) HT_ (h := ?_)
   refine puA (i := 8) (N := some 37) HT_ (h := ?_)
   refine puA (i := 9) (N := some 8) HT_ (h := ?_)
   refine puA (i := 10) (N := some 9) HT_ (h := ?_)
   refine done_ (done_of HT_.out (by kernel_rfl)) ?_
   have hcz40_0 := bc (v := (.int .i64 a0_0)) BK5001.out 0
   have hcz40_1 := bc (v := (.slice A0_1 l0_1.length c0_1)) BK5001.out 1
   have hfz40_0 := blk_frozen BK5001.out 0
   have hfz40_1 := blk_frozen BK5001.out 1
   go_upto_region 12 with (first | ((with_reducible refine gate_callee (f := 18) rfl ?_); refine goesL_ (some 39) rfl rfl Try.func18 (by kernel_rfl) rfl #[.agg #[.int .i64 a0_0, .slice A0_1 l0_1.length c0_1]] rfl lm ?_; (with_reducible refine (laws_toMatroid.calls k a0_0 _ _ l0_1 t5017 t5018 _ ?side1 ?side2 A23.out).mono ?_); (case side1 => exact pC (Kd.C_below HR0_1.out HB.out)); (case side2 => exact HC0_1.out); rintro e w41 ⟨v5019, rfl, ho0, hb⟩; refine ⟨_, rfl, ?_⟩; have HO5020 := aQ (Kd.R_lower (Kd.R_new' (Kd.R_new' (Kd.R_new' ho0 (Kd.R_lt (pR HO5008.out))) (Kd.R_lt (pR HO5012.out))) (Kd.R_lt (pR HO5015.out))) (below_size (pB2 HB.out GE5001.out GE5002.out))); replace HO5008 := aQ (Kd.R_elder' (pR HO5008.out) (Kd.R_base ho0) hb); replace HO5012 := aQ (Kd.R_elder' (pR HO5012.out) (Kd.R_base ho0) hb); replace HO5015 := aQ (Kd.R_elder' (pR HO5015.out) (Kd.R_base ho0) hb); replace BK5001 := aQ (blk_below (g := gb5001) (o := .cells #[.int .i64 a0_0, .slice A0_1 l0_1.length c0_1] 24 (0, 0)) (pk BK5001.out) hb); replace BK5002 := aQ (blk_below (g := gb5002) (o := .cells #[.int .i64 a1_0, .slice A1_1 l1_1.length c1_1] 24 (0, 0)) (pk BK5002.out) hb); replace HB := aQ (below_step (pB2 HB.out GE5001.out GE5002.out) hb); (try clear hb); (try clear ho0)) | ((with_reducible refine gate_dst (N := 10) rfl ?_); refine box_event ?hg (N := 10) ?hd (cs := #[.int .i64 0, .slice none 0 0]) (t := 26) ?hr ?_; (case hd => rfl); (case hg => rfl); (case hr => first | (go_simp; done) | (go_simp; rfl)); intro gb5021 hg w42 hbox hb; replace HO5008 := aQ (Kd.R_below (pR HO5008.out) hb); replace HO5012 := aQ (Kd.R_below (pR HO5012.out) hb); replace HO5015 := aQ (Kd.R_below (pR HO5015.out) hb); replace HO5020 := aQ (Kd.R_below (pR HO5020.out) hb); have BK5021 := aQ (hbox); have GW5021 := aQ ((by rw [hg]; exact (below_size (pB2 HB.out GE5001.out GE5002.out)) : w.heap.size ≤ gb5021)); have GE5021 := aQ ((by rw [hg]; exact (below_size (pB2 HB.out GE5001.out GE5002.out)) : w.heap.size ≤ gb5021)); replace HB := aQ (below_step (pB2 HB.out GE5001.out GE5002.out) hb); have NB5001_5021 := aQ ((by rw [hg]; exact Nat.ne_of_lt (blk_lt (g := gb5001) (o := .cells #[.int .i64 a0_0, .slice A0_1 l0_1.length c0_1] 24 (0, 0)) (pk BK5001.out)) : gb5001 ≠ gb5021)); have NB5021_5001 := aQ ((by rw [hg]; exact Nat.ne_of_gt (blk_lt (g := gb5001) (o := .cells #[.int .i64 a0_0, .slice A0_1 l0_1.length c0_1] 24 (0, 0)) (pk BK5001.out)) : gb5021 ≠ gb5001)); replace BK5001 := aQ (blk_below (g := gb5001) (o := .cells #[.int .i64 a0_0, .slice A0_1 l0_1.length c0_1] 24 (0, 0)) (pk BK5001.out) hb); have NB5002_5021 := aQ ((by rw [hg]; exact Nat.ne_of_lt (blk_lt (g := gb5002) (o := .cells #[.int .i64 a1_0, .slice A1_1 l1_1.length c1_1] 24 (0, 0)) (pk BK5002.out)) : gb5002 ≠ gb5021)); have NB5021_5002 := aQ ((by rw [hg]; exact Nat.ne_of_gt (blk_lt (g := gb5002) (o := .cells #[.int .i64 a1_0, .slice A1_1 l1_1.length c1_1] 24 (0, 0)) (pk BK5002.out)) : gb5021 ≠ gb5002)); replace BK5002 := aQ (blk_below (g := gb5002) (o := .cells #[.int .i64 a1_0, .slice A1_1 l1_1.length c1_1] 24 (0, 0)) (pk BK5002.out) hb); clear hb hbox hg; have hnb43 := NB5021_5001.out; have hnc43 := NB5001_5021.out; have hnb44 := NB5021_5002.out; have hnc44 := NB5002_5021.out; have hcz45_0 := bc (v := (.int .i64 0)) BK5021.out 0; have hcz45_1 := bc (v := (.slice none 0 0)) BK5021.out 1; have hfz45_0 := blk_frozen BK5021.out 0; have hfz45_1 := blk_frozen BK5021.out 1; obtain ⟨Ao46, co46, eo46⟩ := Kd.R_slice HO5020.out; subst eo46; have hcz47_0 := bc (v := (.int .i64 a1_0)) BK5002.out 0; have hcz47_1 := bc (v := (.slice A1_1 l1_1.length c1_1)) BK5002.out 1; have hfz47_0 := blk_frozen BK5002.out 0; have hfz47_1 := blk_frozen BK5002.out 1) | ((with_reducible refine gate_callee (f := 18) rfl ?_); refine goesL_ (some 41) rfl rfl Try.func18 (by kernel_rfl) rfl #[.agg #[.int .i64 a1_0, .slice A1_1 l1_1.length c1_1]] rfl lm ?_; (with_reducible refine (laws_toMatroid.calls k a1_0 _ _ l1_1 t5022 t5023 _ ?side1 ?side2 A24.out).mono ?_); (case side1 => exact Kd.C_below HR1_1.out (pB3 HB.out GE5001.out GE5002.out GE5021.out)); (case side2 => exact HC1_1.out); rintro e w48 ⟨v5024, rfl, ho0, hb⟩; refine ⟨_, rfl, ?_⟩; have HO5025 := aQ (Kd.R_lower (Kd.R_new' (Kd.R_new' (Kd.R_new' (Kd.R_new' ho0 (Kd.R_lt (by (with_reducible repeat (first | apply Kd.R_alloc | apply Kd.R_drewN | apply Kd.R_drew)); exact (Kd.R_mono (Kd.R_far (p := ⟨gb5021, 1, none⟩) (Kd.R_far (p := ⟨gb5021, 0, none⟩) (Kd.R_types HO5008.out BK5021.out (by decide)) (fun _ hk => hk.2) (.int .i64 t5017)) (fun _ hk => hk.2) (.slice Ao46 t5018.length co46)) (fun _ h_ => h_.1))))) (Kd.R_lt (by (with_reducible repeat (first | apply Kd.R_alloc | apply Kd.R_drewN | apply Kd.R_drew)); exact (Kd.R_mono (Kd.R_far (p := ⟨gb5021, 1, none⟩) (Kd.R_far (p := ⟨gb5021, 0, none⟩) (Kd.R_types HO5012.out BK5021.out (by decide)) (fun _ hk => hk.2) (.int .i64 t5017)) (fun _ hk => hk.2) (.slice Ao46 t5018.length co46)) (fun _ h_ => h_.1))))) (Kd.R_lt (by (with_reducible repeat (first | apply Kd.R_alloc | apply Kd.R_drewN | apply Kd.R_drew)); exact (Kd.R_mono (Kd.R_far (p := ⟨gb5021, 1, none⟩) (Kd.R_far (p := ⟨gb5021, 0, none⟩) (Kd.R_types HO5015.out BK5021.out (by decide)) (fun _ hk => hk.2) (.int .i64 t5017)) (fun _ hk => hk.2) (.slice Ao46 t5018.length co46)) (fun _ h_ => h_.1))))) (Kd.R_lt (by (with_reducible repeat (first | apply Kd.R_alloc | apply Kd.R_drewN | apply Kd.R_drew)); exact (Kd.R_mono (Kd.R_far (p := ⟨gb5021, 1, none⟩) (Kd.R_far (p := ⟨gb5021, 0, none⟩) (Kd.R_types HO5020.out BK5021.out (by decide)) (fun _ hk => hk.2) (.int .i64 t5017)) (fun _ hk => hk.2) (.slice Ao46 t5018.length co46)) (fun _ h_ => h_.1))))) (below_size (pB3 HB.out GE5001.out GE5002.out GE5021.out))); replace HO5008 := aQ (Kd.R_elder' (by (with_reducible repeat (first | apply Kd.R_alloc | apply Kd.R_drewN | apply Kd.R_drew)); exact (Kd.R_mono (Kd.R_far (p := ⟨gb5021, 1, none⟩) (Kd.R_far (p := ⟨gb5021, 0, none⟩) (Kd.R_types HO5008.out BK5021.out (by decide)) (fun _ hk => hk.2) (.int .i64 t5017)) (fun _ hk => hk.2) (.slice Ao46 t5018.length co46)) (fun _ h_ => h_.1))) (Kd.R_base ho0) hb); replace HO5012 := aQ (Kd.R_elder' (by (with_reducible repeat (first | apply Kd.R_alloc | apply Kd.R_drewN | apply Kd.R_drew)); exact (Kd.R_mono (Kd.R_far (p := ⟨gb5021, 1, none⟩) (Kd.R_far (p := ⟨gb5021, 0, none⟩) (Kd.R_types HO5012.out BK5021.out (by decide)) (fun _ hk => hk.2) (.int .i64 t5017)) (fun _ hk => hk.2) (.slice Ao46 t5018.length co46)) (fun _ h_ => h_.1))) (Kd.R_base ho0) hb); replace HO5015 := aQ (Kd.R_elder' (by (with_reducible repeat (first | apply Kd.R_alloc | apply Kd.R_drewN | apply Kd.R_drew)); exact (Kd.R_mono (Kd.R_far (p := ⟨gb5021, 1, none⟩) (Kd.R_far (p := ⟨gb5021, 0, none⟩) (Kd.R_types HO5015.out BK5021.out (by decide)) (fun _ hk => hk.2) (.int .i64 t5017)) (fun _ hk => hk.2) (.slice Ao46 t5018.length co46)) (fun _ h_ => h_.1))) (Kd.R_base ho0) hb); replace HO5020 := aQ (Kd.R_elder' (by (with_reducible repeat (first | apply Kd.R_alloc | apply Kd.R_drewN | apply Kd.R_drew)); exact (Kd.R_mono (Kd.R_far (p := ⟨gb5021, 1, none⟩) (Kd.R_far (p := ⟨gb5021, 0, none⟩) (Kd.R_types HO5020.out BK5021.out (by decide)) (fun _ hk => hk.2) (.int .i64 t5017)) (fun _ hk => hk.2) (.slice Ao46 t5018.length co46)) (fun _ h_ => h_.1))) (Kd.R_base ho0) hb); replace BK5001 := aQ (blk_below (g := gb5001) (o := .cells #[.int .i64 a0_0, .slice A0_1 l0_1.length c0_1] 24 (0, 0)) (by (with_reducible repeat (first | refine blk_drewN ?_ _ | refine blk_drew ?_ | refine blk_alloc ?_ _)); refine blk_far ?_ NB5001_5021.out _; (with_reducible repeat (first | refine blk_drewN ?_ _ | refine blk_drew ?_ | refine blk_alloc ?_ _)); refine blk_far ?_ NB5001_5021.out _; (with_reducible repeat (first | refine blk_drewN ?_ _ | refine blk_drew ?_ | refine blk_alloc ?_ _)); exact BK5001.out) hb); replace BK5002 := aQ (blk_below (g := gb5002) (o := .cells #[.int .i64 a1_0, .slice A1_1 l1_1.length c1_1] 24 (0, 0)) (by (with_reducible repeat (first | refine blk_drewN ?_ _ | refine blk_drew ?_ | refine blk_alloc ?_ _)); refine blk_far ?_ NB5002_5021.out _; (with_reducible repeat (first | refine blk_drewN ?_ _ | refine blk_drew ?_ | refine blk_alloc ?_ _)); refine blk_far ?_ NB5002_5021.out _; (with_reducible repeat (first | refine blk_drewN ?_ _ | refine blk_drew ?_ | refine blk_alloc ?_ _)); exact BK5002.out) hb); replace BK5021 := aQ (blk_below (g := gb5021) (o := .cells #[.int .i64 t5017, .slice Ao46 t5018.length co46] 26 (0, 0)) (by (with_reducible repeat (first | refine blk_drewN ?_ _ | refine blk_drew ?_ | refine blk_alloc ?_ _)); refine blk_put (cs := #[.int .i64 t5017, .slice none 0 0]) ?_ 1 _ rfl; (with_reducible repeat (first | refine blk_drewN ?_ _ | refine blk_drew ?_ | refine blk_alloc ?_ _)); refine blk_put (cs := #[.int .i64 0, .slice none 0 0]) ?_ 0 _ rfl; (with_reducible repeat (first | refine blk_drewN ?_ _ | refine blk_drew ?_ | refine blk_alloc ?_ _)); exact BK5021.out) hb); replace HB := aQ (below_step (pB3 HB.out GE5001.out GE5002.out GE5021.out) hb); (try clear hb); (try clear hk); (try clear ho0)) | ((with_reducible refine gate_dst (N := 11) rfl ?_); refine box_event ?hg (N := 11) ?hd (cs := #[.int .i64 0, .slice none 0 0]) (t := 26) ?hr ?_; (case hd => rfl); (case hg => rfl); (case hr => first | (go_simp; done) | (go_simp; rfl)); intro gb5026 hg w49 hbox hb; replace HO5008 := aQ (Kd.R_below (pR HO5008.out) hb); replace HO5012 := aQ (Kd.R_below (pR HO5012.out) hb); replace HO5015 := aQ (Kd.R_below (pR HO5015.out) hb); replace HO5020 := aQ (Kd.R_below (pR HO5020.out) hb); replace HO5025 := aQ (Kd.R_below (pR HO5025.out) hb); have BK5026 := aQ (hbox); have GW5026 := aQ ((by rw [hg]; exact (below_size (pB3 HB.out GE5001.out GE5002.out GE5021.out)) : w.heap.size ≤ gb5026)); have GE5026 := aQ ((by rw [hg]; exact (below_size (pB3 HB.out GE5001.out GE5002.out GE5021.out)) : w.heap.size ≤ gb5026)); replace HB := aQ (below_step (pB3 HB.out GE5001.out GE5002.out GE5021.out) hb); have NB5001_5026 := aQ ((by rw [hg]; exact Nat.ne_of_lt (blk_lt (g := gb5001) (o := .cells #[.int .i64 a0_0, .slice A0_1 l0_1.length c0_1] 24 (0, 0)) (pk BK5001.out)) : gb5001 ≠ gb5026)); have NB5026_5001 := aQ ((by rw [hg]; exact Nat.ne_of_gt (blk_lt (g := gb5001) (o := .cells #[.int .i64 a0_0, .slice A0_1 l0_1.length c0_1] 24 (0, 0)) (pk BK5001.out)) : gb5026 ≠ gb5001)); replace BK5001 := aQ (blk_below (g := gb5001) (o := .cells #[.int .i64 a0_0, .slice A0_1 l0_1.length c0_1] 24 (0, 0)) (pk BK5001.out) hb); have NB5002_5026 := aQ ((by rw [hg]; exact Nat.ne_of_lt (blk_lt (g := gb5002) (o := .cells #[.int .i64 a1_0, .slice A1_1 l1_1.length c1_1] 24 (0, 0)) (pk BK5002.out)) : gb5002 ≠ gb5026)); have NB5026_5002 := aQ ((by rw [hg]; exact Nat.ne_of_gt (blk_lt (g := gb5002) (o := .cells #[.int .i64 a1_0, .slice A1_1 l1_1.length c1_1] 24 (0, 0)) (pk BK5002.out)) : gb5026 ≠ gb5002)); replace BK5002 := aQ (blk_below (g := gb5002) (o := .cells #[.int .i64 a1_0, .slice A1_1 l1_1.length c1_1] 24 (0, 0)) (pk BK5002.out) hb); have NB5021_5026 := aQ ((by rw [hg]; exact Nat.ne_of_lt (blk_lt (g := gb5021) (o := .cells #[.int .i64 t5017, .slice Ao46 t5018.length co46] 26 (0, 0)) (pk BK5021.out)) : gb5021 ≠ gb5026)); have NB5026_5021 := aQ ((by rw [hg]; exact Nat.ne_of_gt (blk_lt (g := gb5021) (o := .cells #[.int .i64 t5017, .slice Ao46 t5018.length co46] 26 (0, 0)) (pk BK5021.out)) : gb5026 ≠ gb5021)); replace BK5021 := aQ (blk_below (g := gb5021) (o := .cells #[.int .i64 t5017, .slice Ao46 t5018.length co46] 26 (0, 0)) (pk BK5021.out) hb); clear hb hbox hg; have hnb50 := NB5026_5001.out; have hnc50 := NB5001_5026.out; have hnb51 := NB5026_5002.out; have hnc51 := NB5002_5026.out; have hnb52 := NB5026_5021.out; have hnc52 := NB5021_5026.out; have hcz53_0 := bc (v := (.int .i64 0)) BK5026.out 0; have hcz53_1 := bc (v := (.slice none 0 0)) BK5026.out 1; have hfz53_0 := blk_frozen BK5026.out 0; have hfz53_1 := blk_frozen BK5026.out 1; obtain ⟨Ao54, co54, eo54⟩ := Kd.R_slice HO5025.out; subst eo54; have hcz55_0 := bc (v := (.int .i64 t5017)) BK5021.out 0; have hcz55_1 := bc (v := (.slice Ao46 t5018.length co46)) BK5021.out 1; have hfz55_0 := blk_frozen BK5021.out 0; have hfz55_1 := blk_frozen BK5021.out 1) | ((with_reducible refine gate_callee (f := 24) rfl ?_); refine goesL_ (some 46) rfl rfl Try.func24 (by kernel_rfl) rfl #[.agg #[.int .i64 t5017, .slice Ao46 t5018.length co46], .agg #[.int .i64 t5022, .slice Ao54 t5023.length co54], .int .i64 a2] rfl lm ?_; (with_reducible refine (impl_AugmentingPath.calls k t5017 _ _ t5018 t5022 _ _ t5023 a2 t5027 t5030 _ ?side1 ?side2 ?side3 ?side4 A25.out).mono ?_); (case side1 => refine (Kd.R_reads' (e := 3) (base := w.heap.size) (ok := fun k_ => ((((True ∧ some k_ ≠ (.slice Ao37 t5006.length co37 : Value).ownBlock) ∧ some k_ ≠ (.slice Ao38 t5010.length co38 : Value).ownBlock) ∧ some k_ ≠ (v5014 : Value).ownBlock) ∧ some k_ ≠ (.slice Ao54 t5023.length co54 : Value).ownBlock)) (n := t5018.length) (c := co46) ?_).2.2; exact (by (with_reducible repeat (first | apply Kd.R_alloc | apply Kd.R_drewN | apply Kd.R_drew)); exact (Kd.R_mono (Kd.R_far (p := ⟨gb5026, 1, none⟩) (Kd.R_far (p := ⟨gb5026, 0, none⟩) (Kd.R_types HO5020.out BK5026.out (by decide)) (fun _ hk => hk.2) (.int .i64 t5022)) (fun _ hk => hk.2) (.slice Ao54 t5023.length co54)) (fun _ h_ => h_.1)))); (case side2 => exact (Kd.R_reads' HO5020.out).2.1); (case side3 => refine (Kd.R_reads' (e := 3) (base := w.heap.size) (ok := fun k_ => ((((True ∧ some k_ ≠ (.slice Ao37 t5006.length co37 : Value).ownBlock) ∧ some k_ ≠ (.slice Ao38 t5010.length co38 : Value).ownBlock) ∧ some k_ ≠ (v5014 : Value).ownBlock) ∧ some k_ ≠ (.slice Ao46 t5018.length co46 : Value).ownBlock)) (n := t5023.length) (c := co54) ?_).2.2; exact (by (with_reducible repeat (first | apply Kd.R_alloc | apply Kd.R_drewN | apply Kd.R_drew)); exact (Kd.R_mono (Kd.R_far (p := ⟨gb5026, 1, none⟩) (Kd.R_far (p := ⟨gb5026, 0, none⟩) (Kd.R_types HO5025.out BK5026.out (by decide)) (fun _ hk => hk.2) (.int .i64 t5022)) (fun _ hk => hk.2) (.slice Ao54 t5023.length co54)) (fun _ h_ => h_.1)))); (case side4 => exact (Kd.R_reads' HO5025.out).2.1); rintro e w56 ⟨v5028, rfl, ho0, hb⟩; refine ⟨_, rfl, ?_⟩; have HO5029 := aQ (Kd.R_lower (Kd.R_new' (Kd.R_new' (Kd.R_new' (Kd.R_new' (Kd.R_new' ho0 (Kd.R_lt (by (with_reducible repeat (first | apply Kd.R_alloc | apply Kd.R_drewN | apply Kd.R_drew)); exact (Kd.R_mono (Kd.R_far (p := ⟨gb5026, 1, none⟩) (Kd.R_far (p := ⟨gb5026, 0, none⟩) (Kd.R_types HO5008.out BK5026.out (by decide)) (fun _ hk => hk.2) (.int .i64 t5022)) (fun _ hk => hk.2) (.slice Ao54 t5023.length co54)) (fun _ h_ => h_.1))))) (Kd.R_lt (by (with_reducible repeat (first | apply Kd.R_alloc | apply Kd.R_drewN | apply Kd.R_drew)); exact (Kd.R_mono (Kd.R_far (p := ⟨gb5026, 1, none⟩) (Kd.R_far (p := ⟨gb5026, 0, none⟩) (Kd.R_types HO5012.out BK5026.out (by decide)) (fun _ hk => hk.2) (.int .i64 t5022)) (fun _ hk => hk.2) (.slice Ao54 t5023.length co54)) (fun _ h_ => h_.1))))) (Kd.R_lt (by (with_reducible repeat (first | apply Kd.R_alloc | apply Kd.R_drewN | apply Kd.R_drew)); exact (Kd.R_mono (Kd.R_far (p := ⟨gb5026, 1, none⟩) (Kd.R_far (p := ⟨gb5026, 0, none⟩) (Kd.R_types HO5015.out BK5026.out (by decide)) (fun _ hk => hk.2) (.int .i64 t5022)) (fun _ hk => hk.2) (.slice Ao54 t5023.length co54)) (fun _ h_ => h_.1))))) (Kd.R_lt (by (with_reducible repeat (first | apply Kd.R_alloc | apply Kd.R_drewN | apply Kd.R_drew)); exact (Kd.R_mono (Kd.R_far (p := ⟨gb5026, 1, none⟩) (Kd.R_far (p := ⟨gb5026, 0, none⟩) (Kd.R_types HO5020.out BK5026.out (by decide)) (fun _ hk => hk.2) (.int .i64 t5022)) (fun _ hk => hk.2) (.slice Ao54 t5023.length co54)) (fun _ h_ => h_.1))))) (Kd.R_lt (by (with_reducible repeat (first | apply Kd.R_alloc | apply Kd.R_drewN | apply Kd.R_drew)); exact (Kd.R_mono (Kd.R_far (p := ⟨gb5026, 1, none⟩) (Kd.R_far (p := ⟨gb5026, 0, none⟩) (Kd.R_types HO5025.out BK5026.out (by decide)) (fun _ hk => hk.2) (.int .i64 t5022)) (fun _ hk => hk.2) (.slice Ao54 t5023.length co54)) (fun _ h_ => h_.1))))) (below_size (pB4 HB.out GE5001.out GE5002.out GE5021.out GE5026.out))); replace HO5008 := aQ (Kd.R_elder' (by (with_reducible repeat (first | apply Kd.R_alloc | apply Kd.R_drewN | apply Kd.R_drew)); exact (Kd.R_mono (Kd.R_far (p := ⟨gb5026, 1, none⟩) (Kd.R_far (p := ⟨gb5026, 0, none⟩) (Kd.R_types HO5008.out BK5026.out (by decide)) (fun _ hk => hk.2) (.int .i64 t5022)) (fun _ hk => hk.2) (.slice Ao54 t5023.length co54)) (fun _ h_ => h_.1))) (Kd.R_base ho0) hb); replace HO5012 := aQ (Kd.R_elder' (by (with_reducible repeat (first | apply Kd.R_alloc | apply Kd.R_drewN | apply Kd.R_drew)); exact (Kd.R_mono (Kd.R_far (p := ⟨gb5026, 1, none⟩) (Kd.R_far (p := ⟨gb5026, 0, none⟩) (Kd.R_types HO5012.out BK5026.out (by decide)) (fun _ hk => hk.2) (.int .i64 t5022)) (fun _ hk => hk.2) (.slice Ao54 t5023.length co54)) (fun _ h_ => h_.1))) (Kd.R_base ho0) hb); replace HO5015 := aQ (Kd.R_elder' (by (with_reducible repeat (first | apply Kd.R_alloc | apply Kd.R_drewN | apply Kd.R_drew)); exact (Kd.R_mono (Kd.R_far (p := ⟨gb5026, 1, none⟩) (Kd.R_far (p := ⟨gb5026, 0, none⟩) (Kd.R_types HO5015.out BK5026.out (by decide)) (fun _ hk => hk.2) (.int .i64 t5022)) (fun _ hk => hk.2) (.slice Ao54 t5023.length co54)) (fun _ h_ => h_.1))) (Kd.R_base ho0) hb); replace HO5020 := aQ (Kd.R_elder' (by (with_reducible repeat (first | apply Kd.R_alloc | apply Kd.R_drewN | apply Kd.R_drew)); exact (Kd.R_mono (Kd.R_far (p := ⟨gb5026, 1, none⟩) (Kd.R_far (p := ⟨gb5026, 0, none⟩) (Kd.R_types HO5020.out BK5026.out (by decide)) (fun _ hk => hk.2) (.int .i64 t5022)) (fun _ hk => hk.2) (.slice Ao54 t5023.length co54)) (fun _ h_ => h_.1))) (Kd.R_base ho0) hb); replace HO5025 := aQ (Kd.R_elder' (by (with_reducible repeat (first | apply Kd.R_alloc | apply Kd.R_drewN | apply Kd.R_drew)); exact (Kd.R_mono (Kd.R_far (p := ⟨gb5026, 1, none⟩) (Kd.R_far (p := ⟨gb5026, 0, none⟩) (Kd.R_types HO5025.out BK5026.out (by decide)) (fun _ hk => hk.2) (.int .i64 t5022)) (fun _ hk => hk.2) (.slice Ao54 t5023.length co54)) (fun _ h_ => h_.1))) (Kd.R_base ho0) hb); replace BK5001 := aQ (blk_below (g := gb5001) (o := .cells #[.int .i64 a0_0, .slice A0_1 l0_1.length c0_1] 24 (0, 0)) (by (with_reducible repeat (first | refine blk_drewN ?_ _ | refine blk_drew ?_ | refine blk_alloc ?_ _)); refine blk_far ?_ NB5001_5026.out _; (with_reducible repeat (first | refine blk_drewN ?_ _ | refine blk_drew ?_ | refine blk_alloc ?_ _)); refine blk_far ?_ NB5001_5026.out _; (with_reducible repeat (first | refine blk_drewN ?_ _ | refine blk_drew ?_ | refine blk_alloc ?_ _)); exact BK5001.out) hb); replace BK5002 := aQ (blk_below (g := gb5002) (o := .cells #[.int .i64 a1_0, .slice A1_1 l1_1.length c1_1] 24 (0, 0)) (by (with_reducible repeat (first | refine blk_drewN ?_ _ | refine blk_drew ?_ | refine blk_alloc ?_ _)); refine blk_far ?_ NB5002_5026.out _; (with_reducible repeat (first | refine blk_drewN ?_ _ | refine blk_drew ?_ | refine blk_alloc ?_ _)); refine blk_far ?_ NB5002_5026.out _; (with_reducible repeat (first | refine blk_drewN ?_ _ | refine blk_drew ?_ | refine blk_alloc ?_ _)); exact BK5002.out) hb); replace BK5021 := aQ (blk_below (g := gb5021) (o := .cells #[.int .i64 t5017, .slice Ao46 t5018.length co46] 26 (0, 0)) (by (with_reducible repeat (first | refine blk_drewN ?_ _ | refine blk_drew ?_ | refine blk_alloc ?_ _)); refine blk_far ?_ NB5021_5026.out _; (with_reducible repeat (first | refine blk_drewN ?_ _ | refine blk_drew ?_ | refine blk_alloc ?_ _)); refine blk_far ?_ NB5021_5026.out _; (with_reducible repeat (first | refine blk_drewN ?_ _ | refine blk_drew ?_ | refine blk_alloc ?_ _)); exact BK5021.out) hb); replace BK5026 := aQ (blk_below (g := gb5026) (o := .cells #[.int .i64 t5022, .slice Ao54 t5023.length co54] 26 (0, 0)) (by (with_reducible repeat (first | refine blk_drewN ?_ _ | refine blk_drew ?_ | refine blk_alloc ?_ _)); refine blk_put (cs := #[.int .i64 t5022, .slice none 0 0]) ?_ 1 _ rfl; (with_reducible repeat (first | refine blk_drewN ?_ _ | refine blk_drew ?_ | refine blk_alloc ?_ _)); refine blk_put (cs := #[.int .i64 0, .slice none 0 0]) ?_ 0 _ rfl; (with_reducible repeat (first | refine blk_drewN ?_ _ | refine blk_drew ?_ | refine blk_alloc ?_ _)); exact BK5026.out) hb); replace HB := aQ (below_step (pB4 HB.out GE5001.out GE5002.out GE5021.out GE5026.out) hb); (try clear hb); (try clear hb2); (try clear hk); (try clear hi); (try clear ho0)))
   (try simp only [Act.put, List.setIfInBounds_toArray, List.set_cons_zero, List.set_cons_succ])
   go_cut [57] (fun v57 wc => ∃ (kq : Nat) (x57_25 : Bool), v57 = .bool x57_25 ∧ Aside0 (laws_FnExactAugmentingPath.j0 kq a2 t5013 t5016 t5027 t5030 x57_25 a0_0 l0_1 a1_0 l1_1 t5017 t5018 t5022 t5023 = some true) ∧ Aside0 (kq ≤ k) ∧ Aside0 (Kd.R (Kd.int .i64) 3 wc w.heap.size (fun k_ => some k_ ≠ (v5028 : Value).ownBlock ∧ some k_ ≠ ((.slice Ao46 t5018.length co46) : Value).ownBlock ∧ some k_ ≠ ((.slice Ao54 t5023.length co54) : Value).ownBlock) v5014 t5013) ∧ Aside0 (Kd.R (Kd.int .i64) 3 wc w.heap.size (fun k_ => some k_ ≠ (v5014 : Value).ownBlock ∧ some k_ ≠ ((.slice Ao46 t5018.length co46) : Value).ownBlock ∧ some k_ ≠ ((.slice Ao54 t5023.length co54) : Value).ownBlock) v5028 t5027) ∧ Aside0 (Kd.R (Kd.int .i64) 3 wc w.heap.size (fun k_ => some k_ ≠ (v5014 : Value).ownBlock ∧ some k_ ≠ (v5028 : Value).ownBlock ∧ some k_ ≠ ((.slice Ao54 t5023.length co54) : Value).ownBlock) (.slice Ao46 t5018.length co46) t5018) ∧ Aside0 (Kd.R (Kd.int .i64) 3 wc w.heap.size (fun k_ => some k_ ≠ (v5014 : Value).ownBlock ∧ some k_ ≠ (v5028 : Value).ownBlock ∧ some k_ ≠ ((.slice Ao46 t5018.length co46) : Value).ownBlock) (.slice Ao54 t5023.length co54) t5023) ∧ Aside0 (wc.heap[gb5001]? = some (.cells #[.int .i64 a0_0, (.slice A0_1 l0_1.length c0_1)] 24 (0, 0))) ∧ Aside0 (wc.heap[gb5002]? = some (.cells #[.int .i64 a1_0, (.slice A1_1 l1_1.length c1_1)] 24 (0, 0))) ∧ Aside0 (wc.heap[gb5021]? = some (.cells #[.int .i64 t5017, (.slice Ao46 t5018.length co46)] 26 (0, 0))) ∧ Aside0 (wc.heap[gb5026]? = some (.cells #[.int .i64 t5022, (.slice Ao54 t5023.length co54)] 26 (0, 0))) ∧ Aside0 (Below w.heap.size w wc))
   case first =>
    have H := HC26.out
    clear HC26
    replace H := Option.bind_eq_some_iff.mp H
    obtain ⟨t5031, A570, H⟩ := H
    replace H : (if t5031 = true then (laws_FnExactAugmentingPath.j0 k a2 t5013 t5016 t5027 t5030 (t5030 != t5016) a0_0 l0_1 a1_0 l1_1 t5017 t5018 t5022 t5023) else (laws_FnExactAugmentingPath.j0 k a2 t5013 t5016 t5027 t5030 true a0_0 l0_1 a1_0 l1_1 t5017 t5018 t5022 t5023)) = some true := H
    have A57 := aQ A570
    clear A570
    by_cases c58 : t5031 = true
    ·subst c58
     have H1 : (laws_FnExactAugmentingPath.j0 k a2 t5013 t5016 t5027 t5030 (t5030 != t5016) a0_0 l0_1 a1_0 l1_1 t5017 t5018 t5022 t5023) = some true := by rw [if_pos rfl] at H; exact H
     clear H
     have H := H1
     clear H1
     have H' := aQ H
     clear H
     obtain ⟨Ao59, co59, eo59⟩ := Kd.R_slice HO5029.out
     subst eo59
     obtain ⟨Ao60, co60, eo60⟩ := Kd.R_slice HO5015.out
     subst eo60
     go_wp2_with (first | ((with_reducible refine gate_callee (f := 25) rfl ?_); refine goesL_ (some 51) rfl rfl Try.func25 (by kernel_rfl) rfl #[.slice Ao59 t5027.length co59, .slice Ao60 t5013.length co60] rfl lm ?_; (with_reducible refine (laws_eqIntS.calls k _ _ t5027 _ _ t5013 true _ ?side1 ?side2 ?side3 ?side4 A57.out).mono ?_); (case side1 => repeat (first | exact (Kd.R_reads' HO5029.out).2.2 | (with_reducible refine Kd.C_alloc ?_ _) | (with_reducible refine Kd.C_drewN ?_ _) | (with_reducible refine Kd.C_drew ?_))); (case side2 => exact (Kd.R_reads' HO5029.out).2.1); (case side3 => repeat (first | exact (Kd.R_reads' HO5015.out).2.2 | (with_reducible refine Kd.C_alloc ?_ _) | (with_reducible refine Kd.C_drewN ?_ _) | (with_reducible refine Kd.C_drew ?_))); (case side4 => exact (Kd.R_reads' HO5015.out).2.1); rintro e w' ⟨rfl, ⟨nd, rfl⟩⟩; refine ⟨_, rfl, ?_⟩))
     go_meet
     case rel => exact ⟨_, ((t5030 != t5016)), rs_, H', ⟨by first | omega | exact Nat.le_refl _⟩, ⟨by (with_reducible repeat (first | apply Kd.R_alloc | apply Kd.R_drewN | apply Kd.R_drew)); exact Kd.R_mono HO5015.out (fun _ hk => ⟨hk.2, ⟨hk.1.1.2, hk.1.2⟩⟩)⟩, ⟨by (with_reducible repeat (first | apply Kd.R_alloc | apply Kd.R_drewN | apply Kd.R_drew)); exact Kd.R_mono HO5029.out (fun _ hk => ⟨hk.1.1.2, ⟨hk.1.2, hk.2⟩⟩)⟩, ⟨by (with_reducible repeat (first | apply Kd.R_alloc | apply Kd.R_drewN | apply Kd.R_drew)); exact Kd.R_mono HO5020.out (fun _ hk => ⟨hk.1.1.2, ⟨hk.2, hk.1.2⟩⟩)⟩, ⟨by (with_reducible repeat (first | apply Kd.R_alloc | apply Kd.R_drewN | apply Kd.R_drew)); exact Kd.R_mono HO5025.out (fun _ hk => ⟨hk.1.1.2, ⟨hk.2, hk.1.2⟩⟩)⟩, ⟨pk BK5001.out⟩, ⟨pk BK5002.out⟩, ⟨pk BK5021.out⟩, ⟨pk BK5026.out⟩, ⟨pB4 HB.out GE5001.out GE5002.out GE5021.out GE5026.out⟩⟩
    ·replace c58 := Bool.eq_false_iff.mpr c58
     subst c58
     have H1 : (laws_FnExactAugmentingPath.j0 k a2 t5013 t5016 t5027 t5030 true a0_0 l0_1 a1_0 l1_1 t5017 t5018 t5022 t5023) = some true := by rw [if_neg (show ¬ (false = true) by decide)] at H; exact H
     clear H
     have H := H1
     clear H1
     have H' := aQ H
     clear H
     obtain ⟨Ao61, co61, eo61⟩ := Kd.R_slice HO5029.out
     subst eo61
     obtain ⟨Ao62, co62, eo62⟩ := Kd.R_slice HO5015.out
     subst eo62
     go_wp2_with (first | ((with_reducible refine gate_callee (f := 25) rfl ?_); refine goesL_ (some 51) rfl rfl Try.func25 (by kernel_rfl) rfl #[.slice Ao61 t5027.length co61, .slice Ao62 t5013.length co62] rfl lm ?_; (with_reducible refine (laws_eqIntS.calls k _ _ t5027 _ _ t5013 false _ ?side1 ?side2 ?side3 ?side4 A57.out).mono ?_); (case side1 => repeat (first | exact (Kd.R_reads' HO5029.out).2.2 | (with_reducible refine Kd.C_alloc ?_ _) | (with_reducible refine Kd.C_drewN ?_ _) | (with_reducible refine Kd.C_drew ?_))); (case side2 => exact (Kd.R_reads' HO5029.out).2.1); (case side3 => repeat (first | exact (Kd.R_reads' HO5015.out).2.2 | (with_reducible refine Kd.C_alloc ?_ _) | (with_reducible refine Kd.C_drewN ?_ _) | (with_reducible refine Kd.C_drew ?_))); (case side4 => exact (Kd.R_reads' HO5015.out).2.1); rintro e w' ⟨rfl, ⟨nd, rfl⟩⟩; refine ⟨_, rfl, ?_⟩))
     go_meet
     case rel => exact ⟨_, (true), rs_, H', ⟨by first | omega | exact Nat.le_refl _⟩, ⟨by (with_reducible repeat (first | apply Kd.R_alloc | apply Kd.R_drewN | apply Kd.R_drew)); exact Kd.R_mono HO5015.out (fun _ hk => ⟨hk.2, ⟨hk.1.1.2, hk.1.2⟩⟩)⟩, ⟨by (with_reducible repeat (first | apply Kd.R_alloc | apply Kd.R_drewN | apply Kd.R_drew)); exact Kd.R_mono HO5029.out (fun _ hk => ⟨hk.1.1.2, ⟨hk.1.2, hk.2⟩⟩)⟩, ⟨by (with_reducible repeat (first | apply Kd.R_alloc | apply Kd.R_drewN | apply Kd.R_drew)); exact Kd.R_mono HO5020.out (fun _ hk => ⟨hk.1.1.2, ⟨hk.2, hk.1.2⟩⟩)⟩, ⟨by (with_reducible repeat (first | apply Kd.R_alloc | apply Kd.R_drewN | apply Kd.R_drew)); exact Kd.R_mono HO5025.out (fun _ hk => ⟨hk.1.1.2, ⟨hk.2, hk.1.2⟩⟩)⟩, ⟨pk BK5001.out⟩, ⟨pk BK5002.out⟩, ⟨pk BK5021.out⟩, ⟨pk BK5026.out⟩, ⟨pB4 HB.out GE5001.out GE5002.out GE5021.out GE5026.out⟩⟩
   case rest =>
    clear HC26
    try clear c1
    try clear c2
    try clear p2
    try clear c4
    try clear c5
    try clear c5b0
    try clear c8
    try clear c12
    try clear c12b0
    try clear c15
    try clear c16
    try clear c18
    try clear c23
    try clear c24
    try clear c25
    try clear c29
    try clear c43
    try clear c44
    try clear c50
    try clear c51
    try clear c52
    try clear c58
    try clear hcz16_0
    try clear hcz16_1
    try clear hcz18_0
    try clear hcz18_1
    try clear hcz30_0
    try clear hcz30_1
    try clear hcz32_0
    try clear hcz32_1
    try clear hcz40_0
    try clear hcz40_1
    try clear hcz45_0
    try clear hcz45_1
    try clear hcz47_0
    try clear hcz47_1
    try clear hcz53_0
    try clear hcz53_1
    try clear hcz55_0
    try clear hcz55_1
    try clear hcz9_0
    try clear hcz9_1
    try clear hfz16_0
    try clear hfz16_1
    try clear hfz18_0
    try clear hfz18_1
    try clear hfz30_0
    try clear hfz30_1
    try clear hfz32_0
    try clear hfz32_1
    try clear hfz40_0
    try clear hfz40_1
    try clear hfz45_0
    try clear hfz45_1
    try clear hfz47_0
    try clear hfz47_1
    try clear hfz53_0
    try clear hfz53_1
    try clear hfz55_0
    try clear hfz55_1
    try clear hfz9_0
    try clear hfz9_1
    obtain ⟨kq, x57_25, rfl, HA, HJ25, HO_8, HO_12, HO_5022001, HO_5027001, BK5001, BK5002, BK5021, BK5026, HB⟩ := hcut
    cases kq with
    | zero => exact absurd HA.out (by simp [laws_FnExactAugmentingPath.j0])
    | succ kj25 =>
     have H := HA.out
     clear HA
     simp only [laws_FnExactAugmentingPath.j0] at H
     by_cases c63 : x57_25 = true
     ·subst c63
      have H1 : (some false) = some true := by rw [if_pos rfl] at H; exact H
      clear H
      have H := H1
      clear H1
      exact absurd (Option.some.inj H) (by decide)
     ·replace c63 := Bool.eq_false_iff.mpr c63
      subst c63
      have H1 : ((laws_toMatroid.f kj25 a0_0 l0_1).bind fun bt5032 => ((laws_eqMatroid.f kj25 t5017 t5018 bt5032.1 bt5032.2).bind fun t5036 => (if t5036 = true then ((laws_toMatroid.f kj25 a1_0 l1_1).bind fun bt5037 => ((laws_eqMatroid.f kj25 t5022 t5023 bt5037.1 bt5037.2).bind fun t5041 => (if t5041 = true then ((laws_markMatroid.f kj25 t5017 t5018 1).bind fun bt5042 => ((laws_markMatroid.f kj25 t5022 t5023 bt5042.1).bind fun bt5044 => (if bt5044.1 < 0 then (laws_FnExactAugmentingPath.j1 kj25 a2 t5013 t5016 t5027 true a0_0 l0_1 a1_0 l1_1) else ((laws_eqIntS.f kj25 t5027 t5013).bind fun t5046 => (if t5046 = true then (laws_FnExactAugmentingPath.j1 kj25 a2 t5013 t5016 t5027 (t5030 != t5016) a0_0 l0_1 a1_0 l1_1) else (laws_FnExactAugmentingPath.j1 kj25 a2 t5013 t5016 t5027 true a0_0 l0_1 a1_0 l1_1)))))) else (some false)))) else (some false)))) = some true := by rw [if_neg (show ¬ (false = true) by decide)] at H; exact H
      clear H
      have H := H1
      clear H1
      replace H := Option.bind_eq_some_iff.mp H
      obtain ⟨⟨t5032, t5033⟩, A640, H⟩ := H
      replace H : ((laws_eqMatroid.f kj25 t5017 t5018 t5032 t5033).bind fun t5036 => (if t5036 = true then ((laws_toMatroid.f kj25 a1_0 l1_1).bind fun bt5037 => ((laws_eqMatroid.f kj25 t5022 t5023 bt5037.1 bt5037.2).bind fun t5041 => (if t5041 = true then ((laws_markMatroid.f kj25 t5017 t5018 1).bind fun bt5042 => ((laws_markMatroid.f kj25 t5022 t5023 bt5042.1).bind fun bt5044 => (if bt5044.1 < 0 then (laws_FnExactAugmentingPath.j1 kj25 a2 t5013 t5016 t5027 true a0_0 l0_1 a1_0 l1_1) else ((laws_eqIntS.f kj25 t5027 t5013).bind fun t5046 => (if t5046 = true then (laws_FnExactAugmentingPath.j1 kj25 a2 t5013 t5016 t5027 (t5030 != t5016) a0_0 l0_1 a1_0 l1_1) else (laws_FnExactAugmentingPath.j1 kj25 a2 t5013 t5016 t5027 true a0_0 l0_1 a1_0 l1_1)))))) else (some false)))) else (some false))) = some true := H
      have A64 := aQ A640
      clear A640
      replace H := Option.bind_eq_some_iff.mp H
      obtain ⟨t5036, A650, H⟩ := H
      replace H : (if t5036 = true then ((laws_toMatroid.f kj25 a1_0 l1_1).bind fun bt5037 => ((laws_eqMatroid.f kj25 t5022 t5023 bt5037.1 bt5037.2).bind fun t5041 => (if t5041 = true then ((laws_markMatroid.f kj25 t5017 t5018 1).bind fun bt5042 => ((laws_markMatroid.f kj25 t5022 t5023 bt5042.1).bind fun bt5044 => (if bt5044.1 < 0 then (laws_FnExactAugmentingPath.j1 kj25 a2 t5013 t5016 t5027 true a0_0 l0_1 a1_0 l1_1) else ((laws_eqIntS.f kj25 t5027 t5013).bind fun t5046 => (if t5046 = true then (laws_FnExactAugmentingPath.j1 kj25 a2 t5013 t5016 t5027 (t5030 != t5016) a0_0 l0_1 a1_0 l1_1) else (laws_FnExactAugmentingPath.j1 kj25 a2 t5013 t5016 t5027 true a0_0 l0_1 a1_0 l1_1)))))) else (some false)))) else (some false)) = some true := H
      have A65 := aQ A650
      clear A650
      by_cases c66 : t5036 = true
      ·subst c66
       have H1 : ((laws_toMatroid.f kj25 a1_0 l1_1).bind fun bt5037 => ((laws_eqMatroid.f kj25 t5022 t5023 bt5037.1 bt5037.2).bind fun t5041 => (if t5041 = true then ((laws_markMatroid.f kj25 t5017 t5018 1).bind fun bt5042 => ((laws_markMatroid.f kj25 t5022 t5023 bt5042.1).bind fun bt5044 => (if bt5044.1 < 0 then (laws_FnExactAugmentingPath.j1 kj25 a2 t5013 t5016 t5027 true a0_0 l0_1 a1_0 l1_1) else ((laws_eqIntS.f kj25 t5027 t5013).bind fun t5046 => (if t5046 = true then (laws_FnExactAugmentingPath.j1 kj25 a2 t5013 t5016 t5027 (t5030 != t5016) a0_0 l0_1 a1_0 l1_1) else (laws_FnExactAugmentingPath.j1 kj25 a2 t5013 t5016 t5027 true a0_0 l0_1 a1_0 l1_1)))))) else (some false)))) = some true := by rw [if_pos rfl] at H; exact H
       clear H
       have H := H1
       clear H1
       replace H := Option.bind_eq_some_iff.mp H
       obtain ⟨⟨t5037, t5038⟩, A670, H⟩ := H
       replace H : ((laws_eqMatroid.f kj25 t5022 t5023 t5037 t5038).bind fun t5041 => (if t5041 = true then ((laws_markMatroid.f kj25 t5017 t5018 1).bind fun bt5042 => ((laws_markMatroid.f kj25 t5022 t5023 bt5042.1).bind fun bt5044 => (if bt5044.1 < 0 then (laws_FnExactAugmentingPath.j1 kj25 a2 t5013 t5016 t5027 true a0_0 l0_1 a1_0 l1_1) else ((laws_eqIntS.f kj25 t5027 t5013).bind fun t5046 => (if t5046 = true then (laws_FnExactAugmentingPath.j1 kj25 a2 t5013 t5016 t5027 (t5030 != t5016) a0_0 l0_1 a1_0 l1_1) else (laws_FnExactAugmentingPath.j1 kj25 a2 t5013 t5016 t5027 true a0_0 l0_1 a1_0 l1_1)))))) else (some false))) = some true := H
       have A67 := aQ A670
       clear A670
       replace H := Option.bind_eq_some_iff.mp H
       obtain ⟨t5041, A680, H⟩ := H
       replace H : (if t5041 = true then ((laws_markMatroid.f kj25 t5017 t5018 1).bind fun bt5042 => ((laws_markMatroid.f kj25 t5022 t5023 bt5042.1).bind fun bt5044 => (if bt5044.1 < 0 then (laws_FnExactAugmentingPath.j1 kj25 a2 t5013 t5016 t5027 true a0_0 l0_1 a1_0 l1_1) else ((laws_eqIntS.f kj25 t5027 t5013).bind fun t5046 => (if t5046 = true then (laws_FnExactAugmentingPath.j1 kj25 a2 t5013 t5016 t5027 (t5030 != t5016) a0_0 l0_1 a1_0 l1_1) else (laws_FnExactAugmentingPath.j1 kj25 a2 t5013 t5016 t5027 true a0_0 l0_1 a1_0 l1_1)))))) else (some false)) = some true := H
       have A68 := aQ A680
       clear A680
       by_cases c69 : t5041 = true
       ·subst c69
        have H1 : ((laws_markMatroid.f kj25 t5017 t5018 1).bind fun bt5042 => ((laws_markMatroid.f kj25 t5022 t5023 bt5042.1).bind fun bt5044 => (if bt5044.1 < 0 then (laws_FnExactAugmentingPath.j1 kj25 a2 t5013 t5016 t5027 true a0_0 l0_1 a1_0 l1_1) else ((laws_eqIntS.f kj25 t5027 t5013).bind fun t5046 => (if t5046 = true then (laws_FnExactAugmentingPath.j1 kj25 a2 t5013 t5016 t5027 (t5030 != t5016) a0_0 l0_1 a1_0 l1_1) else (laws_FnExactAugmentingPath.j1 kj25 a2 t5013 t5016 t5027 true a0_0 l0_1 a1_0 l1_1)))))) = some true := by rw [if_pos rfl] at H; exact H
        clear H
        have H := H1
        clear H1
        replace H := Option.bind_eq_some_iff.mp H
        obtain ⟨⟨t5042, t5043⟩, A700, H⟩ := H
        replace H : ((laws_markMatroid.f kj25 t5022 t5023 t5042).bind fun bt5044 => (if bt5044.1 < 0 then (laws_FnExactAugmentingPath.j1 kj25 a2 t5013 t5016 t5027 true a0_0 l0_1 a1_0 l1_1) else ((laws_eqIntS.f kj25 t5027 t5013).bind fun t5046 => (if t5046 = true then (laws_FnExactAugmentingPath.j1 kj25 a2 t5013 t5016 t5027 (t5030 != t5016) a0_0 l0_1 a1_0 l1_1) else (laws_FnExactAugmentingPath.j1 kj25 a2 t5013 t5016 t5027 true a0_0 l0_1 a1_0 l1_1))))) = some true := H
        have A70 := aQ A700
        clear A700
        replace H := Option.bind_eq_some_iff.mp H
        obtain ⟨⟨t5044, t5045⟩, A710, H⟩ := H
        replace H : (if t5044 < 0 then (laws_FnExactAugmentingPath.j1 kj25 a2 t5013 t5016 t5027 true a0_0 l0_1 a1_0 l1_1) else ((laws_eqIntS.f kj25 t5027 t5013).bind fun t5046 => (if t5046 = true then (laws_FnExactAugmentingPath.j1 kj25 a2 t5013 t5016 t5027 (t5030 != t5016) a0_0 l0_1 a1_0 l1_1) else (laws_FnExactAugmentingPath.j1 kj25 a2 t5013 t5016 t5027 true a0_0 l0_1 a1_0 l1_1)))) = some true := H
        have A71 := aQ A710
        clear A710
        have HC72 := aQ H
        clear H
        try go_wp2
        have n0_ := aQ (Kd.R_drew HO_8.out)
        have n1_ := aQ (Kd.R_drew HO_12.out)
        have n2_ := aQ (Kd.R_drew HO_5022001.out)
        have n3_ := aQ (Kd.R_drew HO_5027001.out)
        have n4_ := aQ (blk_drew BK5001.out)
        have n5_ := aQ (blk_drew BK5002.out)
        have n6_ := aQ (blk_drew BK5021.out)
        have n7_ := aQ (blk_drew BK5026.out)
        have n8_ := aQ (below_drew1 HB.out)
        clear HO_8
        clear HO_12
        clear HO_5022001
        clear HO_5027001
        clear BK5001
        clear BK5002
        clear BK5021
        clear BK5026
        clear HB
        have HO_8 := n0_
        have HO_12 := n1_
        have HO_5022001 := n2_
        have HO_5027001 := n3_
        have BK5001 := n4_
        have BK5002 := n5_
        have BK5021 := n6_
        have BK5026 := n7_
        have HB := n8_
        clear n0_ n1_ n2_ n3_ n4_ n5_ n6_ n7_ n8_
        refine start_ (n := 5) (S := fun w' => w'.cell? ⟨gb5021, 0, none⟩ = some (.int .i64 t5017) ∧ w'.cell? ⟨gb5021, 1, none⟩ = some (.slice Ao46 t5018.length co46) ∧ w'.cell? ⟨gb5001, 0, none⟩ = some (.int .i64 a0_0) ∧ w'.cell? ⟨gb5001, 1, none⟩ = some (.slice A0_1 l0_1.length c0_1)) (ds := []) #[false, false, false, false, false] (by kernel_rfl) rfl rfl ⟨(blk_cell BK5021.out 0).trans rfl, (blk_cell BK5021.out 1).trans rfl, (blk_cell BK5001.out 0).trans rfl, (blk_cell BK5001.out 1).trans rfl⟩ (fun hHeld => ?_)
        generalize wc.drew = w73 at HO_8 HO_12 HO_5022001 HO_5027001 BK5001 BK5002 BK5021 BK5026 HB hHeld ⊢
        refine take_ (i := 0) (N := some 58) (v := ?_) (a' := ?_) #[true, false, false, false, false] rfl rfl (by kernel_rfl) (fun _ _ _ h => h) (Or.inl ⟨by rfl, ?_⟩) hHeld ?_ ?_
        rotate_left
        ·rintro w' ⟨s0, s1, s2, s3⟩
         go_simp
         with_reducible rfl
        rotate_left
        ·simp only [Act.put, List.setIfInBounds_toArray, List.set_cons_zero, List.set_cons_succ, i64_w, i32_w]
         rfl
        refine take_ (i := 1) (N := some 59) (v := ?_) (a' := ?_) #[true, true, false, false, false] rfl rfl (by kernel_rfl) (fun _ _ _ h => h) (Or.inl ⟨by rfl, ?_⟩) hHeld ?_ ?_
        rotate_left
        ·rintro w' ⟨s0, s1, s2, s3⟩
         go_simp
         with_reducible rfl
        rotate_left
        ·simp only [Act.put, List.setIfInBounds_toArray, List.set_cons_zero, List.set_cons_succ, i64_w, i32_w]
         rfl
        refine one_ (i := 2) (N := some 60) #[true, true, true, false, false] rfl rfl (by kernel_rfl) (by decide) (fun K hK => ?_)
        refine goes_ Try.func18 (by kernel_rfl) rfl #[.agg #[.int .i64 a0_0, .slice A0_1 l0_1.length c0_1]] (by rfl) rfl rfl lm ?_
        with_reducible refine (laws_toMatroid.calls kj25 a0_0 _ _ l0_1 t5032 t5033 _ ?side1 ?side2 A64.out).mono ?_
        (case side1 => exact pC (Kd.C_below HR0_1.out HB.out))
        (case side2 => exact HC0_1.out)
        rintro e w74 ⟨v5034, rfl, ho0, hb⟩
        refine ⟨_, rfl, ?_⟩
        have n0_ := aQ (Kd.R_elder' (pR HO_8.out) (Kd.R_base ho0) hb)
        have n1_ := aQ (Kd.R_elder' (pR HO_12.out) (Kd.R_base ho0) hb)
        have n2_ := aQ (Kd.R_elder' (pR HO_5022001.out) (Kd.R_base ho0) hb)
        have n3_ := aQ (Kd.R_elder' (pR HO_5027001.out) (Kd.R_base ho0) hb)
        have n4_ := aQ (Kd.R_lower (Kd.R_new' (Kd.R_new' (Kd.R_new' (Kd.R_new' ho0 (Kd.R_lt (pR HO_8.out))) (Kd.R_lt (pR HO_12.out))) (Kd.R_lt (pR HO_5022001.out))) (Kd.R_lt (pR HO_5027001.out))) (below_size (pB4 HB.out GE5001.out GE5002.out GE5021.out GE5026.out)))
        have n5_ := aQ (blk_below (g := gb5001) (o := .cells #[.int .i64 a0_0, .slice A0_1 l0_1.length c0_1] 24 (0, 0)) (pk BK5001.out) hb)
        have n6_ := aQ (blk_below (g := gb5002) (o := .cells #[.int .i64 a1_0, .slice A1_1 l1_1.length c1_1] 24 (0, 0)) (pk BK5002.out) hb)
        have n7_ := aQ (blk_below (g := gb5021) (o := .cells #[.int .i64 t5017, .slice Ao46 t5018.length co46] 26 (0, 0)) (pk BK5021.out) hb)
        have n8_ := aQ (blk_below (g := gb5026) (o := .cells #[.int .i64 t5022, .slice Ao54 t5023.length co54] 26 (0, 0)) (pk BK5026.out) hb)
        have n9_ := aQ (below_step (pB4 HB.out GE5001.out GE5002.out GE5021.out GE5026.out) hb)
        clear HO_8
        clear HO_12
        clear HO_5022001
        clear HO_5027001
        clear BK5001
        clear BK5002
        clear BK5021
        clear BK5026
        clear HB
        have HO_8 := n0_
        have HO_12 := n1_
        have HO_5022001 := n2_
        have HO_5027001 := n3_
        have HO5035 := n4_
        have BK5001 := n5_
        have BK5002 := n6_
        have BK5021 := n7_
        have BK5026 := n8_
        have HB := n9_
        clear n0_ n1_ n2_ n3_ n4_ n5_ n6_ n7_ n8_ n9_
        (try clear hb)
        (try clear hb2)
        (try clear hk)
        (try clear hi)
        (try clear ho0)
        obtain ⟨Ao75, co75, eo75⟩ := Kd.R_slice HO5035.out
        (first | subst eo75 | (injection eo75 with f1_ f2_ f3_; have f4_ := f1_.symm; have f5_ := f3_.symm; clear f1_ f2_ f3_; subst f4_; subst f5_))
        refine hK.out _ _ ⟨(blk_cell BK5021.out 0).trans rfl, (blk_cell BK5021.out 1).trans rfl, (blk_cell BK5001.out 0).trans rfl, (blk_cell BK5001.out 1).trans rfl⟩ (fun hHeld => ?_)
        clear hK K
        refine noA (h := ?_)
        refine one_ (i := 3) (N := some 61) #[true, true, true, true, false] rfl rfl (by kernel_rfl) (by decide) (fun K hK => ?_)
        refine goes_ Try.func20 (by kernel_rfl) rfl #[.agg #[.int .i64 t5017, .slice Ao46 t5018.length co46], .agg #[.int .i64 t5032, .slice Ao75 t5033.length co75]] (by rfl) rfl rfl lm ?_
        with_reducible refine (laws_eqMatroid.calls kj25 t5017 _ _ t5018 t5032 _ _ t5033 true _ ?side1 ?side2 ?side3 ?side4 A65.out).mono ?_
        (case side1 => repeat (first | exact (Kd.R_reads' HO_5022001.out).2.2 | (with_reducible refine Kd.C_alloc ?_ _) | (with_reducible refine Kd.C_drewN ?_ _) | (with_reducible refine Kd.C_drew ?_)))
        (case side2 => exact (Kd.R_reads' HO_5022001.out).2.1)
        (case side3 => repeat (first | exact (Kd.R_reads' HO5035.out).2.2 | (with_reducible refine Kd.C_alloc ?_ _) | (with_reducible refine Kd.C_drewN ?_ _) | (with_reducible refine Kd.C_drew ?_)))
        (case side4 => exact (Kd.R_reads' HO5035.out).2.1)
        rintro e w76 ⟨rfl, hb⟩
        refine ⟨_, rfl, ?_⟩
        have n0_ := aQ (Kd.R_below (pR HO_8.out) hb)
        have n1_ := aQ (Kd.R_below (pR HO_12.out) hb)
        have n2_ := aQ (Kd.R_below (pR HO_5022001.out) hb)
        have n3_ := aQ (Kd.R_below (pR HO_5027001.out) hb)
        have n4_ := aQ (Kd.R_below (pR HO5035.out) hb)
        have n5_ := aQ (blk_below (g := gb5001) (o := .cells #[.int .i64 a0_0, .slice A0_1 l0_1.length c0_1] 24 (0, 0)) (pk BK5001.out) hb)
        have n6_ := aQ (blk_below (g := gb5002) (o := .cells #[.int .i64 a1_0, .slice A1_1 l1_1.length c1_1] 24 (0, 0)) (pk BK5002.out) hb)
        have n7_ := aQ (blk_below (g := gb5021) (o := .cells #[.int .i64 t5017, .slice Ao46 t5018.length co46] 26 (0, 0)) (pk BK5021.out) hb)
        have n8_ := aQ (blk_below (g := gb5026) (o := .cells #[.int .i64 t5022, .slice Ao54 t5023.length co54] 26 (0, 0)) (pk BK5026.out) hb)
        have n9_ := aQ (below_step (pB4 HB.out GE5001.out GE5002.out GE5021.out GE5026.out) hb)
        clear HO_8
        clear HO_12
        clear HO_5022001
        clear HO_5027001
        clear HO5035
        clear BK5001
        clear BK5002
        clear BK5021
        clear BK5026
        clear HB
        have HO_8 := n0_
        have HO_12 := n1_
        have HO_5022001 := n2_
        have HO_5027001 := n3_
        have HO5035 := n4_
        have BK5001 := n5_
        have BK5002 := n6_
        have BK5021 := n7_
        have BK5026 := n8_
        have HB := n9_
        clear n0_ n1_ n2_ n3_ n4_ n5_ n6_ n7_ n8_ n9_
        (try clear hb)
        (try clear hb2)
        (try clear hk)
        (try clear hi)
        refine hK.out _ _ ⟨(blk_cell BK5021.out 0).trans rfl, (blk_cell BK5021.out 1).trans rfl, (blk_cell BK5001.out 0).trans rfl, (blk_cell BK5001.out 1).trans rfl⟩ (fun hHeld => ?_)
        clear hK K
        refine noA (h := ?_)
        refine puN (i := 4) (N := some 62) (h := ?_)
        refine done_ (by kernel_rfl) ?_
        try go_wp2
        have n0_ := aQ (Kd.R_drew HO_8.out)
        have n1_ := aQ (Kd.R_drew HO_12.out)
        have n2_ := aQ (Kd.R_drew HO_5022001.out)
        have n3_ := aQ (Kd.R_drew HO_5027001.out)
        have n4_ := aQ (Kd.R_drew HO5035.out)
        have n5_ := aQ (blk_drew BK5001.out)
        have n6_ := aQ (blk_drew BK5002.out)
        have n7_ := aQ (blk_drew BK5021.out)
        have n8_ := aQ (blk_drew BK5026.out)
        have n9_ := aQ (below_drew1 HB.out)
        clear HO_8
        clear HO_12
        clear HO_5022001
        clear HO_5027001
        clear HO5035
        clear BK5001
        clear BK5002
        clear BK5021
        clear BK5026
        clear HB
        have HO_8 := n0_
        have HO_12 := n1_
        have HO_5022001 := n2_
        have HO_5027001 := n3_
        have HO5035 := n4_
        have BK5001 := n5_
        have BK5002 := n6_
        have BK5021 := n7_
        have BK5026 := n8_
        have HB := n9_
        clear n0_ n1_ n2_ n3_ n4_ n5_ n6_ n7_ n8_ n9_
        refine start_ (n := 5) (S := fun w' => w'.cell? ⟨gb5026, 0, none⟩ = some (.int .i64 t5022) ∧ w'.cell? ⟨gb5026, 1, none⟩ = some (.slice Ao54 t5023.length co54) ∧ w'.cell? ⟨gb5002, 0, none⟩ = some (.int .i64 a1_0) ∧ w'.cell? ⟨gb5002, 1, none⟩ = some (.slice A1_1 l1_1.length c1_1)) (ds := []) #[false, false, false, false, false] (by kernel_rfl) rfl rfl ⟨(blk_cell BK5026.out 0).trans rfl, (blk_cell BK5026.out 1).trans rfl, (blk_cell BK5002.out 0).trans rfl, (blk_cell BK5002.out 1).trans rfl⟩ (fun hHeld => ?_)
        generalize w76.drew = w77 at HO_8 HO_12 HO_5022001 HO_5027001 HO5035 BK5001 BK5002 BK5021 BK5026 HB hHeld ⊢
        refine take_ (i := 0) (N := some 63) (v := ?_) (a' := ?_) #[true, false, false, false, false] rfl rfl (by kernel_rfl) (fun _ _ _ h => h) (Or.inl ⟨by rfl, ?_⟩) hHeld ?_ ?_
        rotate_left
        ·rintro w' ⟨s0, s1, s2, s3⟩
         go_simp
         with_reducible rfl
        rotate_left
        ·simp only [Act.put, List.setIfInBounds_toArray, List.set_cons_zero, List.set_cons_succ, i64_w, i32_w]
         rfl
        refine take_ (i := 1) (N := some 64) (v := ?_) (a' := ?_) #[true, true, false, false, false] rfl rfl (by kernel_rfl) (fun _ _ _ h => h) (Or.inl ⟨by rfl, ?_⟩) hHeld ?_ ?_
        rotate_left
        ·rintro w' ⟨s0, s1, s2, s3⟩
         go_simp
         with_reducible rfl
        rotate_left
        ·simp only [Act.put, List.setIfInBounds_toArray, List.set_cons_zero, List.set_cons_succ, i64_w, i32_w]
         rfl
        refine one_ (i := 2) (N := some 65) #[true, true, true, false, false] rfl rfl (by kernel_rfl) (by decide) (fun K hK => ?_)
        refine goes_ Try.func18 (by kernel_rfl) rfl #[.agg #[.int .i64 a1_0, .slice A1_1 l1_1.length c1_1]] (by rfl) rfl rfl lm ?_
        with_reducible refine (laws_toMatroid.calls kj25 a1_0 _ _ l1_1 t5037 t5038 _ ?side1 ?side2 A67.out).mono ?_
        (case side1 => exact pC (Kd.C_below HR1_1.out HB.out))
        (case side2 => exact HC1_1.out)
        rintro e w78 ⟨v5039, rfl, ho0, hb⟩
        refine ⟨_, rfl, ?_⟩
        have n0_ := aQ (Kd.R_elder' (pR HO_8.out) (Kd.R_base ho0) hb)
        have n1_ := aQ (Kd.R_elder' (pR HO_12.out) (Kd.R_base ho0) hb)
        have n2_ := aQ (Kd.R_elder' (pR HO_5022001.out) (Kd.R_base ho0) hb)
        have n3_ := aQ (Kd.R_elder' (pR HO_5027001.out) (Kd.R_base ho0) hb)
        have n4_ := aQ (Kd.R_elder' (pR HO5035.out) (Kd.R_base ho0) hb)
        have n5_ := aQ (Kd.R_lower (Kd.R_new' (Kd.R_new' (Kd.R_new' (Kd.R_new' (Kd.R_new' ho0 (Kd.R_lt (pR HO_8.out))) (Kd.R_lt (pR HO_12.out))) (Kd.R_lt (pR HO_5022001.out))) (Kd.R_lt (pR HO_5027001.out))) (Kd.R_lt (pR HO5035.out))) (below_size (pB4 HB.out GE5001.out GE5002.out GE5021.out GE5026.out)))
        have n6_ := aQ (blk_below (g := gb5001) (o := .cells #[.int .i64 a0_0, .slice A0_1 l0_1.length c0_1] 24 (0, 0)) (pk BK5001.out) hb)
        have n7_ := aQ (blk_below (g := gb5002) (o := .cells #[.int .i64 a1_0, .slice A1_1 l1_1.length c1_1] 24 (0, 0)) (pk BK5002.out) hb)
        have n8_ := aQ (blk_below (g := gb5021) (o := .cells #[.int .i64 t5017, .slice Ao46 t5018.length co46] 26 (0, 0)) (pk BK5021.out) hb)
        have n9_ := aQ (blk_below (g := gb5026) (o := .cells #[.int .i64 t5022, .slice Ao54 t5023.length co54] 26 (0, 0)) (pk BK5026.out) hb)
        have n10_ := aQ (below_step (pB4 HB.out GE5001.out GE5002.out GE5021.out GE5026.out) hb)
        clear HO_8
        clear HO_12
        clear HO_5022001
        clear HO_5027001
        clear HO5035
        clear BK5001
        clear BK5002
        clear BK5021
        clear BK5026
        clear HB
        have HO_8 := n0_
        have HO_12 := n1_
        have HO_5022001 := n2_
        have HO_5027001 := n3_
        have HO5035 := n4_
        have HO5040 := n5_
        have BK5001 := n6_
        have BK5002 := n7_
        have BK5021 := n8_
        have BK5026 := n9_
        have HB := n10_
        clear n0_ n1_ n2_ n3_ n4_ n5_ n6_ n7_ n8_ n9_ n10_
        (try clear hb)
        (try clear hb2)
        (try clear hk)
        (try clear hi)
        (try clear ho0)
        obtain ⟨Ao79, co79, eo79⟩ := Kd.R_slice HO5040.out
        (first | subst eo79 | (injection eo79 with f1_ f2_ f3_; have f4_ := f1_.symm; have f5_ := f3_.symm; clear f1_ f2_ f3_; subst f4_; subst f5_))
        refine hK.out _ _ ⟨(blk_cell BK5026.out 0).trans rfl, (blk_cell BK5026.out 1).trans rfl, (blk_cell BK5002.out 0).trans rfl, (blk_cell BK5002.out 1).trans rfl⟩ (fun hHeld => ?_)
        clear hK K
        refine noA (h := ?_)
        refine one_ (i := 3) (N := some 66) #[true, true, true, true, false] rfl rfl (by kernel_rfl) (by decide) (fun K hK => ?_)
        refine goes_ Try.func20 (by kernel_rfl) rfl #[.agg #[.int .i64 t5022, .slice Ao54 t5023.length co54], .agg #[.int .i64 t5037, .slice Ao79 t5038.length co79]] (by rfl) rfl rfl lm ?_
        with_reducible refine (laws_eqMatroid.calls kj25 t5022 _ _ t5023 t5037 _ _ t5038 true _ ?side1 ?side2 ?side3 ?side4 A68.out).mono ?_
        (case side1 => repeat (first | exact (Kd.R_reads' HO_5027001.out).2.2 | (with_reducible refine Kd.C_alloc ?_ _) | (with_reducible refine Kd.C_drewN ?_ _) | (with_reducible refine Kd.C_drew ?_)))
        (case side2 => exact (Kd.R_reads' HO_5027001.out).2.1)
        (case side3 => repeat (first | exact (Kd.R_reads' HO5040.out).2.2 | (with_reducible refine Kd.C_alloc ?_ _) | (with_reducible refine Kd.C_drewN ?_ _) | (with_reducible refine Kd.C_drew ?_)))
        (case side4 => exact (Kd.R_reads' HO5040.out).2.1)
        rintro e w80 ⟨rfl, hb⟩
        refine ⟨_, rfl, ?_⟩
        have n0_ := aQ (Kd.R_below (pR HO_8.out) hb)
        have n1_ := aQ (Kd.R_below (pR HO_12.out) hb)
        have n2_ := aQ (Kd.R_below (pR HO_5022001.out) hb)
        have n3_ := aQ (Kd.R_below (pR HO_5027001.out) hb)
        have n4_ := aQ (Kd.R_below (pR HO5035.out) hb)
        have n5_ := aQ (Kd.R_below (pR HO5040.out) hb)
        have n6_ := aQ (blk_below (g := gb5001) (o := .cells #[.int .i64 a0_0, .slice A0_1 l0_1.length c0_1] 24 (0, 0)) (pk BK5001.out) hb)
        have n7_ := aQ (blk_below (g := gb5002) (o := .cells #[.int .i64 a1_0, .slice A1_1 l1_1.length c1_1] 24 (0, 0)) (pk BK5002.out) hb)
        have n8_ := aQ (blk_below (g := gb5021) (o := .cells #[.int .i64 t5017, .slice Ao46 t5018.length co46] 26 (0, 0)) (pk BK5021.out) hb)
        have n9_ := aQ (blk_below (g := gb5026) (o := .cells #[.int .i64 t5022, .slice Ao54 t5023.length co54] 26 (0, 0)) (pk BK5026.out) hb)
        have n10_ := aQ (below_step (pB4 HB.out GE5001.out GE5002.out GE5021.out GE5026.out) hb)
        clear HO_8
        clear HO_12
        clear HO_5022001
        clear HO_5027001
        clear HO5035
        clear HO5040
        clear BK5001
        clear BK5002
        clear BK5021
        clear BK5026
        clear HB
        have HO_8 := n0_
        have HO_12 := n1_
        have HO_5022001 := n2_
        have HO_5027001 := n3_
        have HO5035 := n4_
        have HO5040 := n5_
        have BK5001 := n6_
        have BK5002 := n7_
        have BK5021 := n8_
        have BK5026 := n9_
        have HB := n10_
        clear n0_ n1_ n2_ n3_ n4_ n5_ n6_ n7_ n8_ n9_ n10_
        (try clear hb)
        (try clear hb2)
        (try clear hk)
        (try clear hi)
        refine hK.out _ _ ⟨(blk_cell BK5026.out 0).trans rfl, (blk_cell BK5026.out 1).trans rfl, (blk_cell BK5002.out 0).trans rfl, (blk_cell BK5002.out 1).trans rfl⟩ (fun hHeld => ?_)
        clear hK K
        refine noA (h := ?_)
        refine puN (i := 4) (N := some 67) (h := ?_)
        refine done_ (by kernel_rfl) ?_
        have hnb81 := NB5021_5001.out
        have hnc81 := NB5001_5021.out
        have hnb82 := NB5021_5002.out
        have hnc82 := NB5002_5021.out
        have hnb83 := NB5021_5026.out
        have hnc83 := NB5026_5021.out
        have hcz84_0 := bc (v := (.int .i64 t5017)) BK5021.out 0
        have hcz84_1 := bc (v := (.slice Ao46 t5018.length co46)) BK5021.out 1
        have hfz84_0 := blk_frozen BK5021.out 0
        have hfz84_1 := blk_frozen BK5021.out 1
        go_upto_region 21 with (first | ((with_reducible refine gate_callee (f := 21) rfl ?_); refine goesL_ (some 70) rfl rfl Try.func21 (by kernel_rfl) rfl #[.agg #[.int .i64 t5017, .slice Ao46 t5018.length co46], .int .i64 1] rfl lm ?_; (with_reducible refine (laws_markMatroid.calls kj25 t5017 (fun k_ => some k_ = (.slice Ao46 t5018.length co46 : Value).ownBlock) (.slice Ao46 t5018.length co46) t5018 1 t5042 t5043 w _ ?side1 ?side2 A70.out).mono ?_); (case side1 => repeat (first | (with_reducible first | exact HB.out | apply below_alloc | apply pw_below_drewN | apply below_drew1 | refine below_set ?_ GE5001.out | refine below_set ?_ GE5002.out | refine below_set ?_ GE5021.out | refine below_set ?_ GE5026.out) | exact HB.out)); (case side2 => exact Kd.R_tight rfl HO_5022001.out); rintro e w85 ⟨rfl, hy0, hb, hkp⟩; refine ⟨_, rfl, ?_⟩; replace HO_8 := aQ (Kd.R_mono (ok' := fun k_ => some k_ ≠ (v5028 : Value).ownBlock ∧ some k_ ≠ (.slice Ao46 t5018.length co46 : Value).ownBlock ∧ some k_ ≠ (.slice Ao54 t5023.length co54 : Value).ownBlock ∧ some k_ ≠ (.slice Ao75 t5033.length co75 : Value).ownBlock ∧ some k_ ≠ (.slice Ao79 t5038.length co79 : Value).ownBlock) (Kd.R_keptB (HO_8.out) hkp (fun k_ hk_ hs_ => by first | exact (hk_.1.1.2.1) hs_ | (with_reducible first | exact absurd hs_ hk_.1 | exact absurd hs_ hk_.2 | exact absurd hs_ hk_.1.1 | exact absurd hs_ hk_.1.2 | exact absurd hs_ hk_.2.1 | exact absurd hs_ hk_.2.2 | exact absurd hs_ hk_.1.1.1 | exact absurd hs_ hk_.1.1.2 | exact absurd hs_ hk_.1.2.1 | exact absurd hs_ hk_.1.2.2 | exact absurd hs_ hk_.2.1.1 | exact absurd hs_ hk_.2.1.2 | exact absurd hs_ hk_.2.2.1 | exact absurd hs_ hk_.2.2.2 | exact absurd hs_ hk_.1.1.1.1 | exact absurd hs_ hk_.1.1.1.2 | exact absurd hs_ hk_.1.1.2.1 | exact absurd hs_ hk_.1.1.2.2 | exact absurd hs_ hk_.1.2.1.1 | exact absurd hs_ hk_.1.2.1.2 | exact absurd hs_ hk_.1.2.2.1 | exact absurd hs_ hk_.1.2.2.2 | exact absurd hs_ hk_.2.1.1.1 | exact absurd hs_ hk_.2.1.1.2 | exact absurd hs_ hk_.2.1.2.1 | exact absurd hs_ hk_.2.1.2.2 | exact absurd hs_ hk_.2.2.1.1 | exact absurd hs_ hk_.2.2.1.2 | exact absurd hs_ hk_.2.2.2.1 | exact absurd hs_ hk_.2.2.2.2 | exact absurd hs_ hk_.1.1.1.1.1 | exact absurd hs_ hk_.1.1.1.1.2 | exact absurd hs_ hk_.1.1.1.2.1 | exact absurd hs_ hk_.1.1.1.2.2 | exact absurd hs_ hk_.1.1.2.1.1 | exact absurd hs_ hk_.1.1.2.1.2 | exact absurd hs_ hk_.1.1.2.2.1 | exact absurd hs_ hk_.1.1.2.2.2 | exact absurd hs_ hk_.1.2.1.1.1 | exact absurd hs_ hk_.1.2.1.1.2 | exact absurd hs_ hk_.1.2.1.2.1 | exact absurd hs_ hk_.1.2.1.2.2 | exact absurd hs_ hk_.1.2.2.1.1 | exact absurd hs_ hk_.1.2.2.1.2 | exact absurd hs_ hk_.1.2.2.2.1 | exact absurd hs_ hk_.1.2.2.2.2 | exact absurd hs_ hk_.2.1.1.1.1 | exact absurd hs_ hk_.2.1.1.1.2 | exact absurd hs_ hk_.2.1.1.2.1 | exact absurd hs_ hk_.2.1.1.2.2 | exact absurd hs_ hk_.2.1.2.1.1 | exact absurd hs_ hk_.2.1.2.1.2 | exact absurd hs_ hk_.2.1.2.2.1 | exact absurd hs_ hk_.2.1.2.2.2 | exact absurd hs_ hk_.2.2.1.1.1 | exact absurd hs_ hk_.2.2.1.1.2 | exact absurd hs_ hk_.2.2.1.2.1 | exact absurd hs_ hk_.2.2.1.2.2 | exact absurd hs_ hk_.2.2.2.1.1 | exact absurd hs_ hk_.2.2.2.1.2 | exact absurd hs_ hk_.2.2.2.2.1 | exact absurd hs_ hk_.2.2.2.2.2 | exact absurd hs_ hk_.1.1.1.1.1.1 | exact absurd hs_ hk_.1.1.1.1.1.2 | exact absurd hs_ hk_.1.1.1.1.2.1 | exact absurd hs_ hk_.1.1.1.1.2.2 | exact absurd hs_ hk_.1.1.1.2.1.1 | exact absurd hs_ hk_.1.1.1.2.1.2 | exact absurd hs_ hk_.1.1.1.2.2.1 | exact absurd hs_ hk_.1.1.1.2.2.2 | exact absurd hs_ hk_.1.1.2.1.1.1 | exact absurd hs_ hk_.1.1.2.1.1.2 | exact absurd hs_ hk_.1.1.2.1.2.1 | exact absurd hs_ hk_.1.1.2.1.2.2 | exact absurd hs_ hk_.1.1.2.2.1.1 | exact absurd hs_ hk_.1.1.2.2.1.2 | exact absurd hs_ hk_.1.1.2.2.2.1 | exact absurd hs_ hk_.1.1.2.2.2.2 | exact absurd hs_ hk_.1.2.1.1.1.1 | exact absurd hs_ hk_.1.2.1.1.1.2 | exact absurd hs_ hk_.1.2.1.1.2.1 | exact absurd hs_ hk_.1.2.1.1.2.2 | exact absurd hs_ hk_.1.2.1.2.1.1 | exact absurd hs_ hk_.1.2.1.2.1.2 | exact absurd hs_ hk_.1.2.1.2.2.1 | exact absurd hs_ hk_.1.2.1.2.2.2 | exact absurd hs_ hk_.1.2.2.1.1.1 | exact absurd hs_ hk_.1.2.2.1.1.2 | exact absurd hs_ hk_.1.2.2.1.2.1 | exact absurd hs_ hk_.1.2.2.1.2.2 | exact absurd hs_ hk_.1.2.2.2.1.1 | exact absurd hs_ hk_.1.2.2.2.1.2 | exact absurd hs_ hk_.1.2.2.2.2.1 | exact absurd hs_ hk_.1.2.2.2.2.2 | exact absurd hs_ hk_.2.1.1.1.1.1 | exact absurd hs_ hk_.2.1.1.1.1.2 | exact absurd hs_ hk_.2.1.1.1.2.1 | exact absurd hs_ hk_.2.1.1.1.2.2 | exact absurd hs_ hk_.2.1.1.2.1.1 | exact absurd hs_ hk_.2.1.1.2.1.2 | exact absurd hs_ hk_.2.1.1.2.2.1 | exact absurd hs_ hk_.2.1.1.2.2.2 | exact absurd hs_ hk_.2.1.2.1.1.1 | exact absurd hs_ hk_.2.1.2.1.1.2 | exact absurd hs_ hk_.2.1.2.1.2.1 | exact absurd hs_ hk_.2.1.2.1.2.2 | exact absurd hs_ hk_.2.1.2.2.1.1 | exact absurd hs_ hk_.2.1.2.2.1.2 | exact absurd hs_ hk_.2.1.2.2.2.1 | exact absurd hs_ hk_.2.1.2.2.2.2 | exact absurd hs_ hk_.2.2.1.1.1.1 | exact absurd hs_ hk_.2.2.1.1.1.2 | exact absurd hs_ hk_.2.2.1.1.2.1 | exact absurd hs_ hk_.2.2.1.1.2.2 | exact absurd hs_ hk_.2.2.1.2.1.1 | exact absurd hs_ hk_.2.2.1.2.1.2 | exact absurd hs_ hk_.2.2.1.2.2.1 | exact absurd hs_ hk_.2.2.1.2.2.2 | exact absurd hs_ hk_.2.2.2.1.1.1 | exact absurd hs_ hk_.2.2.2.1.1.2 | exact absurd hs_ hk_.2.2.2.1.2.1 | exact absurd hs_ hk_.2.2.2.1.2.2 | exact absurd hs_ hk_.2.2.2.2.1.1 | exact absurd hs_ hk_.2.2.2.2.1.2 | exact absurd hs_ hk_.2.2.2.2.2.1 | exact absurd hs_ hk_.2.2.2.2.2.2))) (fun k_ hk_ => by first | exact ⟨hk_.1.1.1.1, hk_.1.1.1.2.1, hk_.1.1.1.2.2, hk_.1.1.2, hk_.1.2⟩ | (refine ⟨?_, ?_, ?_, ?_, ?_⟩ <;> with_reducible first | exact hk_.1 | exact hk_.2 | exact hk_.1.1 | exact hk_.1.2 | exact hk_.2.1 | exact hk_.2.2 | exact hk_.1.1.1 | exact hk_.1.1.2 | exact hk_.1.2.1 | exact hk_.1.2.2 | exact hk_.2.1.1 | exact hk_.2.1.2 | exact hk_.2.2.1 | exact hk_.2.2.2 | exact hk_.1.1.1.1 | exact hk_.1.1.1.2 | exact hk_.1.1.2.1 | exact hk_.1.1.2.2 | exact hk_.1.2.1.1 | exact hk_.1.2.1.2 | exact hk_.1.2.2.1 | exact hk_.1.2.2.2 | exact hk_.2.1.1.1 | exact hk_.2.1.1.2 | exact hk_.2.1.2.1 | exact hk_.2.1.2.2 | exact hk_.2.2.1.1 | exact hk_.2.2.1.2 | exact hk_.2.2.2.1 | exact hk_.2.2.2.2 | exact hk_.1.1.1.1.1 | exact hk_.1.1.1.1.2 | exact hk_.1.1.1.2.1 | exact hk_.1.1.1.2.2 | exact hk_.1.1.2.1.1 | exact hk_.1.1.2.1.2 | exact hk_.1.1.2.2.1 | exact hk_.1.1.2.2.2 | exact hk_.1.2.1.1.1 | exact hk_.1.2.1.1.2 | exact hk_.1.2.1.2.1 | exact hk_.1.2.1.2.2 | exact hk_.1.2.2.1.1 | exact hk_.1.2.2.1.2 | exact hk_.1.2.2.2.1 | exact hk_.1.2.2.2.2 | exact hk_.2.1.1.1.1 | exact hk_.2.1.1.1.2 | exact hk_.2.1.1.2.1 | exact hk_.2.1.1.2.2 | exact hk_.2.1.2.1.1 | exact hk_.2.1.2.1.2 | exact hk_.2.1.2.2.1 | exact hk_.2.1.2.2.2 | exact hk_.2.2.1.1.1 | exact hk_.2.2.1.1.2 | exact hk_.2.2.1.2.1 | exact hk_.2.2.1.2.2 | exact hk_.2.2.2.1.1 | exact hk_.2.2.2.1.2 | exact hk_.2.2.2.2.1 | exact hk_.2.2.2.2.2 | exact hk_.1.1.1.1.1.1 | exact hk_.1.1.1.1.1.2 | exact hk_.1.1.1.1.2.1 | exact hk_.1.1.1.1.2.2 | exact hk_.1.1.1.2.1.1 | exact hk_.1.1.1.2.1.2 | exact hk_.1.1.1.2.2.1 | exact hk_.1.1.1.2.2.2 | exact hk_.1.1.2.1.1.1 | exact hk_.1.1.2.1.1.2 | exact hk_.1.1.2.1.2.1 | exact hk_.1.1.2.1.2.2 | exact hk_.1.1.2.2.1.1 | exact hk_.1.1.2.2.1.2 | exact hk_.1.1.2.2.2.1 | exact hk_.1.1.2.2.2.2 | exact hk_.1.2.1.1.1.1 | exact hk_.1.2.1.1.1.2 | exact hk_.1.2.1.1.2.1 | exact hk_.1.2.1.1.2.2 | exact hk_.1.2.1.2.1.1 | exact hk_.1.2.1.2.1.2 | exact hk_.1.2.1.2.2.1 | exact hk_.1.2.1.2.2.2 | exact hk_.1.2.2.1.1.1 | exact hk_.1.2.2.1.1.2 | exact hk_.1.2.2.1.2.1 | exact hk_.1.2.2.1.2.2 | exact hk_.1.2.2.2.1.1 | exact hk_.1.2.2.2.1.2 | exact hk_.1.2.2.2.2.1 | exact hk_.1.2.2.2.2.2 | exact hk_.2.1.1.1.1.1 | exact hk_.2.1.1.1.1.2 | exact hk_.2.1.1.1.2.1 | exact hk_.2.1.1.1.2.2 | exact hk_.2.1.1.2.1.1 | exact hk_.2.1.1.2.1.2 | exact hk_.2.1.1.2.2.1 | exact hk_.2.1.1.2.2.2 | exact hk_.2.1.2.1.1.1 | exact hk_.2.1.2.1.1.2 | exact hk_.2.1.2.1.2.1 | exact hk_.2.1.2.1.2.2 | exact hk_.2.1.2.2.1.1 | exact hk_.2.1.2.2.1.2 | exact hk_.2.1.2.2.2.1 | exact hk_.2.1.2.2.2.2 | exact hk_.2.2.1.1.1.1 | exact hk_.2.2.1.1.1.2 | exact hk_.2.2.1.1.2.1 | exact hk_.2.2.1.1.2.2 | exact hk_.2.2.1.2.1.1 | exact hk_.2.2.1.2.1.2 | exact hk_.2.2.1.2.2.1 | exact hk_.2.2.1.2.2.2 | exact hk_.2.2.2.1.1.1 | exact hk_.2.2.2.1.1.2 | exact hk_.2.2.2.1.2.1 | exact hk_.2.2.2.1.2.2 | exact hk_.2.2.2.2.1.1 | exact hk_.2.2.2.2.1.2 | exact hk_.2.2.2.2.2.1 | exact hk_.2.2.2.2.2.2))); replace HO_12 := aQ (Kd.R_mono (ok' := fun k_ => some k_ ≠ (v5014 : Value).ownBlock ∧ some k_ ≠ (.slice Ao46 t5018.length co46 : Value).ownBlock ∧ some k_ ≠ (.slice Ao54 t5023.length co54 : Value).ownBlock ∧ some k_ ≠ (.slice Ao75 t5033.length co75 : Value).ownBlock ∧ some k_ ≠ (.slice Ao79 t5038.length co79 : Value).ownBlock) (Kd.R_keptB (HO_12.out) hkp (fun k_ hk_ hs_ => by first | exact (hk_.1.1.2.1) hs_ | (with_reducible first | exact absurd hs_ hk_.1 | exact absurd hs_ hk_.2 | exact absurd hs_ hk_.1.1 | exact absurd hs_ hk_.1.2 | exact absurd hs_ hk_.2.1 | exact absurd hs_ hk_.2.2 | exact absurd hs_ hk_.1.1.1 | exact absurd hs_ hk_.1.1.2 | exact absurd hs_ hk_.1.2.1 | exact absurd hs_ hk_.1.2.2 | exact absurd hs_ hk_.2.1.1 | exact absurd hs_ hk_.2.1.2 | exact absurd hs_ hk_.2.2.1 | exact absurd hs_ hk_.2.2.2 | exact absurd hs_ hk_.1.1.1.1 | exact absurd hs_ hk_.1.1.1.2 | exact absurd hs_ hk_.1.1.2.1 | exact absurd hs_ hk_.1.1.2.2 | exact absurd hs_ hk_.1.2.1.1 | exact absurd hs_ hk_.1.2.1.2 | exact absurd hs_ hk_.1.2.2.1 | exact absurd hs_ hk_.1.2.2.2 | exact absurd hs_ hk_.2.1.1.1 | exact absurd hs_ hk_.2.1.1.2 | exact absurd hs_ hk_.2.1.2.1 | exact absurd hs_ hk_.2.1.2.2 | exact absurd hs_ hk_.2.2.1.1 | exact absurd hs_ hk_.2.2.1.2 | exact absurd hs_ hk_.2.2.2.1 | exact absurd hs_ hk_.2.2.2.2 | exact absurd hs_ hk_.1.1.1.1.1 | exact absurd hs_ hk_.1.1.1.1.2 | exact absurd hs_ hk_.1.1.1.2.1 | exact absurd hs_ hk_.1.1.1.2.2 | exact absurd hs_ hk_.1.1.2.1.1 | exact absurd hs_ hk_.1.1.2.1.2 | exact absurd hs_ hk_.1.1.2.2.1 | exact absurd hs_ hk_.1.1.2.2.2 | exact absurd hs_ hk_.1.2.1.1.1 | exact absurd hs_ hk_.1.2.1.1.2 | exact absurd hs_ hk_.1.2.1.2.1 | exact absurd hs_ hk_.1.2.1.2.2 | exact absurd hs_ hk_.1.2.2.1.1 | exact absurd hs_ hk_.1.2.2.1.2 | exact absurd hs_ hk_.1.2.2.2.1 | exact absurd hs_ hk_.1.2.2.2.2 | exact absurd hs_ hk_.2.1.1.1.1 | exact absurd hs_ hk_.2.1.1.1.2 | exact absurd hs_ hk_.2.1.1.2.1 | exact absurd hs_ hk_.2.1.1.2.2 | exact absurd hs_ hk_.2.1.2.1.1 | exact absurd hs_ hk_.2.1.2.1.2 | exact absurd hs_ hk_.2.1.2.2.1 | exact absurd hs_ hk_.2.1.2.2.2 | exact absurd hs_ hk_.2.2.1.1.1 | exact absurd hs_ hk_.2.2.1.1.2 | exact absurd hs_ hk_.2.2.1.2.1 | exact absurd hs_ hk_.2.2.1.2.2 | exact absurd hs_ hk_.2.2.2.1.1 | exact absurd hs_ hk_.2.2.2.1.2 | exact absurd hs_ hk_.2.2.2.2.1 | exact absurd hs_ hk_.2.2.2.2.2 | exact absurd hs_ hk_.1.1.1.1.1.1 | exact absurd hs_ hk_.1.1.1.1.1.2 | exact absurd hs_ hk_.1.1.1.1.2.1 | exact absurd hs_ hk_.1.1.1.1.2.2 | exact absurd hs_ hk_.1.1.1.2.1.1 | exact absurd hs_ hk_.1.1.1.2.1.2 | exact absurd hs_ hk_.1.1.1.2.2.1 | exact absurd hs_ hk_.1.1.1.2.2.2 | exact absurd hs_ hk_.1.1.2.1.1.1 | exact absurd hs_ hk_.1.1.2.1.1.2 | exact absurd hs_ hk_.1.1.2.1.2.1 | exact absurd hs_ hk_.1.1.2.1.2.2 | exact absurd hs_ hk_.1.1.2.2.1.1 | exact absurd hs_ hk_.1.1.2.2.1.2 | exact absurd hs_ hk_.1.1.2.2.2.1 | exact absurd hs_ hk_.1.1.2.2.2.2 | exact absurd hs_ hk_.1.2.1.1.1.1 | exact absurd hs_ hk_.1.2.1.1.1.2 | exact absurd hs_ hk_.1.2.1.1.2.1 | exact absurd hs_ hk_.1.2.1.1.2.2 | exact absurd hs_ hk_.1.2.1.2.1.1 | exact absurd hs_ hk_.1.2.1.2.1.2 | exact absurd hs_ hk_.1.2.1.2.2.1 | exact absurd hs_ hk_.1.2.1.2.2.2 | exact absurd hs_ hk_.1.2.2.1.1.1 | exact absurd hs_ hk_.1.2.2.1.1.2 | exact absurd hs_ hk_.1.2.2.1.2.1 | exact absurd hs_ hk_.1.2.2.1.2.2 | exact absurd hs_ hk_.1.2.2.2.1.1 | exact absurd hs_ hk_.1.2.2.2.1.2 | exact absurd hs_ hk_.1.2.2.2.2.1 | exact absurd hs_ hk_.1.2.2.2.2.2 | exact absurd hs_ hk_.2.1.1.1.1.1 | exact absurd hs_ hk_.2.1.1.1.1.2 | exact absurd hs_ hk_.2.1.1.1.2.1 | exact absurd hs_ hk_.2.1.1.1.2.2 | exact absurd hs_ hk_.2.1.1.2.1.1 | exact absurd hs_ hk_.2.1.1.2.1.2 | exact absurd hs_ hk_.2.1.1.2.2.1 | exact absurd hs_ hk_.2.1.1.2.2.2 | exact absurd hs_ hk_.2.1.2.1.1.1 | exact absurd hs_ hk_.2.1.2.1.1.2 | exact absurd hs_ hk_.2.1.2.1.2.1 | exact absurd hs_ hk_.2.1.2.1.2.2 | exact absurd hs_ hk_.2.1.2.2.1.1 | exact absurd hs_ hk_.2.1.2.2.1.2 | exact absurd hs_ hk_.2.1.2.2.2.1 | exact absurd hs_ hk_.2.1.2.2.2.2 | exact absurd hs_ hk_.2.2.1.1.1.1 | exact absurd hs_ hk_.2.2.1.1.1.2 | exact absurd hs_ hk_.2.2.1.1.2.1 | exact absurd hs_ hk_.2.2.1.1.2.2 | exact absurd hs_ hk_.2.2.1.2.1.1 | exact absurd hs_ hk_.2.2.1.2.1.2 | exact absurd hs_ hk_.2.2.1.2.2.1 | exact absurd hs_ hk_.2.2.1.2.2.2 | exact absurd hs_ hk_.2.2.2.1.1.1 | exact absurd hs_ hk_.2.2.2.1.1.2 | exact absurd hs_ hk_.2.2.2.1.2.1 | exact absurd hs_ hk_.2.2.2.1.2.2 | exact absurd hs_ hk_.2.2.2.2.1.1 | exact absurd hs_ hk_.2.2.2.2.1.2 | exact absurd hs_ hk_.2.2.2.2.2.1 | exact absurd hs_ hk_.2.2.2.2.2.2))) (fun k_ hk_ => by first | exact ⟨hk_.1.1.1.1, hk_.1.1.1.2.1, hk_.1.1.1.2.2, hk_.1.1.2, hk_.1.2⟩ | (refine ⟨?_, ?_, ?_, ?_, ?_⟩ <;> with_reducible first | exact hk_.1 | exact hk_.2 | exact hk_.1.1 | exact hk_.1.2 | exact hk_.2.1 | exact hk_.2.2 | exact hk_.1.1.1 | exact hk_.1.1.2 | exact hk_.1.2.1 | exact hk_.1.2.2 | exact hk_.2.1.1 | exact hk_.2.1.2 | exact hk_.2.2.1 | exact hk_.2.2.2 | exact hk_.1.1.1.1 | exact hk_.1.1.1.2 | exact hk_.1.1.2.1 | exact hk_.1.1.2.2 | exact hk_.1.2.1.1 | exact hk_.1.2.1.2 | exact hk_.1.2.2.1 | exact hk_.1.2.2.2 | exact hk_.2.1.1.1 | exact hk_.2.1.1.2 | exact hk_.2.1.2.1 | exact hk_.2.1.2.2 | exact hk_.2.2.1.1 | exact hk_.2.2.1.2 | exact hk_.2.2.2.1 | exact hk_.2.2.2.2 | exact hk_.1.1.1.1.1 | exact hk_.1.1.1.1.2 | exact hk_.1.1.1.2.1 | exact hk_.1.1.1.2.2 | exact hk_.1.1.2.1.1 | exact hk_.1.1.2.1.2 | exact hk_.1.1.2.2.1 | exact hk_.1.1.2.2.2 | exact hk_.1.2.1.1.1 | exact hk_.1.2.1.1.2 | exact hk_.1.2.1.2.1 | exact hk_.1.2.1.2.2 | exact hk_.1.2.2.1.1 | exact hk_.1.2.2.1.2 | exact hk_.1.2.2.2.1 | exact hk_.1.2.2.2.2 | exact hk_.2.1.1.1.1 | exact hk_.2.1.1.1.2 | exact hk_.2.1.1.2.1 | exact hk_.2.1.1.2.2 | exact hk_.2.1.2.1.1 | exact hk_.2.1.2.1.2 | exact hk_.2.1.2.2.1 | exact hk_.2.1.2.2.2 | exact hk_.2.2.1.1.1 | exact hk_.2.2.1.1.2 | exact hk_.2.2.1.2.1 | exact hk_.2.2.1.2.2 | exact hk_.2.2.2.1.1 | exact hk_.2.2.2.1.2 | exact hk_.2.2.2.2.1 | exact hk_.2.2.2.2.2 | exact hk_.1.1.1.1.1.1 | exact hk_.1.1.1.1.1.2 | exact hk_.1.1.1.1.2.1 | exact hk_.1.1.1.1.2.2 | exact hk_.1.1.1.2.1.1 | exact hk_.1.1.1.2.1.2 | exact hk_.1.1.1.2.2.1 | exact hk_.1.1.1.2.2.2 | exact hk_.1.1.2.1.1.1 | exact hk_.1.1.2.1.1.2 | exact hk_.1.1.2.1.2.1 | exact hk_.1.1.2.1.2.2 | exact hk_.1.1.2.2.1.1 | exact hk_.1.1.2.2.1.2 | exact hk_.1.1.2.2.2.1 | exact hk_.1.1.2.2.2.2 | exact hk_.1.2.1.1.1.1 | exact hk_.1.2.1.1.1.2 | exact hk_.1.2.1.1.2.1 | exact hk_.1.2.1.1.2.2 | exact hk_.1.2.1.2.1.1 | exact hk_.1.2.1.2.1.2 | exact hk_.1.2.1.2.2.1 | exact hk_.1.2.1.2.2.2 | exact hk_.1.2.2.1.1.1 | exact hk_.1.2.2.1.1.2 | exact hk_.1.2.2.1.2.1 | exact hk_.1.2.2.1.2.2 | exact hk_.1.2.2.2.1.1 | exact hk_.1.2.2.2.1.2 | exact hk_.1.2.2.2.2.1 | exact hk_.1.2.2.2.2.2 | exact hk_.2.1.1.1.1.1 | exact hk_.2.1.1.1.1.2 | exact hk_.2.1.1.1.2.1 | exact hk_.2.1.1.1.2.2 | exact hk_.2.1.1.2.1.1 | exact hk_.2.1.1.2.1.2 | exact hk_.2.1.1.2.2.1 | exact hk_.2.1.1.2.2.2 | exact hk_.2.1.2.1.1.1 | exact hk_.2.1.2.1.1.2 | exact hk_.2.1.2.1.2.1 | exact hk_.2.1.2.1.2.2 | exact hk_.2.1.2.2.1.1 | exact hk_.2.1.2.2.1.2 | exact hk_.2.1.2.2.2.1 | exact hk_.2.1.2.2.2.2 | exact hk_.2.2.1.1.1.1 | exact hk_.2.2.1.1.1.2 | exact hk_.2.2.1.1.2.1 | exact hk_.2.2.1.1.2.2 | exact hk_.2.2.1.2.1.1 | exact hk_.2.2.1.2.1.2 | exact hk_.2.2.1.2.2.1 | exact hk_.2.2.1.2.2.2 | exact hk_.2.2.2.1.1.1 | exact hk_.2.2.2.1.1.2 | exact hk_.2.2.2.1.2.1 | exact hk_.2.2.2.1.2.2 | exact hk_.2.2.2.2.1.1 | exact hk_.2.2.2.2.1.2 | exact hk_.2.2.2.2.2.1 | exact hk_.2.2.2.2.2.2))); replace HO_5027001 := aQ (Kd.R_mono (ok' := fun k_ => some k_ ≠ (v5014 : Value).ownBlock ∧ some k_ ≠ (v5028 : Value).ownBlock ∧ some k_ ≠ (.slice Ao46 t5018.length co46 : Value).ownBlock ∧ some k_ ≠ (.slice Ao75 t5033.length co75 : Value).ownBlock ∧ some k_ ≠ (.slice Ao79 t5038.length co79 : Value).ownBlock) (Kd.R_keptB (HO_5027001.out) hkp (fun k_ hk_ hs_ => by first | exact (hk_.1.1.2.2) hs_ | (with_reducible first | exact absurd hs_ hk_.1 | exact absurd hs_ hk_.2 | exact absurd hs_ hk_.1.1 | exact absurd hs_ hk_.1.2 | exact absurd hs_ hk_.2.1 | exact absurd hs_ hk_.2.2 | exact absurd hs_ hk_.1.1.1 | exact absurd hs_ hk_.1.1.2 | exact absurd hs_ hk_.1.2.1 | exact absurd hs_ hk_.1.2.2 | exact absurd hs_ hk_.2.1.1 | exact absurd hs_ hk_.2.1.2 | exact absurd hs_ hk_.2.2.1 | exact absurd hs_ hk_.2.2.2 | exact absurd hs_ hk_.1.1.1.1 | exact absurd hs_ hk_.1.1.1.2 | exact absurd hs_ hk_.1.1.2.1 | exact absurd hs_ hk_.1.1.2.2 | exact absurd hs_ hk_.1.2.1.1 | exact absurd hs_ hk_.1.2.1.2 | exact absurd hs_ hk_.1.2.2.1 | exact absurd hs_ hk_.1.2.2.2 | exact absurd hs_ hk_.2.1.1.1 | exact absurd hs_ hk_.2.1.1.2 | exact absurd hs_ hk_.2.1.2.1 | exact absurd hs_ hk_.2.1.2.2 | exact absurd hs_ hk_.2.2.1.1 | exact absurd hs_ hk_.2.2.1.2 | exact absurd hs_ hk_.2.2.2.1 | exact absurd hs_ hk_.2.2.2.2 | exact absurd hs_ hk_.1.1.1.1.1 | exact absurd hs_ hk_.1.1.1.1.2 | exact absurd hs_ hk_.1.1.1.2.1 | exact absurd hs_ hk_.1.1.1.2.2 | exact absurd hs_ hk_.1.1.2.1.1 | exact absurd hs_ hk_.1.1.2.1.2 | exact absurd hs_ hk_.1.1.2.2.1 | exact absurd hs_ hk_.1.1.2.2.2 | exact absurd hs_ hk_.1.2.1.1.1 | exact absurd hs_ hk_.1.2.1.1.2 | exact absurd hs_ hk_.1.2.1.2.1 | exact absurd hs_ hk_.1.2.1.2.2 | exact absurd hs_ hk_.1.2.2.1.1 | exact absurd hs_ hk_.1.2.2.1.2 | exact absurd hs_ hk_.1.2.2.2.1 | exact absurd hs_ hk_.1.2.2.2.2 | exact absurd hs_ hk_.2.1.1.1.1 | exact absurd hs_ hk_.2.1.1.1.2 | exact absurd hs_ hk_.2.1.1.2.1 | exact absurd hs_ hk_.2.1.1.2.2 | exact absurd hs_ hk_.2.1.2.1.1 | exact absurd hs_ hk_.2.1.2.1.2 | exact absurd hs_ hk_.2.1.2.2.1 | exact absurd hs_ hk_.2.1.2.2.2 | exact absurd hs_ hk_.2.2.1.1.1 | exact absurd hs_ hk_.2.2.1.1.2 | exact absurd hs_ hk_.2.2.1.2.1 | exact absurd hs_ hk_.2.2.1.2.2 | exact absurd hs_ hk_.2.2.2.1.1 | exact absurd hs_ hk_.2.2.2.1.2 | exact absurd hs_ hk_.2.2.2.2.1 | exact absurd hs_ hk_.2.2.2.2.2 | exact absurd hs_ hk_.1.1.1.1.1.1 | exact absurd hs_ hk_.1.1.1.1.1.2 | exact absurd hs_ hk_.1.1.1.1.2.1 | exact absurd hs_ hk_.1.1.1.1.2.2 | exact absurd hs_ hk_.1.1.1.2.1.1 | exact absurd hs_ hk_.1.1.1.2.1.2 | exact absurd hs_ hk_.1.1.1.2.2.1 | exact absurd hs_ hk_.1.1.1.2.2.2 | exact absurd hs_ hk_.1.1.2.1.1.1 | exact absurd hs_ hk_.1.1.2.1.1.2 | exact absurd hs_ hk_.1.1.2.1.2.1 | exact absurd hs_ hk_.1.1.2.1.2.2 | exact absurd hs_ hk_.1.1.2.2.1.1 | exact absurd hs_ hk_.1.1.2.2.1.2 | exact absurd hs_ hk_.1.1.2.2.2.1 | exact absurd hs_ hk_.1.1.2.2.2.2 | exact absurd hs_ hk_.1.2.1.1.1.1 | exact absurd hs_ hk_.1.2.1.1.1.2 | exact absurd hs_ hk_.1.2.1.1.2.1 | exact absurd hs_ hk_.1.2.1.1.2.2 | exact absurd hs_ hk_.1.2.1.2.1.1 | exact absurd hs_ hk_.1.2.1.2.1.2 | exact absurd hs_ hk_.1.2.1.2.2.1 | exact absurd hs_ hk_.1.2.1.2.2.2 | exact absurd hs_ hk_.1.2.2.1.1.1 | exact absurd hs_ hk_.1.2.2.1.1.2 | exact absurd hs_ hk_.1.2.2.1.2.1 | exact absurd hs_ hk_.1.2.2.1.2.2 | exact absurd hs_ hk_.1.2.2.2.1.1 | exact absurd hs_ hk_.1.2.2.2.1.2 | exact absurd hs_ hk_.1.2.2.2.2.1 | exact absurd hs_ hk_.1.2.2.2.2.2 | exact absurd hs_ hk_.2.1.1.1.1.1 | exact absurd hs_ hk_.2.1.1.1.1.2 | exact absurd hs_ hk_.2.1.1.1.2.1 | exact absurd hs_ hk_.2.1.1.1.2.2 | exact absurd hs_ hk_.2.1.1.2.1.1 | exact absurd hs_ hk_.2.1.1.2.1.2 | exact absurd hs_ hk_.2.1.1.2.2.1 | exact absurd hs_ hk_.2.1.1.2.2.2 | exact absurd hs_ hk_.2.1.2.1.1.1 | exact absurd hs_ hk_.2.1.2.1.1.2 | exact absurd hs_ hk_.2.1.2.1.2.1 | exact absurd hs_ hk_.2.1.2.1.2.2 | exact absurd hs_ hk_.2.1.2.2.1.1 | exact absurd hs_ hk_.2.1.2.2.1.2 | exact absurd hs_ hk_.2.1.2.2.2.1 | exact absurd hs_ hk_.2.1.2.2.2.2 | exact absurd hs_ hk_.2.2.1.1.1.1 | exact absurd hs_ hk_.2.2.1.1.1.2 | exact absurd hs_ hk_.2.2.1.1.2.1 | exact absurd hs_ hk_.2.2.1.1.2.2 | exact absurd hs_ hk_.2.2.1.2.1.1 | exact absurd hs_ hk_.2.2.1.2.1.2 | exact absurd hs_ hk_.2.2.1.2.2.1 | exact absurd hs_ hk_.2.2.1.2.2.2 | exact absurd hs_ hk_.2.2.2.1.1.1 | exact absurd hs_ hk_.2.2.2.1.1.2 | exact absurd hs_ hk_.2.2.2.1.2.1 | exact absurd hs_ hk_.2.2.2.1.2.2 | exact absurd hs_ hk_.2.2.2.2.1.1 | exact absurd hs_ hk_.2.2.2.2.1.2 | exact absurd hs_ hk_.2.2.2.2.2.1 | exact absurd hs_ hk_.2.2.2.2.2.2))) (fun k_ hk_ => by first | exact ⟨hk_.1.1.1.1, hk_.1.1.1.2.1, hk_.1.1.1.2.2, hk_.1.1.2, hk_.1.2⟩ | (refine ⟨?_, ?_, ?_, ?_, ?_⟩ <;> with_reducible first | exact hk_.1 | exact hk_.2 | exact hk_.1.1 | exact hk_.1.2 | exact hk_.2.1 | exact hk_.2.2 | exact hk_.1.1.1 | exact hk_.1.1.2 | exact hk_.1.2.1 | exact hk_.1.2.2 | exact hk_.2.1.1 | exact hk_.2.1.2 | exact hk_.2.2.1 | exact hk_.2.2.2 | exact hk_.1.1.1.1 | exact hk_.1.1.1.2 | exact hk_.1.1.2.1 | exact hk_.1.1.2.2 | exact hk_.1.2.1.1 | exact hk_.1.2.1.2 | exact hk_.1.2.2.1 | exact hk_.1.2.2.2 | exact hk_.2.1.1.1 | exact hk_.2.1.1.2 | exact hk_.2.1.2.1 | exact hk_.2.1.2.2 | exact hk_.2.2.1.1 | exact hk_.2.2.1.2 | exact hk_.2.2.2.1 | exact hk_.2.2.2.2 | exact hk_.1.1.1.1.1 | exact hk_.1.1.1.1.2 | exact hk_.1.1.1.2.1 | exact hk_.1.1.1.2.2 | exact hk_.1.1.2.1.1 | exact hk_.1.1.2.1.2 | exact hk_.1.1.2.2.1 | exact hk_.1.1.2.2.2 | exact hk_.1.2.1.1.1 | exact hk_.1.2.1.1.2 | exact hk_.1.2.1.2.1 | exact hk_.1.2.1.2.2 | exact hk_.1.2.2.1.1 | exact hk_.1.2.2.1.2 | exact hk_.1.2.2.2.1 | exact hk_.1.2.2.2.2 | exact hk_.2.1.1.1.1 | exact hk_.2.1.1.1.2 | exact hk_.2.1.1.2.1 | exact hk_.2.1.1.2.2 | exact hk_.2.1.2.1.1 | exact hk_.2.1.2.1.2 | exact hk_.2.1.2.2.1 | exact hk_.2.1.2.2.2 | exact hk_.2.2.1.1.1 | exact hk_.2.2.1.1.2 | exact hk_.2.2.1.2.1 | exact hk_.2.2.1.2.2 | exact hk_.2.2.2.1.1 | exact hk_.2.2.2.1.2 | exact hk_.2.2.2.2.1 | exact hk_.2.2.2.2.2 | exact hk_.1.1.1.1.1.1 | exact hk_.1.1.1.1.1.2 | exact hk_.1.1.1.1.2.1 | exact hk_.1.1.1.1.2.2 | exact hk_.1.1.1.2.1.1 | exact hk_.1.1.1.2.1.2 | exact hk_.1.1.1.2.2.1 | exact hk_.1.1.1.2.2.2 | exact hk_.1.1.2.1.1.1 | exact hk_.1.1.2.1.1.2 | exact hk_.1.1.2.1.2.1 | exact hk_.1.1.2.1.2.2 | exact hk_.1.1.2.2.1.1 | exact hk_.1.1.2.2.1.2 | exact hk_.1.1.2.2.2.1 | exact hk_.1.1.2.2.2.2 | exact hk_.1.2.1.1.1.1 | exact hk_.1.2.1.1.1.2 | exact hk_.1.2.1.1.2.1 | exact hk_.1.2.1.1.2.2 | exact hk_.1.2.1.2.1.1 | exact hk_.1.2.1.2.1.2 | exact hk_.1.2.1.2.2.1 | exact hk_.1.2.1.2.2.2 | exact hk_.1.2.2.1.1.1 | exact hk_.1.2.2.1.1.2 | exact hk_.1.2.2.1.2.1 | exact hk_.1.2.2.1.2.2 | exact hk_.1.2.2.2.1.1 | exact hk_.1.2.2.2.1.2 | exact hk_.1.2.2.2.2.1 | exact hk_.1.2.2.2.2.2 | exact hk_.2.1.1.1.1.1 | exact hk_.2.1.1.1.1.2 | exact hk_.2.1.1.1.2.1 | exact hk_.2.1.1.1.2.2 | exact hk_.2.1.1.2.1.1 | exact hk_.2.1.1.2.1.2 | exact hk_.2.1.1.2.2.1 | exact hk_.2.1.1.2.2.2 | exact hk_.2.1.2.1.1.1 | exact hk_.2.1.2.1.1.2 | exact hk_.2.1.2.1.2.1 | exact hk_.2.1.2.1.2.2 | exact hk_.2.1.2.2.1.1 | exact hk_.2.1.2.2.1.2 | exact hk_.2.1.2.2.2.1 | exact hk_.2.1.2.2.2.2 | exact hk_.2.2.1.1.1.1 | exact hk_.2.2.1.1.1.2 | exact hk_.2.2.1.1.2.1 | exact hk_.2.2.1.1.2.2 | exact hk_.2.2.1.2.1.1 | exact hk_.2.2.1.2.1.2 | exact hk_.2.2.1.2.2.1 | exact hk_.2.2.1.2.2.2 | exact hk_.2.2.2.1.1.1 | exact hk_.2.2.2.1.1.2 | exact hk_.2.2.2.1.2.1 | exact hk_.2.2.2.1.2.2 | exact hk_.2.2.2.2.1.1 | exact hk_.2.2.2.2.1.2 | exact hk_.2.2.2.2.2.1 | exact hk_.2.2.2.2.2.2))); replace BK5001 := aQ (blk_kept (pk BK5001.out) hkp (fun hs_ => (fun e_ => (Kd.R_ne HO_5022001.out BK5001.out (by decide)) e_) hs_)); replace BK5002 := aQ (blk_kept (pk BK5002.out) hkp (fun hs_ => (fun e_ => (Kd.R_ne HO_5022001.out BK5002.out (by decide)) e_) hs_)); replace BK5021 := aQ (blk_kept (pk BK5021.out) hkp (fun hs_ => (fun e_ => (Kd.R_ne HO_5022001.out BK5021.out (by decide)) e_) hs_)); replace BK5026 := aQ (blk_kept (pk BK5026.out) hkp (fun hs_ => (fun e_ => (Kd.R_ne HO_5022001.out BK5026.out (by decide)) e_) hs_)); replace HO_5022001 := aQ (Kd.R_reok rfl hy0 (fun k_ e_ => HO_5022001.out.1 k_ e_)); replace HO5035 := aQ (Kd.R_mono (ok' := fun k_ => some k_ ≠ (v5014 : Value).ownBlock ∧ some k_ ≠ (v5028 : Value).ownBlock ∧ some k_ ≠ (.slice Ao46 t5018.length co46 : Value).ownBlock ∧ some k_ ≠ (.slice Ao54 t5023.length co54 : Value).ownBlock ∧ some k_ ≠ (.slice Ao79 t5038.length co79 : Value).ownBlock) (Kd.R_keptB (HO5035.out) hkp (fun k_ hk_ hs_ => by first | exact (hk_.1.1.2) hs_ | (with_reducible first | exact absurd hs_ hk_.1 | exact absurd hs_ hk_.2 | exact absurd hs_ hk_.1.1 | exact absurd hs_ hk_.1.2 | exact absurd hs_ hk_.2.1 | exact absurd hs_ hk_.2.2 | exact absurd hs_ hk_.1.1.1 | exact absurd hs_ hk_.1.1.2 | exact absurd hs_ hk_.1.2.1 | exact absurd hs_ hk_.1.2.2 | exact absurd hs_ hk_.2.1.1 | exact absurd hs_ hk_.2.1.2 | exact absurd hs_ hk_.2.2.1 | exact absurd hs_ hk_.2.2.2 | exact absurd hs_ hk_.1.1.1.1 | exact absurd hs_ hk_.1.1.1.2 | exact absurd hs_ hk_.1.1.2.1 | exact absurd hs_ hk_.1.1.2.2 | exact absurd hs_ hk_.1.2.1.1 | exact absurd hs_ hk_.1.2.1.2 | exact absurd hs_ hk_.1.2.2.1 | exact absurd hs_ hk_.1.2.2.2 | exact absurd hs_ hk_.2.1.1.1 | exact absurd hs_ hk_.2.1.1.2 | exact absurd hs_ hk_.2.1.2.1 | exact absurd hs_ hk_.2.1.2.2 | exact absurd hs_ hk_.2.2.1.1 | exact absurd hs_ hk_.2.2.1.2 | exact absurd hs_ hk_.2.2.2.1 | exact absurd hs_ hk_.2.2.2.2 | exact absurd hs_ hk_.1.1.1.1.1 | exact absurd hs_ hk_.1.1.1.1.2 | exact absurd hs_ hk_.1.1.1.2.1 | exact absurd hs_ hk_.1.1.1.2.2 | exact absurd hs_ hk_.1.1.2.1.1 | exact absurd hs_ hk_.1.1.2.1.2 | exact absurd hs_ hk_.1.1.2.2.1 | exact absurd hs_ hk_.1.1.2.2.2 | exact absurd hs_ hk_.1.2.1.1.1 | exact absurd hs_ hk_.1.2.1.1.2 | exact absurd hs_ hk_.1.2.1.2.1 | exact absurd hs_ hk_.1.2.1.2.2 | exact absurd hs_ hk_.1.2.2.1.1 | exact absurd hs_ hk_.1.2.2.1.2 | exact absurd hs_ hk_.1.2.2.2.1 | exact absurd hs_ hk_.1.2.2.2.2 | exact absurd hs_ hk_.2.1.1.1.1 | exact absurd hs_ hk_.2.1.1.1.2 | exact absurd hs_ hk_.2.1.1.2.1 | exact absurd hs_ hk_.2.1.1.2.2 | exact absurd hs_ hk_.2.1.2.1.1 | exact absurd hs_ hk_.2.1.2.1.2 | exact absurd hs_ hk_.2.1.2.2.1 | exact absurd hs_ hk_.2.1.2.2.2 | exact absurd hs_ hk_.2.2.1.1.1 | exact absurd hs_ hk_.2.2.1.1.2 | exact absurd hs_ hk_.2.2.1.2.1 | exact absurd hs_ hk_.2.2.1.2.2 | exact absurd hs_ hk_.2.2.2.1.1 | exact absurd hs_ hk_.2.2.2.1.2 | exact absurd hs_ hk_.2.2.2.2.1 | exact absurd hs_ hk_.2.2.2.2.2 | exact absurd hs_ hk_.1.1.1.1.1.1 | exact absurd hs_ hk_.1.1.1.1.1.2 | exact absurd hs_ hk_.1.1.1.1.2.1 | exact absurd hs_ hk_.1.1.1.1.2.2 | exact absurd hs_ hk_.1.1.1.2.1.1 | exact absurd hs_ hk_.1.1.1.2.1.2 | exact absurd hs_ hk_.1.1.1.2.2.1 | exact absurd hs_ hk_.1.1.1.2.2.2 | exact absurd hs_ hk_.1.1.2.1.1.1 | exact absurd hs_ hk_.1.1.2.1.1.2 | exact absurd hs_ hk_.1.1.2.1.2.1 | exact absurd hs_ hk_.1.1.2.1.2.2 | exact absurd hs_ hk_.1.1.2.2.1.1 | exact absurd hs_ hk_.1.1.2.2.1.2 | exact absurd hs_ hk_.1.1.2.2.2.1 | exact absurd hs_ hk_.1.1.2.2.2.2 | exact absurd hs_ hk_.1.2.1.1.1.1 | exact absurd hs_ hk_.1.2.1.1.1.2 | exact absurd hs_ hk_.1.2.1.1.2.1 | exact absurd hs_ hk_.1.2.1.1.2.2 | exact absurd hs_ hk_.1.2.1.2.1.1 | exact absurd hs_ hk_.1.2.1.2.1.2 | exact absurd hs_ hk_.1.2.1.2.2.1 | exact absurd hs_ hk_.1.2.1.2.2.2 | exact absurd hs_ hk_.1.2.2.1.1.1 | exact absurd hs_ hk_.1.2.2.1.1.2 | exact absurd hs_ hk_.1.2.2.1.2.1 | exact absurd hs_ hk_.1.2.2.1.2.2 | exact absurd hs_ hk_.1.2.2.2.1.1 | exact absurd hs_ hk_.1.2.2.2.1.2 | exact absurd hs_ hk_.1.2.2.2.2.1 | exact absurd hs_ hk_.1.2.2.2.2.2 | exact absurd hs_ hk_.2.1.1.1.1.1 | exact absurd hs_ hk_.2.1.1.1.1.2 | exact absurd hs_ hk_.2.1.1.1.2.1 | exact absurd hs_ hk_.2.1.1.1.2.2 | exact absurd hs_ hk_.2.1.1.2.1.1 | exact absurd hs_ hk_.2.1.1.2.1.2 | exact absurd hs_ hk_.2.1.1.2.2.1 | exact absurd hs_ hk_.2.1.1.2.2.2 | exact absurd hs_ hk_.2.1.2.1.1.1 | exact absurd hs_ hk_.2.1.2.1.1.2 | exact absurd hs_ hk_.2.1.2.1.2.1 | exact absurd hs_ hk_.2.1.2.1.2.2 | exact absurd hs_ hk_.2.1.2.2.1.1 | exact absurd hs_ hk_.2.1.2.2.1.2 | exact absurd hs_ hk_.2.1.2.2.2.1 | exact absurd hs_ hk_.2.1.2.2.2.2 | exact absurd hs_ hk_.2.2.1.1.1.1 | exact absurd hs_ hk_.2.2.1.1.1.2 | exact absurd hs_ hk_.2.2.1.1.2.1 | exact absurd hs_ hk_.2.2.1.1.2.2 | exact absurd hs_ hk_.2.2.1.2.1.1 | exact absurd hs_ hk_.2.2.1.2.1.2 | exact absurd hs_ hk_.2.2.1.2.2.1 | exact absurd hs_ hk_.2.2.1.2.2.2 | exact absurd hs_ hk_.2.2.2.1.1.1 | exact absurd hs_ hk_.2.2.2.1.1.2 | exact absurd hs_ hk_.2.2.2.1.2.1 | exact absurd hs_ hk_.2.2.2.1.2.2 | exact absurd hs_ hk_.2.2.2.2.1.1 | exact absurd hs_ hk_.2.2.2.2.1.2 | exact absurd hs_ hk_.2.2.2.2.2.1 | exact absurd hs_ hk_.2.2.2.2.2.2))) (fun k_ hk_ => by first | exact ⟨hk_.1.1.1.1.1.2, hk_.1.1.1.1.2, hk_.1.1.1.2, hk_.1.1.2, hk_.1.2⟩ | (refine ⟨?_, ?_, ?_, ?_, ?_⟩ <;> with_reducible first | exact hk_.1 | exact hk_.2 | exact hk_.1.1 | exact hk_.1.2 | exact hk_.2.1 | exact hk_.2.2 | exact hk_.1.1.1 | exact hk_.1.1.2 | exact hk_.1.2.1 | exact hk_.1.2.2 | exact hk_.2.1.1 | exact hk_.2.1.2 | exact hk_.2.2.1 | exact hk_.2.2.2 | exact hk_.1.1.1.1 | exact hk_.1.1.1.2 | exact hk_.1.1.2.1 | exact hk_.1.1.2.2 | exact hk_.1.2.1.1 | exact hk_.1.2.1.2 | exact hk_.1.2.2.1 | exact hk_.1.2.2.2 | exact hk_.2.1.1.1 | exact hk_.2.1.1.2 | exact hk_.2.1.2.1 | exact hk_.2.1.2.2 | exact hk_.2.2.1.1 | exact hk_.2.2.1.2 | exact hk_.2.2.2.1 | exact hk_.2.2.2.2 | exact hk_.1.1.1.1.1 | exact hk_.1.1.1.1.2 | exact hk_.1.1.1.2.1 | exact hk_.1.1.1.2.2 | exact hk_.1.1.2.1.1 | exact hk_.1.1.2.1.2 | exact hk_.1.1.2.2.1 | exact hk_.1.1.2.2.2 | exact hk_.1.2.1.1.1 | exact hk_.1.2.1.1.2 | exact hk_.1.2.1.2.1 | exact hk_.1.2.1.2.2 | exact hk_.1.2.2.1.1 | exact hk_.1.2.2.1.2 | exact hk_.1.2.2.2.1 | exact hk_.1.2.2.2.2 | exact hk_.2.1.1.1.1 | exact hk_.2.1.1.1.2 | exact hk_.2.1.1.2.1 | exact hk_.2.1.1.2.2 | exact hk_.2.1.2.1.1 | exact hk_.2.1.2.1.2 | exact hk_.2.1.2.2.1 | exact hk_.2.1.2.2.2 | exact hk_.2.2.1.1.1 | exact hk_.2.2.1.1.2 | exact hk_.2.2.1.2.1 | exact hk_.2.2.1.2.2 | exact hk_.2.2.2.1.1 | exact hk_.2.2.2.1.2 | exact hk_.2.2.2.2.1 | exact hk_.2.2.2.2.2 | exact hk_.1.1.1.1.1.1 | exact hk_.1.1.1.1.1.2 | exact hk_.1.1.1.1.2.1 | exact hk_.1.1.1.1.2.2 | exact hk_.1.1.1.2.1.1 | exact hk_.1.1.1.2.1.2 | exact hk_.1.1.1.2.2.1 | exact hk_.1.1.1.2.2.2 | exact hk_.1.1.2.1.1.1 | exact hk_.1.1.2.1.1.2 | exact hk_.1.1.2.1.2.1 | exact hk_.1.1.2.1.2.2 | exact hk_.1.1.2.2.1.1 | exact hk_.1.1.2.2.1.2 | exact hk_.1.1.2.2.2.1 | exact hk_.1.1.2.2.2.2 | exact hk_.1.2.1.1.1.1 | exact hk_.1.2.1.1.1.2 | exact hk_.1.2.1.1.2.1 | exact hk_.1.2.1.1.2.2 | exact hk_.1.2.1.2.1.1 | exact hk_.1.2.1.2.1.2 | exact hk_.1.2.1.2.2.1 | exact hk_.1.2.1.2.2.2 | exact hk_.1.2.2.1.1.1 | exact hk_.1.2.2.1.1.2 | exact hk_.1.2.2.1.2.1 | exact hk_.1.2.2.1.2.2 | exact hk_.1.2.2.2.1.1 | exact hk_.1.2.2.2.1.2 | exact hk_.1.2.2.2.2.1 | exact hk_.1.2.2.2.2.2 | exact hk_.2.1.1.1.1.1 | exact hk_.2.1.1.1.1.2 | exact hk_.2.1.1.1.2.1 | exact hk_.2.1.1.1.2.2 | exact hk_.2.1.1.2.1.1 | exact hk_.2.1.1.2.1.2 | exact hk_.2.1.1.2.2.1 | exact hk_.2.1.1.2.2.2 | exact hk_.2.1.2.1.1.1 | exact hk_.2.1.2.1.1.2 | exact hk_.2.1.2.1.2.1 | exact hk_.2.1.2.1.2.2 | exact hk_.2.1.2.2.1.1 | exact hk_.2.1.2.2.1.2 | exact hk_.2.1.2.2.2.1 | exact hk_.2.1.2.2.2.2 | exact hk_.2.2.1.1.1.1 | exact hk_.2.2.1.1.1.2 | exact hk_.2.2.1.1.2.1 | exact hk_.2.2.1.1.2.2 | exact hk_.2.2.1.2.1.1 | exact hk_.2.2.1.2.1.2 | exact hk_.2.2.1.2.2.1 | exact hk_.2.2.1.2.2.2 | exact hk_.2.2.2.1.1.1 | exact hk_.2.2.2.1.1.2 | exact hk_.2.2.2.1.2.1 | exact hk_.2.2.2.1.2.2 | exact hk_.2.2.2.2.1.1 | exact hk_.2.2.2.2.1.2 | exact hk_.2.2.2.2.2.1 | exact hk_.2.2.2.2.2.2))); replace HO5040 := aQ (Kd.R_mono (ok' := fun k_ => some k_ ≠ (v5014 : Value).ownBlock ∧ some k_ ≠ (v5028 : Value).ownBlock ∧ some k_ ≠ (.slice Ao46 t5018.length co46 : Value).ownBlock ∧ some k_ ≠ (.slice Ao54 t5023.length co54 : Value).ownBlock ∧ some k_ ≠ (.slice Ao75 t5033.length co75 : Value).ownBlock) (Kd.R_keptB (HO5040.out) hkp (fun k_ hk_ hs_ => by first | exact (hk_.1.1.2) hs_ | (with_reducible first | exact absurd hs_ hk_.1 | exact absurd hs_ hk_.2 | exact absurd hs_ hk_.1.1 | exact absurd hs_ hk_.1.2 | exact absurd hs_ hk_.2.1 | exact absurd hs_ hk_.2.2 | exact absurd hs_ hk_.1.1.1 | exact absurd hs_ hk_.1.1.2 | exact absurd hs_ hk_.1.2.1 | exact absurd hs_ hk_.1.2.2 | exact absurd hs_ hk_.2.1.1 | exact absurd hs_ hk_.2.1.2 | exact absurd hs_ hk_.2.2.1 | exact absurd hs_ hk_.2.2.2 | exact absurd hs_ hk_.1.1.1.1 | exact absurd hs_ hk_.1.1.1.2 | exact absurd hs_ hk_.1.1.2.1 | exact absurd hs_ hk_.1.1.2.2 | exact absurd hs_ hk_.1.2.1.1 | exact absurd hs_ hk_.1.2.1.2 | exact absurd hs_ hk_.1.2.2.1 | exact absurd hs_ hk_.1.2.2.2 | exact absurd hs_ hk_.2.1.1.1 | exact absurd hs_ hk_.2.1.1.2 | exact absurd hs_ hk_.2.1.2.1 | exact absurd hs_ hk_.2.1.2.2 | exact absurd hs_ hk_.2.2.1.1 | exact absurd hs_ hk_.2.2.1.2 | exact absurd hs_ hk_.2.2.2.1 | exact absurd hs_ hk_.2.2.2.2 | exact absurd hs_ hk_.1.1.1.1.1 | exact absurd hs_ hk_.1.1.1.1.2 | exact absurd hs_ hk_.1.1.1.2.1 | exact absurd hs_ hk_.1.1.1.2.2 | exact absurd hs_ hk_.1.1.2.1.1 | exact absurd hs_ hk_.1.1.2.1.2 | exact absurd hs_ hk_.1.1.2.2.1 | exact absurd hs_ hk_.1.1.2.2.2 | exact absurd hs_ hk_.1.2.1.1.1 | exact absurd hs_ hk_.1.2.1.1.2 | exact absurd hs_ hk_.1.2.1.2.1 | exact absurd hs_ hk_.1.2.1.2.2 | exact absurd hs_ hk_.1.2.2.1.1 | exact absurd hs_ hk_.1.2.2.1.2 | exact absurd hs_ hk_.1.2.2.2.1 | exact absurd hs_ hk_.1.2.2.2.2 | exact absurd hs_ hk_.2.1.1.1.1 | exact absurd hs_ hk_.2.1.1.1.2 | exact absurd hs_ hk_.2.1.1.2.1 | exact absurd hs_ hk_.2.1.1.2.2 | exact absurd hs_ hk_.2.1.2.1.1 | exact absurd hs_ hk_.2.1.2.1.2 | exact absurd hs_ hk_.2.1.2.2.1 | exact absurd hs_ hk_.2.1.2.2.2 | exact absurd hs_ hk_.2.2.1.1.1 | exact absurd hs_ hk_.2.2.1.1.2 | exact absurd hs_ hk_.2.2.1.2.1 | exact absurd hs_ hk_.2.2.1.2.2 | exact absurd hs_ hk_.2.2.2.1.1 | exact absurd hs_ hk_.2.2.2.1.2 | exact absurd hs_ hk_.2.2.2.2.1 | exact absurd hs_ hk_.2.2.2.2.2 | exact absurd hs_ hk_.1.1.1.1.1.1 | exact absurd hs_ hk_.1.1.1.1.1.2 | exact absurd hs_ hk_.1.1.1.1.2.1 | exact absurd hs_ hk_.1.1.1.1.2.2 | exact absurd hs_ hk_.1.1.1.2.1.1 | exact absurd hs_ hk_.1.1.1.2.1.2 | exact absurd hs_ hk_.1.1.1.2.2.1 | exact absurd hs_ hk_.1.1.1.2.2.2 | exact absurd hs_ hk_.1.1.2.1.1.1 | exact absurd hs_ hk_.1.1.2.1.1.2 | exact absurd hs_ hk_.1.1.2.1.2.1 | exact absurd hs_ hk_.1.1.2.1.2.2 | exact absurd hs_ hk_.1.1.2.2.1.1 | exact absurd hs_ hk_.1.1.2.2.1.2 | exact absurd hs_ hk_.1.1.2.2.2.1 | exact absurd hs_ hk_.1.1.2.2.2.2 | exact absurd hs_ hk_.1.2.1.1.1.1 | exact absurd hs_ hk_.1.2.1.1.1.2 | exact absurd hs_ hk_.1.2.1.1.2.1 | exact absurd hs_ hk_.1.2.1.1.2.2 | exact absurd hs_ hk_.1.2.1.2.1.1 | exact absurd hs_ hk_.1.2.1.2.1.2 | exact absurd hs_ hk_.1.2.1.2.2.1 | exact absurd hs_ hk_.1.2.1.2.2.2 | exact absurd hs_ hk_.1.2.2.1.1.1 | exact absurd hs_ hk_.1.2.2.1.1.2 | exact absurd hs_ hk_.1.2.2.1.2.1 | exact absurd hs_ hk_.1.2.2.1.2.2 | exact absurd hs_ hk_.1.2.2.2.1.1 | exact absurd hs_ hk_.1.2.2.2.1.2 | exact absurd hs_ hk_.1.2.2.2.2.1 | exact absurd hs_ hk_.1.2.2.2.2.2 | exact absurd hs_ hk_.2.1.1.1.1.1 | exact absurd hs_ hk_.2.1.1.1.1.2 | exact absurd hs_ hk_.2.1.1.1.2.1 | exact absurd hs_ hk_.2.1.1.1.2.2 | exact absurd hs_ hk_.2.1.1.2.1.1 | exact absurd hs_ hk_.2.1.1.2.1.2 | exact absurd hs_ hk_.2.1.1.2.2.1 | exact absurd hs_ hk_.2.1.1.2.2.2 | exact absurd hs_ hk_.2.1.2.1.1.1 | exact absurd hs_ hk_.2.1.2.1.1.2 | exact absurd hs_ hk_.2.1.2.1.2.1 | exact absurd hs_ hk_.2.1.2.1.2.2 | exact absurd hs_ hk_.2.1.2.2.1.1 | exact absurd hs_ hk_.2.1.2.2.1.2 | exact absurd hs_ hk_.2.1.2.2.2.1 | exact absurd hs_ hk_.2.1.2.2.2.2 | exact absurd hs_ hk_.2.2.1.1.1.1 | exact absurd hs_ hk_.2.2.1.1.1.2 | exact absurd hs_ hk_.2.2.1.1.2.1 | exact absurd hs_ hk_.2.2.1.1.2.2 | exact absurd hs_ hk_.2.2.1.2.1.1 | exact absurd hs_ hk_.2.2.1.2.1.2 | exact absurd hs_ hk_.2.2.1.2.2.1 | exact absurd hs_ hk_.2.2.1.2.2.2 | exact absurd hs_ hk_.2.2.2.1.1.1 | exact absurd hs_ hk_.2.2.2.1.1.2 | exact absurd hs_ hk_.2.2.2.1.2.1 | exact absurd hs_ hk_.2.2.2.1.2.2 | exact absurd hs_ hk_.2.2.2.2.1.1 | exact absurd hs_ hk_.2.2.2.2.1.2 | exact absurd hs_ hk_.2.2.2.2.2.1 | exact absurd hs_ hk_.2.2.2.2.2.2))) (fun k_ hk_ => by first | exact ⟨hk_.1.1.1.1.1.2, hk_.1.1.1.1.2, hk_.1.1.1.2, hk_.1.1.2, hk_.1.2⟩ | (refine ⟨?_, ?_, ?_, ?_, ?_⟩ <;> with_reducible first | exact hk_.1 | exact hk_.2 | exact hk_.1.1 | exact hk_.1.2 | exact hk_.2.1 | exact hk_.2.2 | exact hk_.1.1.1 | exact hk_.1.1.2 | exact hk_.1.2.1 | exact hk_.1.2.2 | exact hk_.2.1.1 | exact hk_.2.1.2 | exact hk_.2.2.1 | exact hk_.2.2.2 | exact hk_.1.1.1.1 | exact hk_.1.1.1.2 | exact hk_.1.1.2.1 | exact hk_.1.1.2.2 | exact hk_.1.2.1.1 | exact hk_.1.2.1.2 | exact hk_.1.2.2.1 | exact hk_.1.2.2.2 | exact hk_.2.1.1.1 | exact hk_.2.1.1.2 | exact hk_.2.1.2.1 | exact hk_.2.1.2.2 | exact hk_.2.2.1.1 | exact hk_.2.2.1.2 | exact hk_.2.2.2.1 | exact hk_.2.2.2.2 | exact hk_.1.1.1.1.1 | exact hk_.1.1.1.1.2 | exact hk_.1.1.1.2.1 | exact hk_.1.1.1.2.2 | exact hk_.1.1.2.1.1 | exact hk_.1.1.2.1.2 | exact hk_.1.1.2.2.1 | exact hk_.1.1.2.2.2 | exact hk_.1.2.1.1.1 | exact hk_.1.2.1.1.2 | exact hk_.1.2.1.2.1 | exact hk_.1.2.1.2.2 | exact hk_.1.2.2.1.1 | exact hk_.1.2.2.1.2 | exact hk_.1.2.2.2.1 | exact hk_.1.2.2.2.2 | exact hk_.2.1.1.1.1 | exact hk_.2.1.1.1.2 | exact hk_.2.1.1.2.1 | exact hk_.2.1.1.2.2 | exact hk_.2.1.2.1.1 | exact hk_.2.1.2.1.2 | exact hk_.2.1.2.2.1 | exact hk_.2.1.2.2.2 | exact hk_.2.2.1.1.1 | exact hk_.2.2.1.1.2 | exact hk_.2.2.1.2.1 | exact hk_.2.2.1.2.2 | exact hk_.2.2.2.1.1 | exact hk_.2.2.2.1.2 | exact hk_.2.2.2.2.1 | exact hk_.2.2.2.2.2 | exact hk_.1.1.1.1.1.1 | exact hk_.1.1.1.1.1.2 | exact hk_.1.1.1.1.2.1 | exact hk_.1.1.1.1.2.2 | exact hk_.1.1.1.2.1.1 | exact hk_.1.1.1.2.1.2 | exact hk_.1.1.1.2.2.1 | exact hk_.1.1.1.2.2.2 | exact hk_.1.1.2.1.1.1 | exact hk_.1.1.2.1.1.2 | exact hk_.1.1.2.1.2.1 | exact hk_.1.1.2.1.2.2 | exact hk_.1.1.2.2.1.1 | exact hk_.1.1.2.2.1.2 | exact hk_.1.1.2.2.2.1 | exact hk_.1.1.2.2.2.2 | exact hk_.1.2.1.1.1.1 | exact hk_.1.2.1.1.1.2 | exact hk_.1.2.1.1.2.1 | exact hk_.1.2.1.1.2.2 | exact hk_.1.2.1.2.1.1 | exact hk_.1.2.1.2.1.2 | exact hk_.1.2.1.2.2.1 | exact hk_.1.2.1.2.2.2 | exact hk_.1.2.2.1.1.1 | exact hk_.1.2.2.1.1.2 | exact hk_.1.2.2.1.2.1 | exact hk_.1.2.2.1.2.2 | exact hk_.1.2.2.2.1.1 | exact hk_.1.2.2.2.1.2 | exact hk_.1.2.2.2.2.1 | exact hk_.1.2.2.2.2.2 | exact hk_.2.1.1.1.1.1 | exact hk_.2.1.1.1.1.2 | exact hk_.2.1.1.1.2.1 | exact hk_.2.1.1.1.2.2 | exact hk_.2.1.1.2.1.1 | exact hk_.2.1.1.2.1.2 | exact hk_.2.1.1.2.2.1 | exact hk_.2.1.1.2.2.2 | exact hk_.2.1.2.1.1.1 | exact hk_.2.1.2.1.1.2 | exact hk_.2.1.2.1.2.1 | exact hk_.2.1.2.1.2.2 | exact hk_.2.1.2.2.1.1 | exact hk_.2.1.2.2.1.2 | exact hk_.2.1.2.2.2.1 | exact hk_.2.1.2.2.2.2 | exact hk_.2.2.1.1.1.1 | exact hk_.2.2.1.1.1.2 | exact hk_.2.2.1.1.2.1 | exact hk_.2.2.1.1.2.2 | exact hk_.2.2.1.2.1.1 | exact hk_.2.2.1.2.1.2 | exact hk_.2.2.1.2.2.1 | exact hk_.2.2.1.2.2.2 | exact hk_.2.2.2.1.1.1 | exact hk_.2.2.2.1.1.2 | exact hk_.2.2.2.1.2.1 | exact hk_.2.2.2.1.2.2 | exact hk_.2.2.2.2.1.1 | exact hk_.2.2.2.2.1.2 | exact hk_.2.2.2.2.2.1 | exact hk_.2.2.2.2.2.2))); replace HB := aQ (hb); (try clear hb); (try clear hkp); (try clear hy0); have hnb86 := NB5026_5001.out; have hnc86 := NB5001_5026.out; have hnb87 := NB5026_5002.out; have hnc87 := NB5002_5026.out; have hcz88_0 := bc (v := (.int .i64 t5022)) BK5026.out 0; have hcz88_1 := bc (v := (.slice Ao54 t5023.length co54)) BK5026.out 1; have hfz88_0 := blk_frozen BK5026.out 0; have hfz88_1 := blk_frozen BK5026.out 1) | ((with_reducible refine gate_callee (f := 21) rfl ?_); refine goesL_ (some 73) rfl rfl Try.func21 (by kernel_rfl) rfl #[.agg #[.int .i64 t5022, .slice Ao54 t5023.length co54], .int .i64 t5042] rfl lm ?_; (with_reducible refine (laws_markMatroid.calls kj25 t5022 (fun k_ => some k_ = (.slice Ao54 t5023.length co54 : Value).ownBlock) (.slice Ao54 t5023.length co54) t5023 t5042 t5044 t5045 w _ ?side1 ?side2 A71.out).mono ?_); (case side1 => repeat (first | (with_reducible first | exact HB.out | apply below_alloc | apply pw_below_drewN | apply below_drew1 | refine below_set ?_ GE5001.out | refine below_set ?_ GE5002.out | refine below_set ?_ GE5021.out | refine below_set ?_ GE5026.out) | exact HB.out)); (case side2 => exact Kd.R_tight rfl HO_5027001.out); rintro e w89 ⟨rfl, hy0, hb, hkp⟩; refine ⟨_, rfl, ?_⟩; replace HO_8 := aQ (Kd.R_mono (ok' := fun k_ => some k_ ≠ (v5028 : Value).ownBlock ∧ some k_ ≠ (.slice Ao46 t5018.length co46 : Value).ownBlock ∧ some k_ ≠ (.slice Ao54 t5023.length co54 : Value).ownBlock ∧ some k_ ≠ (.slice Ao75 t5033.length co75 : Value).ownBlock ∧ some k_ ≠ (.slice Ao79 t5038.length co79 : Value).ownBlock) (Kd.R_keptB (HO_8.out) hkp (fun k_ hk_ hs_ => by first | exact (hk_.2.2.1) hs_ | (with_reducible first | exact absurd hs_ hk_.1 | exact absurd hs_ hk_.2 | exact absurd hs_ hk_.1.1 | exact absurd hs_ hk_.1.2 | exact absurd hs_ hk_.2.1 | exact absurd hs_ hk_.2.2 | exact absurd hs_ hk_.1.1.1 | exact absurd hs_ hk_.1.1.2 | exact absurd hs_ hk_.1.2.1 | exact absurd hs_ hk_.1.2.2 | exact absurd hs_ hk_.2.1.1 | exact absurd hs_ hk_.2.1.2 | exact absurd hs_ hk_.2.2.1 | exact absurd hs_ hk_.2.2.2 | exact absurd hs_ hk_.1.1.1.1 | exact absurd hs_ hk_.1.1.1.2 | exact absurd hs_ hk_.1.1.2.1 | exact absurd hs_ hk_.1.1.2.2 | exact absurd hs_ hk_.1.2.1.1 | exact absurd hs_ hk_.1.2.1.2 | exact absurd hs_ hk_.1.2.2.1 | exact absurd hs_ hk_.1.2.2.2 | exact absurd hs_ hk_.2.1.1.1 | exact absurd hs_ hk_.2.1.1.2 | exact absurd hs_ hk_.2.1.2.1 | exact absurd hs_ hk_.2.1.2.2 | exact absurd hs_ hk_.2.2.1.1 | exact absurd hs_ hk_.2.2.1.2 | exact absurd hs_ hk_.2.2.2.1 | exact absurd hs_ hk_.2.2.2.2 | exact absurd hs_ hk_.1.1.1.1.1 | exact absurd hs_ hk_.1.1.1.1.2 | exact absurd hs_ hk_.1.1.1.2.1 | exact absurd hs_ hk_.1.1.1.2.2 | exact absurd hs_ hk_.1.1.2.1.1 | exact absurd hs_ hk_.1.1.2.1.2 | exact absurd hs_ hk_.1.1.2.2.1 | exact absurd hs_ hk_.1.1.2.2.2 | exact absurd hs_ hk_.1.2.1.1.1 | exact absurd hs_ hk_.1.2.1.1.2 | exact absurd hs_ hk_.1.2.1.2.1 | exact absurd hs_ hk_.1.2.1.2.2 | exact absurd hs_ hk_.1.2.2.1.1 | exact absurd hs_ hk_.1.2.2.1.2 | exact absurd hs_ hk_.1.2.2.2.1 | exact absurd hs_ hk_.1.2.2.2.2 | exact absurd hs_ hk_.2.1.1.1.1 | exact absurd hs_ hk_.2.1.1.1.2 | exact absurd hs_ hk_.2.1.1.2.1 | exact absurd hs_ hk_.2.1.1.2.2 | exact absurd hs_ hk_.2.1.2.1.1 | exact absurd hs_ hk_.2.1.2.1.2 | exact absurd hs_ hk_.2.1.2.2.1 | exact absurd hs_ hk_.2.1.2.2.2 | exact absurd hs_ hk_.2.2.1.1.1 | exact absurd hs_ hk_.2.2.1.1.2 | exact absurd hs_ hk_.2.2.1.2.1 | exact absurd hs_ hk_.2.2.1.2.2 | exact absurd hs_ hk_.2.2.2.1.1 | exact absurd hs_ hk_.2.2.2.1.2 | exact absurd hs_ hk_.2.2.2.2.1 | exact absurd hs_ hk_.2.2.2.2.2 | exact absurd hs_ hk_.1.1.1.1.1.1 | exact absurd hs_ hk_.1.1.1.1.1.2 | exact absurd hs_ hk_.1.1.1.1.2.1 | exact absurd hs_ hk_.1.1.1.1.2.2 | exact absurd hs_ hk_.1.1.1.2.1.1 | exact absurd hs_ hk_.1.1.1.2.1.2 | exact absurd hs_ hk_.1.1.1.2.2.1 | exact absurd hs_ hk_.1.1.1.2.2.2 | exact absurd hs_ hk_.1.1.2.1.1.1 | exact absurd hs_ hk_.1.1.2.1.1.2 | exact absurd hs_ hk_.1.1.2.1.2.1 | exact absurd hs_ hk_.1.1.2.1.2.2 | exact absurd hs_ hk_.1.1.2.2.1.1 | exact absurd hs_ hk_.1.1.2.2.1.2 | exact absurd hs_ hk_.1.1.2.2.2.1 | exact absurd hs_ hk_.1.1.2.2.2.2 | exact absurd hs_ hk_.1.2.1.1.1.1 | exact absurd hs_ hk_.1.2.1.1.1.2 | exact absurd hs_ hk_.1.2.1.1.2.1 | exact absurd hs_ hk_.1.2.1.1.2.2 | exact absurd hs_ hk_.1.2.1.2.1.1 | exact absurd hs_ hk_.1.2.1.2.1.2 | exact absurd hs_ hk_.1.2.1.2.2.1 | exact absurd hs_ hk_.1.2.1.2.2.2 | exact absurd hs_ hk_.1.2.2.1.1.1 | exact absurd hs_ hk_.1.2.2.1.1.2 | exact absurd hs_ hk_.1.2.2.1.2.1 | exact absurd hs_ hk_.1.2.2.1.2.2 | exact absurd hs_ hk_.1.2.2.2.1.1 | exact absurd hs_ hk_.1.2.2.2.1.2 | exact absurd hs_ hk_.1.2.2.2.2.1 | exact absurd hs_ hk_.1.2.2.2.2.2 | exact absurd hs_ hk_.2.1.1.1.1.1 | exact absurd hs_ hk_.2.1.1.1.1.2 | exact absurd hs_ hk_.2.1.1.1.2.1 | exact absurd hs_ hk_.2.1.1.1.2.2 | exact absurd hs_ hk_.2.1.1.2.1.1 | exact absurd hs_ hk_.2.1.1.2.1.2 | exact absurd hs_ hk_.2.1.1.2.2.1 | exact absurd hs_ hk_.2.1.1.2.2.2 | exact absurd hs_ hk_.2.1.2.1.1.1 | exact absurd hs_ hk_.2.1.2.1.1.2 | exact absurd hs_ hk_.2.1.2.1.2.1 | exact absurd hs_ hk_.2.1.2.1.2.2 | exact absurd hs_ hk_.2.1.2.2.1.1 | exact absurd hs_ hk_.2.1.2.2.1.2 | exact absurd hs_ hk_.2.1.2.2.2.1 | exact absurd hs_ hk_.2.1.2.2.2.2 | exact absurd hs_ hk_.2.2.1.1.1.1 | exact absurd hs_ hk_.2.2.1.1.1.2 | exact absurd hs_ hk_.2.2.1.1.2.1 | exact absurd hs_ hk_.2.2.1.1.2.2 | exact absurd hs_ hk_.2.2.1.2.1.1 | exact absurd hs_ hk_.2.2.1.2.1.2 | exact absurd hs_ hk_.2.2.1.2.2.1 | exact absurd hs_ hk_.2.2.1.2.2.2 | exact absurd hs_ hk_.2.2.2.1.1.1 | exact absurd hs_ hk_.2.2.2.1.1.2 | exact absurd hs_ hk_.2.2.2.1.2.1 | exact absurd hs_ hk_.2.2.2.1.2.2 | exact absurd hs_ hk_.2.2.2.2.1.1 | exact absurd hs_ hk_.2.2.2.2.1.2 | exact absurd hs_ hk_.2.2.2.2.2.1 | exact absurd hs_ hk_.2.2.2.2.2.2))) (fun k_ hk_ => by first | exact ⟨hk_.1.1, hk_.1.2.1, hk_.1.2.2.1, hk_.1.2.2.2.1, hk_.1.2.2.2.2⟩ | (refine ⟨?_, ?_, ?_, ?_, ?_⟩ <;> with_reducible first | exact hk_.1 | exact hk_.2 | exact hk_.1.1 | exact hk_.1.2 | exact hk_.2.1 | exact hk_.2.2 | exact hk_.1.1.1 | exact hk_.1.1.2 | exact hk_.1.2.1 | exact hk_.1.2.2 | exact hk_.2.1.1 | exact hk_.2.1.2 | exact hk_.2.2.1 | exact hk_.2.2.2 | exact hk_.1.1.1.1 | exact hk_.1.1.1.2 | exact hk_.1.1.2.1 | exact hk_.1.1.2.2 | exact hk_.1.2.1.1 | exact hk_.1.2.1.2 | exact hk_.1.2.2.1 | exact hk_.1.2.2.2 | exact hk_.2.1.1.1 | exact hk_.2.1.1.2 | exact hk_.2.1.2.1 | exact hk_.2.1.2.2 | exact hk_.2.2.1.1 | exact hk_.2.2.1.2 | exact hk_.2.2.2.1 | exact hk_.2.2.2.2 | exact hk_.1.1.1.1.1 | exact hk_.1.1.1.1.2 | exact hk_.1.1.1.2.1 | exact hk_.1.1.1.2.2 | exact hk_.1.1.2.1.1 | exact hk_.1.1.2.1.2 | exact hk_.1.1.2.2.1 | exact hk_.1.1.2.2.2 | exact hk_.1.2.1.1.1 | exact hk_.1.2.1.1.2 | exact hk_.1.2.1.2.1 | exact hk_.1.2.1.2.2 | exact hk_.1.2.2.1.1 | exact hk_.1.2.2.1.2 | exact hk_.1.2.2.2.1 | exact hk_.1.2.2.2.2 | exact hk_.2.1.1.1.1 | exact hk_.2.1.1.1.2 | exact hk_.2.1.1.2.1 | exact hk_.2.1.1.2.2 | exact hk_.2.1.2.1.1 | exact hk_.2.1.2.1.2 | exact hk_.2.1.2.2.1 | exact hk_.2.1.2.2.2 | exact hk_.2.2.1.1.1 | exact hk_.2.2.1.1.2 | exact hk_.2.2.1.2.1 | exact hk_.2.2.1.2.2 | exact hk_.2.2.2.1.1 | exact hk_.2.2.2.1.2 | exact hk_.2.2.2.2.1 | exact hk_.2.2.2.2.2 | exact hk_.1.1.1.1.1.1 | exact hk_.1.1.1.1.1.2 | exact hk_.1.1.1.1.2.1 | exact hk_.1.1.1.1.2.2 | exact hk_.1.1.1.2.1.1 | exact hk_.1.1.1.2.1.2 | exact hk_.1.1.1.2.2.1 | exact hk_.1.1.1.2.2.2 | exact hk_.1.1.2.1.1.1 | exact hk_.1.1.2.1.1.2 | exact hk_.1.1.2.1.2.1 | exact hk_.1.1.2.1.2.2 | exact hk_.1.1.2.2.1.1 | exact hk_.1.1.2.2.1.2 | exact hk_.1.1.2.2.2.1 | exact hk_.1.1.2.2.2.2 | exact hk_.1.2.1.1.1.1 | exact hk_.1.2.1.1.1.2 | exact hk_.1.2.1.1.2.1 | exact hk_.1.2.1.1.2.2 | exact hk_.1.2.1.2.1.1 | exact hk_.1.2.1.2.1.2 | exact hk_.1.2.1.2.2.1 | exact hk_.1.2.1.2.2.2 | exact hk_.1.2.2.1.1.1 | exact hk_.1.2.2.1.1.2 | exact hk_.1.2.2.1.2.1 | exact hk_.1.2.2.1.2.2 | exact hk_.1.2.2.2.1.1 | exact hk_.1.2.2.2.1.2 | exact hk_.1.2.2.2.2.1 | exact hk_.1.2.2.2.2.2 | exact hk_.2.1.1.1.1.1 | exact hk_.2.1.1.1.1.2 | exact hk_.2.1.1.1.2.1 | exact hk_.2.1.1.1.2.2 | exact hk_.2.1.1.2.1.1 | exact hk_.2.1.1.2.1.2 | exact hk_.2.1.1.2.2.1 | exact hk_.2.1.1.2.2.2 | exact hk_.2.1.2.1.1.1 | exact hk_.2.1.2.1.1.2 | exact hk_.2.1.2.1.2.1 | exact hk_.2.1.2.1.2.2 | exact hk_.2.1.2.2.1.1 | exact hk_.2.1.2.2.1.2 | exact hk_.2.1.2.2.2.1 | exact hk_.2.1.2.2.2.2 | exact hk_.2.2.1.1.1.1 | exact hk_.2.2.1.1.1.2 | exact hk_.2.2.1.1.2.1 | exact hk_.2.2.1.1.2.2 | exact hk_.2.2.1.2.1.1 | exact hk_.2.2.1.2.1.2 | exact hk_.2.2.1.2.2.1 | exact hk_.2.2.1.2.2.2 | exact hk_.2.2.2.1.1.1 | exact hk_.2.2.2.1.1.2 | exact hk_.2.2.2.1.2.1 | exact hk_.2.2.2.1.2.2 | exact hk_.2.2.2.2.1.1 | exact hk_.2.2.2.2.1.2 | exact hk_.2.2.2.2.2.1 | exact hk_.2.2.2.2.2.2))); replace HO_12 := aQ (Kd.R_mono (ok' := fun k_ => some k_ ≠ (v5014 : Value).ownBlock ∧ some k_ ≠ (.slice Ao46 t5018.length co46 : Value).ownBlock ∧ some k_ ≠ (.slice Ao54 t5023.length co54 : Value).ownBlock ∧ some k_ ≠ (.slice Ao75 t5033.length co75 : Value).ownBlock ∧ some k_ ≠ (.slice Ao79 t5038.length co79 : Value).ownBlock) (Kd.R_keptB (HO_12.out) hkp (fun k_ hk_ hs_ => by first | exact (hk_.2.2.1) hs_ | (with_reducible first | exact absurd hs_ hk_.1 | exact absurd hs_ hk_.2 | exact absurd hs_ hk_.1.1 | exact absurd hs_ hk_.1.2 | exact absurd hs_ hk_.2.1 | exact absurd hs_ hk_.2.2 | exact absurd hs_ hk_.1.1.1 | exact absurd hs_ hk_.1.1.2 | exact absurd hs_ hk_.1.2.1 | exact absurd hs_ hk_.1.2.2 | exact absurd hs_ hk_.2.1.1 | exact absurd hs_ hk_.2.1.2 | exact absurd hs_ hk_.2.2.1 | exact absurd hs_ hk_.2.2.2 | exact absurd hs_ hk_.1.1.1.1 | exact absurd hs_ hk_.1.1.1.2 | exact absurd hs_ hk_.1.1.2.1 | exact absurd hs_ hk_.1.1.2.2 | exact absurd hs_ hk_.1.2.1.1 | exact absurd hs_ hk_.1.2.1.2 | exact absurd hs_ hk_.1.2.2.1 | exact absurd hs_ hk_.1.2.2.2 | exact absurd hs_ hk_.2.1.1.1 | exact absurd hs_ hk_.2.1.1.2 | exact absurd hs_ hk_.2.1.2.1 | exact absurd hs_ hk_.2.1.2.2 | exact absurd hs_ hk_.2.2.1.1 | exact absurd hs_ hk_.2.2.1.2 | exact absurd hs_ hk_.2.2.2.1 | exact absurd hs_ hk_.2.2.2.2 | exact absurd hs_ hk_.1.1.1.1.1 | exact absurd hs_ hk_.1.1.1.1.2 | exact absurd hs_ hk_.1.1.1.2.1 | exact absurd hs_ hk_.1.1.1.2.2 | exact absurd hs_ hk_.1.1.2.1.1 | exact absurd hs_ hk_.1.1.2.1.2 | exact absurd hs_ hk_.1.1.2.2.1 | exact absurd hs_ hk_.1.1.2.2.2 | exact absurd hs_ hk_.1.2.1.1.1 | exact absurd hs_ hk_.1.2.1.1.2 | exact absurd hs_ hk_.1.2.1.2.1 | exact absurd hs_ hk_.1.2.1.2.2 | exact absurd hs_ hk_.1.2.2.1.1 | exact absurd hs_ hk_.1.2.2.1.2 | exact absurd hs_ hk_.1.2.2.2.1 | exact absurd hs_ hk_.1.2.2.2.2 | exact absurd hs_ hk_.2.1.1.1.1 | exact absurd hs_ hk_.2.1.1.1.2 | exact absurd hs_ hk_.2.1.1.2.1 | exact absurd hs_ hk_.2.1.1.2.2 | exact absurd hs_ hk_.2.1.2.1.1 | exact absurd hs_ hk_.2.1.2.1.2 | exact absurd hs_ hk_.2.1.2.2.1 | exact absurd hs_ hk_.2.1.2.2.2 | exact absurd hs_ hk_.2.2.1.1.1 | exact absurd hs_ hk_.2.2.1.1.2 | exact absurd hs_ hk_.2.2.1.2.1 | exact absurd hs_ hk_.2.2.1.2.2 | exact absurd hs_ hk_.2.2.2.1.1 | exact absurd hs_ hk_.2.2.2.1.2 | exact absurd hs_ hk_.2.2.2.2.1 | exact absurd hs_ hk_.2.2.2.2.2 | exact absurd hs_ hk_.1.1.1.1.1.1 | exact absurd hs_ hk_.1.1.1.1.1.2 | exact absurd hs_ hk_.1.1.1.1.2.1 | exact absurd hs_ hk_.1.1.1.1.2.2 | exact absurd hs_ hk_.1.1.1.2.1.1 | exact absurd hs_ hk_.1.1.1.2.1.2 | exact absurd hs_ hk_.1.1.1.2.2.1 | exact absurd hs_ hk_.1.1.1.2.2.2 | exact absurd hs_ hk_.1.1.2.1.1.1 | exact absurd hs_ hk_.1.1.2.1.1.2 | exact absurd hs_ hk_.1.1.2.1.2.1 | exact absurd hs_ hk_.1.1.2.1.2.2 | exact absurd hs_ hk_.1.1.2.2.1.1 | exact absurd hs_ hk_.1.1.2.2.1.2 | exact absurd hs_ hk_.1.1.2.2.2.1 | exact absurd hs_ hk_.1.1.2.2.2.2 | exact absurd hs_ hk_.1.2.1.1.1.1 | exact absurd hs_ hk_.1.2.1.1.1.2 | exact absurd hs_ hk_.1.2.1.1.2.1 | exact absurd hs_ hk_.1.2.1.1.2.2 | exact absurd hs_ hk_.1.2.1.2.1.1 | exact absurd hs_ hk_.1.2.1.2.1.2 | exact absurd hs_ hk_.1.2.1.2.2.1 | exact absurd hs_ hk_.1.2.1.2.2.2 | exact absurd hs_ hk_.1.2.2.1.1.1 | exact absurd hs_ hk_.1.2.2.1.1.2 | exact absurd hs_ hk_.1.2.2.1.2.1 | exact absurd hs_ hk_.1.2.2.1.2.2 | exact absurd hs_ hk_.1.2.2.2.1.1 | exact absurd hs_ hk_.1.2.2.2.1.2 | exact absurd hs_ hk_.1.2.2.2.2.1 | exact absurd hs_ hk_.1.2.2.2.2.2 | exact absurd hs_ hk_.2.1.1.1.1.1 | exact absurd hs_ hk_.2.1.1.1.1.2 | exact absurd hs_ hk_.2.1.1.1.2.1 | exact absurd hs_ hk_.2.1.1.1.2.2 | exact absurd hs_ hk_.2.1.1.2.1.1 | exact absurd hs_ hk_.2.1.1.2.1.2 | exact absurd hs_ hk_.2.1.1.2.2.1 | exact absurd hs_ hk_.2.1.1.2.2.2 | exact absurd hs_ hk_.2.1.2.1.1.1 | exact absurd hs_ hk_.2.1.2.1.1.2 | exact absurd hs_ hk_.2.1.2.1.2.1 | exact absurd hs_ hk_.2.1.2.1.2.2 | exact absurd hs_ hk_.2.1.2.2.1.1 | exact absurd hs_ hk_.2.1.2.2.1.2 | exact absurd hs_ hk_.2.1.2.2.2.1 | exact absurd hs_ hk_.2.1.2.2.2.2 | exact absurd hs_ hk_.2.2.1.1.1.1 | exact absurd hs_ hk_.2.2.1.1.1.2 | exact absurd hs_ hk_.2.2.1.1.2.1 | exact absurd hs_ hk_.2.2.1.1.2.2 | exact absurd hs_ hk_.2.2.1.2.1.1 | exact absurd hs_ hk_.2.2.1.2.1.2 | exact absurd hs_ hk_.2.2.1.2.2.1 | exact absurd hs_ hk_.2.2.1.2.2.2 | exact absurd hs_ hk_.2.2.2.1.1.1 | exact absurd hs_ hk_.2.2.2.1.1.2 | exact absurd hs_ hk_.2.2.2.1.2.1 | exact absurd hs_ hk_.2.2.2.1.2.2 | exact absurd hs_ hk_.2.2.2.2.1.1 | exact absurd hs_ hk_.2.2.2.2.1.2 | exact absurd hs_ hk_.2.2.2.2.2.1 | exact absurd hs_ hk_.2.2.2.2.2.2))) (fun k_ hk_ => by first | exact ⟨hk_.1.1, hk_.1.2.1, hk_.1.2.2.1, hk_.1.2.2.2.1, hk_.1.2.2.2.2⟩ | (refine ⟨?_, ?_, ?_, ?_, ?_⟩ <;> with_reducible first | exact hk_.1 | exact hk_.2 | exact hk_.1.1 | exact hk_.1.2 | exact hk_.2.1 | exact hk_.2.2 | exact hk_.1.1.1 | exact hk_.1.1.2 | exact hk_.1.2.1 | exact hk_.1.2.2 | exact hk_.2.1.1 | exact hk_.2.1.2 | exact hk_.2.2.1 | exact hk_.2.2.2 | exact hk_.1.1.1.1 | exact hk_.1.1.1.2 | exact hk_.1.1.2.1 | exact hk_.1.1.2.2 | exact hk_.1.2.1.1 | exact hk_.1.2.1.2 | exact hk_.1.2.2.1 | exact hk_.1.2.2.2 | exact hk_.2.1.1.1 | exact hk_.2.1.1.2 | exact hk_.2.1.2.1 | exact hk_.2.1.2.2 | exact hk_.2.2.1.1 | exact hk_.2.2.1.2 | exact hk_.2.2.2.1 | exact hk_.2.2.2.2 | exact hk_.1.1.1.1.1 | exact hk_.1.1.1.1.2 | exact hk_.1.1.1.2.1 | exact hk_.1.1.1.2.2 | exact hk_.1.1.2.1.1 | exact hk_.1.1.2.1.2 | exact hk_.1.1.2.2.1 | exact hk_.1.1.2.2.2 | exact hk_.1.2.1.1.1 | exact hk_.1.2.1.1.2 | exact hk_.1.2.1.2.1 | exact hk_.1.2.1.2.2 | exact hk_.1.2.2.1.1 | exact hk_.1.2.2.1.2 | exact hk_.1.2.2.2.1 | exact hk_.1.2.2.2.2 | exact hk_.2.1.1.1.1 | exact hk_.2.1.1.1.2 | exact hk_.2.1.1.2.1 | exact hk_.2.1.1.2.2 | exact hk_.2.1.2.1.1 | exact hk_.2.1.2.1.2 | exact hk_.2.1.2.2.1 | exact hk_.2.1.2.2.2 | exact hk_.2.2.1.1.1 | exact hk_.2.2.1.1.2 | exact hk_.2.2.1.2.1 | exact hk_.2.2.1.2.2 | exact hk_.2.2.2.1.1 | exact hk_.2.2.2.1.2 | exact hk_.2.2.2.2.1 | exact hk_.2.2.2.2.2 | exact hk_.1.1.1.1.1.1 | exact hk_.1.1.1.1.1.2 | exact hk_.1.1.1.1.2.1 | exact hk_.1.1.1.1.2.2 | exact hk_.1.1.1.2.1.1 | exact hk_.1.1.1.2.1.2 | exact hk_.1.1.1.2.2.1 | exact hk_.1.1.1.2.2.2 | exact hk_.1.1.2.1.1.1 | exact hk_.1.1.2.1.1.2 | exact hk_.1.1.2.1.2.1 | exact hk_.1.1.2.1.2.2 | exact hk_.1.1.2.2.1.1 | exact hk_.1.1.2.2.1.2 | exact hk_.1.1.2.2.2.1 | exact hk_.1.1.2.2.2.2 | exact hk_.1.2.1.1.1.1 | exact hk_.1.2.1.1.1.2 | exact hk_.1.2.1.1.2.1 | exact hk_.1.2.1.1.2.2 | exact hk_.1.2.1.2.1.1 | exact hk_.1.2.1.2.1.2 | exact hk_.1.2.1.2.2.1 | exact hk_.1.2.1.2.2.2 | exact hk_.1.2.2.1.1.1 | exact hk_.1.2.2.1.1.2 | exact hk_.1.2.2.1.2.1 | exact hk_.1.2.2.1.2.2 | exact hk_.1.2.2.2.1.1 | exact hk_.1.2.2.2.1.2 | exact hk_.1.2.2.2.2.1 | exact hk_.1.2.2.2.2.2 | exact hk_.2.1.1.1.1.1 | exact hk_.2.1.1.1.1.2 | exact hk_.2.1.1.1.2.1 | exact hk_.2.1.1.1.2.2 | exact hk_.2.1.1.2.1.1 | exact hk_.2.1.1.2.1.2 | exact hk_.2.1.1.2.2.1 | exact hk_.2.1.1.2.2.2 | exact hk_.2.1.2.1.1.1 | exact hk_.2.1.2.1.1.2 | exact hk_.2.1.2.1.2.1 | exact hk_.2.1.2.1.2.2 | exact hk_.2.1.2.2.1.1 | exact hk_.2.1.2.2.1.2 | exact hk_.2.1.2.2.2.1 | exact hk_.2.1.2.2.2.2 | exact hk_.2.2.1.1.1.1 | exact hk_.2.2.1.1.1.2 | exact hk_.2.2.1.1.2.1 | exact hk_.2.2.1.1.2.2 | exact hk_.2.2.1.2.1.1 | exact hk_.2.2.1.2.1.2 | exact hk_.2.2.1.2.2.1 | exact hk_.2.2.1.2.2.2 | exact hk_.2.2.2.1.1.1 | exact hk_.2.2.2.1.1.2 | exact hk_.2.2.2.1.2.1 | exact hk_.2.2.2.1.2.2 | exact hk_.2.2.2.2.1.1 | exact hk_.2.2.2.2.1.2 | exact hk_.2.2.2.2.2.1 | exact hk_.2.2.2.2.2.2))); replace HO_5022001 := aQ (Kd.R_mono (ok' := fun k_ => some k_ ≠ (v5014 : Value).ownBlock ∧ some k_ ≠ (v5028 : Value).ownBlock ∧ some k_ ≠ (.slice Ao54 t5023.length co54 : Value).ownBlock ∧ some k_ ≠ (.slice Ao75 t5033.length co75 : Value).ownBlock ∧ some k_ ≠ (.slice Ao79 t5038.length co79 : Value).ownBlock) (Kd.R_keptB (HO_5022001.out) hkp (fun k_ hk_ hs_ => by first | exact (hk_.1.1.2.2) hs_ | (with_reducible first | exact absurd hs_ hk_.1 | exact absurd hs_ hk_.2 | exact absurd hs_ hk_.1.1 | exact absurd hs_ hk_.1.2 | exact absurd hs_ hk_.2.1 | exact absurd hs_ hk_.2.2 | exact absurd hs_ hk_.1.1.1 | exact absurd hs_ hk_.1.1.2 | exact absurd hs_ hk_.1.2.1 | exact absurd hs_ hk_.1.2.2 | exact absurd hs_ hk_.2.1.1 | exact absurd hs_ hk_.2.1.2 | exact absurd hs_ hk_.2.2.1 | exact absurd hs_ hk_.2.2.2 | exact absurd hs_ hk_.1.1.1.1 | exact absurd hs_ hk_.1.1.1.2 | exact absurd hs_ hk_.1.1.2.1 | exact absurd hs_ hk_.1.1.2.2 | exact absurd hs_ hk_.1.2.1.1 | exact absurd hs_ hk_.1.2.1.2 | exact absurd hs_ hk_.1.2.2.1 | exact absurd hs_ hk_.1.2.2.2 | exact absurd hs_ hk_.2.1.1.1 | exact absurd hs_ hk_.2.1.1.2 | exact absurd hs_ hk_.2.1.2.1 | exact absurd hs_ hk_.2.1.2.2 | exact absurd hs_ hk_.2.2.1.1 | exact absurd hs_ hk_.2.2.1.2 | exact absurd hs_ hk_.2.2.2.1 | exact absurd hs_ hk_.2.2.2.2 | exact absurd hs_ hk_.1.1.1.1.1 | exact absurd hs_ hk_.1.1.1.1.2 | exact absurd hs_ hk_.1.1.1.2.1 | exact absurd hs_ hk_.1.1.1.2.2 | exact absurd hs_ hk_.1.1.2.1.1 | exact absurd hs_ hk_.1.1.2.1.2 | exact absurd hs_ hk_.1.1.2.2.1 | exact absurd hs_ hk_.1.1.2.2.2 | exact absurd hs_ hk_.1.2.1.1.1 | exact absurd hs_ hk_.1.2.1.1.2 | exact absurd hs_ hk_.1.2.1.2.1 | exact absurd hs_ hk_.1.2.1.2.2 | exact absurd hs_ hk_.1.2.2.1.1 | exact absurd hs_ hk_.1.2.2.1.2 | exact absurd hs_ hk_.1.2.2.2.1 | exact absurd hs_ hk_.1.2.2.2.2 | exact absurd hs_ hk_.2.1.1.1.1 | exact absurd hs_ hk_.2.1.1.1.2 | exact absurd hs_ hk_.2.1.1.2.1 | exact absurd hs_ hk_.2.1.1.2.2 | exact absurd hs_ hk_.2.1.2.1.1 | exact absurd hs_ hk_.2.1.2.1.2 | exact absurd hs_ hk_.2.1.2.2.1 | exact absurd hs_ hk_.2.1.2.2.2 | exact absurd hs_ hk_.2.2.1.1.1 | exact absurd hs_ hk_.2.2.1.1.2 | exact absurd hs_ hk_.2.2.1.2.1 | exact absurd hs_ hk_.2.2.1.2.2 | exact absurd hs_ hk_.2.2.2.1.1 | exact absurd hs_ hk_.2.2.2.1.2 | exact absurd hs_ hk_.2.2.2.2.1 | exact absurd hs_ hk_.2.2.2.2.2 | exact absurd hs_ hk_.1.1.1.1.1.1 | exact absurd hs_ hk_.1.1.1.1.1.2 | exact absurd hs_ hk_.1.1.1.1.2.1 | exact absurd hs_ hk_.1.1.1.1.2.2 | exact absurd hs_ hk_.1.1.1.2.1.1 | exact absurd hs_ hk_.1.1.1.2.1.2 | exact absurd hs_ hk_.1.1.1.2.2.1 | exact absurd hs_ hk_.1.1.1.2.2.2 | exact absurd hs_ hk_.1.1.2.1.1.1 | exact absurd hs_ hk_.1.1.2.1.1.2 | exact absurd hs_ hk_.1.1.2.1.2.1 | exact absurd hs_ hk_.1.1.2.1.2.2 | exact absurd hs_ hk_.1.1.2.2.1.1 | exact absurd hs_ hk_.1.1.2.2.1.2 | exact absurd hs_ hk_.1.1.2.2.2.1 | exact absurd hs_ hk_.1.1.2.2.2.2 | exact absurd hs_ hk_.1.2.1.1.1.1 | exact absurd hs_ hk_.1.2.1.1.1.2 | exact absurd hs_ hk_.1.2.1.1.2.1 | exact absurd hs_ hk_.1.2.1.1.2.2 | exact absurd hs_ hk_.1.2.1.2.1.1 | exact absurd hs_ hk_.1.2.1.2.1.2 | exact absurd hs_ hk_.1.2.1.2.2.1 | exact absurd hs_ hk_.1.2.1.2.2.2 | exact absurd hs_ hk_.1.2.2.1.1.1 | exact absurd hs_ hk_.1.2.2.1.1.2 | exact absurd hs_ hk_.1.2.2.1.2.1 | exact absurd hs_ hk_.1.2.2.1.2.2 | exact absurd hs_ hk_.1.2.2.2.1.1 | exact absurd hs_ hk_.1.2.2.2.1.2 | exact absurd hs_ hk_.1.2.2.2.2.1 | exact absurd hs_ hk_.1.2.2.2.2.2 | exact absurd hs_ hk_.2.1.1.1.1.1 | exact absurd hs_ hk_.2.1.1.1.1.2 | exact absurd hs_ hk_.2.1.1.1.2.1 | exact absurd hs_ hk_.2.1.1.1.2.2 | exact absurd hs_ hk_.2.1.1.2.1.1 | exact absurd hs_ hk_.2.1.1.2.1.2 | exact absurd hs_ hk_.2.1.1.2.2.1 | exact absurd hs_ hk_.2.1.1.2.2.2 | exact absurd hs_ hk_.2.1.2.1.1.1 | exact absurd hs_ hk_.2.1.2.1.1.2 | exact absurd hs_ hk_.2.1.2.1.2.1 | exact absurd hs_ hk_.2.1.2.1.2.2 | exact absurd hs_ hk_.2.1.2.2.1.1 | exact absurd hs_ hk_.2.1.2.2.1.2 | exact absurd hs_ hk_.2.1.2.2.2.1 | exact absurd hs_ hk_.2.1.2.2.2.2 | exact absurd hs_ hk_.2.2.1.1.1.1 | exact absurd hs_ hk_.2.2.1.1.1.2 | exact absurd hs_ hk_.2.2.1.1.2.1 | exact absurd hs_ hk_.2.2.1.1.2.2 | exact absurd hs_ hk_.2.2.1.2.1.1 | exact absurd hs_ hk_.2.2.1.2.1.2 | exact absurd hs_ hk_.2.2.1.2.2.1 | exact absurd hs_ hk_.2.2.1.2.2.2 | exact absurd hs_ hk_.2.2.2.1.1.1 | exact absurd hs_ hk_.2.2.2.1.1.2 | exact absurd hs_ hk_.2.2.2.1.2.1 | exact absurd hs_ hk_.2.2.2.1.2.2 | exact absurd hs_ hk_.2.2.2.2.1.1 | exact absurd hs_ hk_.2.2.2.2.1.2 | exact absurd hs_ hk_.2.2.2.2.2.1 | exact absurd hs_ hk_.2.2.2.2.2.2))) (fun k_ hk_ => by first | exact ⟨hk_.1.1.1.1, hk_.1.1.1.2.1, hk_.1.1.1.2.2, hk_.1.1.2, hk_.1.2⟩ | (refine ⟨?_, ?_, ?_, ?_, ?_⟩ <;> with_reducible first | exact hk_.1 | exact hk_.2 | exact hk_.1.1 | exact hk_.1.2 | exact hk_.2.1 | exact hk_.2.2 | exact hk_.1.1.1 | exact hk_.1.1.2 | exact hk_.1.2.1 | exact hk_.1.2.2 | exact hk_.2.1.1 | exact hk_.2.1.2 | exact hk_.2.2.1 | exact hk_.2.2.2 | exact hk_.1.1.1.1 | exact hk_.1.1.1.2 | exact hk_.1.1.2.1 | exact hk_.1.1.2.2 | exact hk_.1.2.1.1 | exact hk_.1.2.1.2 | exact hk_.1.2.2.1 | exact hk_.1.2.2.2 | exact hk_.2.1.1.1 | exact hk_.2.1.1.2 | exact hk_.2.1.2.1 | exact hk_.2.1.2.2 | exact hk_.2.2.1.1 | exact hk_.2.2.1.2 | exact hk_.2.2.2.1 | exact hk_.2.2.2.2 | exact hk_.1.1.1.1.1 | exact hk_.1.1.1.1.2 | exact hk_.1.1.1.2.1 | exact hk_.1.1.1.2.2 | exact hk_.1.1.2.1.1 | exact hk_.1.1.2.1.2 | exact hk_.1.1.2.2.1 | exact hk_.1.1.2.2.2 | exact hk_.1.2.1.1.1 | exact hk_.1.2.1.1.2 | exact hk_.1.2.1.2.1 | exact hk_.1.2.1.2.2 | exact hk_.1.2.2.1.1 | exact hk_.1.2.2.1.2 | exact hk_.1.2.2.2.1 | exact hk_.1.2.2.2.2 | exact hk_.2.1.1.1.1 | exact hk_.2.1.1.1.2 | exact hk_.2.1.1.2.1 | exact hk_.2.1.1.2.2 | exact hk_.2.1.2.1.1 | exact hk_.2.1.2.1.2 | exact hk_.2.1.2.2.1 | exact hk_.2.1.2.2.2 | exact hk_.2.2.1.1.1 | exact hk_.2.2.1.1.2 | exact hk_.2.2.1.2.1 | exact hk_.2.2.1.2.2 | exact hk_.2.2.2.1.1 | exact hk_.2.2.2.1.2 | exact hk_.2.2.2.2.1 | exact hk_.2.2.2.2.2 | exact hk_.1.1.1.1.1.1 | exact hk_.1.1.1.1.1.2 | exact hk_.1.1.1.1.2.1 | exact hk_.1.1.1.1.2.2 | exact hk_.1.1.1.2.1.1 | exact hk_.1.1.1.2.1.2 | exact hk_.1.1.1.2.2.1 | exact hk_.1.1.1.2.2.2 | exact hk_.1.1.2.1.1.1 | exact hk_.1.1.2.1.1.2 | exact hk_.1.1.2.1.2.1 | exact hk_.1.1.2.1.2.2 | exact hk_.1.1.2.2.1.1 | exact hk_.1.1.2.2.1.2 | exact hk_.1.1.2.2.2.1 | exact hk_.1.1.2.2.2.2 | exact hk_.1.2.1.1.1.1 | exact hk_.1.2.1.1.1.2 | exact hk_.1.2.1.1.2.1 | exact hk_.1.2.1.1.2.2 | exact hk_.1.2.1.2.1.1 | exact hk_.1.2.1.2.1.2 | exact hk_.1.2.1.2.2.1 | exact hk_.1.2.1.2.2.2 | exact hk_.1.2.2.1.1.1 | exact hk_.1.2.2.1.1.2 | exact hk_.1.2.2.1.2.1 | exact hk_.1.2.2.1.2.2 | exact hk_.1.2.2.2.1.1 | exact hk_.1.2.2.2.1.2 | exact hk_.1.2.2.2.2.1 | exact hk_.1.2.2.2.2.2 | exact hk_.2.1.1.1.1.1 | exact hk_.2.1.1.1.1.2 | exact hk_.2.1.1.1.2.1 | exact hk_.2.1.1.1.2.2 | exact hk_.2.1.1.2.1.1 | exact hk_.2.1.1.2.1.2 | exact hk_.2.1.1.2.2.1 | exact hk_.2.1.1.2.2.2 | exact hk_.2.1.2.1.1.1 | exact hk_.2.1.2.1.1.2 | exact hk_.2.1.2.1.2.1 | exact hk_.2.1.2.1.2.2 | exact hk_.2.1.2.2.1.1 | exact hk_.2.1.2.2.1.2 | exact hk_.2.1.2.2.2.1 | exact hk_.2.1.2.2.2.2 | exact hk_.2.2.1.1.1.1 | exact hk_.2.2.1.1.1.2 | exact hk_.2.2.1.1.2.1 | exact hk_.2.2.1.1.2.2 | exact hk_.2.2.1.2.1.1 | exact hk_.2.2.1.2.1.2 | exact hk_.2.2.1.2.2.1 | exact hk_.2.2.1.2.2.2 | exact hk_.2.2.2.1.1.1 | exact hk_.2.2.2.1.1.2 | exact hk_.2.2.2.1.2.1 | exact hk_.2.2.2.1.2.2 | exact hk_.2.2.2.2.1.1 | exact hk_.2.2.2.2.1.2 | exact hk_.2.2.2.2.2.1 | exact hk_.2.2.2.2.2.2))); replace BK5001 := aQ (blk_kept (pk BK5001.out) hkp (fun hs_ => (fun e_ => (Kd.R_ne HO_5027001.out BK5001.out (by decide)) e_) hs_)); replace BK5002 := aQ (blk_kept (pk BK5002.out) hkp (fun hs_ => (fun e_ => (Kd.R_ne HO_5027001.out BK5002.out (by decide)) e_) hs_)); replace BK5021 := aQ (blk_kept (pk BK5021.out) hkp (fun hs_ => (fun e_ => (Kd.R_ne HO_5027001.out BK5021.out (by decide)) e_) hs_)); replace BK5026 := aQ (blk_kept (pk BK5026.out) hkp (fun hs_ => (fun e_ => (Kd.R_ne HO_5027001.out BK5026.out (by decide)) e_) hs_)); replace HO_5027001 := aQ (Kd.R_reok rfl hy0 (fun k_ e_ => HO_5027001.out.1 k_ e_)); replace HO5035 := aQ (Kd.R_mono (ok' := fun k_ => some k_ ≠ (v5014 : Value).ownBlock ∧ some k_ ≠ (v5028 : Value).ownBlock ∧ some k_ ≠ (.slice Ao46 t5018.length co46 : Value).ownBlock ∧ some k_ ≠ (.slice Ao54 t5023.length co54 : Value).ownBlock ∧ some k_ ≠ (.slice Ao79 t5038.length co79 : Value).ownBlock) (Kd.R_keptB (HO5035.out) hkp (fun k_ hk_ hs_ => by first | exact (hk_.2.2.2.1) hs_ | (with_reducible first | exact absurd hs_ hk_.1 | exact absurd hs_ hk_.2 | exact absurd hs_ hk_.1.1 | exact absurd hs_ hk_.1.2 | exact absurd hs_ hk_.2.1 | exact absurd hs_ hk_.2.2 | exact absurd hs_ hk_.1.1.1 | exact absurd hs_ hk_.1.1.2 | exact absurd hs_ hk_.1.2.1 | exact absurd hs_ hk_.1.2.2 | exact absurd hs_ hk_.2.1.1 | exact absurd hs_ hk_.2.1.2 | exact absurd hs_ hk_.2.2.1 | exact absurd hs_ hk_.2.2.2 | exact absurd hs_ hk_.1.1.1.1 | exact absurd hs_ hk_.1.1.1.2 | exact absurd hs_ hk_.1.1.2.1 | exact absurd hs_ hk_.1.1.2.2 | exact absurd hs_ hk_.1.2.1.1 | exact absurd hs_ hk_.1.2.1.2 | exact absurd hs_ hk_.1.2.2.1 | exact absurd hs_ hk_.1.2.2.2 | exact absurd hs_ hk_.2.1.1.1 | exact absurd hs_ hk_.2.1.1.2 | exact absurd hs_ hk_.2.1.2.1 | exact absurd hs_ hk_.2.1.2.2 | exact absurd hs_ hk_.2.2.1.1 | exact absurd hs_ hk_.2.2.1.2 | exact absurd hs_ hk_.2.2.2.1 | exact absurd hs_ hk_.2.2.2.2 | exact absurd hs_ hk_.1.1.1.1.1 | exact absurd hs_ hk_.1.1.1.1.2 | exact absurd hs_ hk_.1.1.1.2.1 | exact absurd hs_ hk_.1.1.1.2.2 | exact absurd hs_ hk_.1.1.2.1.1 | exact absurd hs_ hk_.1.1.2.1.2 | exact absurd hs_ hk_.1.1.2.2.1 | exact absurd hs_ hk_.1.1.2.2.2 | exact absurd hs_ hk_.1.2.1.1.1 | exact absurd hs_ hk_.1.2.1.1.2 | exact absurd hs_ hk_.1.2.1.2.1 | exact absurd hs_ hk_.1.2.1.2.2 | exact absurd hs_ hk_.1.2.2.1.1 | exact absurd hs_ hk_.1.2.2.1.2 | exact absurd hs_ hk_.1.2.2.2.1 | exact absurd hs_ hk_.1.2.2.2.2 | exact absurd hs_ hk_.2.1.1.1.1 | exact absurd hs_ hk_.2.1.1.1.2 | exact absurd hs_ hk_.2.1.1.2.1 | exact absurd hs_ hk_.2.1.1.2.2 | exact absurd hs_ hk_.2.1.2.1.1 | exact absurd hs_ hk_.2.1.2.1.2 | exact absurd hs_ hk_.2.1.2.2.1 | exact absurd hs_ hk_.2.1.2.2.2 | exact absurd hs_ hk_.2.2.1.1.1 | exact absurd hs_ hk_.2.2.1.1.2 | exact absurd hs_ hk_.2.2.1.2.1 | exact absurd hs_ hk_.2.2.1.2.2 | exact absurd hs_ hk_.2.2.2.1.1 | exact absurd hs_ hk_.2.2.2.1.2 | exact absurd hs_ hk_.2.2.2.2.1 | exact absurd hs_ hk_.2.2.2.2.2 | exact absurd hs_ hk_.1.1.1.1.1.1 | exact absurd hs_ hk_.1.1.1.1.1.2 | exact absurd hs_ hk_.1.1.1.1.2.1 | exact absurd hs_ hk_.1.1.1.1.2.2 | exact absurd hs_ hk_.1.1.1.2.1.1 | exact absurd hs_ hk_.1.1.1.2.1.2 | exact absurd hs_ hk_.1.1.1.2.2.1 | exact absurd hs_ hk_.1.1.1.2.2.2 | exact absurd hs_ hk_.1.1.2.1.1.1 | exact absurd hs_ hk_.1.1.2.1.1.2 | exact absurd hs_ hk_.1.1.2.1.2.1 | exact absurd hs_ hk_.1.1.2.1.2.2 | exact absurd hs_ hk_.1.1.2.2.1.1 | exact absurd hs_ hk_.1.1.2.2.1.2 | exact absurd hs_ hk_.1.1.2.2.2.1 | exact absurd hs_ hk_.1.1.2.2.2.2 | exact absurd hs_ hk_.1.2.1.1.1.1 | exact absurd hs_ hk_.1.2.1.1.1.2 | exact absurd hs_ hk_.1.2.1.1.2.1 | exact absurd hs_ hk_.1.2.1.1.2.2 | exact absurd hs_ hk_.1.2.1.2.1.1 | exact absurd hs_ hk_.1.2.1.2.1.2 | exact absurd hs_ hk_.1.2.1.2.2.1 | exact absurd hs_ hk_.1.2.1.2.2.2 | exact absurd hs_ hk_.1.2.2.1.1.1 | exact absurd hs_ hk_.1.2.2.1.1.2 | exact absurd hs_ hk_.1.2.2.1.2.1 | exact absurd hs_ hk_.1.2.2.1.2.2 | exact absurd hs_ hk_.1.2.2.2.1.1 | exact absurd hs_ hk_.1.2.2.2.1.2 | exact absurd hs_ hk_.1.2.2.2.2.1 | exact absurd hs_ hk_.1.2.2.2.2.2 | exact absurd hs_ hk_.2.1.1.1.1.1 | exact absurd hs_ hk_.2.1.1.1.1.2 | exact absurd hs_ hk_.2.1.1.1.2.1 | exact absurd hs_ hk_.2.1.1.1.2.2 | exact absurd hs_ hk_.2.1.1.2.1.1 | exact absurd hs_ hk_.2.1.1.2.1.2 | exact absurd hs_ hk_.2.1.1.2.2.1 | exact absurd hs_ hk_.2.1.1.2.2.2 | exact absurd hs_ hk_.2.1.2.1.1.1 | exact absurd hs_ hk_.2.1.2.1.1.2 | exact absurd hs_ hk_.2.1.2.1.2.1 | exact absurd hs_ hk_.2.1.2.1.2.2 | exact absurd hs_ hk_.2.1.2.2.1.1 | exact absurd hs_ hk_.2.1.2.2.1.2 | exact absurd hs_ hk_.2.1.2.2.2.1 | exact absurd hs_ hk_.2.1.2.2.2.2 | exact absurd hs_ hk_.2.2.1.1.1.1 | exact absurd hs_ hk_.2.2.1.1.1.2 | exact absurd hs_ hk_.2.2.1.1.2.1 | exact absurd hs_ hk_.2.2.1.1.2.2 | exact absurd hs_ hk_.2.2.1.2.1.1 | exact absurd hs_ hk_.2.2.1.2.1.2 | exact absurd hs_ hk_.2.2.1.2.2.1 | exact absurd hs_ hk_.2.2.1.2.2.2 | exact absurd hs_ hk_.2.2.2.1.1.1 | exact absurd hs_ hk_.2.2.2.1.1.2 | exact absurd hs_ hk_.2.2.2.1.2.1 | exact absurd hs_ hk_.2.2.2.1.2.2 | exact absurd hs_ hk_.2.2.2.2.1.1 | exact absurd hs_ hk_.2.2.2.2.1.2 | exact absurd hs_ hk_.2.2.2.2.2.1 | exact absurd hs_ hk_.2.2.2.2.2.2))) (fun k_ hk_ => by first | exact ⟨hk_.1.1, hk_.1.2.1, hk_.1.2.2.1, hk_.1.2.2.2.1, hk_.1.2.2.2.2⟩ | (refine ⟨?_, ?_, ?_, ?_, ?_⟩ <;> with_reducible first | exact hk_.1 | exact hk_.2 | exact hk_.1.1 | exact hk_.1.2 | exact hk_.2.1 | exact hk_.2.2 | exact hk_.1.1.1 | exact hk_.1.1.2 | exact hk_.1.2.1 | exact hk_.1.2.2 | exact hk_.2.1.1 | exact hk_.2.1.2 | exact hk_.2.2.1 | exact hk_.2.2.2 | exact hk_.1.1.1.1 | exact hk_.1.1.1.2 | exact hk_.1.1.2.1 | exact hk_.1.1.2.2 | exact hk_.1.2.1.1 | exact hk_.1.2.1.2 | exact hk_.1.2.2.1 | exact hk_.1.2.2.2 | exact hk_.2.1.1.1 | exact hk_.2.1.1.2 | exact hk_.2.1.2.1 | exact hk_.2.1.2.2 | exact hk_.2.2.1.1 | exact hk_.2.2.1.2 | exact hk_.2.2.2.1 | exact hk_.2.2.2.2 | exact hk_.1.1.1.1.1 | exact hk_.1.1.1.1.2 | exact hk_.1.1.1.2.1 | exact hk_.1.1.1.2.2 | exact hk_.1.1.2.1.1 | exact hk_.1.1.2.1.2 | exact hk_.1.1.2.2.1 | exact hk_.1.1.2.2.2 | exact hk_.1.2.1.1.1 | exact hk_.1.2.1.1.2 | exact hk_.1.2.1.2.1 | exact hk_.1.2.1.2.2 | exact hk_.1.2.2.1.1 | exact hk_.1.2.2.1.2 | exact hk_.1.2.2.2.1 | exact hk_.1.2.2.2.2 | exact hk_.2.1.1.1.1 | exact hk_.2.1.1.1.2 | exact hk_.2.1.1.2.1 | exact hk_.2.1.1.2.2 | exact hk_.2.1.2.1.1 | exact hk_.2.1.2.1.2 | exact hk_.2.1.2.2.1 | exact hk_.2.1.2.2.2 | exact hk_.2.2.1.1.1 | exact hk_.2.2.1.1.2 | exact hk_.2.2.1.2.1 | exact hk_.2.2.1.2.2 | exact hk_.2.2.2.1.1 | exact hk_.2.2.2.1.2 | exact hk_.2.2.2.2.1 | exact hk_.2.2.2.2.2 | exact hk_.1.1.1.1.1.1 | exact hk_.1.1.1.1.1.2 | exact hk_.1.1.1.1.2.1 | exact hk_.1.1.1.1.2.2 | exact hk_.1.1.1.2.1.1 | exact hk_.1.1.1.2.1.2 | exact hk_.1.1.1.2.2.1 | exact hk_.1.1.1.2.2.2 | exact hk_.1.1.2.1.1.1 | exact hk_.1.1.2.1.1.2 | exact hk_.1.1.2.1.2.1 | exact hk_.1.1.2.1.2.2 | exact hk_.1.1.2.2.1.1 | exact hk_.1.1.2.2.1.2 | exact hk_.1.1.2.2.2.1 | exact hk_.1.1.2.2.2.2 | exact hk_.1.2.1.1.1.1 | exact hk_.1.2.1.1.1.2 | exact hk_.1.2.1.1.2.1 | exact hk_.1.2.1.1.2.2 | exact hk_.1.2.1.2.1.1 | exact hk_.1.2.1.2.1.2 | exact hk_.1.2.1.2.2.1 | exact hk_.1.2.1.2.2.2 | exact hk_.1.2.2.1.1.1 | exact hk_.1.2.2.1.1.2 | exact hk_.1.2.2.1.2.1 | exact hk_.1.2.2.1.2.2 | exact hk_.1.2.2.2.1.1 | exact hk_.1.2.2.2.1.2 | exact hk_.1.2.2.2.2.1 | exact hk_.1.2.2.2.2.2 | exact hk_.2.1.1.1.1.1 | exact hk_.2.1.1.1.1.2 | exact hk_.2.1.1.1.2.1 | exact hk_.2.1.1.1.2.2 | exact hk_.2.1.1.2.1.1 | exact hk_.2.1.1.2.1.2 | exact hk_.2.1.1.2.2.1 | exact hk_.2.1.1.2.2.2 | exact hk_.2.1.2.1.1.1 | exact hk_.2.1.2.1.1.2 | exact hk_.2.1.2.1.2.1 | exact hk_.2.1.2.1.2.2 | exact hk_.2.1.2.2.1.1 | exact hk_.2.1.2.2.1.2 | exact hk_.2.1.2.2.2.1 | exact hk_.2.1.2.2.2.2 | exact hk_.2.2.1.1.1.1 | exact hk_.2.2.1.1.1.2 | exact hk_.2.2.1.1.2.1 | exact hk_.2.2.1.1.2.2 | exact hk_.2.2.1.2.1.1 | exact hk_.2.2.1.2.1.2 | exact hk_.2.2.1.2.2.1 | exact hk_.2.2.1.2.2.2 | exact hk_.2.2.2.1.1.1 | exact hk_.2.2.2.1.1.2 | exact hk_.2.2.2.1.2.1 | exact hk_.2.2.2.1.2.2 | exact hk_.2.2.2.2.1.1 | exact hk_.2.2.2.2.1.2 | exact hk_.2.2.2.2.2.1 | exact hk_.2.2.2.2.2.2))); replace HO5040 := aQ (Kd.R_mono (ok' := fun k_ => some k_ ≠ (v5014 : Value).ownBlock ∧ some k_ ≠ (v5028 : Value).ownBlock ∧ some k_ ≠ (.slice Ao46 t5018.length co46 : Value).ownBlock ∧ some k_ ≠ (.slice Ao54 t5023.length co54 : Value).ownBlock ∧ some k_ ≠ (.slice Ao75 t5033.length co75 : Value).ownBlock) (Kd.R_keptB (HO5040.out) hkp (fun k_ hk_ hs_ => by first | exact (hk_.2.2.2.1) hs_ | (with_reducible first | exact absurd hs_ hk_.1 | exact absurd hs_ hk_.2 | exact absurd hs_ hk_.1.1 | exact absurd hs_ hk_.1.2 | exact absurd hs_ hk_.2.1 | exact absurd hs_ hk_.2.2 | exact absurd hs_ hk_.1.1.1 | exact absurd hs_ hk_.1.1.2 | exact absurd hs_ hk_.1.2.1 | exact absurd hs_ hk_.1.2.2 | exact absurd hs_ hk_.2.1.1 | exact absurd hs_ hk_.2.1.2 | exact absurd hs_ hk_.2.2.1 | exact absurd hs_ hk_.2.2.2 | exact absurd hs_ hk_.1.1.1.1 | exact absurd hs_ hk_.1.1.1.2 | exact absurd hs_ hk_.1.1.2.1 | exact absurd hs_ hk_.1.1.2.2 | exact absurd hs_ hk_.1.2.1.1 | exact absurd hs_ hk_.1.2.1.2 | exact absurd hs_ hk_.1.2.2.1 | exact absurd hs_ hk_.1.2.2.2 | exact absurd hs_ hk_.2.1.1.1 | exact absurd hs_ hk_.2.1.1.2 | exact absurd hs_ hk_.2.1.2.1 | exact absurd hs_ hk_.2.1.2.2 | exact absurd hs_ hk_.2.2.1.1 | exact absurd hs_ hk_.2.2.1.2 | exact absurd hs_ hk_.2.2.2.1 | exact absurd hs_ hk_.2.2.2.2 | exact absurd hs_ hk_.1.1.1.1.1 | exact absurd hs_ hk_.1.1.1.1.2 | exact absurd hs_ hk_.1.1.1.2.1 | exact absurd hs_ hk_.1.1.1.2.2 | exact absurd hs_ hk_.1.1.2.1.1 | exact absurd hs_ hk_.1.1.2.1.2 | exact absurd hs_ hk_.1.1.2.2.1 | exact absurd hs_ hk_.1.1.2.2.2 | exact absurd hs_ hk_.1.2.1.1.1 | exact absurd hs_ hk_.1.2.1.1.2 | exact absurd hs_ hk_.1.2.1.2.1 | exact absurd hs_ hk_.1.2.1.2.2 | exact absurd hs_ hk_.1.2.2.1.1 | exact absurd hs_ hk_.1.2.2.1.2 | exact absurd hs_ hk_.1.2.2.2.1 | exact absurd hs_ hk_.1.2.2.2.2 | exact absurd hs_ hk_.2.1.1.1.1 | exact absurd hs_ hk_.2.1.1.1.2 | exact absurd hs_ hk_.2.1.1.2.1 | exact absurd hs_ hk_.2.1.1.2.2 | exact absurd hs_ hk_.2.1.2.1.1 | exact absurd hs_ hk_.2.1.2.1.2 | exact absurd hs_ hk_.2.1.2.2.1 | exact absurd hs_ hk_.2.1.2.2.2 | exact absurd hs_ hk_.2.2.1.1.1 | exact absurd hs_ hk_.2.2.1.1.2 | exact absurd hs_ hk_.2.2.1.2.1 | exact absurd hs_ hk_.2.2.1.2.2 | exact absurd hs_ hk_.2.2.2.1.1 | exact absurd hs_ hk_.2.2.2.1.2 | exact absurd hs_ hk_.2.2.2.2.1 | exact absurd hs_ hk_.2.2.2.2.2 | exact absurd hs_ hk_.1.1.1.1.1.1 | exact absurd hs_ hk_.1.1.1.1.1.2 | exact absurd hs_ hk_.1.1.1.1.2.1 | exact absurd hs_ hk_.1.1.1.1.2.2 | exact absurd hs_ hk_.1.1.1.2.1.1 | exact absurd hs_ hk_.1.1.1.2.1.2 | exact absurd hs_ hk_.1.1.1.2.2.1 | exact absurd hs_ hk_.1.1.1.2.2.2 | exact absurd hs_ hk_.1.1.2.1.1.1 | exact absurd hs_ hk_.1.1.2.1.1.2 | exact absurd hs_ hk_.1.1.2.1.2.1 | exact absurd hs_ hk_.1.1.2.1.2.2 | exact absurd hs_ hk_.1.1.2.2.1.1 | exact absurd hs_ hk_.1.1.2.2.1.2 | exact absurd hs_ hk_.1.1.2.2.2.1 | exact absurd hs_ hk_.1.1.2.2.2.2 | exact absurd hs_ hk_.1.2.1.1.1.1 | exact absurd hs_ hk_.1.2.1.1.1.2 | exact absurd hs_ hk_.1.2.1.1.2.1 | exact absurd hs_ hk_.1.2.1.1.2.2 | exact absurd hs_ hk_.1.2.1.2.1.1 | exact absurd hs_ hk_.1.2.1.2.1.2 | exact absurd hs_ hk_.1.2.1.2.2.1 | exact absurd hs_ hk_.1.2.1.2.2.2 | exact absurd hs_ hk_.1.2.2.1.1.1 | exact absurd hs_ hk_.1.2.2.1.1.2 | exact absurd hs_ hk_.1.2.2.1.2.1 | exact absurd hs_ hk_.1.2.2.1.2.2 | exact absurd hs_ hk_.1.2.2.2.1.1 | exact absurd hs_ hk_.1.2.2.2.1.2 | exact absurd hs_ hk_.1.2.2.2.2.1 | exact absurd hs_ hk_.1.2.2.2.2.2 | exact absurd hs_ hk_.2.1.1.1.1.1 | exact absurd hs_ hk_.2.1.1.1.1.2 | exact absurd hs_ hk_.2.1.1.1.2.1 | exact absurd hs_ hk_.2.1.1.1.2.2 | exact absurd hs_ hk_.2.1.1.2.1.1 | exact absurd hs_ hk_.2.1.1.2.1.2 | exact absurd hs_ hk_.2.1.1.2.2.1 | exact absurd hs_ hk_.2.1.1.2.2.2 | exact absurd hs_ hk_.2.1.2.1.1.1 | exact absurd hs_ hk_.2.1.2.1.1.2 | exact absurd hs_ hk_.2.1.2.1.2.1 | exact absurd hs_ hk_.2.1.2.1.2.2 | exact absurd hs_ hk_.2.1.2.2.1.1 | exact absurd hs_ hk_.2.1.2.2.1.2 | exact absurd hs_ hk_.2.1.2.2.2.1 | exact absurd hs_ hk_.2.1.2.2.2.2 | exact absurd hs_ hk_.2.2.1.1.1.1 | exact absurd hs_ hk_.2.2.1.1.1.2 | exact absurd hs_ hk_.2.2.1.1.2.1 | exact absurd hs_ hk_.2.2.1.1.2.2 | exact absurd hs_ hk_.2.2.1.2.1.1 | exact absurd hs_ hk_.2.2.1.2.1.2 | exact absurd hs_ hk_.2.2.1.2.2.1 | exact absurd hs_ hk_.2.2.1.2.2.2 | exact absurd hs_ hk_.2.2.2.1.1.1 | exact absurd hs_ hk_.2.2.2.1.1.2 | exact absurd hs_ hk_.2.2.2.1.2.1 | exact absurd hs_ hk_.2.2.2.1.2.2 | exact absurd hs_ hk_.2.2.2.2.1.1 | exact absurd hs_ hk_.2.2.2.2.1.2 | exact absurd hs_ hk_.2.2.2.2.2.1 | exact absurd hs_ hk_.2.2.2.2.2.2))) (fun k_ hk_ => by first | exact ⟨hk_.1.1, hk_.1.2.1, hk_.1.2.2.1, hk_.1.2.2.2.1, hk_.1.2.2.2.2⟩ | (refine ⟨?_, ?_, ?_, ?_, ?_⟩ <;> with_reducible first | exact hk_.1 | exact hk_.2 | exact hk_.1.1 | exact hk_.1.2 | exact hk_.2.1 | exact hk_.2.2 | exact hk_.1.1.1 | exact hk_.1.1.2 | exact hk_.1.2.1 | exact hk_.1.2.2 | exact hk_.2.1.1 | exact hk_.2.1.2 | exact hk_.2.2.1 | exact hk_.2.2.2 | exact hk_.1.1.1.1 | exact hk_.1.1.1.2 | exact hk_.1.1.2.1 | exact hk_.1.1.2.2 | exact hk_.1.2.1.1 | exact hk_.1.2.1.2 | exact hk_.1.2.2.1 | exact hk_.1.2.2.2 | exact hk_.2.1.1.1 | exact hk_.2.1.1.2 | exact hk_.2.1.2.1 | exact hk_.2.1.2.2 | exact hk_.2.2.1.1 | exact hk_.2.2.1.2 | exact hk_.2.2.2.1 | exact hk_.2.2.2.2 | exact hk_.1.1.1.1.1 | exact hk_.1.1.1.1.2 | exact hk_.1.1.1.2.1 | exact hk_.1.1.1.2.2 | exact hk_.1.1.2.1.1 | exact hk_.1.1.2.1.2 | exact hk_.1.1.2.2.1 | exact hk_.1.1.2.2.2 | exact hk_.1.2.1.1.1 | exact hk_.1.2.1.1.2 | exact hk_.1.2.1.2.1 | exact hk_.1.2.1.2.2 | exact hk_.1.2.2.1.1 | exact hk_.1.2.2.1.2 | exact hk_.1.2.2.2.1 | exact hk_.1.2.2.2.2 | exact hk_.2.1.1.1.1 | exact hk_.2.1.1.1.2 | exact hk_.2.1.1.2.1 | exact hk_.2.1.1.2.2 | exact hk_.2.1.2.1.1 | exact hk_.2.1.2.1.2 | exact hk_.2.1.2.2.1 | exact hk_.2.1.2.2.2 | exact hk_.2.2.1.1.1 | exact hk_.2.2.1.1.2 | exact hk_.2.2.1.2.1 | exact hk_.2.2.1.2.2 | exact hk_.2.2.2.1.1 | exact hk_.2.2.2.1.2 | exact hk_.2.2.2.2.1 | exact hk_.2.2.2.2.2 | exact hk_.1.1.1.1.1.1 | exact hk_.1.1.1.1.1.2 | exact hk_.1.1.1.1.2.1 | exact hk_.1.1.1.1.2.2 | exact hk_.1.1.1.2.1.1 | exact hk_.1.1.1.2.1.2 | exact hk_.1.1.1.2.2.1 | exact hk_.1.1.1.2.2.2 | exact hk_.1.1.2.1.1.1 | exact hk_.1.1.2.1.1.2 | exact hk_.1.1.2.1.2.1 | exact hk_.1.1.2.1.2.2 | exact hk_.1.1.2.2.1.1 | exact hk_.1.1.2.2.1.2 | exact hk_.1.1.2.2.2.1 | exact hk_.1.1.2.2.2.2 | exact hk_.1.2.1.1.1.1 | exact hk_.1.2.1.1.1.2 | exact hk_.1.2.1.1.2.1 | exact hk_.1.2.1.1.2.2 | exact hk_.1.2.1.2.1.1 | exact hk_.1.2.1.2.1.2 | exact hk_.1.2.1.2.2.1 | exact hk_.1.2.1.2.2.2 | exact hk_.1.2.2.1.1.1 | exact hk_.1.2.2.1.1.2 | exact hk_.1.2.2.1.2.1 | exact hk_.1.2.2.1.2.2 | exact hk_.1.2.2.2.1.1 | exact hk_.1.2.2.2.1.2 | exact hk_.1.2.2.2.2.1 | exact hk_.1.2.2.2.2.2 | exact hk_.2.1.1.1.1.1 | exact hk_.2.1.1.1.1.2 | exact hk_.2.1.1.1.2.1 | exact hk_.2.1.1.1.2.2 | exact hk_.2.1.1.2.1.1 | exact hk_.2.1.1.2.1.2 | exact hk_.2.1.1.2.2.1 | exact hk_.2.1.1.2.2.2 | exact hk_.2.1.2.1.1.1 | exact hk_.2.1.2.1.1.2 | exact hk_.2.1.2.1.2.1 | exact hk_.2.1.2.1.2.2 | exact hk_.2.1.2.2.1.1 | exact hk_.2.1.2.2.1.2 | exact hk_.2.1.2.2.2.1 | exact hk_.2.1.2.2.2.2 | exact hk_.2.2.1.1.1.1 | exact hk_.2.2.1.1.1.2 | exact hk_.2.2.1.1.2.1 | exact hk_.2.2.1.1.2.2 | exact hk_.2.2.1.2.1.1 | exact hk_.2.2.1.2.1.2 | exact hk_.2.2.1.2.2.1 | exact hk_.2.2.1.2.2.2 | exact hk_.2.2.2.1.1.1 | exact hk_.2.2.2.1.1.2 | exact hk_.2.2.2.1.2.1 | exact hk_.2.2.2.1.2.2 | exact hk_.2.2.2.2.1.1 | exact hk_.2.2.2.2.1.2 | exact hk_.2.2.2.2.2.1 | exact hk_.2.2.2.2.2.2))); replace HB := aQ (hb); (try clear hb); (try clear hkp); (try clear hy0)))
        (try simp only [Act.put, List.setIfInBounds_toArray, List.set_cons_zero, List.set_cons_succ])
        go_cut [86] (fun v86 wc => ∃ (kq : Nat) (x86_71 : Bool), v86 = .bool x86_71 ∧ Aside0 (laws_FnExactAugmentingPath.j1 kq a2 t5013 t5016 t5027 x86_71 a0_0 l0_1 a1_0 l1_1 = some true) ∧ Aside0 (kq ≤ kj25) ∧ Aside0 (Kd.R (Kd.int .i64) 3 wc w.heap.size (fun k_ => some k_ ≠ (v5028 : Value).ownBlock ∧ some k_ ≠ ((.slice Ao46 t5018.length co46) : Value).ownBlock ∧ some k_ ≠ ((.slice Ao54 t5023.length co54) : Value).ownBlock) v5014 t5013) ∧ Aside0 (Kd.R (Kd.int .i64) 3 wc w.heap.size (fun k_ => some k_ ≠ (v5014 : Value).ownBlock ∧ some k_ ≠ ((.slice Ao46 t5018.length co46) : Value).ownBlock ∧ some k_ ≠ ((.slice Ao54 t5023.length co54) : Value).ownBlock) v5028 t5027) ∧ Aside0 (Kd.R (Kd.int .i64) 3 wc w.heap.size (fun k_ => some k_ ≠ (v5014 : Value).ownBlock ∧ some k_ ≠ (v5028 : Value).ownBlock ∧ some k_ ≠ ((.slice Ao54 t5023.length co54) : Value).ownBlock) (.slice Ao46 t5018.length co46) t5043) ∧ Aside0 (Kd.R (Kd.int .i64) 3 wc w.heap.size (fun k_ => some k_ ≠ (v5014 : Value).ownBlock ∧ some k_ ≠ (v5028 : Value).ownBlock ∧ some k_ ≠ ((.slice Ao46 t5018.length co46) : Value).ownBlock) (.slice Ao54 t5023.length co54) t5045) ∧ Aside0 (wc.heap[gb5001]? = some (.cells #[.int .i64 a0_0, (.slice A0_1 l0_1.length c0_1)] 24 (0, 0))) ∧ Aside0 (wc.heap[gb5002]? = some (.cells #[.int .i64 a1_0, (.slice A1_1 l1_1.length c1_1)] 24 (0, 0))) ∧ Aside0 (wc.heap[gb5021]? = some (.cells #[.int .i64 t5017, (.slice Ao46 t5018.length co46)] 26 (0, 0))) ∧ Aside0 (wc.heap[gb5026]? = some (.cells #[.int .i64 t5022, (.slice Ao54 t5023.length co54)] 26 (0, 0))) ∧ Aside0 (Below w.heap.size w wc))
        case first =>
         have H := HC72.out
         clear HC72
         by_cases c90 : t5044 < 0
         ·rw [if_pos c90] at H
          have c90b0 : decide (t5044 < 0) = true := decide_eq_true c90
          clear c90
          (first | rw [c90b0] | (simp only [i64_w, i32_w]; rw [c90b0]) | skip)
          have H' := aQ H
          clear H
          go_wp2
          go_meet
          case rel => exact ⟨_, (true), rs_, H', ⟨by have := HJ25.out; first | omega | exact Nat.le_refl _⟩, ⟨by (with_reducible repeat (first | apply Kd.R_alloc | apply Kd.R_drewN | apply Kd.R_drew)); exact Kd.R_mono HO_8.out (fun _ hk => ⟨hk.1, ⟨hk.2.1, hk.2.2.1⟩⟩)⟩, ⟨by (with_reducible repeat (first | apply Kd.R_alloc | apply Kd.R_drewN | apply Kd.R_drew)); exact Kd.R_mono HO_12.out (fun _ hk => ⟨hk.1, ⟨hk.2.1, hk.2.2.1⟩⟩)⟩, ⟨by (with_reducible repeat (first | apply Kd.R_alloc | apply Kd.R_drewN | apply Kd.R_drew)); exact Kd.R_mono HO_5022001.out (fun _ hk => ⟨hk.1, ⟨hk.2.1, hk.2.2.1⟩⟩)⟩, ⟨by (with_reducible repeat (first | apply Kd.R_alloc | apply Kd.R_drewN | apply Kd.R_drew)); exact Kd.R_mono HO_5027001.out (fun _ hk => ⟨hk.1, ⟨hk.2.1, hk.2.2.1⟩⟩)⟩, ⟨pk BK5001.out⟩, ⟨pk BK5002.out⟩, ⟨pk BK5021.out⟩, ⟨pk BK5026.out⟩, ⟨pB4 HB.out GE5001.out GE5002.out GE5021.out GE5026.out⟩⟩
         ·rw [if_neg c90] at H
          have c90b0 : decide (t5044 < 0) = false := decide_eq_false c90
          clear c90
          (first | rw [c90b0] | (simp only [i64_w, i32_w]; rw [c90b0]) | skip)
          replace H := Option.bind_eq_some_iff.mp H
          obtain ⟨t5046, A910, H⟩ := H
          replace H : (if t5046 = true then (laws_FnExactAugmentingPath.j1 kj25 a2 t5013 t5016 t5027 (t5030 != t5016) a0_0 l0_1 a1_0 l1_1) else (laws_FnExactAugmentingPath.j1 kj25 a2 t5013 t5016 t5027 true a0_0 l0_1 a1_0 l1_1)) = some true := H
          have A91 := aQ A910
          clear A910
          by_cases c92 : t5046 = true
          ·subst c92
           have H1 : (laws_FnExactAugmentingPath.j1 kj25 a2 t5013 t5016 t5027 (t5030 != t5016) a0_0 l0_1 a1_0 l1_1) = some true := by rw [if_pos rfl] at H; exact H
           clear H
           have H := H1
           clear H1
           have H' := aQ H
           clear H
           obtain ⟨Ao93, co93, eo93⟩ := Kd.R_slice HO_12.out
           subst eo93
           obtain ⟨Ao94, co94, eo94⟩ := Kd.R_slice HO_8.out
           subst eo94
           go_wp2_with (first | (go_at_call 25; (with_reducible refine (laws_eqIntS.calls kj25 _ _ t5027 _ _ t5013 true _ ?side1 ?side2 ?side3 ?side4 A91.out).mono ?_); (case side1 => repeat (first | exact (Kd.R_reads' HO_12.out).2.2 | (with_reducible refine Kd.C_alloc ?_ _) | (with_reducible refine Kd.C_drewN ?_ _) | (with_reducible refine Kd.C_drew ?_))); (case side2 => exact (Kd.R_reads' HO_12.out).2.1); (case side3 => repeat (first | exact (Kd.R_reads' HO_8.out).2.2 | (with_reducible refine Kd.C_alloc ?_ _) | (with_reducible refine Kd.C_drewN ?_ _) | (with_reducible refine Kd.C_drew ?_))); (case side4 => exact (Kd.R_reads' HO_8.out).2.1); rintro e w' ⟨rfl, ⟨nd, rfl⟩⟩))
           go_meet
           case rel => exact ⟨_, ((t5030 != t5016)), rs_, H', ⟨by have := HJ25.out; first | omega | exact Nat.le_refl _⟩, ⟨by (with_reducible repeat (first | apply Kd.R_alloc | apply Kd.R_drewN | apply Kd.R_drew)); exact Kd.R_mono HO_8.out (fun _ hk => ⟨hk.1, ⟨hk.2.1, hk.2.2.1⟩⟩)⟩, ⟨by (with_reducible repeat (first | apply Kd.R_alloc | apply Kd.R_drewN | apply Kd.R_drew)); exact Kd.R_mono HO_12.out (fun _ hk => ⟨hk.1, ⟨hk.2.1, hk.2.2.1⟩⟩)⟩, ⟨by (with_reducible repeat (first | apply Kd.R_alloc | apply Kd.R_drewN | apply Kd.R_drew)); exact Kd.R_mono HO_5022001.out (fun _ hk => ⟨hk.1, ⟨hk.2.1, hk.2.2.1⟩⟩)⟩, ⟨by (with_reducible repeat (first | apply Kd.R_alloc | apply Kd.R_drewN | apply Kd.R_drew)); exact Kd.R_mono HO_5027001.out (fun _ hk => ⟨hk.1, ⟨hk.2.1, hk.2.2.1⟩⟩)⟩, ⟨pk BK5001.out⟩, ⟨pk BK5002.out⟩, ⟨pk BK5021.out⟩, ⟨pk BK5026.out⟩, ⟨pB4 HB.out GE5001.out GE5002.out GE5021.out GE5026.out⟩⟩
          ·replace c92 := Bool.eq_false_iff.mpr c92
           subst c92
           have H1 : (laws_FnExactAugmentingPath.j1 kj25 a2 t5013 t5016 t5027 true a0_0 l0_1 a1_0 l1_1) = some true := by rw [if_neg (show ¬ (false = true) by decide)] at H; exact H
           clear H
           have H := H1
           clear H1
           have H' := aQ H
           clear H
           obtain ⟨Ao95, co95, eo95⟩ := Kd.R_slice HO_12.out
           subst eo95
           obtain ⟨Ao96, co96, eo96⟩ := Kd.R_slice HO_8.out
           subst eo96
           go_wp2_with (first | (go_at_call 25; (with_reducible refine (laws_eqIntS.calls kj25 _ _ t5027 _ _ t5013 false _ ?side1 ?side2 ?side3 ?side4 A91.out).mono ?_); (case side1 => repeat (first | exact (Kd.R_reads' HO_12.out).2.2 | (with_reducible refine Kd.C_alloc ?_ _) | (with_reducible refine Kd.C_drewN ?_ _) | (with_reducible refine Kd.C_drew ?_))); (case side2 => exact (Kd.R_reads' HO_12.out).2.1); (case side3 => repeat (first | exact (Kd.R_reads' HO_8.out).2.2 | (with_reducible refine Kd.C_alloc ?_ _) | (with_reducible refine Kd.C_drewN ?_ _) | (with_reducible refine Kd.C_drew ?_))); (case side4 => exact (Kd.R_reads' HO_8.out).2.1); rintro e w' ⟨rfl, ⟨nd, rfl⟩⟩))
           go_meet
           case rel => exact ⟨_, (true), rs_, H', ⟨by have := HJ25.out; first | omega | exact Nat.le_refl _⟩, ⟨by (with_reducible repeat (first | apply Kd.R_alloc | apply Kd.R_drewN | apply Kd.R_drew)); exact Kd.R_mono HO_8.out (fun _ hk => ⟨hk.1, ⟨hk.2.1, hk.2.2.1⟩⟩)⟩, ⟨by (with_reducible repeat (first | apply Kd.R_alloc | apply Kd.R_drewN | apply Kd.R_drew)); exact Kd.R_mono HO_12.out (fun _ hk => ⟨hk.1, ⟨hk.2.1, hk.2.2.1⟩⟩)⟩, ⟨by (with_reducible repeat (first | apply Kd.R_alloc | apply Kd.R_drewN | apply Kd.R_drew)); exact Kd.R_mono HO_5022001.out (fun _ hk => ⟨hk.1, ⟨hk.2.1, hk.2.2.1⟩⟩)⟩, ⟨by (with_reducible repeat (first | apply Kd.R_alloc | apply Kd.R_drewN | apply Kd.R_drew)); exact Kd.R_mono HO_5027001.out (fun _ hk => ⟨hk.1, ⟨hk.2.1, hk.2.2.1⟩⟩)⟩, ⟨pk BK5001.out⟩, ⟨pk BK5002.out⟩, ⟨pk BK5021.out⟩, ⟨pk BK5026.out⟩, ⟨pB4 HB.out GE5001.out GE5002.out GE5021.out GE5026.out⟩⟩
        case rest =>
         clear HC72
         try clear c1
         try clear c2
         try clear p2
         try clear c4
         try clear c5
         try clear c5b0
         try clear c6
         try clear c8
         try clear c9
         try clear c12
         try clear c12b0
         try clear c15
         try clear c16
         try clear c18
         try clear c20
         try clear c21
         try clear c23
         try clear c24
         try clear c25
         try clear c29
         try clear c43
         try clear c44
         try clear c50
         try clear c51
         try clear c52
         try clear c58
         try clear c63
         try clear c66
         try clear c69
         try clear c81
         try clear c82
         try clear c83
         try clear c86
         try clear c87
         try clear c90
         try clear c90b0
         try clear c92
         try clear hcz16_0
         try clear hcz16_1
         try clear hcz18_0
         try clear hcz18_1
         try clear hcz30_0
         try clear hcz30_1
         try clear hcz32_0
         try clear hcz32_1
         try clear hcz40_0
         try clear hcz40_1
         try clear hcz45_0
         try clear hcz45_1
         try clear hcz47_0
         try clear hcz47_1
         try clear hcz53_0
         try clear hcz53_1
         try clear hcz55_0
         try clear hcz55_1
         try clear hcz84_0
         try clear hcz84_1
         try clear hcz88_0
         try clear hcz88_1
         try clear hcz9_0
         try clear hcz9_1
         try clear hfz16_0
         try clear hfz16_1
         try clear hfz18_0
         try clear hfz18_1
         try clear hfz30_0
         try clear hfz30_1
         try clear hfz32_0
         try clear hfz32_1
         try clear hfz40_0
         try clear hfz40_1
         try clear hfz45_0
         try clear hfz45_1
         try clear hfz47_0
         try clear hfz47_1
         try clear hfz53_0
         try clear hfz53_1
         try clear hfz55_0
         try clear hfz55_1
         try clear hfz84_0
         try clear hfz84_1
         try clear hfz88_0
         try clear hfz88_1
         try clear hfz9_0
         try clear hfz9_1
         try clear p2
         obtain ⟨kq, x86_71, rfl, HA, HJ71, HO_8, HO_12, HO_5022001, HO_5027001, BK5001, BK5002, BK5021, BK5026, HB⟩ := hcut
         have hl5022001_71 := (Kd.R_reads' HO_5022001.out).1
         rw [hl5022001_71] at HO_5022001
         (try simp only [hl5022001_71])
         (try simp only [hl5022001_71] at BK5001)
         (try simp only [hl5022001_71] at BK5002)
         (try simp only [hl5022001_71] at BK5021)
         (try simp only [hl5022001_71] at BK5026)
         (try simp only [hl5022001_71] at HO_8)
         (try simp only [hl5022001_71] at HO_12)
         (try simp only [hl5022001_71] at HO_5027001)
         have hl5027001_71 := (Kd.R_reads' HO_5027001.out).1
         rw [hl5027001_71] at HO_5027001
         (try simp only [hl5027001_71])
         (try simp only [hl5027001_71] at BK5001)
         (try simp only [hl5027001_71] at BK5002)
         (try simp only [hl5027001_71] at BK5021)
         (try simp only [hl5027001_71] at BK5026)
         (try simp only [hl5027001_71] at HO_8)
         (try simp only [hl5027001_71] at HO_12)
         (try simp only [hl5027001_71] at HO_5022001)
         cases kq with
         | zero => exact absurd HA.out (by simp [laws_FnExactAugmentingPath.j1])
         | succ kj71 =>
          have H := HA.out
          clear HA
          simp only [laws_FnExactAugmentingPath.j1] at H
          by_cases c97 : x86_71 = true
          ·subst c97
           have H1 : (some false) = some true := by rw [if_pos rfl] at H; exact H
           clear H
           have H := H1
           clear H1
           exact absurd (Option.some.inj H) (by decide)
          ·replace c97 := Bool.eq_false_iff.mpr c97
           subst c97
           have H1 : ((laws_markIntS.f kj71 t5027 1).bind fun bt5047 => ((laws_heldIntS.f kj71 bt5047.2 1).bind fun t5049 => (if t5049 < 0 then (some false) else (if t5049 = bt5047.1 then ((laws_toMatroid.f kj71 a0_0 l0_1).bind fun bt5050 => ((laws_toMatroid.f kj71 a1_0 l1_1).bind fun bt5054 => ((impl_AugmentingPath.f kj71 bt5050.1 bt5050.2 bt5054.1 bt5054.2 a2).bind fun bt5058 => ((laws_eqIntS.f kj71 bt5058.1 t5013).bind fun t5062 => (if t5062 = true then (laws_FnExactAugmentingPath.j2 kj71 bt5047.2 bt5047.1 (bt5058.2 != t5016)) else (laws_FnExactAugmentingPath.j2 kj71 bt5047.2 bt5047.1 true)))))) else (some false))))) = some true := by rw [if_neg (show ¬ (false = true) by decide)] at H; exact H
           clear H
           have H := H1
           clear H1
           replace H := Option.bind_eq_some_iff.mp H
           obtain ⟨⟨t5047, t5048⟩, A980, H⟩ := H
           replace H : ((laws_heldIntS.f kj71 t5048 1).bind fun t5049 => (if t5049 < 0 then (some false) else (if t5049 = t5047 then ((laws_toMatroid.f kj71 a0_0 l0_1).bind fun bt5050 => ((laws_toMatroid.f kj71 a1_0 l1_1).bind fun bt5054 => ((impl_AugmentingPath.f kj71 bt5050.1 bt5050.2 bt5054.1 bt5054.2 a2).bind fun bt5058 => ((laws_eqIntS.f kj71 bt5058.1 t5013).bind fun t5062 => (if t5062 = true then (laws_FnExactAugmentingPath.j2 kj71 t5048 t5047 (bt5058.2 != t5016)) else (laws_FnExactAugmentingPath.j2 kj71 t5048 t5047 true)))))) else (some false)))) = some true := H
           have A98 := aQ A980
           clear A980
           replace H := Option.bind_eq_some_iff.mp H
           obtain ⟨t5049, A990, H⟩ := H
           replace H : (if t5049 < 0 then (some false) else (if t5049 = t5047 then ((laws_toMatroid.f kj71 a0_0 l0_1).bind fun bt5050 => ((laws_toMatroid.f kj71 a1_0 l1_1).bind fun bt5054 => ((impl_AugmentingPath.f kj71 bt5050.1 bt5050.2 bt5054.1 bt5054.2 a2).bind fun bt5058 => ((laws_eqIntS.f kj71 bt5058.1 t5013).bind fun t5062 => (if t5062 = true then (laws_FnExactAugmentingPath.j2 kj71 t5048 t5047 (bt5058.2 != t5016)) else (laws_FnExactAugmentingPath.j2 kj71 t5048 t5047 true)))))) else (some false))) = some true := H
           have A99 := aQ A990
           clear A990
           by_cases c100 : t5049 < 0
           ·rw [if_pos c100] at H
            have c100b0 : decide (t5049 < 0) = true := decide_eq_true c100
            clear c100
            exact absurd (Option.some.inj H) (by decide)
           ·rw [if_neg c100] at H
            have c100b0 : decide (t5049 < 0) = false := decide_eq_false c100
            clear c100
            by_cases c103 : t5049 = t5047
            ·rw [if_pos c103] at H
             have c103b0 : (t5049 == t5047) = true := beq_iff_eq.mpr c103
             have c103b1 : (t5049 != t5047) = false := bne_eq_false_iff_eq.mpr c103
             clear c103
             replace H := Option.bind_eq_some_iff.mp H
             obtain ⟨⟨t5050, t5051⟩, A1040, H⟩ := H
             replace H : ((laws_toMatroid.f kj71 a1_0 l1_1).bind fun bt5054 => ((impl_AugmentingPath.f kj71 t5050 t5051 bt5054.1 bt5054.2 a2).bind fun bt5058 => ((laws_eqIntS.f kj71 bt5058.1 t5013).bind fun t5062 => (if t5062 = true then (laws_FnExactAugmentingPath.j2 kj71 t5048 t5047 (bt5058.2 != t5016)) else (laws_FnExactAugmentingPath.j2 kj71 t5048 t5047 true))))) = some true := H
             have A104 := aQ A1040
             clear A1040
             replace H := Option.bind_eq_some_iff.mp H
             obtain ⟨⟨t5054, t5055⟩, A1050, H⟩ := H
             replace H : ((impl_AugmentingPath.f kj71 t5050 t5051 t5054 t5055 a2).bind fun bt5058 => ((laws_eqIntS.f kj71 bt5058.1 t5013).bind fun t5062 => (if t5062 = true then (laws_FnExactAugmentingPath.j2 kj71 t5048 t5047 (bt5058.2 != t5016)) else (laws_FnExactAugmentingPath.j2 kj71 t5048 t5047 true)))) = some true := H
             have A105 := aQ A1050
             clear A1050
             replace H := Option.bind_eq_some_iff.mp H
             obtain ⟨⟨t5058, t5061⟩, A1060, H⟩ := H
             replace H : ((laws_eqIntS.f kj71 t5058 t5013).bind fun t5062 => (if t5062 = true then (laws_FnExactAugmentingPath.j2 kj71 t5048 t5047 (t5061 != t5016)) else (laws_FnExactAugmentingPath.j2 kj71 t5048 t5047 true))) = some true := H
             have A106 := aQ A1060
             clear A1060
             have HC107 := aQ H
             clear H
             obtain ⟨Ao108, co108, eo108⟩ := Kd.R_slice HO_12.out
             subst eo108
             try go_wp2_with (first | ((with_reducible refine gate_callee (f := 26) rfl ?_); refine goesL_ (some 89) rfl rfl Try.func26 (by kernel_rfl) rfl #[.slice Ao108 t5027.length co108, .int .i64 1] rfl lm ?_; (with_reducible refine (laws_markIntS.calls kj71 (fun k_ => some k_ = (.slice Ao108 t5027.length co108 : Value).ownBlock) (.slice Ao108 t5027.length co108) t5027 1 t5047 t5048 w _ ?side1 ?side2 A98.out).mono ?_); (case side1 => repeat (first | (with_reducible first | exact HB.out | apply below_alloc | apply pw_below_drewN | apply below_drew1 | refine below_set ?_ GE5001.out | refine below_set ?_ GE5002.out | refine below_set ?_ GE5021.out | refine below_set ?_ GE5026.out) | exact HB.out)); (case side2 => exact Kd.R_tight rfl HO_12.out); rintro e w109 ⟨rfl, hy0, hb, hkp⟩; refine ⟨_, rfl, ?_⟩; replace HO_8 := aQ (Kd.R_mono (ok' := fun k_ => some k_ ≠ (.slice Ao108 t5027.length co108 : Value).ownBlock ∧ some k_ ≠ (.slice Ao46 t5043.length co46 : Value).ownBlock ∧ some k_ ≠ (.slice Ao54 t5045.length co54 : Value).ownBlock) (Kd.R_keptB (HO_8.out) hkp (fun k_ hk_ hs_ => by first | exact (hk_.1) hs_ | (with_reducible first | exact absurd hs_ hk_.1 | exact absurd hs_ hk_.2 | exact absurd hs_ hk_.1.1 | exact absurd hs_ hk_.1.2 | exact absurd hs_ hk_.2.1 | exact absurd hs_ hk_.2.2 | exact absurd hs_ hk_.1.1.1 | exact absurd hs_ hk_.1.1.2 | exact absurd hs_ hk_.1.2.1 | exact absurd hs_ hk_.1.2.2 | exact absurd hs_ hk_.2.1.1 | exact absurd hs_ hk_.2.1.2 | exact absurd hs_ hk_.2.2.1 | exact absurd hs_ hk_.2.2.2 | exact absurd hs_ hk_.1.1.1.1 | exact absurd hs_ hk_.1.1.1.2 | exact absurd hs_ hk_.1.1.2.1 | exact absurd hs_ hk_.1.1.2.2 | exact absurd hs_ hk_.1.2.1.1 | exact absurd hs_ hk_.1.2.1.2 | exact absurd hs_ hk_.1.2.2.1 | exact absurd hs_ hk_.1.2.2.2 | exact absurd hs_ hk_.2.1.1.1 | exact absurd hs_ hk_.2.1.1.2 | exact absurd hs_ hk_.2.1.2.1 | exact absurd hs_ hk_.2.1.2.2 | exact absurd hs_ hk_.2.2.1.1 | exact absurd hs_ hk_.2.2.1.2 | exact absurd hs_ hk_.2.2.2.1 | exact absurd hs_ hk_.2.2.2.2 | exact absurd hs_ hk_.1.1.1.1.1 | exact absurd hs_ hk_.1.1.1.1.2 | exact absurd hs_ hk_.1.1.1.2.1 | exact absurd hs_ hk_.1.1.1.2.2 | exact absurd hs_ hk_.1.1.2.1.1 | exact absurd hs_ hk_.1.1.2.1.2 | exact absurd hs_ hk_.1.1.2.2.1 | exact absurd hs_ hk_.1.1.2.2.2 | exact absurd hs_ hk_.1.2.1.1.1 | exact absurd hs_ hk_.1.2.1.1.2 | exact absurd hs_ hk_.1.2.1.2.1 | exact absurd hs_ hk_.1.2.1.2.2 | exact absurd hs_ hk_.1.2.2.1.1 | exact absurd hs_ hk_.1.2.2.1.2 | exact absurd hs_ hk_.1.2.2.2.1 | exact absurd hs_ hk_.1.2.2.2.2 | exact absurd hs_ hk_.2.1.1.1.1 | exact absurd hs_ hk_.2.1.1.1.2 | exact absurd hs_ hk_.2.1.1.2.1 | exact absurd hs_ hk_.2.1.1.2.2 | exact absurd hs_ hk_.2.1.2.1.1 | exact absurd hs_ hk_.2.1.2.1.2 | exact absurd hs_ hk_.2.1.2.2.1 | exact absurd hs_ hk_.2.1.2.2.2 | exact absurd hs_ hk_.2.2.1.1.1 | exact absurd hs_ hk_.2.2.1.1.2 | exact absurd hs_ hk_.2.2.1.2.1 | exact absurd hs_ hk_.2.2.1.2.2 | exact absurd hs_ hk_.2.2.2.1.1 | exact absurd hs_ hk_.2.2.2.1.2 | exact absurd hs_ hk_.2.2.2.2.1 | exact absurd hs_ hk_.2.2.2.2.2 | exact absurd hs_ hk_.1.1.1.1.1.1 | exact absurd hs_ hk_.1.1.1.1.1.2 | exact absurd hs_ hk_.1.1.1.1.2.1 | exact absurd hs_ hk_.1.1.1.1.2.2 | exact absurd hs_ hk_.1.1.1.2.1.1 | exact absurd hs_ hk_.1.1.1.2.1.2 | exact absurd hs_ hk_.1.1.1.2.2.1 | exact absurd hs_ hk_.1.1.1.2.2.2 | exact absurd hs_ hk_.1.1.2.1.1.1 | exact absurd hs_ hk_.1.1.2.1.1.2 | exact absurd hs_ hk_.1.1.2.1.2.1 | exact absurd hs_ hk_.1.1.2.1.2.2 | exact absurd hs_ hk_.1.1.2.2.1.1 | exact absurd hs_ hk_.1.1.2.2.1.2 | exact absurd hs_ hk_.1.1.2.2.2.1 | exact absurd hs_ hk_.1.1.2.2.2.2 | exact absurd hs_ hk_.1.2.1.1.1.1 | exact absurd hs_ hk_.1.2.1.1.1.2 | exact absurd hs_ hk_.1.2.1.1.2.1 | exact absurd hs_ hk_.1.2.1.1.2.2 | exact absurd hs_ hk_.1.2.1.2.1.1 | exact absurd hs_ hk_.1.2.1.2.1.2 | exact absurd hs_ hk_.1.2.1.2.2.1 | exact absurd hs_ hk_.1.2.1.2.2.2 | exact absurd hs_ hk_.1.2.2.1.1.1 | exact absurd hs_ hk_.1.2.2.1.1.2 | exact absurd hs_ hk_.1.2.2.1.2.1 | exact absurd hs_ hk_.1.2.2.1.2.2 | exact absurd hs_ hk_.1.2.2.2.1.1 | exact absurd hs_ hk_.1.2.2.2.1.2 | exact absurd hs_ hk_.1.2.2.2.2.1 | exact absurd hs_ hk_.1.2.2.2.2.2 | exact absurd hs_ hk_.2.1.1.1.1.1 | exact absurd hs_ hk_.2.1.1.1.1.2 | exact absurd hs_ hk_.2.1.1.1.2.1 | exact absurd hs_ hk_.2.1.1.1.2.2 | exact absurd hs_ hk_.2.1.1.2.1.1 | exact absurd hs_ hk_.2.1.1.2.1.2 | exact absurd hs_ hk_.2.1.1.2.2.1 | exact absurd hs_ hk_.2.1.1.2.2.2 | exact absurd hs_ hk_.2.1.2.1.1.1 | exact absurd hs_ hk_.2.1.2.1.1.2 | exact absurd hs_ hk_.2.1.2.1.2.1 | exact absurd hs_ hk_.2.1.2.1.2.2 | exact absurd hs_ hk_.2.1.2.2.1.1 | exact absurd hs_ hk_.2.1.2.2.1.2 | exact absurd hs_ hk_.2.1.2.2.2.1 | exact absurd hs_ hk_.2.1.2.2.2.2 | exact absurd hs_ hk_.2.2.1.1.1.1 | exact absurd hs_ hk_.2.2.1.1.1.2 | exact absurd hs_ hk_.2.2.1.1.2.1 | exact absurd hs_ hk_.2.2.1.1.2.2 | exact absurd hs_ hk_.2.2.1.2.1.1 | exact absurd hs_ hk_.2.2.1.2.1.2 | exact absurd hs_ hk_.2.2.1.2.2.1 | exact absurd hs_ hk_.2.2.1.2.2.2 | exact absurd hs_ hk_.2.2.2.1.1.1 | exact absurd hs_ hk_.2.2.2.1.1.2 | exact absurd hs_ hk_.2.2.2.1.2.1 | exact absurd hs_ hk_.2.2.2.1.2.2 | exact absurd hs_ hk_.2.2.2.2.1.1 | exact absurd hs_ hk_.2.2.2.2.1.2 | exact absurd hs_ hk_.2.2.2.2.2.1 | exact absurd hs_ hk_.2.2.2.2.2.2))) (fun k_ hk_ => by first | exact ⟨hk_.1.1, hk_.1.2.1, hk_.1.2.2⟩ | (refine ⟨?_, ?_, ?_⟩ <;> with_reducible first | exact hk_.1 | exact hk_.2 | exact hk_.1.1 | exact hk_.1.2 | exact hk_.2.1 | exact hk_.2.2 | exact hk_.1.1.1 | exact hk_.1.1.2 | exact hk_.1.2.1 | exact hk_.1.2.2 | exact hk_.2.1.1 | exact hk_.2.1.2 | exact hk_.2.2.1 | exact hk_.2.2.2 | exact hk_.1.1.1.1 | exact hk_.1.1.1.2 | exact hk_.1.1.2.1 | exact hk_.1.1.2.2 | exact hk_.1.2.1.1 | exact hk_.1.2.1.2 | exact hk_.1.2.2.1 | exact hk_.1.2.2.2 | exact hk_.2.1.1.1 | exact hk_.2.1.1.2 | exact hk_.2.1.2.1 | exact hk_.2.1.2.2 | exact hk_.2.2.1.1 | exact hk_.2.2.1.2 | exact hk_.2.2.2.1 | exact hk_.2.2.2.2 | exact hk_.1.1.1.1.1 | exact hk_.1.1.1.1.2 | exact hk_.1.1.1.2.1 | exact hk_.1.1.1.2.2 | exact hk_.1.1.2.1.1 | exact hk_.1.1.2.1.2 | exact hk_.1.1.2.2.1 | exact hk_.1.1.2.2.2 | exact hk_.1.2.1.1.1 | exact hk_.1.2.1.1.2 | exact hk_.1.2.1.2.1 | exact hk_.1.2.1.2.2 | exact hk_.1.2.2.1.1 | exact hk_.1.2.2.1.2 | exact hk_.1.2.2.2.1 | exact hk_.1.2.2.2.2 | exact hk_.2.1.1.1.1 | exact hk_.2.1.1.1.2 | exact hk_.2.1.1.2.1 | exact hk_.2.1.1.2.2 | exact hk_.2.1.2.1.1 | exact hk_.2.1.2.1.2 | exact hk_.2.1.2.2.1 | exact hk_.2.1.2.2.2 | exact hk_.2.2.1.1.1 | exact hk_.2.2.1.1.2 | exact hk_.2.2.1.2.1 | exact hk_.2.2.1.2.2 | exact hk_.2.2.2.1.1 | exact hk_.2.2.2.1.2 | exact hk_.2.2.2.2.1 | exact hk_.2.2.2.2.2 | exact hk_.1.1.1.1.1.1 | exact hk_.1.1.1.1.1.2 | exact hk_.1.1.1.1.2.1 | exact hk_.1.1.1.1.2.2 | exact hk_.1.1.1.2.1.1 | exact hk_.1.1.1.2.1.2 | exact hk_.1.1.1.2.2.1 | exact hk_.1.1.1.2.2.2 | exact hk_.1.1.2.1.1.1 | exact hk_.1.1.2.1.1.2 | exact hk_.1.1.2.1.2.1 | exact hk_.1.1.2.1.2.2 | exact hk_.1.1.2.2.1.1 | exact hk_.1.1.2.2.1.2 | exact hk_.1.1.2.2.2.1 | exact hk_.1.1.2.2.2.2 | exact hk_.1.2.1.1.1.1 | exact hk_.1.2.1.1.1.2 | exact hk_.1.2.1.1.2.1 | exact hk_.1.2.1.1.2.2 | exact hk_.1.2.1.2.1.1 | exact hk_.1.2.1.2.1.2 | exact hk_.1.2.1.2.2.1 | exact hk_.1.2.1.2.2.2 | exact hk_.1.2.2.1.1.1 | exact hk_.1.2.2.1.1.2 | exact hk_.1.2.2.1.2.1 | exact hk_.1.2.2.1.2.2 | exact hk_.1.2.2.2.1.1 | exact hk_.1.2.2.2.1.2 | exact hk_.1.2.2.2.2.1 | exact hk_.1.2.2.2.2.2 | exact hk_.2.1.1.1.1.1 | exact hk_.2.1.1.1.1.2 | exact hk_.2.1.1.1.2.1 | exact hk_.2.1.1.1.2.2 | exact hk_.2.1.1.2.1.1 | exact hk_.2.1.1.2.1.2 | exact hk_.2.1.1.2.2.1 | exact hk_.2.1.1.2.2.2 | exact hk_.2.1.2.1.1.1 | exact hk_.2.1.2.1.1.2 | exact hk_.2.1.2.1.2.1 | exact hk_.2.1.2.1.2.2 | exact hk_.2.1.2.2.1.1 | exact hk_.2.1.2.2.1.2 | exact hk_.2.1.2.2.2.1 | exact hk_.2.1.2.2.2.2 | exact hk_.2.2.1.1.1.1 | exact hk_.2.2.1.1.1.2 | exact hk_.2.2.1.1.2.1 | exact hk_.2.2.1.1.2.2 | exact hk_.2.2.1.2.1.1 | exact hk_.2.2.1.2.1.2 | exact hk_.2.2.1.2.2.1 | exact hk_.2.2.1.2.2.2 | exact hk_.2.2.2.1.1.1 | exact hk_.2.2.2.1.1.2 | exact hk_.2.2.2.1.2.1 | exact hk_.2.2.2.1.2.2 | exact hk_.2.2.2.2.1.1 | exact hk_.2.2.2.2.1.2 | exact hk_.2.2.2.2.2.1 | exact hk_.2.2.2.2.2.2))); replace HO_5022001 := aQ (Kd.R_mono (ok' := fun k_ => some k_ ≠ (v5014 : Value).ownBlock ∧ some k_ ≠ (.slice Ao108 t5027.length co108 : Value).ownBlock ∧ some k_ ≠ (.slice Ao54 t5045.length co54 : Value).ownBlock) (Kd.R_keptB (HO_5022001.out) hkp (fun k_ hk_ hs_ => by first | exact (hk_.2.1) hs_ | (with_reducible first | exact absurd hs_ hk_.1 | exact absurd hs_ hk_.2 | exact absurd hs_ hk_.1.1 | exact absurd hs_ hk_.1.2 | exact absurd hs_ hk_.2.1 | exact absurd hs_ hk_.2.2 | exact absurd hs_ hk_.1.1.1 | exact absurd hs_ hk_.1.1.2 | exact absurd hs_ hk_.1.2.1 | exact absurd hs_ hk_.1.2.2 | exact absurd hs_ hk_.2.1.1 | exact absurd hs_ hk_.2.1.2 | exact absurd hs_ hk_.2.2.1 | exact absurd hs_ hk_.2.2.2 | exact absurd hs_ hk_.1.1.1.1 | exact absurd hs_ hk_.1.1.1.2 | exact absurd hs_ hk_.1.1.2.1 | exact absurd hs_ hk_.1.1.2.2 | exact absurd hs_ hk_.1.2.1.1 | exact absurd hs_ hk_.1.2.1.2 | exact absurd hs_ hk_.1.2.2.1 | exact absurd hs_ hk_.1.2.2.2 | exact absurd hs_ hk_.2.1.1.1 | exact absurd hs_ hk_.2.1.1.2 | exact absurd hs_ hk_.2.1.2.1 | exact absurd hs_ hk_.2.1.2.2 | exact absurd hs_ hk_.2.2.1.1 | exact absurd hs_ hk_.2.2.1.2 | exact absurd hs_ hk_.2.2.2.1 | exact absurd hs_ hk_.2.2.2.2 | exact absurd hs_ hk_.1.1.1.1.1 | exact absurd hs_ hk_.1.1.1.1.2 | exact absurd hs_ hk_.1.1.1.2.1 | exact absurd hs_ hk_.1.1.1.2.2 | exact absurd hs_ hk_.1.1.2.1.1 | exact absurd hs_ hk_.1.1.2.1.2 | exact absurd hs_ hk_.1.1.2.2.1 | exact absurd hs_ hk_.1.1.2.2.2 | exact absurd hs_ hk_.1.2.1.1.1 | exact absurd hs_ hk_.1.2.1.1.2 | exact absurd hs_ hk_.1.2.1.2.1 | exact absurd hs_ hk_.1.2.1.2.2 | exact absurd hs_ hk_.1.2.2.1.1 | exact absurd hs_ hk_.1.2.2.1.2 | exact absurd hs_ hk_.1.2.2.2.1 | exact absurd hs_ hk_.1.2.2.2.2 | exact absurd hs_ hk_.2.1.1.1.1 | exact absurd hs_ hk_.2.1.1.1.2 | exact absurd hs_ hk_.2.1.1.2.1 | exact absurd hs_ hk_.2.1.1.2.2 | exact absurd hs_ hk_.2.1.2.1.1 | exact absurd hs_ hk_.2.1.2.1.2 | exact absurd hs_ hk_.2.1.2.2.1 | exact absurd hs_ hk_.2.1.2.2.2 | exact absurd hs_ hk_.2.2.1.1.1 | exact absurd hs_ hk_.2.2.1.1.2 | exact absurd hs_ hk_.2.2.1.2.1 | exact absurd hs_ hk_.2.2.1.2.2 | exact absurd hs_ hk_.2.2.2.1.1 | exact absurd hs_ hk_.2.2.2.1.2 | exact absurd hs_ hk_.2.2.2.2.1 | exact absurd hs_ hk_.2.2.2.2.2 | exact absurd hs_ hk_.1.1.1.1.1.1 | exact absurd hs_ hk_.1.1.1.1.1.2 | exact absurd hs_ hk_.1.1.1.1.2.1 | exact absurd hs_ hk_.1.1.1.1.2.2 | exact absurd hs_ hk_.1.1.1.2.1.1 | exact absurd hs_ hk_.1.1.1.2.1.2 | exact absurd hs_ hk_.1.1.1.2.2.1 | exact absurd hs_ hk_.1.1.1.2.2.2 | exact absurd hs_ hk_.1.1.2.1.1.1 | exact absurd hs_ hk_.1.1.2.1.1.2 | exact absurd hs_ hk_.1.1.2.1.2.1 | exact absurd hs_ hk_.1.1.2.1.2.2 | exact absurd hs_ hk_.1.1.2.2.1.1 | exact absurd hs_ hk_.1.1.2.2.1.2 | exact absurd hs_ hk_.1.1.2.2.2.1 | exact absurd hs_ hk_.1.1.2.2.2.2 | exact absurd hs_ hk_.1.2.1.1.1.1 | exact absurd hs_ hk_.1.2.1.1.1.2 | exact absurd hs_ hk_.1.2.1.1.2.1 | exact absurd hs_ hk_.1.2.1.1.2.2 | exact absurd hs_ hk_.1.2.1.2.1.1 | exact absurd hs_ hk_.1.2.1.2.1.2 | exact absurd hs_ hk_.1.2.1.2.2.1 | exact absurd hs_ hk_.1.2.1.2.2.2 | exact absurd hs_ hk_.1.2.2.1.1.1 | exact absurd hs_ hk_.1.2.2.1.1.2 | exact absurd hs_ hk_.1.2.2.1.2.1 | exact absurd hs_ hk_.1.2.2.1.2.2 | exact absurd hs_ hk_.1.2.2.2.1.1 | exact absurd hs_ hk_.1.2.2.2.1.2 | exact absurd hs_ hk_.1.2.2.2.2.1 | exact absurd hs_ hk_.1.2.2.2.2.2 | exact absurd hs_ hk_.2.1.1.1.1.1 | exact absurd hs_ hk_.2.1.1.1.1.2 | exact absurd hs_ hk_.2.1.1.1.2.1 | exact absurd hs_ hk_.2.1.1.1.2.2 | exact absurd hs_ hk_.2.1.1.2.1.1 | exact absurd hs_ hk_.2.1.1.2.1.2 | exact absurd hs_ hk_.2.1.1.2.2.1 | exact absurd hs_ hk_.2.1.1.2.2.2 | exact absurd hs_ hk_.2.1.2.1.1.1 | exact absurd hs_ hk_.2.1.2.1.1.2 | exact absurd hs_ hk_.2.1.2.1.2.1 | exact absurd hs_ hk_.2.1.2.1.2.2 | exact absurd hs_ hk_.2.1.2.2.1.1 | exact absurd hs_ hk_.2.1.2.2.1.2 | exact absurd hs_ hk_.2.1.2.2.2.1 | exact absurd hs_ hk_.2.1.2.2.2.2 | exact absurd hs_ hk_.2.2.1.1.1.1 | exact absurd hs_ hk_.2.2.1.1.1.2 | exact absurd hs_ hk_.2.2.1.1.2.1 | exact absurd hs_ hk_.2.2.1.1.2.2 | exact absurd hs_ hk_.2.2.1.2.1.1 | exact absurd hs_ hk_.2.2.1.2.1.2 | exact absurd hs_ hk_.2.2.1.2.2.1 | exact absurd hs_ hk_.2.2.1.2.2.2 | exact absurd hs_ hk_.2.2.2.1.1.1 | exact absurd hs_ hk_.2.2.2.1.1.2 | exact absurd hs_ hk_.2.2.2.1.2.1 | exact absurd hs_ hk_.2.2.2.1.2.2 | exact absurd hs_ hk_.2.2.2.2.1.1 | exact absurd hs_ hk_.2.2.2.2.1.2 | exact absurd hs_ hk_.2.2.2.2.2.1 | exact absurd hs_ hk_.2.2.2.2.2.2))) (fun k_ hk_ => by first | exact ⟨hk_.1.1, hk_.1.2.1, hk_.1.2.2⟩ | (refine ⟨?_, ?_, ?_⟩ <;> with_reducible first | exact hk_.1 | exact hk_.2 | exact hk_.1.1 | exact hk_.1.2 | exact hk_.2.1 | exact hk_.2.2 | exact hk_.1.1.1 | exact hk_.1.1.2 | exact hk_.1.2.1 | exact hk_.1.2.2 | exact hk_.2.1.1 | exact hk_.2.1.2 | exact hk_.2.2.1 | exact hk_.2.2.2 | exact hk_.1.1.1.1 | exact hk_.1.1.1.2 | exact hk_.1.1.2.1 | exact hk_.1.1.2.2 | exact hk_.1.2.1.1 | exact hk_.1.2.1.2 | exact hk_.1.2.2.1 | exact hk_.1.2.2.2 | exact hk_.2.1.1.1 | exact hk_.2.1.1.2 | exact hk_.2.1.2.1 | exact hk_.2.1.2.2 | exact hk_.2.2.1.1 | exact hk_.2.2.1.2 | exact hk_.2.2.2.1 | exact hk_.2.2.2.2 | exact hk_.1.1.1.1.1 | exact hk_.1.1.1.1.2 | exact hk_.1.1.1.2.1 | exact hk_.1.1.1.2.2 | exact hk_.1.1.2.1.1 | exact hk_.1.1.2.1.2 | exact hk_.1.1.2.2.1 | exact hk_.1.1.2.2.2 | exact hk_.1.2.1.1.1 | exact hk_.1.2.1.1.2 | exact hk_.1.2.1.2.1 | exact hk_.1.2.1.2.2 | exact hk_.1.2.2.1.1 | exact hk_.1.2.2.1.2 | exact hk_.1.2.2.2.1 | exact hk_.1.2.2.2.2 | exact hk_.2.1.1.1.1 | exact hk_.2.1.1.1.2 | exact hk_.2.1.1.2.1 | exact hk_.2.1.1.2.2 | exact hk_.2.1.2.1.1 | exact hk_.2.1.2.1.2 | exact hk_.2.1.2.2.1 | exact hk_.2.1.2.2.2 | exact hk_.2.2.1.1.1 | exact hk_.2.2.1.1.2 | exact hk_.2.2.1.2.1 | exact hk_.2.2.1.2.2 | exact hk_.2.2.2.1.1 | exact hk_.2.2.2.1.2 | exact hk_.2.2.2.2.1 | exact hk_.2.2.2.2.2 | exact hk_.1.1.1.1.1.1 | exact hk_.1.1.1.1.1.2 | exact hk_.1.1.1.1.2.1 | exact hk_.1.1.1.1.2.2 | exact hk_.1.1.1.2.1.1 | exact hk_.1.1.1.2.1.2 | exact hk_.1.1.1.2.2.1 | exact hk_.1.1.1.2.2.2 | exact hk_.1.1.2.1.1.1 | exact hk_.1.1.2.1.1.2 | exact hk_.1.1.2.1.2.1 | exact hk_.1.1.2.1.2.2 | exact hk_.1.1.2.2.1.1 | exact hk_.1.1.2.2.1.2 | exact hk_.1.1.2.2.2.1 | exact hk_.1.1.2.2.2.2 | exact hk_.1.2.1.1.1.1 | exact hk_.1.2.1.1.1.2 | exact hk_.1.2.1.1.2.1 | exact hk_.1.2.1.1.2.2 | exact hk_.1.2.1.2.1.1 | exact hk_.1.2.1.2.1.2 | exact hk_.1.2.1.2.2.1 | exact hk_.1.2.1.2.2.2 | exact hk_.1.2.2.1.1.1 | exact hk_.1.2.2.1.1.2 | exact hk_.1.2.2.1.2.1 | exact hk_.1.2.2.1.2.2 | exact hk_.1.2.2.2.1.1 | exact hk_.1.2.2.2.1.2 | exact hk_.1.2.2.2.2.1 | exact hk_.1.2.2.2.2.2 | exact hk_.2.1.1.1.1.1 | exact hk_.2.1.1.1.1.2 | exact hk_.2.1.1.1.2.1 | exact hk_.2.1.1.1.2.2 | exact hk_.2.1.1.2.1.1 | exact hk_.2.1.1.2.1.2 | exact hk_.2.1.1.2.2.1 | exact hk_.2.1.1.2.2.2 | exact hk_.2.1.2.1.1.1 | exact hk_.2.1.2.1.1.2 | exact hk_.2.1.2.1.2.1 | exact hk_.2.1.2.1.2.2 | exact hk_.2.1.2.2.1.1 | exact hk_.2.1.2.2.1.2 | exact hk_.2.1.2.2.2.1 | exact hk_.2.1.2.2.2.2 | exact hk_.2.2.1.1.1.1 | exact hk_.2.2.1.1.1.2 | exact hk_.2.2.1.1.2.1 | exact hk_.2.2.1.1.2.2 | exact hk_.2.2.1.2.1.1 | exact hk_.2.2.1.2.1.2 | exact hk_.2.2.1.2.2.1 | exact hk_.2.2.1.2.2.2 | exact hk_.2.2.2.1.1.1 | exact hk_.2.2.2.1.1.2 | exact hk_.2.2.2.1.2.1 | exact hk_.2.2.2.1.2.2 | exact hk_.2.2.2.2.1.1 | exact hk_.2.2.2.2.1.2 | exact hk_.2.2.2.2.2.1 | exact hk_.2.2.2.2.2.2))); replace HO_5027001 := aQ (Kd.R_mono (ok' := fun k_ => some k_ ≠ (v5014 : Value).ownBlock ∧ some k_ ≠ (.slice Ao108 t5027.length co108 : Value).ownBlock ∧ some k_ ≠ (.slice Ao46 t5043.length co46 : Value).ownBlock) (Kd.R_keptB (HO_5027001.out) hkp (fun k_ hk_ hs_ => by first | exact (hk_.2.1) hs_ | (with_reducible first | exact absurd hs_ hk_.1 | exact absurd hs_ hk_.2 | exact absurd hs_ hk_.1.1 | exact absurd hs_ hk_.1.2 | exact absurd hs_ hk_.2.1 | exact absurd hs_ hk_.2.2 | exact absurd hs_ hk_.1.1.1 | exact absurd hs_ hk_.1.1.2 | exact absurd hs_ hk_.1.2.1 | exact absurd hs_ hk_.1.2.2 | exact absurd hs_ hk_.2.1.1 | exact absurd hs_ hk_.2.1.2 | exact absurd hs_ hk_.2.2.1 | exact absurd hs_ hk_.2.2.2 | exact absurd hs_ hk_.1.1.1.1 | exact absurd hs_ hk_.1.1.1.2 | exact absurd hs_ hk_.1.1.2.1 | exact absurd hs_ hk_.1.1.2.2 | exact absurd hs_ hk_.1.2.1.1 | exact absurd hs_ hk_.1.2.1.2 | exact absurd hs_ hk_.1.2.2.1 | exact absurd hs_ hk_.1.2.2.2 | exact absurd hs_ hk_.2.1.1.1 | exact absurd hs_ hk_.2.1.1.2 | exact absurd hs_ hk_.2.1.2.1 | exact absurd hs_ hk_.2.1.2.2 | exact absurd hs_ hk_.2.2.1.1 | exact absurd hs_ hk_.2.2.1.2 | exact absurd hs_ hk_.2.2.2.1 | exact absurd hs_ hk_.2.2.2.2 | exact absurd hs_ hk_.1.1.1.1.1 | exact absurd hs_ hk_.1.1.1.1.2 | exact absurd hs_ hk_.1.1.1.2.1 | exact absurd hs_ hk_.1.1.1.2.2 | exact absurd hs_ hk_.1.1.2.1.1 | exact absurd hs_ hk_.1.1.2.1.2 | exact absurd hs_ hk_.1.1.2.2.1 | exact absurd hs_ hk_.1.1.2.2.2 | exact absurd hs_ hk_.1.2.1.1.1 | exact absurd hs_ hk_.1.2.1.1.2 | exact absurd hs_ hk_.1.2.1.2.1 | exact absurd hs_ hk_.1.2.1.2.2 | exact absurd hs_ hk_.1.2.2.1.1 | exact absurd hs_ hk_.1.2.2.1.2 | exact absurd hs_ hk_.1.2.2.2.1 | exact absurd hs_ hk_.1.2.2.2.2 | exact absurd hs_ hk_.2.1.1.1.1 | exact absurd hs_ hk_.2.1.1.1.2 | exact absurd hs_ hk_.2.1.1.2.1 | exact absurd hs_ hk_.2.1.1.2.2 | exact absurd hs_ hk_.2.1.2.1.1 | exact absurd hs_ hk_.2.1.2.1.2 | exact absurd hs_ hk_.2.1.2.2.1 | exact absurd hs_ hk_.2.1.2.2.2 | exact absurd hs_ hk_.2.2.1.1.1 | exact absurd hs_ hk_.2.2.1.1.2 | exact absurd hs_ hk_.2.2.1.2.1 | exact absurd hs_ hk_.2.2.1.2.2 | exact absurd hs_ hk_.2.2.2.1.1 | exact absurd hs_ hk_.2.2.2.1.2 | exact absurd hs_ hk_.2.2.2.2.1 | exact absurd hs_ hk_.2.2.2.2.2 | exact absurd hs_ hk_.1.1.1.1.1.1 | exact absurd hs_ hk_.1.1.1.1.1.2 | exact absurd hs_ hk_.1.1.1.1.2.1 | exact absurd hs_ hk_.1.1.1.1.2.2 | exact absurd hs_ hk_.1.1.1.2.1.1 | exact absurd hs_ hk_.1.1.1.2.1.2 | exact absurd hs_ hk_.1.1.1.2.2.1 | exact absurd hs_ hk_.1.1.1.2.2.2 | exact absurd hs_ hk_.1.1.2.1.1.1 | exact absurd hs_ hk_.1.1.2.1.1.2 | exact absurd hs_ hk_.1.1.2.1.2.1 | exact absurd hs_ hk_.1.1.2.1.2.2 | exact absurd hs_ hk_.1.1.2.2.1.1 | exact absurd hs_ hk_.1.1.2.2.1.2 | exact absurd hs_ hk_.1.1.2.2.2.1 | exact absurd hs_ hk_.1.1.2.2.2.2 | exact absurd hs_ hk_.1.2.1.1.1.1 | exact absurd hs_ hk_.1.2.1.1.1.2 | exact absurd hs_ hk_.1.2.1.1.2.1 | exact absurd hs_ hk_.1.2.1.1.2.2 | exact absurd hs_ hk_.1.2.1.2.1.1 | exact absurd hs_ hk_.1.2.1.2.1.2 | exact absurd hs_ hk_.1.2.1.2.2.1 | exact absurd hs_ hk_.1.2.1.2.2.2 | exact absurd hs_ hk_.1.2.2.1.1.1 | exact absurd hs_ hk_.1.2.2.1.1.2 | exact absurd hs_ hk_.1.2.2.1.2.1 | exact absurd hs_ hk_.1.2.2.1.2.2 | exact absurd hs_ hk_.1.2.2.2.1.1 | exact absurd hs_ hk_.1.2.2.2.1.2 | exact absurd hs_ hk_.1.2.2.2.2.1 | exact absurd hs_ hk_.1.2.2.2.2.2 | exact absurd hs_ hk_.2.1.1.1.1.1 | exact absurd hs_ hk_.2.1.1.1.1.2 | exact absurd hs_ hk_.2.1.1.1.2.1 | exact absurd hs_ hk_.2.1.1.1.2.2 | exact absurd hs_ hk_.2.1.1.2.1.1 | exact absurd hs_ hk_.2.1.1.2.1.2 | exact absurd hs_ hk_.2.1.1.2.2.1 | exact absurd hs_ hk_.2.1.1.2.2.2 | exact absurd hs_ hk_.2.1.2.1.1.1 | exact absurd hs_ hk_.2.1.2.1.1.2 | exact absurd hs_ hk_.2.1.2.1.2.1 | exact absurd hs_ hk_.2.1.2.1.2.2 | exact absurd hs_ hk_.2.1.2.2.1.1 | exact absurd hs_ hk_.2.1.2.2.1.2 | exact absurd hs_ hk_.2.1.2.2.2.1 | exact absurd hs_ hk_.2.1.2.2.2.2 | exact absurd hs_ hk_.2.2.1.1.1.1 | exact absurd hs_ hk_.2.2.1.1.1.2 | exact absurd hs_ hk_.2.2.1.1.2.1 | exact absurd hs_ hk_.2.2.1.1.2.2 | exact absurd hs_ hk_.2.2.1.2.1.1 | exact absurd hs_ hk_.2.2.1.2.1.2 | exact absurd hs_ hk_.2.2.1.2.2.1 | exact absurd hs_ hk_.2.2.1.2.2.2 | exact absurd hs_ hk_.2.2.2.1.1.1 | exact absurd hs_ hk_.2.2.2.1.1.2 | exact absurd hs_ hk_.2.2.2.1.2.1 | exact absurd hs_ hk_.2.2.2.1.2.2 | exact absurd hs_ hk_.2.2.2.2.1.1 | exact absurd hs_ hk_.2.2.2.2.1.2 | exact absurd hs_ hk_.2.2.2.2.2.1 | exact absurd hs_ hk_.2.2.2.2.2.2))) (fun k_ hk_ => by first | exact ⟨hk_.1.1, hk_.1.2.1, hk_.1.2.2⟩ | (refine ⟨?_, ?_, ?_⟩ <;> with_reducible first | exact hk_.1 | exact hk_.2 | exact hk_.1.1 | exact hk_.1.2 | exact hk_.2.1 | exact hk_.2.2 | exact hk_.1.1.1 | exact hk_.1.1.2 | exact hk_.1.2.1 | exact hk_.1.2.2 | exact hk_.2.1.1 | exact hk_.2.1.2 | exact hk_.2.2.1 | exact hk_.2.2.2 | exact hk_.1.1.1.1 | exact hk_.1.1.1.2 | exact hk_.1.1.2.1 | exact hk_.1.1.2.2 | exact hk_.1.2.1.1 | exact hk_.1.2.1.2 | exact hk_.1.2.2.1 | exact hk_.1.2.2.2 | exact hk_.2.1.1.1 | exact hk_.2.1.1.2 | exact hk_.2.1.2.1 | exact hk_.2.1.2.2 | exact hk_.2.2.1.1 | exact hk_.2.2.1.2 | exact hk_.2.2.2.1 | exact hk_.2.2.2.2 | exact hk_.1.1.1.1.1 | exact hk_.1.1.1.1.2 | exact hk_.1.1.1.2.1 | exact hk_.1.1.1.2.2 | exact hk_.1.1.2.1.1 | exact hk_.1.1.2.1.2 | exact hk_.1.1.2.2.1 | exact hk_.1.1.2.2.2 | exact hk_.1.2.1.1.1 | exact hk_.1.2.1.1.2 | exact hk_.1.2.1.2.1 | exact hk_.1.2.1.2.2 | exact hk_.1.2.2.1.1 | exact hk_.1.2.2.1.2 | exact hk_.1.2.2.2.1 | exact hk_.1.2.2.2.2 | exact hk_.2.1.1.1.1 | exact hk_.2.1.1.1.2 | exact hk_.2.1.1.2.1 | exact hk_.2.1.1.2.2 | exact hk_.2.1.2.1.1 | exact hk_.2.1.2.1.2 | exact hk_.2.1.2.2.1 | exact hk_.2.1.2.2.2 | exact hk_.2.2.1.1.1 | exact hk_.2.2.1.1.2 | exact hk_.2.2.1.2.1 | exact hk_.2.2.1.2.2 | exact hk_.2.2.2.1.1 | exact hk_.2.2.2.1.2 | exact hk_.2.2.2.2.1 | exact hk_.2.2.2.2.2 | exact hk_.1.1.1.1.1.1 | exact hk_.1.1.1.1.1.2 | exact hk_.1.1.1.1.2.1 | exact hk_.1.1.1.1.2.2 | exact hk_.1.1.1.2.1.1 | exact hk_.1.1.1.2.1.2 | exact hk_.1.1.1.2.2.1 | exact hk_.1.1.1.2.2.2 | exact hk_.1.1.2.1.1.1 | exact hk_.1.1.2.1.1.2 | exact hk_.1.1.2.1.2.1 | exact hk_.1.1.2.1.2.2 | exact hk_.1.1.2.2.1.1 | exact hk_.1.1.2.2.1.2 | exact hk_.1.1.2.2.2.1 | exact hk_.1.1.2.2.2.2 | exact hk_.1.2.1.1.1.1 | exact hk_.1.2.1.1.1.2 | exact hk_.1.2.1.1.2.1 | exact hk_.1.2.1.1.2.2 | exact hk_.1.2.1.2.1.1 | exact hk_.1.2.1.2.1.2 | exact hk_.1.2.1.2.2.1 | exact hk_.1.2.1.2.2.2 | exact hk_.1.2.2.1.1.1 | exact hk_.1.2.2.1.1.2 | exact hk_.1.2.2.1.2.1 | exact hk_.1.2.2.1.2.2 | exact hk_.1.2.2.2.1.1 | exact hk_.1.2.2.2.1.2 | exact hk_.1.2.2.2.2.1 | exact hk_.1.2.2.2.2.2 | exact hk_.2.1.1.1.1.1 | exact hk_.2.1.1.1.1.2 | exact hk_.2.1.1.1.2.1 | exact hk_.2.1.1.1.2.2 | exact hk_.2.1.1.2.1.1 | exact hk_.2.1.1.2.1.2 | exact hk_.2.1.1.2.2.1 | exact hk_.2.1.1.2.2.2 | exact hk_.2.1.2.1.1.1 | exact hk_.2.1.2.1.1.2 | exact hk_.2.1.2.1.2.1 | exact hk_.2.1.2.1.2.2 | exact hk_.2.1.2.2.1.1 | exact hk_.2.1.2.2.1.2 | exact hk_.2.1.2.2.2.1 | exact hk_.2.1.2.2.2.2 | exact hk_.2.2.1.1.1.1 | exact hk_.2.2.1.1.1.2 | exact hk_.2.2.1.1.2.1 | exact hk_.2.2.1.1.2.2 | exact hk_.2.2.1.2.1.1 | exact hk_.2.2.1.2.1.2 | exact hk_.2.2.1.2.2.1 | exact hk_.2.2.1.2.2.2 | exact hk_.2.2.2.1.1.1 | exact hk_.2.2.2.1.1.2 | exact hk_.2.2.2.1.2.1 | exact hk_.2.2.2.1.2.2 | exact hk_.2.2.2.2.1.1 | exact hk_.2.2.2.2.1.2 | exact hk_.2.2.2.2.2.1 | exact hk_.2.2.2.2.2.2))); replace BK5001 := aQ (blk_kept (pk BK5001.out) hkp (fun hs_ => (fun e_ => (Kd.R_ne HO_12.out BK5001.out (by decide)) e_) hs_)); replace BK5002 := aQ (blk_kept (pk BK5002.out) hkp (fun hs_ => (fun e_ => (Kd.R_ne HO_12.out BK5002.out (by decide)) e_) hs_)); replace BK5021 := aQ (blk_kept (pk BK5021.out) hkp (fun hs_ => (fun e_ => (Kd.R_ne HO_12.out BK5021.out (by decide)) e_) hs_)); replace BK5026 := aQ (blk_kept (pk BK5026.out) hkp (fun hs_ => (fun e_ => (Kd.R_ne HO_12.out BK5026.out (by decide)) e_) hs_)); replace HO_12 := aQ (Kd.R_reok rfl hy0 (fun k_ e_ => HO_12.out.1 k_ e_)); replace HB := aQ (hb); (try clear hb); (try clear hkp); (try clear hy0)) | ((with_reducible refine gate_callee (f := 27) rfl ?_); refine goesL_ (some 92) rfl rfl Try.func27 (by kernel_rfl) rfl #[.slice Ao108 t5048.length co108, .int .i64 1] rfl (by (try simp only [List.map_toArray, List.map_cons, List.map_nil]); first | done | (rw [show t5048.length = t5027.length from (Kd.R_reads' HO_12.out).1.symm] <;> rfl) | rfl | (simp only [List.length_drop, List.length_take]; rfl)) ?_; (with_reducible refine (laws_heldIntS.calls kj71 _ _ t5048 1 t5049 _ ?side1 ?side2 A99.out).mono ?_); (case side1 => repeat (first | exact (Kd.R_reads' HO_12.out).2.2 | (with_reducible refine Kd.C_alloc ?_ _) | (with_reducible refine Kd.C_drewN ?_ _) | (with_reducible refine Kd.C_drew ?_))); (case side2 => rw [show t5048.length = t5027.length from (Kd.R_reads' HO_12.out).1.symm]; exact (Kd.R_reads' HO_12.out).2.1); rintro e w' ⟨rfl, ⟨nd, rfl⟩⟩; refine ⟨_, rfl, ?_⟩))
             (try (rw [drewN_self w109]; generalize hq_ : World.drewN w109 _ = w109; have n0_ : Aside0 (Kd.R (Kd.int .i64) 3 w109 w.heap.size (fun k_ => some k_ ≠ (.slice Ao46 t5043.length co46 : Value).ownBlock ∧ some k_ ≠ (.slice Ao54 t5045.length co54 : Value).ownBlock ∧ some k_ ≠ (v5014 : Value).ownBlock) (.slice Ao108 t5027.length co108) t5048) := ⟨by rw [← hq_]; exact (by (with_reducible repeat (first | apply Kd.R_alloc | apply Kd.R_drewN | apply Kd.R_drew)); exact Kd.R_mono HO_12.out (fun _ hk => ⟨hk.2.1, ⟨hk.2.2, hk.1⟩⟩))⟩; have n1_ : Aside0 (Kd.R (Kd.int .i64) 3 w109 w.heap.size (fun k_ => some k_ ≠ (.slice Ao108 t5027.length co108 : Value).ownBlock ∧ some k_ ≠ (.slice Ao54 t5045.length co54 : Value).ownBlock ∧ some k_ ≠ (v5014 : Value).ownBlock) (.slice Ao46 t5043.length co46) t5043) := ⟨by rw [← hq_]; exact (by (with_reducible repeat (first | apply Kd.R_alloc | apply Kd.R_drewN | apply Kd.R_drew)); exact Kd.R_mono HO_5022001.out (fun _ hk => ⟨hk.2.1, ⟨hk.2.2, hk.1⟩⟩))⟩; have n2_ : Aside0 (Kd.R (Kd.int .i64) 3 w109 w.heap.size (fun k_ => some k_ ≠ (.slice Ao108 t5027.length co108 : Value).ownBlock ∧ some k_ ≠ (.slice Ao46 t5043.length co46 : Value).ownBlock ∧ some k_ ≠ (v5014 : Value).ownBlock) (.slice Ao54 t5045.length co54) t5045) := ⟨by rw [← hq_]; exact (by (with_reducible repeat (first | apply Kd.R_alloc | apply Kd.R_drewN | apply Kd.R_drew)); exact Kd.R_mono HO_5027001.out (fun _ hk => ⟨hk.2.1, ⟨hk.2.2, hk.1⟩⟩))⟩; have n3_ : Aside0 (Kd.R (Kd.int .i64) 3 w109 w.heap.size (fun k_ => some k_ ≠ (.slice Ao108 t5027.length co108 : Value).ownBlock ∧ some k_ ≠ (.slice Ao46 t5043.length co46 : Value).ownBlock ∧ some k_ ≠ (.slice Ao54 t5045.length co54 : Value).ownBlock) v5014 t5013) := ⟨by rw [← hq_]; exact (pR HO_8.out)⟩; have n4_ : Aside0 (w109.heap[gb5001]? = some (.cells #[.int .i64 a0_0, .slice A0_1 l0_1.length c0_1] 24 (0, 0))) := ⟨by rw [← hq_]; exact (pk BK5001.out)⟩; have n5_ : Aside0 (w109.heap[gb5002]? = some (.cells #[.int .i64 a1_0, .slice A1_1 l1_1.length c1_1] 24 (0, 0))) := ⟨by rw [← hq_]; exact (pk BK5002.out)⟩; have n6_ : Aside0 (w109.heap[gb5021]? = some (.cells #[.int .i64 t5017, .slice Ao46 t5043.length co46] 26 (0, 0))) := ⟨by rw [← hq_]; exact (pk BK5021.out)⟩; have n7_ : Aside0 (w109.heap[gb5026]? = some (.cells #[.int .i64 t5022, .slice Ao54 t5045.length co54] 26 (0, 0))) := ⟨by rw [← hq_]; exact (pk BK5026.out)⟩; have n8_ : Aside0 (Below w.heap.size w w109) := ⟨by rw [← hq_]; exact (pB4 HB.out GE5001.out GE5002.out GE5021.out GE5026.out)⟩; clear HO_12 HO_5022001 HO_5027001 HO_8 BK5001 BK5002 BK5021 BK5026 HB hq_; have HO_12 := n0_; have HO_5022001 := n1_; have HO_5027001 := n2_; have HO_8 := n3_; have BK5001 := n4_; have BK5002 := n5_; have BK5021 := n6_; have BK5026 := n7_; have HB := n8_; clear n0_ n1_ n2_ n3_ n4_ n5_ n6_ n7_ n8_))
             have n0_ := aQ (Kd.R_drew HO_8.out)
             have n1_ := aQ (Kd.R_drew HO_12.out)
             have n2_ := aQ (Kd.R_drew HO_5022001.out)
             have n3_ := aQ (Kd.R_drew HO_5027001.out)
             have n4_ := aQ (blk_drew BK5001.out)
             have n5_ := aQ (blk_drew BK5002.out)
             have n6_ := aQ (blk_drew BK5021.out)
             have n7_ := aQ (blk_drew BK5026.out)
             have n8_ := aQ (below_drew1 HB.out)
             clear HO_8
             clear HO_12
             clear HO_5022001
             clear HO_5027001
             clear BK5001
             clear BK5002
             clear BK5021
             clear BK5026
             clear HB
             have HO_8 := n0_
             have HO_12 := n1_
             have HO_5022001 := n2_
             have HO_5027001 := n3_
             have BK5001 := n4_
             have BK5002 := n5_
             have BK5021 := n6_
             have BK5026 := n7_
             have HB := n8_
             clear n0_ n1_ n2_ n3_ n4_ n5_ n6_ n7_ n8_
             refine start_ (n := 11) (S := fun w' => w'.cell? ⟨gb5001, 0, none⟩ = some (.int .i64 a0_0) ∧ w'.cell? ⟨gb5001, 1, none⟩ = some (.slice A0_1 l0_1.length c0_1) ∧ w'.cell? ⟨gb5002, 0, none⟩ = some (.int .i64 a1_0) ∧ w'.cell? ⟨gb5002, 1, none⟩ = some (.slice A1_1 l1_1.length c1_1)) (ds := []) #[false, false, false, false, false, false, false, false, false, false, false] (by kernel_rfl) rfl rfl ⟨(blk_cell BK5001.out 0).trans rfl, (blk_cell BK5001.out 1).trans rfl, (blk_cell BK5002.out 0).trans rfl, (blk_cell BK5002.out 1).trans rfl⟩ (fun hHeld => ?_); refine with_tabW laws_FnExactAugmentingPath.tab31 laws_FnExactAugmentingPath.bits31 (fun HT_ HW_ => ?_)
             generalize w109.drew = w110 at HO_8 HO_12 HO_5022001 HO_5027001 BK5001 BK5002 BK5021 BK5026 HB hHeld ⊢
             refine puA (i := 4) (N := some 103) HT_ (h := ?_)
             refine taA4 (i := 0) (N := some 99) HT_ HW_ hHeld (h := ?_)
             refine taA4 (i := 2) (N := some 101) HT_ HW_ hHeld (h := ?_)
             refine onA (i := 1) (N := some 100) HT_ (h := fun K hK => ?_)
             refine goes_ Try.func18 (by kernel_rfl) rfl #[.agg #[.int .i64 a0_0, .slice A0_1 l0_1.length c0_1]] (by rfl) rfl rfl lm ?_
             with_reducible refine (laws_toMatroid.calls kj71 a0_0 _ _ l0_1 t5050 t5051 _ ?side1 ?side2 A104.out).mono ?_
             (case side1 => exact pC (Kd.C_below HR0_1.out HB.out))
             (case side2 => exact HC0_1.out)
             rintro e w111 ⟨v5052, rfl, ho0, hb⟩
             refine ⟨_, rfl, ?_⟩
             have n0_ := aQ (Kd.R_elder' (pR HO_8.out) (Kd.R_base ho0) hb)
             have n1_ := aQ (Kd.R_elder' (pR HO_12.out) (Kd.R_base ho0) hb)
             have n2_ := aQ (Kd.R_elder' (pR HO_5022001.out) (Kd.R_base ho0) hb)
             have n3_ := aQ (Kd.R_elder' (pR HO_5027001.out) (Kd.R_base ho0) hb)
             have n4_ := aQ (Kd.R_lower (Kd.R_new' (Kd.R_new' (Kd.R_new' (Kd.R_new' ho0 (Kd.R_lt (pR HO_8.out))) (Kd.R_lt (pR HO_12.out))) (Kd.R_lt (pR HO_5022001.out))) (Kd.R_lt (pR HO_5027001.out))) (below_size (pB4 HB.out GE5001.out GE5002.out GE5021.out GE5026.out)))
             have n5_ := aQ (blk_below (g := gb5001) (o := .cells #[.int .i64 a0_0, .slice A0_1 l0_1.length c0_1] 24 (0, 0)) (pk BK5001.out) hb)
             have n6_ := aQ (blk_below (g := gb5002) (o := .cells #[.int .i64 a1_0, .slice A1_1 l1_1.length c1_1] 24 (0, 0)) (pk BK5002.out) hb)
             have n7_ := aQ (blk_below (g := gb5021) (o := .cells #[.int .i64 t5017, .slice Ao46 t5043.length co46] 26 (0, 0)) (pk BK5021.out) hb)
             have n8_ := aQ (blk_below (g := gb5026) (o := .cells #[.int .i64 t5022, .slice Ao54 t5045.length co54] 26 (0, 0)) (pk BK5026.out) hb)
             have n9_ := aQ (below_step (pB4 HB.out GE5001.out GE5002.out GE5021.out GE5026.out) hb)
             clear HO_8
             clear HO_12
             clear HO_5022001
             clear HO_5027001
             clear BK5001
             clear BK5002
             clear BK5021
             clear BK5026
             clear HB
             have HO_8 := n0_
             have HO_12 := n1_
             have HO_5022001 := n2_
             have HO_5027001 := n3_
             have HO5053 := n4_
             have BK5001 := n5_
             have BK5002 := n6_
             have BK5021 := n7_
             have BK5026 := n8_
             have HB := n9_
             clear n0_ n1_ n2_ n3_ n4_ n5_ n6_ n7_ n8_ n9_
             (try clear hb)
             (try clear hb2)
             (try clear hk)
             (try clear hi)
             (try clear ho0)
             refine hK.out _ _ ⟨(blk_cell BK5001.out 0).trans rfl, (blk_cell BK5001.out 1).trans rfl, (blk_cell BK5002.out 0).trans rfl, (blk_cell BK5002.out 1).trans rfl⟩ (fun hHeld => ?_)
             clear hK K
             refine noA (h := ?_)
             refine onA (i := 3) (N := some 102) HT_ (h := fun K hK => ?_)
             refine goes_ Try.func18 (by kernel_rfl) rfl #[.agg #[.int .i64 a1_0, .slice A1_1 l1_1.length c1_1]] (by rfl) rfl rfl lm ?_
             with_reducible refine (laws_toMatroid.calls kj71 a1_0 _ _ l1_1 t5054 t5055 _ ?side1 ?side2 A105.out).mono ?_
             (case side1 => exact pC (Kd.C_below HR1_1.out HB.out))
             (case side2 => exact HC1_1.out)
             rintro e w112 ⟨v5056, rfl, ho0, hb⟩
             refine ⟨_, rfl, ?_⟩
             have n0_ := aQ (Kd.R_elder' (pR HO_8.out) (Kd.R_base ho0) hb)
             have n1_ := aQ (Kd.R_elder' (pR HO_12.out) (Kd.R_base ho0) hb)
             have n2_ := aQ (Kd.R_elder' (pR HO_5022001.out) (Kd.R_base ho0) hb)
             have n3_ := aQ (Kd.R_elder' (pR HO_5027001.out) (Kd.R_base ho0) hb)
             have n4_ := aQ (Kd.R_elder' (pR HO5053.out) (Kd.R_base ho0) hb)
             have n5_ := aQ (Kd.R_lower (Kd.R_new' (Kd.R_new' (Kd.R_new' (Kd.R_new' (Kd.R_new' ho0 (Kd.R_lt (pR HO_8.out))) (Kd.R_lt (pR HO_12.out))) (Kd.R_lt (pR HO_5022001.out))) (Kd.R_lt (pR HO_5027001.out))) (Kd.R_lt (pR HO5053.out))) (below_size (pB4 HB.out GE5001.out GE5002.out GE5021.out GE5026.out)))
             have n6_ := aQ (blk_below (g := gb5001) (o := .cells #[.int .i64 a0_0, .slice A0_1 l0_1.length c0_1] 24 (0, 0)) (pk BK5001.out) hb)
             have n7_ := aQ (blk_below (g := gb5002) (o := .cells #[.int .i64 a1_0, .slice A1_1 l1_1.length c1_1] 24 (0, 0)) (pk BK5002.out) hb)
             have n8_ := aQ (blk_below (g := gb5021) (o := .cells #[.int .i64 t5017, .slice Ao46 t5043.length co46] 26 (0, 0)) (pk BK5021.out) hb)
             have n9_ := aQ (blk_below (g := gb5026) (o := .cells #[.int .i64 t5022, .slice Ao54 t5045.length co54] 26 (0, 0)) (pk BK5026.out) hb)
             have n10_ := aQ (below_step (pB4 HB.out GE5001.out GE5002.out GE5021.out GE5026.out) hb)
             clear HO_8
             clear HO_12
             clear HO_5022001
             clear HO_5027001
             clear HO5053
             clear BK5001
             clear BK5002
             clear BK5021
             clear BK5026
             clear HB
             have HO_8 := n0_
             have HO_12 := n1_
             have HO_5022001 := n2_
             have HO_5027001 := n3_
             have HO5053 := n4_
             have HO5057 := n5_
             have BK5001 := n6_
             have BK5002 := n7_
             have BK5021 := n8_
             have BK5026 := n9_
             have HB := n10_
             clear n0_ n1_ n2_ n3_ n4_ n5_ n6_ n7_ n8_ n9_ n10_
             (try clear hb)
             (try clear hb2)
             (try clear hk)
             (try clear hi)
             (try clear ho0)
             obtain ⟨Ao113, co113, eo113⟩ := Kd.R_slice HO5053.out
             (first | subst eo113 | (injection eo113 with f1_ f2_ f3_; have f4_ := f1_.symm; have f5_ := f3_.symm; clear f1_ f2_ f3_; subst f4_; subst f5_))
             obtain ⟨Ao114, co114, eo114⟩ := Kd.R_slice HO5057.out
             (first | subst eo114 | (injection eo114 with f1_ f2_ f3_; have f4_ := f1_.symm; have f5_ := f3_.symm; clear f1_ f2_ f3_; subst f4_; subst f5_))
             refine hK.out _ _ ⟨(blk_cell BK5001.out 0).trans rfl, (blk_cell BK5001.out 1).trans rfl, (blk_cell BK5002.out 0).trans rfl, (blk_cell BK5002.out 1).trans rfl⟩ (fun hHeld => ?_)
             clear hK K
             refine noA (h := ?_)
             refine onA (i := 5) (N := some 104) HT_ (h := fun K hK => ?_)
             refine goes_ Try.func24 (by kernel_rfl) rfl #[.agg #[.int .i64 t5050, .slice Ao113 t5051.length co113], .agg #[.int .i64 t5054, .slice Ao114 t5055.length co114], .int .i64 a2] (by rfl) rfl rfl lm ?_
             with_reducible refine (impl_AugmentingPath.calls kj71 t5050 _ _ t5051 t5054 _ _ t5055 a2 t5058 t5061 _ ?side1 ?side2 ?side3 ?side4 A106.out).mono ?_
             (case side1 => repeat (first | exact (Kd.R_reads' HO5053.out).2.2 | (with_reducible refine Kd.C_alloc ?_ _) | (with_reducible refine Kd.C_drewN ?_ _) | (with_reducible refine Kd.C_drew ?_)))
             (case side2 => exact (Kd.R_reads' HO5053.out).2.1)
             (case side3 => repeat (first | exact (Kd.R_reads' HO5057.out).2.2 | (with_reducible refine Kd.C_alloc ?_ _) | (with_reducible refine Kd.C_drewN ?_ _) | (with_reducible refine Kd.C_drew ?_)))
             (case side4 => exact (Kd.R_reads' HO5057.out).2.1)
             rintro e w115 ⟨v5059, rfl, ho0, hb⟩
             refine ⟨_, rfl, ?_⟩
             have n0_ := aQ (Kd.R_elder' (pR HO_8.out) (Kd.R_base ho0) hb)
             have n1_ := aQ (Kd.R_elder' (pR HO_12.out) (Kd.R_base ho0) hb)
             have n2_ := aQ (Kd.R_elder' (pR HO_5022001.out) (Kd.R_base ho0) hb)
             have n3_ := aQ (Kd.R_elder' (pR HO_5027001.out) (Kd.R_base ho0) hb)
             have n4_ := aQ (Kd.R_elder' (pR HO5053.out) (Kd.R_base ho0) hb)
             have n5_ := aQ (Kd.R_elder' (pR HO5057.out) (Kd.R_base ho0) hb)
             have n6_ := aQ (Kd.R_lower (Kd.R_new' (Kd.R_new' (Kd.R_new' (Kd.R_new' (Kd.R_new' (Kd.R_new' ho0 (Kd.R_lt (pR HO_8.out))) (Kd.R_lt (pR HO_12.out))) (Kd.R_lt (pR HO_5022001.out))) (Kd.R_lt (pR HO_5027001.out))) (Kd.R_lt (pR HO5053.out))) (Kd.R_lt (pR HO5057.out))) (below_size (pB4 HB.out GE5001.out GE5002.out GE5021.out GE5026.out)))
             have n7_ := aQ (blk_below (g := gb5001) (o := .cells #[.int .i64 a0_0, .slice A0_1 l0_1.length c0_1] 24 (0, 0)) (pk BK5001.out) hb)
             have n8_ := aQ (blk_below (g := gb5002) (o := .cells #[.int .i64 a1_0, .slice A1_1 l1_1.length c1_1] 24 (0, 0)) (pk BK5002.out) hb)
             have n9_ := aQ (blk_below (g := gb5021) (o := .cells #[.int .i64 t5017, .slice Ao46 t5043.length co46] 26 (0, 0)) (pk BK5021.out) hb)
             have n10_ := aQ (blk_below (g := gb5026) (o := .cells #[.int .i64 t5022, .slice Ao54 t5045.length co54] 26 (0, 0)) (pk BK5026.out) hb)
             have n11_ := aQ (below_step (pB4 HB.out GE5001.out GE5002.out GE5021.out GE5026.out) hb)
             clear HO_8
             clear HO_12
             clear HO_5022001
             clear HO_5027001
             clear HO5053
             clear HO5057
             clear BK5001
             clear BK5002
             clear BK5021
             clear BK5026
             clear HB
             have HO_8 := n0_
             have HO_12 := n1_
             have HO_5022001 := n2_
             have HO_5027001 := n3_
             have HO5053 := n4_
             have HO5057 := n5_
             have HO5060 := n6_
             have BK5001 := n7_
             have BK5002 := n8_
             have BK5021 := n9_
             have BK5026 := n10_
             have HB := n11_
             clear n0_ n1_ n2_ n3_ n4_ n5_ n6_ n7_ n8_ n9_ n10_ n11_
             (try clear hb)
             (try clear hb2)
             (try clear hk)
             (try clear hi)
             (try clear ho0)
             refine hK.out _ _ ⟨(blk_cell BK5001.out 0).trans rfl, (blk_cell BK5001.out 1).trans rfl, (blk_cell BK5002.out 0).trans rfl, (blk_cell BK5002.out 1).trans rfl⟩ (fun hHeld => ?_)
             clear hK K
             refine noA (h := ?_)
             refine puA (i := 6) (N := some 98) HT_ (h := ?_)
             refine puA (i := 7) (N := some 105) HT_ (h := ?_)
             refine puA (i := 8) (N := some 106) HT_ (h := ?_)
             refine puA (i := 9) (N := some 17) HT_ (h := ?_)
             refine puA (i := 10) (N := some 18) HT_ (h := ?_)
             refine done_ (done_of HT_.out (by kernel_rfl)) ?_
             go_upto_region 32 with (fail)
             go_cut [115] (fun v115 wc => ∃ (kq : Nat) (x115_106 : Bool), v115 = .bool x115_106 ∧ Aside0 (laws_FnExactAugmentingPath.j2 kq t5048 t5047 x115_106 = some true) ∧ Aside0 (kq ≤ kj71) ∧ Aside0 (Kd.R (Kd.int .i64) 3 wc w.heap.size (fun k_ => some k_ ≠ ((.slice Ao46 t5043.length co46) : Value).ownBlock ∧ some k_ ≠ ((.slice Ao54 t5045.length co54) : Value).ownBlock) (.slice Ao108 t5027.length co108) t5048) ∧ Aside0 (Kd.R (Kd.int .i64) 3 wc w.heap.size (fun k_ => some k_ ≠ ((.slice Ao108 t5027.length co108) : Value).ownBlock ∧ some k_ ≠ ((.slice Ao54 t5045.length co54) : Value).ownBlock) (.slice Ao46 t5043.length co46) t5043) ∧ Aside0 (Kd.R (Kd.int .i64) 3 wc w.heap.size (fun k_ => some k_ ≠ ((.slice Ao108 t5027.length co108) : Value).ownBlock ∧ some k_ ≠ ((.slice Ao46 t5043.length co46) : Value).ownBlock) (.slice Ao54 t5045.length co54) t5045) ∧ Aside0 (wc.heap[gb5001]? = some (.cells #[.int .i64 a0_0, (.slice A0_1 l0_1.length c0_1)] 24 (0, 0))) ∧ Aside0 (wc.heap[gb5002]? = some (.cells #[.int .i64 a1_0, (.slice A1_1 l1_1.length c1_1)] 24 (0, 0))) ∧ Aside0 (wc.heap[gb5021]? = some (.cells #[.int .i64 t5017, (.slice Ao46 t5043.length co46)] 26 (0, 0))) ∧ Aside0 (wc.heap[gb5026]? = some (.cells #[.int .i64 t5022, (.slice Ao54 t5045.length co54)] 26 (0, 0))) ∧ Aside0 (Below w.heap.size w wc))
             case first =>
              have H := HC107.out
              clear HC107
              replace H := Option.bind_eq_some_iff.mp H
              obtain ⟨t5062, A1160, H⟩ := H
              replace H : (if t5062 = true then (laws_FnExactAugmentingPath.j2 kj71 t5048 t5047 (t5061 != t5016)) else (laws_FnExactAugmentingPath.j2 kj71 t5048 t5047 true)) = some true := H
              have A116 := aQ A1160
              clear A1160
              by_cases c117 : t5062 = true
              ·subst c117
               have H1 : (laws_FnExactAugmentingPath.j2 kj71 t5048 t5047 (t5061 != t5016)) = some true := by rw [if_pos rfl] at H; exact H
               clear H
               have H := H1
               clear H1
               have H' := aQ H
               clear H
               obtain ⟨Ao118, co118, eo118⟩ := Kd.R_slice HO5060.out
               subst eo118
               obtain ⟨Ao119, co119, eo119⟩ := Kd.R_slice HO_8.out
               subst eo119
               go_wp2_with (first | ((with_reducible refine gate_callee (f := 25) rfl ?_); refine goesL_ (some 109) rfl rfl Try.func25 (by kernel_rfl) rfl #[.slice Ao118 t5058.length co118, .slice Ao119 t5013.length co119] rfl lm ?_; (with_reducible refine (laws_eqIntS.calls kj71 _ _ t5058 _ _ t5013 true _ ?side1 ?side2 ?side3 ?side4 A116.out).mono ?_); (case side1 => repeat (first | exact (Kd.R_reads' HO5060.out).2.2 | (with_reducible refine Kd.C_alloc ?_ _) | (with_reducible refine Kd.C_drewN ?_ _) | (with_reducible refine Kd.C_drew ?_))); (case side2 => exact (Kd.R_reads' HO5060.out).2.1); (case side3 => repeat (first | exact (Kd.R_reads' HO_8.out).2.2 | (with_reducible refine Kd.C_alloc ?_ _) | (with_reducible refine Kd.C_drewN ?_ _) | (with_reducible refine Kd.C_drew ?_))); (case side4 => exact (Kd.R_reads' HO_8.out).2.1); rintro e w' ⟨rfl, ⟨nd, rfl⟩⟩; refine ⟨_, rfl, ?_⟩))
               go_meet
               case rel => exact ⟨_, ((t5061 != t5016)), rs_, H', ⟨by have := HJ25.out; have := HJ71.out; first | omega | exact Nat.le_refl _⟩, ⟨by (try simp only [hl5022001_71]); (try simp only [hl5027001_71]); (with_reducible repeat (first | apply Kd.R_alloc | apply Kd.R_drewN | apply Kd.R_drew)); exact Kd.R_mono HO_12.out (fun _ hk => by first | exact ⟨hk.1.1.1.2.1, hk.1.1.1.2.2⟩ | (refine ⟨?_, ?_⟩ <;> with_reducible first | exact hk.1 | exact hk.2 | exact hk.1.1 | exact hk.1.2 | exact hk.2.1 | exact hk.2.2 | exact hk.1.1.1 | exact hk.1.1.2 | exact hk.1.2.1 | exact hk.1.2.2 | exact hk.2.1.1 | exact hk.2.1.2 | exact hk.2.2.1 | exact hk.2.2.2 | exact hk.1.1.1.1 | exact hk.1.1.1.2 | exact hk.1.1.2.1 | exact hk.1.1.2.2 | exact hk.1.2.1.1 | exact hk.1.2.1.2 | exact hk.1.2.2.1 | exact hk.1.2.2.2 | exact hk.2.1.1.1 | exact hk.2.1.1.2 | exact hk.2.1.2.1 | exact hk.2.1.2.2 | exact hk.2.2.1.1 | exact hk.2.2.1.2 | exact hk.2.2.2.1 | exact hk.2.2.2.2 | exact hk.1.1.1.1.1 | exact hk.1.1.1.1.2 | exact hk.1.1.1.2.1 | exact hk.1.1.1.2.2 | exact hk.1.1.2.1.1 | exact hk.1.1.2.1.2 | exact hk.1.1.2.2.1 | exact hk.1.1.2.2.2 | exact hk.1.2.1.1.1 | exact hk.1.2.1.1.2 | exact hk.1.2.1.2.1 | exact hk.1.2.1.2.2 | exact hk.1.2.2.1.1 | exact hk.1.2.2.1.2 | exact hk.1.2.2.2.1 | exact hk.1.2.2.2.2 | exact hk.2.1.1.1.1 | exact hk.2.1.1.1.2 | exact hk.2.1.1.2.1 | exact hk.2.1.1.2.2 | exact hk.2.1.2.1.1 | exact hk.2.1.2.1.2 | exact hk.2.1.2.2.1 | exact hk.2.1.2.2.2 | exact hk.2.2.1.1.1 | exact hk.2.2.1.1.2 | exact hk.2.2.1.2.1 | exact hk.2.2.1.2.2 | exact hk.2.2.2.1.1 | exact hk.2.2.2.1.2 | exact hk.2.2.2.2.1 | exact hk.2.2.2.2.2 | exact hk.1.1.1.1.1.1 | exact hk.1.1.1.1.1.2 | exact hk.1.1.1.1.2.1 | exact hk.1.1.1.1.2.2 | exact hk.1.1.1.2.1.1 | exact hk.1.1.1.2.1.2 | exact hk.1.1.1.2.2.1 | exact hk.1.1.1.2.2.2 | exact hk.1.1.2.1.1.1 | exact hk.1.1.2.1.1.2 | exact hk.1.1.2.1.2.1 | exact hk.1.1.2.1.2.2 | exact hk.1.1.2.2.1.1 | exact hk.1.1.2.2.1.2 | exact hk.1.1.2.2.2.1 | exact hk.1.1.2.2.2.2 | exact hk.1.2.1.1.1.1 | exact hk.1.2.1.1.1.2 | exact hk.1.2.1.1.2.1 | exact hk.1.2.1.1.2.2 | exact hk.1.2.1.2.1.1 | exact hk.1.2.1.2.1.2 | exact hk.1.2.1.2.2.1 | exact hk.1.2.1.2.2.2 | exact hk.1.2.2.1.1.1 | exact hk.1.2.2.1.1.2 | exact hk.1.2.2.1.2.1 | exact hk.1.2.2.1.2.2 | exact hk.1.2.2.2.1.1 | exact hk.1.2.2.2.1.2 | exact hk.1.2.2.2.2.1 | exact hk.1.2.2.2.2.2 | exact hk.2.1.1.1.1.1 | exact hk.2.1.1.1.1.2 | exact hk.2.1.1.1.2.1 | exact hk.2.1.1.1.2.2 | exact hk.2.1.1.2.1.1 | exact hk.2.1.1.2.1.2 | exact hk.2.1.1.2.2.1 | exact hk.2.1.1.2.2.2 | exact hk.2.1.2.1.1.1 | exact hk.2.1.2.1.1.2 | exact hk.2.1.2.1.2.1 | exact hk.2.1.2.1.2.2 | exact hk.2.1.2.2.1.1 | exact hk.2.1.2.2.1.2 | exact hk.2.1.2.2.2.1 | exact hk.2.1.2.2.2.2 | exact hk.2.2.1.1.1.1 | exact hk.2.2.1.1.1.2 | exact hk.2.2.1.1.2.1 | exact hk.2.2.1.1.2.2 | exact hk.2.2.1.2.1.1 | exact hk.2.2.1.2.1.2 | exact hk.2.2.1.2.2.1 | exact hk.2.2.1.2.2.2 | exact hk.2.2.2.1.1.1 | exact hk.2.2.2.1.1.2 | exact hk.2.2.2.1.2.1 | exact hk.2.2.2.1.2.2 | exact hk.2.2.2.2.1.1 | exact hk.2.2.2.2.1.2 | exact hk.2.2.2.2.2.1 | exact hk.2.2.2.2.2.2))⟩, ⟨by (try simp only [hl5022001_71]); (try simp only [hl5027001_71]); (with_reducible repeat (first | apply Kd.R_alloc | apply Kd.R_drewN | apply Kd.R_drew)); exact Kd.R_mono HO_5022001.out (fun _ hk => by first | exact ⟨hk.1.1.1.2.1, hk.1.1.1.2.2⟩ | (refine ⟨?_, ?_⟩ <;> with_reducible first | exact hk.1 | exact hk.2 | exact hk.1.1 | exact hk.1.2 | exact hk.2.1 | exact hk.2.2 | exact hk.1.1.1 | exact hk.1.1.2 | exact hk.1.2.1 | exact hk.1.2.2 | exact hk.2.1.1 | exact hk.2.1.2 | exact hk.2.2.1 | exact hk.2.2.2 | exact hk.1.1.1.1 | exact hk.1.1.1.2 | exact hk.1.1.2.1 | exact hk.1.1.2.2 | exact hk.1.2.1.1 | exact hk.1.2.1.2 | exact hk.1.2.2.1 | exact hk.1.2.2.2 | exact hk.2.1.1.1 | exact hk.2.1.1.2 | exact hk.2.1.2.1 | exact hk.2.1.2.2 | exact hk.2.2.1.1 | exact hk.2.2.1.2 | exact hk.2.2.2.1 | exact hk.2.2.2.2 | exact hk.1.1.1.1.1 | exact hk.1.1.1.1.2 | exact hk.1.1.1.2.1 | exact hk.1.1.1.2.2 | exact hk.1.1.2.1.1 | exact hk.1.1.2.1.2 | exact hk.1.1.2.2.1 | exact hk.1.1.2.2.2 | exact hk.1.2.1.1.1 | exact hk.1.2.1.1.2 | exact hk.1.2.1.2.1 | exact hk.1.2.1.2.2 | exact hk.1.2.2.1.1 | exact hk.1.2.2.1.2 | exact hk.1.2.2.2.1 | exact hk.1.2.2.2.2 | exact hk.2.1.1.1.1 | exact hk.2.1.1.1.2 | exact hk.2.1.1.2.1 | exact hk.2.1.1.2.2 | exact hk.2.1.2.1.1 | exact hk.2.1.2.1.2 | exact hk.2.1.2.2.1 | exact hk.2.1.2.2.2 | exact hk.2.2.1.1.1 | exact hk.2.2.1.1.2 | exact hk.2.2.1.2.1 | exact hk.2.2.1.2.2 | exact hk.2.2.2.1.1 | exact hk.2.2.2.1.2 | exact hk.2.2.2.2.1 | exact hk.2.2.2.2.2 | exact hk.1.1.1.1.1.1 | exact hk.1.1.1.1.1.2 | exact hk.1.1.1.1.2.1 | exact hk.1.1.1.1.2.2 | exact hk.1.1.1.2.1.1 | exact hk.1.1.1.2.1.2 | exact hk.1.1.1.2.2.1 | exact hk.1.1.1.2.2.2 | exact hk.1.1.2.1.1.1 | exact hk.1.1.2.1.1.2 | exact hk.1.1.2.1.2.1 | exact hk.1.1.2.1.2.2 | exact hk.1.1.2.2.1.1 | exact hk.1.1.2.2.1.2 | exact hk.1.1.2.2.2.1 | exact hk.1.1.2.2.2.2 | exact hk.1.2.1.1.1.1 | exact hk.1.2.1.1.1.2 | exact hk.1.2.1.1.2.1 | exact hk.1.2.1.1.2.2 | exact hk.1.2.1.2.1.1 | exact hk.1.2.1.2.1.2 | exact hk.1.2.1.2.2.1 | exact hk.1.2.1.2.2.2 | exact hk.1.2.2.1.1.1 | exact hk.1.2.2.1.1.2 | exact hk.1.2.2.1.2.1 | exact hk.1.2.2.1.2.2 | exact hk.1.2.2.2.1.1 | exact hk.1.2.2.2.1.2 | exact hk.1.2.2.2.2.1 | exact hk.1.2.2.2.2.2 | exact hk.2.1.1.1.1.1 | exact hk.2.1.1.1.1.2 | exact hk.2.1.1.1.2.1 | exact hk.2.1.1.1.2.2 | exact hk.2.1.1.2.1.1 | exact hk.2.1.1.2.1.2 | exact hk.2.1.1.2.2.1 | exact hk.2.1.1.2.2.2 | exact hk.2.1.2.1.1.1 | exact hk.2.1.2.1.1.2 | exact hk.2.1.2.1.2.1 | exact hk.2.1.2.1.2.2 | exact hk.2.1.2.2.1.1 | exact hk.2.1.2.2.1.2 | exact hk.2.1.2.2.2.1 | exact hk.2.1.2.2.2.2 | exact hk.2.2.1.1.1.1 | exact hk.2.2.1.1.1.2 | exact hk.2.2.1.1.2.1 | exact hk.2.2.1.1.2.2 | exact hk.2.2.1.2.1.1 | exact hk.2.2.1.2.1.2 | exact hk.2.2.1.2.2.1 | exact hk.2.2.1.2.2.2 | exact hk.2.2.2.1.1.1 | exact hk.2.2.2.1.1.2 | exact hk.2.2.2.1.2.1 | exact hk.2.2.2.1.2.2 | exact hk.2.2.2.2.1.1 | exact hk.2.2.2.2.1.2 | exact hk.2.2.2.2.2.1 | exact hk.2.2.2.2.2.2))⟩, ⟨by (try simp only [hl5022001_71]); (try simp only [hl5027001_71]); (with_reducible repeat (first | apply Kd.R_alloc | apply Kd.R_drewN | apply Kd.R_drew)); exact Kd.R_mono HO_5027001.out (fun _ hk => by first | exact ⟨hk.1.1.1.2.1, hk.1.1.1.2.2⟩ | (refine ⟨?_, ?_⟩ <;> with_reducible first | exact hk.1 | exact hk.2 | exact hk.1.1 | exact hk.1.2 | exact hk.2.1 | exact hk.2.2 | exact hk.1.1.1 | exact hk.1.1.2 | exact hk.1.2.1 | exact hk.1.2.2 | exact hk.2.1.1 | exact hk.2.1.2 | exact hk.2.2.1 | exact hk.2.2.2 | exact hk.1.1.1.1 | exact hk.1.1.1.2 | exact hk.1.1.2.1 | exact hk.1.1.2.2 | exact hk.1.2.1.1 | exact hk.1.2.1.2 | exact hk.1.2.2.1 | exact hk.1.2.2.2 | exact hk.2.1.1.1 | exact hk.2.1.1.2 | exact hk.2.1.2.1 | exact hk.2.1.2.2 | exact hk.2.2.1.1 | exact hk.2.2.1.2 | exact hk.2.2.2.1 | exact hk.2.2.2.2 | exact hk.1.1.1.1.1 | exact hk.1.1.1.1.2 | exact hk.1.1.1.2.1 | exact hk.1.1.1.2.2 | exact hk.1.1.2.1.1 | exact hk.1.1.2.1.2 | exact hk.1.1.2.2.1 | exact hk.1.1.2.2.2 | exact hk.1.2.1.1.1 | exact hk.1.2.1.1.2 | exact hk.1.2.1.2.1 | exact hk.1.2.1.2.2 | exact hk.1.2.2.1.1 | exact hk.1.2.2.1.2 | exact hk.1.2.2.2.1 | exact hk.1.2.2.2.2 | exact hk.2.1.1.1.1 | exact hk.2.1.1.1.2 | exact hk.2.1.1.2.1 | exact hk.2.1.1.2.2 | exact hk.2.1.2.1.1 | exact hk.2.1.2.1.2 | exact hk.2.1.2.2.1 | exact hk.2.1.2.2.2 | exact hk.2.2.1.1.1 | exact hk.2.2.1.1.2 | exact hk.2.2.1.2.1 | exact hk.2.2.1.2.2 | exact hk.2.2.2.1.1 | exact hk.2.2.2.1.2 | exact hk.2.2.2.2.1 | exact hk.2.2.2.2.2 | exact hk.1.1.1.1.1.1 | exact hk.1.1.1.1.1.2 | exact hk.1.1.1.1.2.1 | exact hk.1.1.1.1.2.2 | exact hk.1.1.1.2.1.1 | exact hk.1.1.1.2.1.2 | exact hk.1.1.1.2.2.1 | exact hk.1.1.1.2.2.2 | exact hk.1.1.2.1.1.1 | exact hk.1.1.2.1.1.2 | exact hk.1.1.2.1.2.1 | exact hk.1.1.2.1.2.2 | exact hk.1.1.2.2.1.1 | exact hk.1.1.2.2.1.2 | exact hk.1.1.2.2.2.1 | exact hk.1.1.2.2.2.2 | exact hk.1.2.1.1.1.1 | exact hk.1.2.1.1.1.2 | exact hk.1.2.1.1.2.1 | exact hk.1.2.1.1.2.2 | exact hk.1.2.1.2.1.1 | exact hk.1.2.1.2.1.2 | exact hk.1.2.1.2.2.1 | exact hk.1.2.1.2.2.2 | exact hk.1.2.2.1.1.1 | exact hk.1.2.2.1.1.2 | exact hk.1.2.2.1.2.1 | exact hk.1.2.2.1.2.2 | exact hk.1.2.2.2.1.1 | exact hk.1.2.2.2.1.2 | exact hk.1.2.2.2.2.1 | exact hk.1.2.2.2.2.2 | exact hk.2.1.1.1.1.1 | exact hk.2.1.1.1.1.2 | exact hk.2.1.1.1.2.1 | exact hk.2.1.1.1.2.2 | exact hk.2.1.1.2.1.1 | exact hk.2.1.1.2.1.2 | exact hk.2.1.1.2.2.1 | exact hk.2.1.1.2.2.2 | exact hk.2.1.2.1.1.1 | exact hk.2.1.2.1.1.2 | exact hk.2.1.2.1.2.1 | exact hk.2.1.2.1.2.2 | exact hk.2.1.2.2.1.1 | exact hk.2.1.2.2.1.2 | exact hk.2.1.2.2.2.1 | exact hk.2.1.2.2.2.2 | exact hk.2.2.1.1.1.1 | exact hk.2.2.1.1.1.2 | exact hk.2.2.1.1.2.1 | exact hk.2.2.1.1.2.2 | exact hk.2.2.1.2.1.1 | exact hk.2.2.1.2.1.2 | exact hk.2.2.1.2.2.1 | exact hk.2.2.1.2.2.2 | exact hk.2.2.2.1.1.1 | exact hk.2.2.2.1.1.2 | exact hk.2.2.2.1.2.1 | exact hk.2.2.2.1.2.2 | exact hk.2.2.2.2.1.1 | exact hk.2.2.2.2.1.2 | exact hk.2.2.2.2.2.1 | exact hk.2.2.2.2.2.2))⟩, ⟨by (try simp only [hl5022001_71]); (try simp only [hl5027001_71]); (with_reducible repeat (first | refine blk_drewN ?_ _ | refine blk_drew ?_ | refine blk_alloc ?_ _)); exact BK5001.out⟩, ⟨by (try simp only [hl5022001_71]); (try simp only [hl5027001_71]); (with_reducible repeat (first | refine blk_drewN ?_ _ | refine blk_drew ?_ | refine blk_alloc ?_ _)); exact BK5002.out⟩, ⟨by (try simp only [hl5022001_71]); (try simp only [hl5027001_71]); (with_reducible repeat (first | refine blk_drewN ?_ _ | refine blk_drew ?_ | refine blk_alloc ?_ _)); exact BK5021.out⟩, ⟨by (try simp only [hl5022001_71]); (try simp only [hl5027001_71]); (with_reducible repeat (first | refine blk_drewN ?_ _ | refine blk_drew ?_ | refine blk_alloc ?_ _)); exact BK5026.out⟩, ⟨pB4 HB.out GE5001.out GE5002.out GE5021.out GE5026.out⟩⟩
              ·replace c117 := Bool.eq_false_iff.mpr c117
               subst c117
               have H1 : (laws_FnExactAugmentingPath.j2 kj71 t5048 t5047 true) = some true := by rw [if_neg (show ¬ (false = true) by decide)] at H; exact H
               clear H
               have H := H1
               clear H1
               have H' := aQ H
               clear H
               obtain ⟨Ao120, co120, eo120⟩ := Kd.R_slice HO5060.out
               subst eo120
               obtain ⟨Ao121, co121, eo121⟩ := Kd.R_slice HO_8.out
               subst eo121
               go_wp2_with (first | ((with_reducible refine gate_callee (f := 25) rfl ?_); refine goesL_ (some 109) rfl rfl Try.func25 (by kernel_rfl) rfl #[.slice Ao120 t5058.length co120, .slice Ao121 t5013.length co121] rfl lm ?_; (with_reducible refine (laws_eqIntS.calls kj71 _ _ t5058 _ _ t5013 false _ ?side1 ?side2 ?side3 ?side4 A116.out).mono ?_); (case side1 => repeat (first | exact (Kd.R_reads' HO5060.out).2.2 | (with_reducible refine Kd.C_alloc ?_ _) | (with_reducible refine Kd.C_drewN ?_ _) | (with_reducible refine Kd.C_drew ?_))); (case side2 => exact (Kd.R_reads' HO5060.out).2.1); (case side3 => repeat (first | exact (Kd.R_reads' HO_8.out).2.2 | (with_reducible refine Kd.C_alloc ?_ _) | (with_reducible refine Kd.C_drewN ?_ _) | (with_reducible refine Kd.C_drew ?_))); (case side4 => exact (Kd.R_reads' HO_8.out).2.1); rintro e w' ⟨rfl, ⟨nd, rfl⟩⟩; refine ⟨_, rfl, ?_⟩))
               go_meet
               case rel => exact ⟨_, (true), rs_, H', ⟨by have := HJ25.out; have := HJ71.out; first | omega | exact Nat.le_refl _⟩, ⟨by (try simp only [hl5022001_71]); (try simp only [hl5027001_71]); (with_reducible repeat (first | apply Kd.R_alloc | apply Kd.R_drewN | apply Kd.R_drew)); exact Kd.R_mono HO_12.out (fun _ hk => by first | exact ⟨hk.1.1.1.2.1, hk.1.1.1.2.2⟩ | (refine ⟨?_, ?_⟩ <;> with_reducible first | exact hk.1 | exact hk.2 | exact hk.1.1 | exact hk.1.2 | exact hk.2.1 | exact hk.2.2 | exact hk.1.1.1 | exact hk.1.1.2 | exact hk.1.2.1 | exact hk.1.2.2 | exact hk.2.1.1 | exact hk.2.1.2 | exact hk.2.2.1 | exact hk.2.2.2 | exact hk.1.1.1.1 | exact hk.1.1.1.2 | exact hk.1.1.2.1 | exact hk.1.1.2.2 | exact hk.1.2.1.1 | exact hk.1.2.1.2 | exact hk.1.2.2.1 | exact hk.1.2.2.2 | exact hk.2.1.1.1 | exact hk.2.1.1.2 | exact hk.2.1.2.1 | exact hk.2.1.2.2 | exact hk.2.2.1.1 | exact hk.2.2.1.2 | exact hk.2.2.2.1 | exact hk.2.2.2.2 | exact hk.1.1.1.1.1 | exact hk.1.1.1.1.2 | exact hk.1.1.1.2.1 | exact hk.1.1.1.2.2 | exact hk.1.1.2.1.1 | exact hk.1.1.2.1.2 | exact hk.1.1.2.2.1 | exact hk.1.1.2.2.2 | exact hk.1.2.1.1.1 | exact hk.1.2.1.1.2 | exact hk.1.2.1.2.1 | exact hk.1.2.1.2.2 | exact hk.1.2.2.1.1 | exact hk.1.2.2.1.2 | exact hk.1.2.2.2.1 | exact hk.1.2.2.2.2 | exact hk.2.1.1.1.1 | exact hk.2.1.1.1.2 | exact hk.2.1.1.2.1 | exact hk.2.1.1.2.2 | exact hk.2.1.2.1.1 | exact hk.2.1.2.1.2 | exact hk.2.1.2.2.1 | exact hk.2.1.2.2.2 | exact hk.2.2.1.1.1 | exact hk.2.2.1.1.2 | exact hk.2.2.1.2.1 | exact hk.2.2.1.2.2 | exact hk.2.2.2.1.1 | exact hk.2.2.2.1.2 | exact hk.2.2.2.2.1 | exact hk.2.2.2.2.2 | exact hk.1.1.1.1.1.1 | exact hk.1.1.1.1.1.2 | exact hk.1.1.1.1.2.1 | exact hk.1.1.1.1.2.2 | exact hk.1.1.1.2.1.1 | exact hk.1.1.1.2.1.2 | exact hk.1.1.1.2.2.1 | exact hk.1.1.1.2.2.2 | exact hk.1.1.2.1.1.1 | exact hk.1.1.2.1.1.2 | exact hk.1.1.2.1.2.1 | exact hk.1.1.2.1.2.2 | exact hk.1.1.2.2.1.1 | exact hk.1.1.2.2.1.2 | exact hk.1.1.2.2.2.1 | exact hk.1.1.2.2.2.2 | exact hk.1.2.1.1.1.1 | exact hk.1.2.1.1.1.2 | exact hk.1.2.1.1.2.1 | exact hk.1.2.1.1.2.2 | exact hk.1.2.1.2.1.1 | exact hk.1.2.1.2.1.2 | exact hk.1.2.1.2.2.1 | exact hk.1.2.1.2.2.2 | exact hk.1.2.2.1.1.1 | exact hk.1.2.2.1.1.2 | exact hk.1.2.2.1.2.1 | exact hk.1.2.2.1.2.2 | exact hk.1.2.2.2.1.1 | exact hk.1.2.2.2.1.2 | exact hk.1.2.2.2.2.1 | exact hk.1.2.2.2.2.2 | exact hk.2.1.1.1.1.1 | exact hk.2.1.1.1.1.2 | exact hk.2.1.1.1.2.1 | exact hk.2.1.1.1.2.2 | exact hk.2.1.1.2.1.1 | exact hk.2.1.1.2.1.2 | exact hk.2.1.1.2.2.1 | exact hk.2.1.1.2.2.2 | exact hk.2.1.2.1.1.1 | exact hk.2.1.2.1.1.2 | exact hk.2.1.2.1.2.1 | exact hk.2.1.2.1.2.2 | exact hk.2.1.2.2.1.1 | exact hk.2.1.2.2.1.2 | exact hk.2.1.2.2.2.1 | exact hk.2.1.2.2.2.2 | exact hk.2.2.1.1.1.1 | exact hk.2.2.1.1.1.2 | exact hk.2.2.1.1.2.1 | exact hk.2.2.1.1.2.2 | exact hk.2.2.1.2.1.1 | exact hk.2.2.1.2.1.2 | exact hk.2.2.1.2.2.1 | exact hk.2.2.1.2.2.2 | exact hk.2.2.2.1.1.1 | exact hk.2.2.2.1.1.2 | exact hk.2.2.2.1.2.1 | exact hk.2.2.2.1.2.2 | exact hk.2.2.2.2.1.1 | exact hk.2.2.2.2.1.2 | exact hk.2.2.2.2.2.1 | exact hk.2.2.2.2.2.2))⟩, ⟨by (try simp only [hl5022001_71]); (try simp only [hl5027001_71]); (with_reducible repeat (first | apply Kd.R_alloc | apply Kd.R_drewN | apply Kd.R_drew)); exact Kd.R_mono HO_5022001.out (fun _ hk => by first | exact ⟨hk.1.1.1.2.1, hk.1.1.1.2.2⟩ | (refine ⟨?_, ?_⟩ <;> with_reducible first | exact hk.1 | exact hk.2 | exact hk.1.1 | exact hk.1.2 | exact hk.2.1 | exact hk.2.2 | exact hk.1.1.1 | exact hk.1.1.2 | exact hk.1.2.1 | exact hk.1.2.2 | exact hk.2.1.1 | exact hk.2.1.2 | exact hk.2.2.1 | exact hk.2.2.2 | exact hk.1.1.1.1 | exact hk.1.1.1.2 | exact hk.1.1.2.1 | exact hk.1.1.2.2 | exact hk.1.2.1.1 | exact hk.1.2.1.2 | exact hk.1.2.2.1 | exact hk.1.2.2.2 | exact hk.2.1.1.1 | exact hk.2.1.1.2 | exact hk.2.1.2.1 | exact hk.2.1.2.2 | exact hk.2.2.1.1 | exact hk.2.2.1.2 | exact hk.2.2.2.1 | exact hk.2.2.2.2 | exact hk.1.1.1.1.1 | exact hk.1.1.1.1.2 | exact hk.1.1.1.2.1 | exact hk.1.1.1.2.2 | exact hk.1.1.2.1.1 | exact hk.1.1.2.1.2 | exact hk.1.1.2.2.1 | exact hk.1.1.2.2.2 | exact hk.1.2.1.1.1 | exact hk.1.2.1.1.2 | exact hk.1.2.1.2.1 | exact hk.1.2.1.2.2 | exact hk.1.2.2.1.1 | exact hk.1.2.2.1.2 | exact hk.1.2.2.2.1 | exact hk.1.2.2.2.2 | exact hk.2.1.1.1.1 | exact hk.2.1.1.1.2 | exact hk.2.1.1.2.1 | exact hk.2.1.1.2.2 | exact hk.2.1.2.1.1 | exact hk.2.1.2.1.2 | exact hk.2.1.2.2.1 | exact hk.2.1.2.2.2 | exact hk.2.2.1.1.1 | exact hk.2.2.1.1.2 | exact hk.2.2.1.2.1 | exact hk.2.2.1.2.2 | exact hk.2.2.2.1.1 | exact hk.2.2.2.1.2 | exact hk.2.2.2.2.1 | exact hk.2.2.2.2.2 | exact hk.1.1.1.1.1.1 | exact hk.1.1.1.1.1.2 | exact hk.1.1.1.1.2.1 | exact hk.1.1.1.1.2.2 | exact hk.1.1.1.2.1.1 | exact hk.1.1.1.2.1.2 | exact hk.1.1.1.2.2.1 | exact hk.1.1.1.2.2.2 | exact hk.1.1.2.1.1.1 | exact hk.1.1.2.1.1.2 | exact hk.1.1.2.1.2.1 | exact hk.1.1.2.1.2.2 | exact hk.1.1.2.2.1.1 | exact hk.1.1.2.2.1.2 | exact hk.1.1.2.2.2.1 | exact hk.1.1.2.2.2.2 | exact hk.1.2.1.1.1.1 | exact hk.1.2.1.1.1.2 | exact hk.1.2.1.1.2.1 | exact hk.1.2.1.1.2.2 | exact hk.1.2.1.2.1.1 | exact hk.1.2.1.2.1.2 | exact hk.1.2.1.2.2.1 | exact hk.1.2.1.2.2.2 | exact hk.1.2.2.1.1.1 | exact hk.1.2.2.1.1.2 | exact hk.1.2.2.1.2.1 | exact hk.1.2.2.1.2.2 | exact hk.1.2.2.2.1.1 | exact hk.1.2.2.2.1.2 | exact hk.1.2.2.2.2.1 | exact hk.1.2.2.2.2.2 | exact hk.2.1.1.1.1.1 | exact hk.2.1.1.1.1.2 | exact hk.2.1.1.1.2.1 | exact hk.2.1.1.1.2.2 | exact hk.2.1.1.2.1.1 | exact hk.2.1.1.2.1.2 | exact hk.2.1.1.2.2.1 | exact hk.2.1.1.2.2.2 | exact hk.2.1.2.1.1.1 | exact hk.2.1.2.1.1.2 | exact hk.2.1.2.1.2.1 | exact hk.2.1.2.1.2.2 | exact hk.2.1.2.2.1.1 | exact hk.2.1.2.2.1.2 | exact hk.2.1.2.2.2.1 | exact hk.2.1.2.2.2.2 | exact hk.2.2.1.1.1.1 | exact hk.2.2.1.1.1.2 | exact hk.2.2.1.1.2.1 | exact hk.2.2.1.1.2.2 | exact hk.2.2.1.2.1.1 | exact hk.2.2.1.2.1.2 | exact hk.2.2.1.2.2.1 | exact hk.2.2.1.2.2.2 | exact hk.2.2.2.1.1.1 | exact hk.2.2.2.1.1.2 | exact hk.2.2.2.1.2.1 | exact hk.2.2.2.1.2.2 | exact hk.2.2.2.2.1.1 | exact hk.2.2.2.2.1.2 | exact hk.2.2.2.2.2.1 | exact hk.2.2.2.2.2.2))⟩, ⟨by (try simp only [hl5022001_71]); (try simp only [hl5027001_71]); (with_reducible repeat (first | apply Kd.R_alloc | apply Kd.R_drewN | apply Kd.R_drew)); exact Kd.R_mono HO_5027001.out (fun _ hk => by first | exact ⟨hk.1.1.1.2.1, hk.1.1.1.2.2⟩ | (refine ⟨?_, ?_⟩ <;> with_reducible first | exact hk.1 | exact hk.2 | exact hk.1.1 | exact hk.1.2 | exact hk.2.1 | exact hk.2.2 | exact hk.1.1.1 | exact hk.1.1.2 | exact hk.1.2.1 | exact hk.1.2.2 | exact hk.2.1.1 | exact hk.2.1.2 | exact hk.2.2.1 | exact hk.2.2.2 | exact hk.1.1.1.1 | exact hk.1.1.1.2 | exact hk.1.1.2.1 | exact hk.1.1.2.2 | exact hk.1.2.1.1 | exact hk.1.2.1.2 | exact hk.1.2.2.1 | exact hk.1.2.2.2 | exact hk.2.1.1.1 | exact hk.2.1.1.2 | exact hk.2.1.2.1 | exact hk.2.1.2.2 | exact hk.2.2.1.1 | exact hk.2.2.1.2 | exact hk.2.2.2.1 | exact hk.2.2.2.2 | exact hk.1.1.1.1.1 | exact hk.1.1.1.1.2 | exact hk.1.1.1.2.1 | exact hk.1.1.1.2.2 | exact hk.1.1.2.1.1 | exact hk.1.1.2.1.2 | exact hk.1.1.2.2.1 | exact hk.1.1.2.2.2 | exact hk.1.2.1.1.1 | exact hk.1.2.1.1.2 | exact hk.1.2.1.2.1 | exact hk.1.2.1.2.2 | exact hk.1.2.2.1.1 | exact hk.1.2.2.1.2 | exact hk.1.2.2.2.1 | exact hk.1.2.2.2.2 | exact hk.2.1.1.1.1 | exact hk.2.1.1.1.2 | exact hk.2.1.1.2.1 | exact hk.2.1.1.2.2 | exact hk.2.1.2.1.1 | exact hk.2.1.2.1.2 | exact hk.2.1.2.2.1 | exact hk.2.1.2.2.2 | exact hk.2.2.1.1.1 | exact hk.2.2.1.1.2 | exact hk.2.2.1.2.1 | exact hk.2.2.1.2.2 | exact hk.2.2.2.1.1 | exact hk.2.2.2.1.2 | exact hk.2.2.2.2.1 | exact hk.2.2.2.2.2 | exact hk.1.1.1.1.1.1 | exact hk.1.1.1.1.1.2 | exact hk.1.1.1.1.2.1 | exact hk.1.1.1.1.2.2 | exact hk.1.1.1.2.1.1 | exact hk.1.1.1.2.1.2 | exact hk.1.1.1.2.2.1 | exact hk.1.1.1.2.2.2 | exact hk.1.1.2.1.1.1 | exact hk.1.1.2.1.1.2 | exact hk.1.1.2.1.2.1 | exact hk.1.1.2.1.2.2 | exact hk.1.1.2.2.1.1 | exact hk.1.1.2.2.1.2 | exact hk.1.1.2.2.2.1 | exact hk.1.1.2.2.2.2 | exact hk.1.2.1.1.1.1 | exact hk.1.2.1.1.1.2 | exact hk.1.2.1.1.2.1 | exact hk.1.2.1.1.2.2 | exact hk.1.2.1.2.1.1 | exact hk.1.2.1.2.1.2 | exact hk.1.2.1.2.2.1 | exact hk.1.2.1.2.2.2 | exact hk.1.2.2.1.1.1 | exact hk.1.2.2.1.1.2 | exact hk.1.2.2.1.2.1 | exact hk.1.2.2.1.2.2 | exact hk.1.2.2.2.1.1 | exact hk.1.2.2.2.1.2 | exact hk.1.2.2.2.2.1 | exact hk.1.2.2.2.2.2 | exact hk.2.1.1.1.1.1 | exact hk.2.1.1.1.1.2 | exact hk.2.1.1.1.2.1 | exact hk.2.1.1.1.2.2 | exact hk.2.1.1.2.1.1 | exact hk.2.1.1.2.1.2 | exact hk.2.1.1.2.2.1 | exact hk.2.1.1.2.2.2 | exact hk.2.1.2.1.1.1 | exact hk.2.1.2.1.1.2 | exact hk.2.1.2.1.2.1 | exact hk.2.1.2.1.2.2 | exact hk.2.1.2.2.1.1 | exact hk.2.1.2.2.1.2 | exact hk.2.1.2.2.2.1 | exact hk.2.1.2.2.2.2 | exact hk.2.2.1.1.1.1 | exact hk.2.2.1.1.1.2 | exact hk.2.2.1.1.2.1 | exact hk.2.2.1.1.2.2 | exact hk.2.2.1.2.1.1 | exact hk.2.2.1.2.1.2 | exact hk.2.2.1.2.2.1 | exact hk.2.2.1.2.2.2 | exact hk.2.2.2.1.1.1 | exact hk.2.2.2.1.1.2 | exact hk.2.2.2.1.2.1 | exact hk.2.2.2.1.2.2 | exact hk.2.2.2.2.1.1 | exact hk.2.2.2.2.1.2 | exact hk.2.2.2.2.2.1 | exact hk.2.2.2.2.2.2))⟩, ⟨by (try simp only [hl5022001_71]); (try simp only [hl5027001_71]); (with_reducible repeat (first | refine blk_drewN ?_ _ | refine blk_drew ?_ | refine blk_alloc ?_ _)); exact BK5001.out⟩, ⟨by (try simp only [hl5022001_71]); (try simp only [hl5027001_71]); (with_reducible repeat (first | refine blk_drewN ?_ _ | refine blk_drew ?_ | refine blk_alloc ?_ _)); exact BK5002.out⟩, ⟨by (try simp only [hl5022001_71]); (try simp only [hl5027001_71]); (with_reducible repeat (first | refine blk_drewN ?_ _ | refine blk_drew ?_ | refine blk_alloc ?_ _)); exact BK5021.out⟩, ⟨by (try simp only [hl5022001_71]); (try simp only [hl5027001_71]); (with_reducible repeat (first | refine blk_drewN ?_ _ | refine blk_drew ?_ | refine blk_alloc ?_ _)); exact BK5026.out⟩, ⟨pB4 HB.out GE5001.out GE5002.out GE5021.out GE5026.out⟩⟩
             case rest =>
              clear HC107
              try clear c1
              try clear c2
              try clear p2
              try clear c4
              try clear c5
              try clear c5b0
              try clear c6
              try clear c8
              try clear c9
              try clear c10
              try clear c11
              try clear c12
              try clear c12b0
              try clear c15
              try clear c16
              try clear c18
              try clear c20
              try clear c21
              try clear c23
              try clear c24
              try clear c25
              try clear c26
              try clear c27
              try clear c29
              try clear c43
              try clear c44
              try clear c50
              try clear c51
              try clear c52
              try clear c58
              try clear c63
              try clear c66
              try clear c69
              try clear c81
              try clear c82
              try clear c83
              try clear c86
              try clear c87
              try clear c90
              try clear c90b0
              try clear c92
              try clear c97
              try clear c100
              try clear c100b0
              try clear c103
              try clear c103b0
              try clear c103b1
              try clear c117
              try clear hcz16_0
              try clear hcz16_1
              try clear hcz18_0
              try clear hcz18_1
              try clear hcz30_0
              try clear hcz30_1
              try clear hcz32_0
              try clear hcz32_1
              try clear hcz40_0
              try clear hcz40_1
              try clear hcz45_0
              try clear hcz45_1
              try clear hcz47_0
              try clear hcz47_1
              try clear hcz53_0
              try clear hcz53_1
              try clear hcz55_0
              try clear hcz55_1
              try clear hcz84_0
              try clear hcz84_1
              try clear hcz88_0
              try clear hcz88_1
              try clear hcz9_0
              try clear hcz9_1
              try clear hfz16_0
              try clear hfz16_1
              try clear hfz18_0
              try clear hfz18_1
              try clear hfz30_0
              try clear hfz30_1
              try clear hfz32_0
              try clear hfz32_1
              try clear hfz40_0
              try clear hfz40_1
              try clear hfz45_0
              try clear hfz45_1
              try clear hfz47_0
              try clear hfz47_1
              try clear hfz53_0
              try clear hfz53_1
              try clear hfz55_0
              try clear hfz55_1
              try clear hfz84_0
              try clear hfz84_1
              try clear hfz88_0
              try clear hfz88_1
              try clear hfz9_0
              try clear hfz9_1
              try clear p2
              obtain ⟨kq, x115_106, rfl, HA, HJ106, HO_12, HO_5022001, HO_5027001, BK5001, BK5002, BK5021, BK5026, HB⟩ := hcut
              have hl12_106 := (Kd.R_reads' HO_12.out).1
              rw [hl12_106] at HO_12
              (try simp only [hl12_106])
              (try simp only [hl12_106] at BK5001)
              (try simp only [hl12_106] at BK5002)
              (try simp only [hl12_106] at BK5021)
              (try simp only [hl12_106] at BK5026)
              (try simp only [hl12_106] at HO_5022001)
              (try simp only [hl12_106] at HO_5027001)
              cases kq with
              | zero => exact absurd HA.out (by simp [laws_FnExactAugmentingPath.j2])
              | succ kj106 =>
               have H := HA.out
               clear HA
               simp only [laws_FnExactAugmentingPath.j2] at H
               by_cases c122 : x115_106 = true
               ·subst c122
                have H1 : (some false) = some true := by rw [if_pos rfl] at H; exact H
                clear H
                have H := H1
                clear H1
                exact absurd (Option.some.inj H) (by decide)
               ·replace c122 := Bool.eq_false_iff.mpr c122
                subst c122
                have H1 : ((laws_heldIntS.f kj106 t5048 1).bind fun t5063 => (if t5063 < 0 then (some false) else (if t5063 = t5047 then (some true) else (some false)))) = some true := by rw [if_neg (show ¬ (false = true) by decide)] at H; exact H
                clear H
                have H := H1
                clear H1
                replace H := Option.bind_eq_some_iff.mp H
                obtain ⟨t5063, A1230, H⟩ := H
                replace H : (if t5063 < 0 then (some false) else (if t5063 = t5047 then (some true) else (some false))) = some true := H
                have A123 := aQ A1230
                clear A1230
                by_cases c124 : t5063 < 0
                ·rw [if_pos c124] at H
                 have c124b0 : decide (t5063 < 0) = true := decide_eq_true c124
                 clear c124
                 exact absurd (Option.some.inj H) (by decide)
                ·rw [if_neg c124] at H
                 have c124b0 : decide (t5063 < 0) = false := decide_eq_false c124
                 clear c124
                 by_cases c125 : t5063 = t5047
                 ·rw [if_pos c125] at H
                  have c125b0 : (t5063 == t5047) = true := beq_iff_eq.mpr c125
                  have c125b1 : (t5063 != t5047) = false := bne_eq_false_iff_eq.mpr c125
                  clear c125
                  clear H
                  go_wp2_with (first | ((with_reducible refine gate_callee (f := 27) rfl ?_); refine goesL_ (some 118) rfl rfl Try.func27 (by kernel_rfl) rfl #[.slice Ao108 t5048.length co108, .int .i64 1] rfl lm ?_; (with_reducible refine (laws_heldIntS.calls kj106 _ _ t5048 1 t5063 _ ?side1 ?side2 A123.out).mono ?_); (case side1 => repeat (first | exact (Kd.R_reads' HO_12.out).2.2 | (with_reducible refine Kd.C_alloc ?_ _) | (with_reducible refine Kd.C_drewN ?_ _) | (with_reducible refine Kd.C_drew ?_))); (case side2 => exact (Kd.R_reads' HO_12.out).2.1); rintro e w' ⟨rfl, ⟨nd, rfl⟩⟩; refine ⟨_, rfl, ?_⟩))
                  go_ret
                  exact ⟨re_, pB4 HB.out GE5001.out GE5002.out GE5021.out GE5026.out⟩
                 ·rw [if_neg c125] at H
                  have c125b0 : (t5063 == t5047) = false := beq_eq_false_iff_ne.mpr c125
                  have c125b1 : (t5063 != t5047) = true := bne_iff_ne.mpr c125
                  exact absurd (Option.some.inj H) (by decide)
            ·rw [if_neg c103] at H
             have c103b0 : (t5049 == t5047) = false := beq_eq_false_iff_ne.mpr c103
             have c103b1 : (t5049 != t5047) = true := bne_iff_ne.mpr c103
             exact absurd (Option.some.inj H) (by decide)
       ·replace c69 := Bool.eq_false_iff.mpr c69
        subst c69
        have H1 : (some false) = some true := by rw [if_neg (show ¬ (false = true) by decide)] at H; exact H
        clear H
        have H := H1
        clear H1
        exact absurd (Option.some.inj H) (by decide)
      ·replace c66 := Bool.eq_false_iff.mpr c66
       subst c66
       have H1 : (some false) = some true := by rw [if_neg (show ¬ (false = true) by decide)] at H; exact H
       clear H
       have H := H1
       clear H1
       exact absurd (Option.some.inj H) (by decide)
end Go.Proofs.Ytagncnjllpebjaa.A
