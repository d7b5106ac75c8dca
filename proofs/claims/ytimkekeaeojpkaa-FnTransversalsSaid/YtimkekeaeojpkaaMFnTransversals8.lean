/- Machine side of the law FnTransversals: Go functions as Lean functions, and proofs that calls come to what these tell. Conditions: those in each theorem. -/
import Derived.Test.YtimkekeaeojpkaaMFnTransversals0
import Derived.Test.YtimkekeaeojpkaaMFnTransversals1
import Derived.Test.YtimkekeaeojpkaaMFnTransversals3
import Derived.Test.YtimkekeaeojpkaaMFnTransversals4
import Derived.Test.YtimkekeaeojpkaaMFnTransversals5
import Derived.Test.YtimkekeaeojpkaaMFnTransversals6
import Derived.Test.YtimkekeaeojpkaaMFnTransversals7
namespace Go.Proofs.Ytimkekeaeojpkaa.A
open Go.RowKit Go.Proofs.YtimkekeaeojpkaaW.PrintWords Go.Proofs.YtimkekeaeojpkaaW.PrintLast Go.Proofs.YtimkekeaeojpkaaW.PrintMore
attribute [local go_sem] max2_int min2_int max_two min_two max_three min_three max_four min_four
set_option linter.unusedVariables false
set_option linter.unusedSimpArgs false
/-! ### laws_FnTransversals: function 7 -/
mutual
def laws_FnTransversals.j0 : Nat → Int → List Int → Int → List Int → Int → List Int → Bool → Bool → Bool → Int → List Int → Option (Bool)
 | 0, _, _, _, _, _, _, _, _, _, _, _ => none
 | k + 1, x3, x4, x6, x7, x8, x9, x10, x14, x98, x8011000, x8011001 => if x98 = true then (some false) else ((spec_AreLists.f k x3 x4).bind fun t8036 => (if t8036 = true then ((spec_IsMatroid.f k x8011000 x8011001).bind fun t8037 => (laws_FnTransversals.j1 k x6 x7 x8 x9 x10 x14 (!t8037))) else (laws_FnTransversals.j1 k x6 x7 x8 x9 x10 x14 false)))
def laws_FnTransversals.j1 : Nat → Int → List Int → Int → List Int → Bool → Bool → Bool → Option (Bool)
 | 0, _, _, _, _, _, _, _ => none
 | k + 1, x6, x7, x8, x9, x10, x14, x106 => if x106 = true then (some false) else ((spec_ElementsOf.f k x8).bind fun t8038 => (laws_FnTransversals.l0 k x6 x7 x8 x9 x10 x14 t8038 0))
def laws_FnTransversals.l0 : Nat → Int → List Int → Int → List Int → Bool → Bool → List Int → Int → Option (Bool)
 | 0, _, _, _, _, _, _, _, _ => none
 | k + 1, x6, x7, x8, x9, x10, x14, x17, x18 => if x18 < (x9.length : Int) then (if 0 ≤ x18 then (if 0 ≤ (rd x9 x18) then (if (rd x9 x18) < (x7.length : Int) then (if x18 < (x17.length : Int) then ((spec_HasElement.f (rd x7 (rd x9 x18)) (rd x17 x18)).bind fun t8044 => (if t8044 = true then (laws_FnTransversals.l0 k x6 x7 x8 x9 x10 x14 x17 (wrap64 (x18 + 1))) else (some false))) else (none)) else (none)) else (none)) else (none)) else ((spec_AreLists.f k x6 x7).bind fun t8045 => (if t8045 = true then ((spec_IsSet.f x6 x8).bind fun t8046 => (if t8046 = true then (some (x10 != x14)) else (some true))) else (some true)))
end
def laws_FnTransversals.f (k : Nat) (l0 : List Int) : Option (Bool) := (laws_big.f l0).bind fun t8001 => (if t8001 = true then (some true) else ((spec_DrawFromSets.f k l0).bind fun bt8002 => ((impl_FromSets.f k bt8002.1 bt8002.2).bind fun bt8006 => ((spec_DrawAssignmentOf.f k l0).bind fun bt8011 => ((impl_AssignmentOf.f k bt8011.1 bt8011.2.1 bt8011.2.2).bind fun bt8016 => ((spec_AssignmentOf.f k bt8011.1 bt8011.2.1 bt8011.2.2).bind fun bt8020 => ((impl_CrowdOf.f k bt8011.1 bt8011.2.1 bt8011.2.2).bind fun bt8024 => ((spec_CrowdOf.f k bt8011.1 bt8011.2.1 bt8011.2.2).bind fun bt8026 => ((spec_FromSets.f k bt8002.1 bt8002.2).bind fun bt8028 => ((spec_EqualMatroid.f k bt8006.1 bt8006.2 bt8028.1 bt8028.2).bind fun t8032 => (if t8032 = true then (if (bt8016.2 != bt8020.2) = true then (laws_FnTransversals.j0 k bt8002.1 bt8002.2 bt8011.1 bt8011.2.1 bt8011.2.2 bt8016.1 bt8016.2 bt8024.2 true bt8006.1 bt8006.2) else ((laws_sameInts.f k bt8016.1 bt8020.1).bind fun t8033 => (if t8033 = true then (if bt8024.1 = bt8026.1 then (if (bt8024.2 != bt8026.2) = true then (laws_FnTransversals.j0 k bt8002.1 bt8002.2 bt8011.1 bt8011.2.1 bt8011.2.2 bt8016.1 bt8016.2 bt8024.2 true bt8006.1 bt8006.2) else ((impl_AreLists.f k bt8002.1 bt8002.2).bind fun t8034 => ((spec_AreLists.f k bt8002.1 bt8002.2).bind fun t8035 => (laws_FnTransversals.j0 k bt8002.1 bt8002.2 bt8011.1 bt8011.2.1 bt8011.2.2 bt8016.1 bt8016.2 bt8024.2 (t8034 != t8035) bt8006.1 bt8006.2)))) else (laws_FnTransversals.j0 k bt8002.1 bt8002.2 bt8011.1 bt8011.2.1 bt8011.2.2 bt8016.1 bt8016.2 bt8024.2 true bt8006.1 bt8006.2)) else (laws_FnTransversals.j0 k bt8002.1 bt8002.2 bt8011.1 bt8011.2.1 bt8011.2.2 bt8016.1 bt8016.2 bt8024.2 true bt8006.1 bt8006.2)))) else (laws_FnTransversals.j0 k bt8002.1 bt8002.2 bt8011.1 bt8011.2.1 bt8011.2.2 bt8016.1 bt8016.2 bt8024.2 true bt8006.1 bt8006.2))))))))))))
theorem laws_FnTransversals.mono_l : ∀ k, (∀ y0 y1 y2 y3 y4 y5 y6 y7 y8 y9 y10, LeO (laws_FnTransversals.j0 k y0 y1 y2 y3 y4 y5 y6 y7 y8 y9 y10) (laws_FnTransversals.j0 (k + 1) y0 y1 y2 y3 y4 y5 y6 y7 y8 y9 y10)) ∧ (∀ y0 y1 y2 y3 y4 y5 y6, LeO (laws_FnTransversals.j1 k y0 y1 y2 y3 y4 y5 y6) (laws_FnTransversals.j1 (k + 1) y0 y1 y2 y3 y4 y5 y6)) ∧ (∀ y0 y1 y2 y3 y4 y5 y6 y7, LeO (laws_FnTransversals.l0 k y0 y1 y2 y3 y4 y5 y6 y7) (laws_FnTransversals.l0 (k + 1) y0 y1 y2 y3 y4 y5 y6 y7))
 | 0 => ⟨fun _ _ _ _ _ _ _ _ _ _ _ r h => by simp [laws_FnTransversals.j0] at h, fun _ _ _ _ _ _ _ r h => by simp [laws_FnTransversals.j1] at h, fun _ _ _ _ _ _ _ _ r h => by simp [laws_FnTransversals.l0] at h⟩
 | k + 1 => by
  obtain ⟨ih0, ih1, ih2⟩ := laws_FnTransversals.mono_l k
  refine ⟨?_, ?_, ?_⟩
  ·intro y0 y1 y2 y3 y4 y5 y6 y7 y8 y9 y10
   unfold laws_FnTransversals.j0
   repeat' first
   | (with_reducible exact ih0 _ _ _ _ _ _ _ _ _ _ _)
   | (with_reducible exact ih1 _ _ _ _ _ _ _)
   | (with_reducible exact ih2 _ _ _ _ _ _ _ _)
   | (with_reducible exact impl_AreLists.mono _ _ _)
   | (with_reducible exact impl_AssignmentOf.mono _ _ _ _)
   | (with_reducible exact impl_CrowdOf.mono _ _ _ _)
   | (with_reducible exact impl_FromSets.mono _ _ _)
   | (with_reducible exact laws_sameInts.mono _ _ _)
   | (with_reducible exact spec_AreLists.mono _ _ _)
   | (with_reducible exact spec_AssignmentOf.mono _ _ _ _)
   | (with_reducible exact spec_CrowdOf.mono _ _ _ _)
   | (with_reducible exact spec_DrawAssignmentOf.mono _ _)
   | (with_reducible exact spec_DrawFromSets.mono _ _)
   | (with_reducible exact spec_ElementsOf.mono _ _)
   | (with_reducible exact spec_EqualMatroid.mono _ _ _ _ _)
   | (with_reducible exact spec_FromSets.mono _ _ _)
   | (with_reducible exact spec_IsMatroid.mono _ _ _)
   | (with_reducible exact LeO.refl _)
   | (with_reducible exact LeO.none _)
   | (with_reducible refine LeO.ite ?_ ?_)
   | (with_reducible refine LeO.bind ?_ (fun _ => ?_))
   | exact ih0 _ _ _ _ _ _ _ _ _ _ _
   | exact ih1 _ _ _ _ _ _ _
   | exact ih2 _ _ _ _ _ _ _ _
   | exact impl_AreLists.mono _ _ _
   | exact impl_AssignmentOf.mono _ _ _ _
   | exact impl_CrowdOf.mono _ _ _ _
   | exact impl_FromSets.mono _ _ _
   | exact laws_sameInts.mono _ _ _
   | exact spec_AreLists.mono _ _ _
   | exact spec_AssignmentOf.mono _ _ _ _
   | exact spec_CrowdOf.mono _ _ _ _
   | exact spec_DrawAssignmentOf.mono _ _
   | exact spec_DrawFromSets.mono _ _
   | exact spec_ElementsOf.mono _ _
   | exact spec_EqualMatroid.mono _ _ _ _ _
   | exact spec_FromSets.mono _ _ _
   | exact spec_IsMatroid.mono _ _ _
   | exact LeO.none _
   | refine LeO.ite ?_ ?_
   | refine LeO.bind ?_ (fun _ => ?_)
  ·intro y0 y1 y2 y3 y4 y5 y6
   unfold laws_FnTransversals.j1
   repeat' first
   | (with_reducible exact ih0 _ _ _ _ _ _ _ _ _ _ _)
   | (with_reducible exact ih1 _ _ _ _ _ _ _)
   | (with_reducible exact ih2 _ _ _ _ _ _ _ _)
   | (with_reducible exact impl_AreLists.mono _ _ _)
   | (with_reducible exact impl_AssignmentOf.mono _ _ _ _)
   | (with_reducible exact impl_CrowdOf.mono _ _ _ _)
   | (with_reducible exact impl_FromSets.mono _ _ _)
   | (with_reducible exact laws_sameInts.mono _ _ _)
   | (with_reducible exact spec_AreLists.mono _ _ _)
   | (with_reducible exact spec_AssignmentOf.mono _ _ _ _)
   | (with_reducible exact spec_CrowdOf.mono _ _ _ _)
   | (with_reducible exact spec_DrawAssignmentOf.mono _ _)
   | (with_reducible exact spec_DrawFromSets.mono _ _)
   | (with_reducible exact spec_ElementsOf.mono _ _)
   | (with_reducible exact spec_EqualMatroid.mono _ _ _ _ _)
   | (with_reducible exact spec_FromSets.mono _ _ _)
   | (with_reducible exact spec_IsMatroid.mono _ _ _)
   | (with_reducible exact LeO.refl _)
   | (with_reducible exact LeO.none _)
   | (with_reducible refine LeO.ite ?_ ?_)
   | (with_reducible refine LeO.bind ?_ (fun _ => ?_))
   | exact ih0 _ _ _ _ _ _ _ _ _ _ _
   | exact ih1 _ _ _ _ _ _ _
   | exact ih2 _ _ _ _ _ _ _ _
   | exact impl_AreLists.mono _ _ _
   | exact impl_AssignmentOf.mono _ _ _ _
   | exact impl_CrowdOf.mono _ _ _ _
   | exact impl_FromSets.mono _ _ _
   | exact laws_sameInts.mono _ _ _
   | exact spec_AreLists.mono _ _ _
   | exact spec_AssignmentOf.mono _ _ _ _
   | exact spec_CrowdOf.mono _ _ _ _
   | exact spec_DrawAssignmentOf.mono _ _
   | exact spec_DrawFromSets.mono _ _
   | exact spec_ElementsOf.mono _ _
   | exact spec_EqualMatroid.mono _ _ _ _ _
   | exact spec_FromSets.mono _ _ _
   | exact spec_IsMatroid.mono _ _ _
   | exact LeO.none _
   | refine LeO.ite ?_ ?_
   | refine LeO.bind ?_ (fun _ => ?_)
  ·intro y0 y1 y2 y3 y4 y5 y6 y7
   unfold laws_FnTransversals.l0
   repeat' first
   | (with_reducible exact ih0 _ _ _ _ _ _ _ _ _ _ _)
   | (with_reducible exact ih1 _ _ _ _ _ _ _)
   | (with_reducible exact ih2 _ _ _ _ _ _ _ _)
   | (with_reducible exact impl_AreLists.mono _ _ _)
   | (with_reducible exact impl_AssignmentOf.mono _ _ _ _)
   | (with_reducible exact impl_CrowdOf.mono _ _ _ _)
   | (with_reducible exact impl_FromSets.mono _ _ _)
   | (with_reducible exact laws_sameInts.mono _ _ _)
   | (with_reducible exact spec_AreLists.mono _ _ _)
   | (with_reducible exact spec_AssignmentOf.mono _ _ _ _)
   | (with_reducible exact spec_CrowdOf.mono _ _ _ _)
   | (with_reducible exact spec_DrawAssignmentOf.mono _ _)
   | (with_reducible exact spec_DrawFromSets.mono _ _)
   | (with_reducible exact spec_ElementsOf.mono _ _)
   | (with_reducible exact spec_EqualMatroid.mono _ _ _ _ _)
   | (with_reducible exact spec_FromSets.mono _ _ _)
   | (with_reducible exact spec_IsMatroid.mono _ _ _)
   | (with_reducible exact LeO.refl _)
   | (with_reducible exact LeO.none _)
   | (with_reducible refine LeO.ite ?_ ?_)
   | (with_reducible refine LeO.bind ?_ (fun _ => ?_))
   | exact ih0 _ _ _ _ _ _ _ _ _ _ _
   | exact ih1 _ _ _ _ _ _ _
   | exact ih2 _ _ _ _ _ _ _ _
   | exact impl_AreLists.mono _ _ _
   | exact impl_AssignmentOf.mono _ _ _ _
   | exact impl_CrowdOf.mono _ _ _ _
   | exact impl_FromSets.mono _ _ _
   | exact laws_sameInts.mono _ _ _
   | exact spec_AreLists.mono _ _ _
   | exact spec_AssignmentOf.mono _ _ _ _
   | exact spec_CrowdOf.mono _ _ _ _
   | exact spec_DrawAssignmentOf.mono _ _
   | exact spec_DrawFromSets.mono _ _
   | exact spec_ElementsOf.mono _ _
   | exact spec_EqualMatroid.mono _ _ _ _ _
   | exact spec_FromSets.mono _ _ _
   | exact spec_IsMatroid.mono _ _ _
   | exact LeO.none _
   | refine LeO.ite ?_ ?_
   | refine LeO.bind ?_ (fun _ => ?_)
theorem laws_FnTransversals.mono : ∀ a0 k, LeO (laws_FnTransversals.f k a0) (laws_FnTransversals.f (k + 1) a0) := by
 intro a0 k
 obtain ⟨ih0, ih1, ih2⟩ := laws_FnTransversals.mono_l k
 unfold laws_FnTransversals.f
 repeat' first
   | (with_reducible exact ih0 _ _ _ _ _ _ _ _ _ _ _)
   | (with_reducible exact ih1 _ _ _ _ _ _ _)
   | (with_reducible exact ih2 _ _ _ _ _ _ _ _)
   | (with_reducible exact impl_AreLists.mono _ _ _)
   | (with_reducible exact impl_AssignmentOf.mono _ _ _ _)
   | (with_reducible exact impl_CrowdOf.mono _ _ _ _)
   | (with_reducible exact impl_FromSets.mono _ _ _)
   | (with_reducible exact laws_sameInts.mono _ _ _)
   | (with_reducible exact spec_AreLists.mono _ _ _)
   | (with_reducible exact spec_AssignmentOf.mono _ _ _ _)
   | (with_reducible exact spec_CrowdOf.mono _ _ _ _)
   | (with_reducible exact spec_DrawAssignmentOf.mono _ _)
   | (with_reducible exact spec_DrawFromSets.mono _ _)
   | (with_reducible exact spec_ElementsOf.mono _ _)
   | (with_reducible exact spec_EqualMatroid.mono _ _ _ _ _)
   | (with_reducible exact spec_FromSets.mono _ _ _)
   | (with_reducible exact spec_IsMatroid.mono _ _ _)
   | (with_reducible exact LeO.refl _)
   | (with_reducible exact LeO.none _)
   | (with_reducible refine LeO.ite ?_ ?_)
   | (with_reducible refine LeO.bind ?_ (fun _ => ?_))
   | exact ih0 _ _ _ _ _ _ _ _ _ _ _
   | exact ih1 _ _ _ _ _ _ _
   | exact ih2 _ _ _ _ _ _ _ _
   | exact impl_AreLists.mono _ _ _
   | exact impl_AssignmentOf.mono _ _ _ _
   | exact impl_CrowdOf.mono _ _ _ _
   | exact impl_FromSets.mono _ _ _
   | exact laws_sameInts.mono _ _ _
   | exact spec_AreLists.mono _ _ _
   | exact spec_AssignmentOf.mono _ _ _ _
   | exact spec_CrowdOf.mono _ _ _ _
   | exact spec_DrawAssignmentOf.mono _ _
   | exact spec_DrawFromSets.mono _ _
   | exact spec_ElementsOf.mono _ _
   | exact spec_EqualMatroid.mono _ _ _ _ _
   | exact spec_FromSets.mono _ _ _
   | exact spec_IsMatroid.mono _ _ _
   | exact LeO.none _
   | refine LeO.ite ?_ ?_
   | refine LeO.bind ?_ (fun _ => ?_)
def laws_FnTransversals.T10 : Bool × List (List Nat × List Nat) := (true, [([], []), ([], []), ([], []), ([1, 2], [1, 2]), ([0, 3, 3], [0, 3]), ([4], [4]), ([5, 4], [5]), ([6], [6]), ([6], [6]), ([7, 8, 6], [6, 7, 8]), ([6, 9], [6, 9]), ([10, 6], [10]), ([11], [11]), ([11], [11]), ([12, 13, 11, 11], [11, 12, 13]), ([14, 11], [11, 14]), ([11, 15], [11, 15]), ([16, 14], [16]), ([17], [17]), ([17], [17]), ([18, 19, 17], [17, 18, 19]), ([17, 20], [17, 20]), ([21, 17], [21]), ([22], [22]), ([22], [22]), ([23, 24, 22], [22, 23, 24]), ([22, 25], [22, 25]), ([26, 22], [26]), ([27], [27]), ([27], [27]), ([28, 29, 27, 27], [27, 28, 29]), ([27], [27]), ([27], [27]), ([31, 32, 30, 27], [27, 31, 32]), ([30, 33, 27], [27, 30, 33]), ([27, 34], [27, 34])])
def laws_FnTransversals.B10 : List Nat := [0, 0, 0, 6, 15, 31, 63, 127, 127, 511, 1023, 2047, 4095, 4095, 16383, 32767, 65535, 131071, 262143, 262143, 1048575, 2097151, 4194303, 8388607, 8388607, 33554431, 67108863, 134217727, 268435455, 268435455, 1073741823, 268435455, 268435455, 8589934591, 17179869183, 34359738367]
theorem laws_FnTransversals.tab10 : rtab .any (opsOf Try.f7 10) = laws_FnTransversals.T10 := by kernel_rfl
theorem laws_FnTransversals.bits10 : waitsOk laws_FnTransversals.T10.2 laws_FnTransversals.B10 = true := by kernel_rfl
def laws_FnTransversals.T18 : Bool × List (List Nat × List Nat) := (true, [([], []), ([], []), ([], []), ([1, 2], [1, 2]), ([3], [3]), ([0, 4], [0, 4]), ([5], [5]), ([], []), ([], []), ([7, 8], [7, 8]), ([9], [9]), ([6, 10], [6, 10]), ([11], [11])])
def laws_FnTransversals.B18 : List Nat := [0, 0, 0, 6, 14, 31, 63, 0, 0, 384, 896, 2047, 4095]
theorem laws_FnTransversals.tab18 : rtab .any (opsOf Try.f7 18) = laws_FnTransversals.T18 := by kernel_rfl
theorem laws_FnTransversals.bits18 : waitsOk laws_FnTransversals.T18.2 laws_FnTransversals.B18 = true := by kernel_rfl
set_option maxHeartbeats 8000000 in
set_option maxRecDepth 100000 in
theorem laws_FnTransversals.calls (k : Nat) (A0 : Option Addr) (c0 : Nat) (l0 : List Int) (w : World) (hr0 : Kd.C (Kd.int .u8) w A0 l0.length l0) (hc0 : l0.length ≤ c0) (h : laws_FnTransversals.f k l0 = some true) :
  Calls Try.prog 7 #[.slice A0 l0.length c0] w fun e w' => e = .returned (.bool true) ∧ Below w.heap.size w w' := by
 have hu28 := Try.underlying28
 have HR0 := aQ hr0
 have HC0 := aQ hc0
 clear hr0 hc0
 have HB := aQ (Below.refl w.heap.size w)
 have H : ((laws_big.f l0).bind fun t8001 => (if t8001 = true then (some true) else ((spec_DrawFromSets.f k l0).bind fun bt8002 => ((impl_FromSets.f k bt8002.1 bt8002.2).bind fun bt8006 => ((spec_DrawAssignmentOf.f k l0).bind fun bt8011 => ((impl_AssignmentOf.f k bt8011.1 bt8011.2.1 bt8011.2.2).bind fun bt8016 => ((spec_AssignmentOf.f k bt8011.1 bt8011.2.1 bt8011.2.2).bind fun bt8020 => ((impl_CrowdOf.f k bt8011.1 bt8011.2.1 bt8011.2.2).bind fun bt8024 => ((spec_CrowdOf.f k bt8011.1 bt8011.2.1 bt8011.2.2).bind fun bt8026 => ((spec_FromSets.f k bt8002.1 bt8002.2).bind fun bt8028 => ((spec_EqualMatroid.f k bt8006.1 bt8006.2 bt8028.1 bt8028.2).bind fun t8032 => (if t8032 = true then (if (bt8016.2 != bt8020.2) = true then (laws_FnTransversals.j0 k bt8002.1 bt8002.2 bt8011.1 bt8011.2.1 bt8011.2.2 bt8016.1 bt8016.2 bt8024.2 true bt8006.1 bt8006.2) else ((laws_sameInts.f k bt8016.1 bt8020.1).bind fun t8033 => (if t8033 = true then (if bt8024.1 = bt8026.1 then (if (bt8024.2 != bt8026.2) = true then (laws_FnTransversals.j0 k bt8002.1 bt8002.2 bt8011.1 bt8011.2.1 bt8011.2.2 bt8016.1 bt8016.2 bt8024.2 true bt8006.1 bt8006.2) else ((impl_AreLists.f k bt8002.1 bt8002.2).bind fun t8034 => ((spec_AreLists.f k bt8002.1 bt8002.2).bind fun t8035 => (laws_FnTransversals.j0 k bt8002.1 bt8002.2 bt8011.1 bt8011.2.1 bt8011.2.2 bt8016.1 bt8016.2 bt8024.2 (t8034 != t8035) bt8006.1 bt8006.2)))) else (laws_FnTransversals.j0 k bt8002.1 bt8002.2 bt8011.1 bt8011.2.1 bt8011.2.2 bt8016.1 bt8016.2 bt8024.2 true bt8006.1 bt8006.2)) else (laws_FnTransversals.j0 k bt8002.1 bt8002.2 bt8011.1 bt8011.2.1 bt8011.2.2 bt8016.1 bt8016.2 bt8024.2 true bt8006.1 bt8006.2)))) else (laws_FnTransversals.j0 k bt8002.1 bt8002.2 bt8011.1 bt8011.2.1 bt8011.2.2 bt8016.1 bt8016.2 bt8024.2 true bt8006.1 bt8006.2))))))))))))) = some true := h
 clear h
 replace H := Option.bind_eq_some_iff.mp H
 obtain ⟨t8001, A20, H⟩ := H
 replace H : (if t8001 = true then (some true) else ((spec_DrawFromSets.f k l0).bind fun bt8002 => ((impl_FromSets.f k bt8002.1 bt8002.2).bind fun bt8006 => ((spec_DrawAssignmentOf.f k l0).bind fun bt8011 => ((impl_AssignmentOf.f k bt8011.1 bt8011.2.1 bt8011.2.2).bind fun bt8016 => ((spec_AssignmentOf.f k bt8011.1 bt8011.2.1 bt8011.2.2).bind fun bt8020 => ((impl_CrowdOf.f k bt8011.1 bt8011.2.1 bt8011.2.2).bind fun bt8024 => ((spec_CrowdOf.f k bt8011.1 bt8011.2.1 bt8011.2.2).bind fun bt8026 => ((spec_FromSets.f k bt8002.1 bt8002.2).bind fun bt8028 => ((spec_EqualMatroid.f k bt8006.1 bt8006.2 bt8028.1 bt8028.2).bind fun t8032 => (if t8032 = true then (if (bt8016.2 != bt8020.2) = true then (laws_FnTransversals.j0 k bt8002.1 bt8002.2 bt8011.1 bt8011.2.1 bt8011.2.2 bt8016.1 bt8016.2 bt8024.2 true bt8006.1 bt8006.2) else ((laws_sameInts.f k bt8016.1 bt8020.1).bind fun t8033 => (if t8033 = true then (if bt8024.1 = bt8026.1 then (if (bt8024.2 != bt8026.2) = true then (laws_FnTransversals.j0 k bt8002.1 bt8002.2 bt8011.1 bt8011.2.1 bt8011.2.2 bt8016.1 bt8016.2 bt8024.2 true bt8006.1 bt8006.2) else ((impl_AreLists.f k bt8002.1 bt8002.2).bind fun t8034 => ((spec_AreLists.f k bt8002.1 bt8002.2).bind fun t8035 => (laws_FnTransversals.j0 k bt8002.1 bt8002.2 bt8011.1 bt8011.2.1 bt8011.2.2 bt8016.1 bt8016.2 bt8024.2 (t8034 != t8035) bt8006.1 bt8006.2)))) else (laws_FnTransversals.j0 k bt8002.1 bt8002.2 bt8011.1 bt8011.2.1 bt8011.2.2 bt8016.1 bt8016.2 bt8024.2 true bt8006.1 bt8006.2)) else (laws_FnTransversals.j0 k bt8002.1 bt8002.2 bt8011.1 bt8011.2.1 bt8011.2.2 bt8016.1 bt8016.2 bt8024.2 true bt8006.1 bt8006.2)))) else (laws_FnTransversals.j0 k bt8002.1 bt8002.2 bt8011.1 bt8011.2.1 bt8011.2.2 bt8016.1 bt8016.2 bt8024.2 true bt8006.1 bt8006.2)))))))))))) = some true := H
 have A2 := aQ A20
 clear A20
 by_cases c3 : t8001 = true
 ·subst c3
  have H1 : (some true) = some true := rfl
  clear H
  have H := H1
  clear H1
  have HR_ := Option.some.inj H
  (try (have HS_ := HR_; simp only [bne_iff_ne, ne_eq] at HS_))
  clear H
  go_enter Try.func7, Try.ntmps7
  go_wp2_with (first | ((with_reducible refine gate_callee (f := 22) rfl ?_); refine goesL_ (some 20) rfl rfl Try.func22 (by kernel_rfl) rfl #[.slice A0 l0.length c0] rfl lm ?_; (with_reducible refine (laws_big.calls _ _ l0 true _ ?side1 ?side2 A2.out).mono ?_); (case side1 => exact pC HR0.out); (case side2 => exact HC0.out); rintro e w' ⟨rfl, ⟨nd, rfl⟩⟩; refine ⟨_, rfl, ?_⟩))
  go_ret
  exact ⟨re_, pB HB.out⟩
 ·replace c3 := Bool.eq_false_iff.mpr c3
  subst c3
  have H1 : ((spec_DrawFromSets.f k l0).bind fun bt8002 => ((impl_FromSets.f k bt8002.1 bt8002.2).bind fun bt8006 => ((spec_DrawAssignmentOf.f k l0).bind fun bt8011 => ((impl_AssignmentOf.f k bt8011.1 bt8011.2.1 bt8011.2.2).bind fun bt8016 => ((spec_AssignmentOf.f k bt8011.1 bt8011.2.1 bt8011.2.2).bind fun bt8020 => ((impl_CrowdOf.f k bt8011.1 bt8011.2.1 bt8011.2.2).bind fun bt8024 => ((spec_CrowdOf.f k bt8011.1 bt8011.2.1 bt8011.2.2).bind fun bt8026 => ((spec_FromSets.f k bt8002.1 bt8002.2).bind fun bt8028 => ((spec_EqualMatroid.f k bt8006.1 bt8006.2 bt8028.1 bt8028.2).bind fun t8032 => (if t8032 = true then (if (bt8016.2 != bt8020.2) = true then (laws_FnTransversals.j0 k bt8002.1 bt8002.2 bt8011.1 bt8011.2.1 bt8011.2.2 bt8016.1 bt8016.2 bt8024.2 true bt8006.1 bt8006.2) else ((laws_sameInts.f k bt8016.1 bt8020.1).bind fun t8033 => (if t8033 = true then (if bt8024.1 = bt8026.1 then (if (bt8024.2 != bt8026.2) = true then (laws_FnTransversals.j0 k bt8002.1 bt8002.2 bt8011.1 bt8011.2.1 bt8011.2.2 bt8016.1 bt8016.2 bt8024.2 true bt8006.1 bt8006.2) else ((impl_AreLists.f k bt8002.1 bt8002.2).bind fun t8034 => ((spec_AreLists.f k bt8002.1 bt8002.2).bind fun t8035 => (laws_FnTransversals.j0 k bt8002.1 bt8002.2 bt8011.1 bt8011.2.1 bt8011.2.2 bt8016.1 bt8016.2 bt8024.2 (t8034 != t8035) bt8006.1 bt8006.2)))) else (laws_FnTransversals.j0 k bt8002.1 bt8002.2 bt8011.1 bt8011.2.1 bt8011.2.2 bt8016.1 bt8016.2 bt8024.2 true bt8006.1 bt8006.2)) else (laws_FnTransversals.j0 k bt8002.1 bt8002.2 bt8011.1 bt8011.2.1 bt8011.2.2 bt8016.1 bt8016.2 bt8024.2 true bt8006.1 bt8006.2)))) else (laws_FnTransversals.j0 k bt8002.1 bt8002.2 bt8011.1 bt8011.2.1 bt8011.2.2 bt8016.1 bt8016.2 bt8024.2 true bt8006.1 bt8006.2))))))))))) = some true := by rw [if_neg (show ¬ (false = true) by decide)] at H; exact H
  clear H
  have H := H1
  clear H1
  replace H := Option.bind_eq_some_iff.mp H
  obtain ⟨⟨t8002, t8003⟩, A40, H⟩ := H
  replace H : ((impl_FromSets.f k t8002 t8003).bind fun bt8006 => ((spec_DrawAssignmentOf.f k l0).bind fun bt8011 => ((impl_AssignmentOf.f k bt8011.1 bt8011.2.1 bt8011.2.2).bind fun bt8016 => ((spec_AssignmentOf.f k bt8011.1 bt8011.2.1 bt8011.2.2).bind fun bt8020 => ((impl_CrowdOf.f k bt8011.1 bt8011.2.1 bt8011.2.2).bind fun bt8024 => ((spec_CrowdOf.f k bt8011.1 bt8011.2.1 bt8011.2.2).bind fun bt8026 => ((spec_FromSets.f k t8002 t8003).bind fun bt8028 => ((spec_EqualMatroid.f k bt8006.1 bt8006.2 bt8028.1 bt8028.2).bind fun t8032 => (if t8032 = true then (if (bt8016.2 != bt8020.2) = true then (laws_FnTransversals.j0 k t8002 t8003 bt8011.1 bt8011.2.1 bt8011.2.2 bt8016.1 bt8016.2 bt8024.2 true bt8006.1 bt8006.2) else ((laws_sameInts.f k bt8016.1 bt8020.1).bind fun t8033 => (if t8033 = true then (if bt8024.1 = bt8026.1 then (if (bt8024.2 != bt8026.2) = true then (laws_FnTransversals.j0 k t8002 t8003 bt8011.1 bt8011.2.1 bt8011.2.2 bt8016.1 bt8016.2 bt8024.2 true bt8006.1 bt8006.2) else ((impl_AreLists.f k t8002 t8003).bind fun t8034 => ((spec_AreLists.f k t8002 t8003).bind fun t8035 => (laws_FnTransversals.j0 k t8002 t8003 bt8011.1 bt8011.2.1 bt8011.2.2 bt8016.1 bt8016.2 bt8024.2 (t8034 != t8035) bt8006.1 bt8006.2)))) else (laws_FnTransversals.j0 k t8002 t8003 bt8011.1 bt8011.2.1 bt8011.2.2 bt8016.1 bt8016.2 bt8024.2 true bt8006.1 bt8006.2)) else (laws_FnTransversals.j0 k t8002 t8003 bt8011.1 bt8011.2.1 bt8011.2.2 bt8016.1 bt8016.2 bt8024.2 true bt8006.1 bt8006.2)))) else (laws_FnTransversals.j0 k t8002 t8003 bt8011.1 bt8011.2.1 bt8011.2.2 bt8016.1 bt8016.2 bt8024.2 true bt8006.1 bt8006.2)))))))))) = some true := H
  have A4 := aQ A40
  clear A40
  replace H := Option.bind_eq_some_iff.mp H
  obtain ⟨⟨t8006, t8007⟩, A50, H⟩ := H
  replace H : ((spec_DrawAssignmentOf.f k l0).bind fun bt8011 => ((impl_AssignmentOf.f k bt8011.1 bt8011.2.1 bt8011.2.2).bind fun bt8016 => ((spec_AssignmentOf.f k bt8011.1 bt8011.2.1 bt8011.2.2).bind fun bt8020 => ((impl_CrowdOf.f k bt8011.1 bt8011.2.1 bt8011.2.2).bind fun bt8024 => ((spec_CrowdOf.f k bt8011.1 bt8011.2.1 bt8011.2.2).bind fun bt8026 => ((spec_FromSets.f k t8002 t8003).bind fun bt8028 => ((spec_EqualMatroid.f k t8006 t8007 bt8028.1 bt8028.2).bind fun t8032 => (if t8032 = true then (if (bt8016.2 != bt8020.2) = true then (laws_FnTransversals.j0 k t8002 t8003 bt8011.1 bt8011.2.1 bt8011.2.2 bt8016.1 bt8016.2 bt8024.2 true t8006 t8007) else ((laws_sameInts.f k bt8016.1 bt8020.1).bind fun t8033 => (if t8033 = true then (if bt8024.1 = bt8026.1 then (if (bt8024.2 != bt8026.2) = true then (laws_FnTransversals.j0 k t8002 t8003 bt8011.1 bt8011.2.1 bt8011.2.2 bt8016.1 bt8016.2 bt8024.2 true t8006 t8007) else ((impl_AreLists.f k t8002 t8003).bind fun t8034 => ((spec_AreLists.f k t8002 t8003).bind fun t8035 => (laws_FnTransversals.j0 k t8002 t8003 bt8011.1 bt8011.2.1 bt8011.2.2 bt8016.1 bt8016.2 bt8024.2 (t8034 != t8035) t8006 t8007)))) else (laws_FnTransversals.j0 k t8002 t8003 bt8011.1 bt8011.2.1 bt8011.2.2 bt8016.1 bt8016.2 bt8024.2 true t8006 t8007)) else (laws_FnTransversals.j0 k t8002 t8003 bt8011.1 bt8011.2.1 bt8011.2.2 bt8016.1 bt8016.2 bt8024.2 true t8006 t8007)))) else (laws_FnTransversals.j0 k t8002 t8003 bt8011.1 bt8011.2.1 bt8011.2.2 bt8016.1 bt8016.2 bt8024.2 true t8006 t8007))))))))) = some true := H
  have A5 := aQ A50
  clear A50
  replace H := Option.bind_eq_some_iff.mp H
  obtain ⟨⟨t8011, t8012, t8013⟩, A60, H⟩ := H
  replace H : ((impl_AssignmentOf.f k t8011 t8012 t8013).bind fun bt8016 => ((spec_AssignmentOf.f k t8011 t8012 t8013).bind fun bt8020 => ((impl_CrowdOf.f k t8011 t8012 t8013).bind fun bt8024 => ((spec_CrowdOf.f k t8011 t8012 t8013).bind fun bt8026 => ((spec_FromSets.f k t8002 t8003).bind fun bt8028 => ((spec_EqualMatroid.f k t8006 t8007 bt8028.1 bt8028.2).bind fun t8032 => (if t8032 = true then (if (bt8016.2 != bt8020.2) = true then (laws_FnTransversals.j0 k t8002 t8003 t8011 t8012 t8013 bt8016.1 bt8016.2 bt8024.2 true t8006 t8007) else ((laws_sameInts.f k bt8016.1 bt8020.1).bind fun t8033 => (if t8033 = true then (if bt8024.1 = bt8026.1 then (if (bt8024.2 != bt8026.2) = true then (laws_FnTransversals.j0 k t8002 t8003 t8011 t8012 t8013 bt8016.1 bt8016.2 bt8024.2 true t8006 t8007) else ((impl_AreLists.f k t8002 t8003).bind fun t8034 => ((spec_AreLists.f k t8002 t8003).bind fun t8035 => (laws_FnTransversals.j0 k t8002 t8003 t8011 t8012 t8013 bt8016.1 bt8016.2 bt8024.2 (t8034 != t8035) t8006 t8007)))) else (laws_FnTransversals.j0 k t8002 t8003 t8011 t8012 t8013 bt8016.1 bt8016.2 bt8024.2 true t8006 t8007)) else (laws_FnTransversals.j0 k t8002 t8003 t8011 t8012 t8013 bt8016.1 bt8016.2 bt8024.2 true t8006 t8007)))) else (laws_FnTransversals.j0 k t8002 t8003 t8011 t8012 t8013 bt8016.1 bt8016.2 bt8024.2 true t8006 t8007)))))))) = some true := H
  have A6 := aQ A60
  clear A60
  replace H := Option.bind_eq_some_iff.mp H
  obtain ⟨⟨t8016, t8017⟩, A70, H⟩ := H
  replace H : ((spec_AssignmentOf.f k t8011 t8012 t8013).bind fun bt8020 => ((impl_CrowdOf.f k t8011 t8012 t8013).bind fun bt8024 => ((spec_CrowdOf.f k t8011 t8012 t8013).bind fun bt8026 => ((spec_FromSets.f k t8002 t8003).bind fun bt8028 => ((spec_EqualMatroid.f k t8006 t8007 bt8028.1 bt8028.2).bind fun t8032 => (if t8032 = true then (if (t8017 != bt8020.2) = true then (laws_FnTransversals.j0 k t8002 t8003 t8011 t8012 t8013 t8016 t8017 bt8024.2 true t8006 t8007) else ((laws_sameInts.f k t8016 bt8020.1).bind fun t8033 => (if t8033 = true then (if bt8024.1 = bt8026.1 then (if (bt8024.2 != bt8026.2) = true then (laws_FnTransversals.j0 k t8002 t8003 t8011 t8012 t8013 t8016 t8017 bt8024.2 true t8006 t8007) else ((impl_AreLists.f k t8002 t8003).bind fun t8034 => ((spec_AreLists.f k t8002 t8003).bind fun t8035 => (laws_FnTransversals.j0 k t8002 t8003 t8011 t8012 t8013 t8016 t8017 bt8024.2 (t8034 != t8035) t8006 t8007)))) else (laws_FnTransversals.j0 k t8002 t8003 t8011 t8012 t8013 t8016 t8017 bt8024.2 true t8006 t8007)) else (laws_FnTransversals.j0 k t8002 t8003 t8011 t8012 t8013 t8016 t8017 bt8024.2 true t8006 t8007)))) else (laws_FnTransversals.j0 k t8002 t8003 t8011 t8012 t8013 t8016 t8017 bt8024.2 true t8006 t8007))))))) = some true := H
  have A7 := aQ A70
  clear A70
  replace H := Option.bind_eq_some_iff.mp H
  obtain ⟨⟨t8020, t8021⟩, A80, H⟩ := H
  replace H : ((impl_CrowdOf.f k t8011 t8012 t8013).bind fun bt8024 => ((spec_CrowdOf.f k t8011 t8012 t8013).bind fun bt8026 => ((spec_FromSets.f k t8002 t8003).bind fun bt8028 => ((spec_EqualMatroid.f k t8006 t8007 bt8028.1 bt8028.2).bind fun t8032 => (if t8032 = true then (if (t8017 != t8021) = true then (laws_FnTransversals.j0 k t8002 t8003 t8011 t8012 t8013 t8016 t8017 bt8024.2 true t8006 t8007) else ((laws_sameInts.f k t8016 t8020).bind fun t8033 => (if t8033 = true then (if bt8024.1 = bt8026.1 then (if (bt8024.2 != bt8026.2) = true then (laws_FnTransversals.j0 k t8002 t8003 t8011 t8012 t8013 t8016 t8017 bt8024.2 true t8006 t8007) else ((impl_AreLists.f k t8002 t8003).bind fun t8034 => ((spec_AreLists.f k t8002 t8003).bind fun t8035 => (laws_FnTransversals.j0 k t8002 t8003 t8011 t8012 t8013 t8016 t8017 bt8024.2 (t8034 != t8035) t8006 t8007)))) else (laws_FnTransversals.j0 k t8002 t8003 t8011 t8012 t8013 t8016 t8017 bt8024.2 true t8006 t8007)) else (laws_FnTransversals.j0 k t8002 t8003 t8011 t8012 t8013 t8016 t8017 bt8024.2 true t8006 t8007)))) else (laws_FnTransversals.j0 k t8002 t8003 t8011 t8012 t8013 t8016 t8017 bt8024.2 true t8006 t8007)))))) = some true := H
  have A8 := aQ A80
  clear A80
  replace H := Option.bind_eq_some_iff.mp H
  obtain ⟨⟨t8024, t8025⟩, A90, H⟩ := H
  replace H : ((spec_CrowdOf.f k t8011 t8012 t8013).bind fun bt8026 => ((spec_FromSets.f k t8002 t8003).bind fun bt8028 => ((spec_EqualMatroid.f k t8006 t8007 bt8028.1 bt8028.2).bind fun t8032 => (if t8032 = true then (if (t8017 != t8021) = true then (laws_FnTransversals.j0 k t8002 t8003 t8011 t8012 t8013 t8016 t8017 t8025 true t8006 t8007) else ((laws_sameInts.f k t8016 t8020).bind fun t8033 => (if t8033 = true then (if t8024 = bt8026.1 then (if (t8025 != bt8026.2) = true then (laws_FnTransversals.j0 k t8002 t8003 t8011 t8012 t8013 t8016 t8017 t8025 true t8006 t8007) else ((impl_AreLists.f k t8002 t8003).bind fun t8034 => ((spec_AreLists.f k t8002 t8003).bind fun t8035 => (laws_FnTransversals.j0 k t8002 t8003 t8011 t8012 t8013 t8016 t8017 t8025 (t8034 != t8035) t8006 t8007)))) else (laws_FnTransversals.j0 k t8002 t8003 t8011 t8012 t8013 t8016 t8017 t8025 true t8006 t8007)) else (laws_FnTransversals.j0 k t8002 t8003 t8011 t8012 t8013 t8016 t8017 t8025 true t8006 t8007)))) else (laws_FnTransversals.j0 k t8002 t8003 t8011 t8012 t8013 t8016 t8017 t8025 true t8006 t8007))))) = some true := H
  have A9 := aQ A90
  clear A90
  replace H := Option.bind_eq_some_iff.mp H
  obtain ⟨⟨t8026, t8027⟩, A100, H⟩ := H
  replace H : ((spec_FromSets.f k t8002 t8003).bind fun bt8028 => ((spec_EqualMatroid.f k t8006 t8007 bt8028.1 bt8028.2).bind fun t8032 => (if t8032 = true then (if (t8017 != t8021) = true then (laws_FnTransversals.j0 k t8002 t8003 t8011 t8012 t8013 t8016 t8017 t8025 true t8006 t8007) else ((laws_sameInts.f k t8016 t8020).bind fun t8033 => (if t8033 = true then (if t8024 = t8026 then (if (t8025 != t8027) = true then (laws_FnTransversals.j0 k t8002 t8003 t8011 t8012 t8013 t8016 t8017 t8025 true t8006 t8007) else ((impl_AreLists.f k t8002 t8003).bind fun t8034 => ((spec_AreLists.f k t8002 t8003).bind fun t8035 => (laws_FnTransversals.j0 k t8002 t8003 t8011 t8012 t8013 t8016 t8017 t8025 (t8034 != t8035) t8006 t8007)))) else (laws_FnTransversals.j0 k t8002 t8003 t8011 t8012 t8013 t8016 t8017 t8025 true t8006 t8007)) else (laws_FnTransversals.j0 k t8002 t8003 t8011 t8012 t8013 t8016 t8017 t8025 true t8006 t8007)))) else (laws_FnTransversals.j0 k t8002 t8003 t8011 t8012 t8013 t8016 t8017 t8025 true t8006 t8007)))) = some true := H
  have A10 := aQ A100
  clear A100
  have HC11 := aQ H
  clear H
  go_enter Try.func7, Try.ntmps7
  go_upto_region 10 with (first | ((with_reducible refine gate_callee (f := 22) rfl ?_); refine goesL_ (some 20) rfl rfl Try.func22 (by kernel_rfl) rfl #[.slice A0 l0.length c0] rfl lm ?_; (with_reducible refine (laws_big.calls _ _ l0 false _ ?side1 ?side2 A2.out).mono ?_); (case side1 => exact pC HR0.out); (case side2 => exact HC0.out); rintro e w' ⟨rfl, ⟨nd, rfl⟩⟩; refine ⟨_, rfl, ?_⟩) | ((with_reducible refine gate_callee (f := 41) rfl ?_); refine goesL_ (some 23) rfl rfl Try.func41 (by kernel_rfl) rfl #[.slice A0 l0.length c0] rfl lm ?_; (with_reducible refine (spec_DrawFromSets.calls k _ _ l0 t8002 t8003 _ ?side1 ?side2 A4.out).mono ?_); (case side1 => exact pC HR0.out); (case side2 => exact HC0.out); rintro e w12 ⟨v8004, rfl, ho0, hb⟩; refine ⟨_, rfl, ?_⟩; have HO8005 := aQ (Kd.R_lower ho0 (below_size (pB HB.out))); replace HB := aQ (below_step (pB HB.out) hb); (try clear hb); (try clear ho0); obtain ⟨Ao13, co13, eo13⟩ := Kd.R_slice HO8005.out; subst eo13) | ((with_reducible refine gate_callee (f := 42) rfl ?_); refine goesL_ (some 28) rfl rfl Try.func42 (by kernel_rfl) rfl #[.int .i64 t8002, .slice Ao13 t8003.length co13] rfl lm ?_; (with_reducible refine (impl_FromSets.calls k t8002 _ _ t8003 t8006 t8007 _ ?side1 ?side2 A5.out).mono ?_); (case side1 => repeat (first | exact (Kd.R_reads' HO8005.out).2.2 | (with_reducible refine Kd.C_alloc ?_ _) | (with_reducible refine Kd.C_drewN ?_ _) | (with_reducible refine Kd.C_drew ?_))); (case side2 => exact (Kd.R_reads' HO8005.out).2.1); rintro e w14 ⟨v8008, rfl, ho0, hb⟩; refine ⟨_, rfl, ?_⟩; have HO8009 := aQ (Kd.R_lower (Kd.R_new' ho0 (Kd.R_lt (pR HO8005.out))) (below_size (pB HB.out))); replace HO8005 := aQ (Kd.R_elder' (pR HO8005.out) (Kd.R_base ho0) hb); replace HB := aQ (below_step (pB HB.out) hb); (try clear hb); (try clear ho0)) | ((with_reducible refine gate_dst (N := 5) rfl ?_); refine box_event ?hg (N := 5) ?hd (cs := #[.int .i64 0, .slice none 0 0]) (t := 28) ?hr ?_; (case hd => rfl); (case hg => rfl); (case hr => first | (go_simp; done) | (go_simp; rfl)); intro gb8010 hg w15 hbox hb; replace HO8005 := aQ (Kd.R_below (pR HO8005.out) hb); replace HO8009 := aQ (Kd.R_below (pR HO8009.out) hb); have BK8010 := aQ (hbox); have GW8010 := aQ ((by rw [hg]; exact (below_size (pB HB.out)) : w.heap.size ≤ gb8010)); have GE8010 := aQ ((by rw [hg]; exact (below_size (pB HB.out)) : w.heap.size ≤ gb8010)); replace HB := aQ (below_step (pB HB.out) hb); clear hb hbox hg; have hcz16_0 := bc (v := (.int .i64 0)) BK8010.out 0; have hcz16_1 := bc (v := (.slice none 0 0)) BK8010.out 1; have hfz16_0 := blk_frozen BK8010.out 0; have hfz16_1 := blk_frozen BK8010.out 1; obtain ⟨Ao17, co17, eo17⟩ := Kd.R_slice HO8009.out; subst eo17) | ((with_reducible refine gate_callee (f := 43) rfl ?_); refine goesL_ (some 31) rfl rfl Try.func43 (by kernel_rfl) rfl #[.slice A0 l0.length c0] rfl lm ?_; (with_reducible refine (spec_DrawAssignmentOf.calls k _ _ l0 t8011 t8012 t8013 _ ?side1 ?side2 A6.out).mono ?_); (case side1 => exact Kd.C_below HR0.out (pB1 HB.out GE8010.out)); (case side2 => exact HC0.out); rintro e w18 ⟨v8014, rfl, ho0, hb⟩; refine ⟨_, rfl, ?_⟩; have HO8015 := aQ (Kd.R_lower (Kd.R_new' (Kd.R_new' ho0 (Kd.R_lt (by (with_reducible repeat (first | apply Kd.R_alloc | apply Kd.R_drewN | apply Kd.R_drew)); exact (Kd.R_mono (Kd.R_far (p := ⟨gb8010, 1, none⟩) (Kd.R_far (p := ⟨gb8010, 0, none⟩) (Kd.R_types HO8005.out BK8010.out (by decide)) (fun _ hk => hk.2) (.int .i64 t8006)) (fun _ hk => hk.2) (.slice Ao17 t8007.length co17)) (fun _ h_ => h_.1))))) (Kd.R_lt (by (with_reducible repeat (first | apply Kd.R_alloc | apply Kd.R_drewN | apply Kd.R_drew)); exact (Kd.R_mono (Kd.R_far (p := ⟨gb8010, 1, none⟩) (Kd.R_far (p := ⟨gb8010, 0, none⟩) (Kd.R_types HO8009.out BK8010.out (by decide)) (fun _ hk => hk.2) (.int .i64 t8006)) (fun _ hk => hk.2) (.slice Ao17 t8007.length co17)) (fun _ h_ => h_.1))))) (below_size (pB1 HB.out GE8010.out))); replace HO8005 := aQ (Kd.R_elder' (by (with_reducible repeat (first | apply Kd.R_alloc | apply Kd.R_drewN | apply Kd.R_drew)); exact (Kd.R_mono (Kd.R_far (p := ⟨gb8010, 1, none⟩) (Kd.R_far (p := ⟨gb8010, 0, none⟩) (Kd.R_types HO8005.out BK8010.out (by decide)) (fun _ hk => hk.2) (.int .i64 t8006)) (fun _ hk => hk.2) (.slice Ao17 t8007.length co17)) (fun _ h_ => h_.1))) (Kd.R_base ho0) hb); replace HO8009 := aQ (Kd.R_elder' (by (with_reducible repeat (first | apply Kd.R_alloc | apply Kd.R_drewN | apply Kd.R_drew)); exact (Kd.R_mono (Kd.R_far (p := ⟨gb8010, 1, none⟩) (Kd.R_far (p := ⟨gb8010, 0, none⟩) (Kd.R_types HO8009.out BK8010.out (by decide)) (fun _ hk => hk.2) (.int .i64 t8006)) (fun _ hk => hk.2) (.slice Ao17 t8007.length co17)) (fun _ h_ => h_.1))) (Kd.R_base ho0) hb); replace BK8010 := aQ (blk_below (g := gb8010) (o := .cells #[.int .i64 t8006, .slice Ao17 t8007.length co17] 28 (0, 0)) (by (with_reducible repeat (first | refine blk_drewN ?_ _ | refine blk_drew ?_ | refine blk_alloc ?_ _)); refine blk_put (cs := #[.int .i64 t8006, .slice none 0 0]) ?_ 1 _ rfl; (with_reducible repeat (first | refine blk_drewN ?_ _ | refine blk_drew ?_ | refine blk_alloc ?_ _)); refine blk_put (cs := #[.int .i64 0, .slice none 0 0]) ?_ 0 _ rfl; (with_reducible repeat (first | refine blk_drewN ?_ _ | refine blk_drew ?_ | refine blk_alloc ?_ _)); exact BK8010.out) hb); replace HB := aQ (below_step (pB1 HB.out GE8010.out) hb); (try clear hb); (try clear hk); (try clear ho0); obtain ⟨Ao19, co19, eo19⟩ := Kd.R_slice HO8015.out; subst eo19) | ((with_reducible refine gate_callee (f := 44) rfl ?_); refine goesL_ (some 39) rfl rfl Try.func44 (by kernel_rfl) rfl #[.int .i64 t8011, .slice Ao19 t8012.length co19, .int .i64 t8013] rfl lm ?_; (with_reducible refine (impl_AssignmentOf.calls k t8011 _ _ t8012 t8013 t8016 t8017 _ ?side1 ?side2 A7.out).mono ?_); (case side1 => repeat (first | exact (Kd.R_reads' HO8015.out).2.2 | (with_reducible refine Kd.C_alloc ?_ _) | (with_reducible refine Kd.C_drewN ?_ _) | (with_reducible refine Kd.C_drew ?_))); (case side2 => exact (Kd.R_reads' HO8015.out).2.1); rintro e w20 ⟨v8018, rfl, ho0, hb⟩; refine ⟨_, rfl, ?_⟩; have HO8019 := aQ (Kd.R_lower (Kd.R_new' (Kd.R_new' (Kd.R_new' ho0 (Kd.R_lt (pR HO8005.out))) (Kd.R_lt (pR HO8009.out))) (Kd.R_lt (pR HO8015.out))) (below_size (pB1 HB.out GE8010.out))); replace HO8005 := aQ (Kd.R_elder' (pR HO8005.out) (Kd.R_base ho0) hb); replace HO8009 := aQ (Kd.R_elder' (pR HO8009.out) (Kd.R_base ho0) hb); replace HO8015 := aQ (Kd.R_elder' (pR HO8015.out) (Kd.R_base ho0) hb); replace BK8010 := aQ (blk_below (g := gb8010) (o := .cells #[.int .i64 t8006, .slice Ao17 t8007.length co17] 28 (0, 0)) (pk BK8010.out) hb); replace HB := aQ (below_step (pB1 HB.out GE8010.out) hb); (try clear hb); (try clear ho0)) | ((with_reducible refine gate_callee (f := 45) rfl ?_); refine goesL_ (some 46) rfl rfl Try.func45 (by kernel_rfl) rfl #[.int .i64 t8011, .slice Ao19 t8012.length co19, .int .i64 t8013] rfl lm ?_; (with_reducible refine (spec_AssignmentOf.calls k t8011 _ _ t8012 t8013 t8020 t8021 _ ?side1 ?side2 A8.out).mono ?_); (case side1 => repeat (first | exact (Kd.R_reads' HO8015.out).2.2 | (with_reducible refine Kd.C_alloc ?_ _) | (with_reducible refine Kd.C_drewN ?_ _) | (with_reducible refine Kd.C_drew ?_))); (case side2 => exact (Kd.R_reads' HO8015.out).2.1); rintro e w21 ⟨v8022, rfl, ho0, hb⟩; refine ⟨_, rfl, ?_⟩; have HO8023 := aQ (Kd.R_lower (Kd.R_new' (Kd.R_new' (Kd.R_new' (Kd.R_new' ho0 (Kd.R_lt (pR HO8005.out))) (Kd.R_lt (pR HO8009.out))) (Kd.R_lt (pR HO8015.out))) (Kd.R_lt (pR HO8019.out))) (below_size (pB1 HB.out GE8010.out))); replace HO8005 := aQ (Kd.R_elder' (pR HO8005.out) (Kd.R_base ho0) hb); replace HO8009 := aQ (Kd.R_elder' (pR HO8009.out) (Kd.R_base ho0) hb); replace HO8015 := aQ (Kd.R_elder' (pR HO8015.out) (Kd.R_base ho0) hb); replace HO8019 := aQ (Kd.R_elder' (pR HO8019.out) (Kd.R_base ho0) hb); replace BK8010 := aQ (blk_below (g := gb8010) (o := .cells #[.int .i64 t8006, .slice Ao17 t8007.length co17] 28 (0, 0)) (pk BK8010.out) hb); replace HB := aQ (below_step (pB1 HB.out GE8010.out) hb); (try clear hb); (try clear ho0)) | ((with_reducible refine gate_callee (f := 46) rfl ?_); refine goesL_ (some 53) rfl rfl Try.func46 (by kernel_rfl) rfl #[.int .i64 t8011, .slice Ao19 t8012.length co19, .int .i64 t8013] rfl lm ?_; (with_reducible refine (impl_CrowdOf.calls k t8011 _ _ t8012 t8013 t8024 t8025 _ ?side1 ?side2 A9.out).mono ?_); (case side1 => repeat (first | exact (Kd.R_reads' HO8015.out).2.2 | (with_reducible refine Kd.C_alloc ?_ _) | (with_reducible refine Kd.C_drewN ?_ _) | (with_reducible refine Kd.C_drew ?_))); (case side2 => exact (Kd.R_reads' HO8015.out).2.1); rintro e w' ⟨rfl, ⟨nd, rfl⟩⟩; replace HO8005 := aQ (Kd.R_drewN HO8005.out nd); replace HO8009 := aQ (Kd.R_drewN HO8009.out nd); replace HO8015 := aQ (Kd.R_drewN HO8015.out nd); replace HO8019 := aQ (Kd.R_drewN HO8019.out nd); replace HO8023 := aQ (Kd.R_drewN HO8023.out nd); replace BK8010 := aQ (blk_drewN BK8010.out nd); replace HB := aQ (pw_below_drewN HB.out nd); generalize World.drewN w21 nd = w21 at HO8005 HO8009 HO8015 HO8019 HO8023 BK8010 HB ⊢; refine ⟨_, rfl, ?_⟩) | ((with_reducible refine gate_callee (f := 47) rfl ?_); refine goesL_ (some 60) rfl rfl Try.func47 (by kernel_rfl) rfl #[.int .i64 t8011, .slice Ao19 t8012.length co19, .int .i64 t8013] rfl lm ?_; (with_reducible refine (spec_CrowdOf.calls k t8011 _ _ t8012 t8013 t8026 t8027 _ ?side1 ?side2 A10.out).mono ?_); (case side1 => repeat (first | exact (Kd.R_reads' HO8015.out).2.2 | (with_reducible refine Kd.C_alloc ?_ _) | (with_reducible refine Kd.C_drewN ?_ _) | (with_reducible refine Kd.C_drew ?_))); (case side2 => exact (Kd.R_reads' HO8015.out).2.1); rintro e w' ⟨rfl, ⟨nd, rfl⟩⟩; replace HO8005 := aQ (Kd.R_drewN HO8005.out nd); replace HO8009 := aQ (Kd.R_drewN HO8009.out nd); replace HO8015 := aQ (Kd.R_drewN HO8015.out nd); replace HO8019 := aQ (Kd.R_drewN HO8019.out nd); replace HO8023 := aQ (Kd.R_drewN HO8023.out nd); replace BK8010 := aQ (blk_drewN BK8010.out nd); replace HB := aQ (pw_below_drewN HB.out nd); generalize World.drewN w21 nd = w21 at HO8005 HO8009 HO8015 HO8019 HO8023 BK8010 HB ⊢; refine ⟨_, rfl, ?_⟩))
  (try simp only [Act.put, List.setIfInBounds_toArray, List.set_cons_zero, List.set_cons_succ])
  go_cut [98] (fun v98 wc => ∃ (kq : Nat) (x98_10 : Bool), v98 = .bool x98_10 ∧ Aside0 (laws_FnTransversals.j0 kq t8002 t8003 t8011 t8012 t8013 t8016 t8017 t8025 x98_10 t8006 t8007 = some true) ∧ Aside0 (kq ≤ k) ∧ Aside0 (Kd.R (Kd.int .i64) 3 wc w.heap.size (fun k_ => some k_ ≠ ((.slice Ao19 t8012.length co19) : Value).ownBlock ∧ some k_ ≠ (v8018 : Value).ownBlock ∧ some k_ ≠ ((.slice Ao17 t8007.length co17) : Value).ownBlock) (.slice Ao13 t8003.length co13) t8003) ∧ Aside0 (Kd.R (Kd.int .i64) 3 wc w.heap.size (fun k_ => some k_ ≠ ((.slice Ao13 t8003.length co13) : Value).ownBlock ∧ some k_ ≠ (v8018 : Value).ownBlock ∧ some k_ ≠ ((.slice Ao17 t8007.length co17) : Value).ownBlock) (.slice Ao19 t8012.length co19) t8012) ∧ Aside0 (Kd.R (Kd.int .i64) 3 wc w.heap.size (fun k_ => some k_ ≠ ((.slice Ao13 t8003.length co13) : Value).ownBlock ∧ some k_ ≠ ((.slice Ao19 t8012.length co19) : Value).ownBlock ∧ some k_ ≠ ((.slice Ao17 t8007.length co17) : Value).ownBlock) v8018 t8016) ∧ Aside0 (Kd.R (Kd.int .i64) 3 wc w.heap.size (fun k_ => some k_ ≠ ((.slice Ao13 t8003.length co13) : Value).ownBlock ∧ some k_ ≠ ((.slice Ao19 t8012.length co19) : Value).ownBlock ∧ some k_ ≠ (v8018 : Value).ownBlock) (.slice Ao17 t8007.length co17) t8007) ∧ Aside0 (wc.heap[gb8010]? = some (.cells #[.int .i64 t8006, (.slice Ao17 t8007.length co17)] 28 (0, 0))) ∧ Aside0 (Below w.heap.size w wc))
  case first =>
   have H := HC11.out
   clear HC11
   replace H := Option.bind_eq_some_iff.mp H
   obtain ⟨⟨t8028, t8029⟩, A220, H⟩ := H
   replace H : ((spec_EqualMatroid.f k t8006 t8007 t8028 t8029).bind fun t8032 => (if t8032 = true then (if (t8017 != t8021) = true then (laws_FnTransversals.j0 k t8002 t8003 t8011 t8012 t8013 t8016 t8017 t8025 true t8006 t8007) else ((laws_sameInts.f k t8016 t8020).bind fun t8033 => (if t8033 = true then (if t8024 = t8026 then (if (t8025 != t8027) = true then (laws_FnTransversals.j0 k t8002 t8003 t8011 t8012 t8013 t8016 t8017 t8025 true t8006 t8007) else ((impl_AreLists.f k t8002 t8003).bind fun t8034 => ((spec_AreLists.f k t8002 t8003).bind fun t8035 => (laws_FnTransversals.j0 k t8002 t8003 t8011 t8012 t8013 t8016 t8017 t8025 (t8034 != t8035) t8006 t8007)))) else (laws_FnTransversals.j0 k t8002 t8003 t8011 t8012 t8013 t8016 t8017 t8025 true t8006 t8007)) else (laws_FnTransversals.j0 k t8002 t8003 t8011 t8012 t8013 t8016 t8017 t8025 true t8006 t8007)))) else (laws_FnTransversals.j0 k t8002 t8003 t8011 t8012 t8013 t8016 t8017 t8025 true t8006 t8007))) = some true := H
   have A22 := aQ A220
   clear A220
   replace H := Option.bind_eq_some_iff.mp H
   obtain ⟨t8032, A230, H⟩ := H
   replace H : (if t8032 = true then (if (t8017 != t8021) = true then (laws_FnTransversals.j0 k t8002 t8003 t8011 t8012 t8013 t8016 t8017 t8025 true t8006 t8007) else ((laws_sameInts.f k t8016 t8020).bind fun t8033 => (if t8033 = true then (if t8024 = t8026 then (if (t8025 != t8027) = true then (laws_FnTransversals.j0 k t8002 t8003 t8011 t8012 t8013 t8016 t8017 t8025 true t8006 t8007) else ((impl_AreLists.f k t8002 t8003).bind fun t8034 => ((spec_AreLists.f k t8002 t8003).bind fun t8035 => (laws_FnTransversals.j0 k t8002 t8003 t8011 t8012 t8013 t8016 t8017 t8025 (t8034 != t8035) t8006 t8007)))) else (laws_FnTransversals.j0 k t8002 t8003 t8011 t8012 t8013 t8016 t8017 t8025 true t8006 t8007)) else (laws_FnTransversals.j0 k t8002 t8003 t8011 t8012 t8013 t8016 t8017 t8025 true t8006 t8007)))) else (laws_FnTransversals.j0 k t8002 t8003 t8011 t8012 t8013 t8016 t8017 t8025 true t8006 t8007)) = some true := H
   have A23 := aQ A230
   clear A230
   by_cases c24 : t8032 = true
   ·subst c24
    have H1 : (if (t8017 != t8021) = true then (laws_FnTransversals.j0 k t8002 t8003 t8011 t8012 t8013 t8016 t8017 t8025 true t8006 t8007) else ((laws_sameInts.f k t8016 t8020).bind fun t8033 => (if t8033 = true then (if t8024 = t8026 then (if (t8025 != t8027) = true then (laws_FnTransversals.j0 k t8002 t8003 t8011 t8012 t8013 t8016 t8017 t8025 true t8006 t8007) else ((impl_AreLists.f k t8002 t8003).bind fun t8034 => ((spec_AreLists.f k t8002 t8003).bind fun t8035 => (laws_FnTransversals.j0 k t8002 t8003 t8011 t8012 t8013 t8016 t8017 t8025 (t8034 != t8035) t8006 t8007)))) else (laws_FnTransversals.j0 k t8002 t8003 t8011 t8012 t8013 t8016 t8017 t8025 true t8006 t8007)) else (laws_FnTransversals.j0 k t8002 t8003 t8011 t8012 t8013 t8016 t8017 t8025 true t8006 t8007)))) = some true := by rw [if_pos rfl] at H; exact H
    clear H
    have H := H1
    clear H1
    by_cases c25 : (t8017 != t8021) = true
    ·rw [if_pos c25] at H
     have c25b0 : (t8017 != t8021) = true := c25
     (try (have c25b1 : decide (t8017 = t8021) = false := by simpa using c25))
     (try (have c25b2 : (t8017 == t8021) = false := by simpa using c25))
     (try (have c25b3 : ¬ (t8017 = t8021) := by simpa using c25))
     clear c25
     (first | rw [c25b0] | (simp only [i64_w, i32_w]; rw [c25b0]) | skip)
     have H' := aQ H
     clear H
     try go_wp2
     have n0_ := aQ (Kd.R_drew HO8005.out)
     have n1_ := aQ (Kd.R_drew HO8009.out)
     have n2_ := aQ (Kd.R_drew HO8015.out)
     have n3_ := aQ (Kd.R_drew HO8019.out)
     have n4_ := aQ (Kd.R_drew HO8023.out)
     have n5_ := aQ (blk_drew BK8010.out)
     have n6_ := aQ (below_drew1 HB.out)
     clear HO8005
     clear HO8009
     clear HO8015
     clear HO8019
     clear HO8023
     clear BK8010
     clear HB
     have HO8005 := n0_
     have HO8009 := n1_
     have HO8015 := n2_
     have HO8019 := n3_
     have HO8023 := n4_
     have BK8010 := n5_
     have HB := n6_
     clear n0_ n1_ n2_ n3_ n4_ n5_ n6_
     refine start_ (n := 36) (S := fun w' => w'.cell? ⟨gb8010, 0, none⟩ = some (.int .i64 t8006) ∧ w'.cell? ⟨gb8010, 1, none⟩ = some (.slice Ao17 t8007.length co17)) (ds := []) #[false, false, false, false, false, false, false, false, false, false, false, false, false, false, false, false, false, false, false, false, false, false, false, false, false, false, false, false, false, false, false, false, false, false, false, false] (by kernel_rfl) rfl rfl ⟨(blk_cell BK8010.out 0).trans rfl, (blk_cell BK8010.out 1).trans rfl⟩ (fun hHeld => ?_); refine with_tabW laws_FnTransversals.tab10 laws_FnTransversals.bits10 (fun HT_ HW_ => ?_)
     generalize w21.drew = w26 at HO8005 HO8009 HO8015 HO8019 HO8023 BK8010 HB hHeld ⊢
     refine puA (i := 1) (N := some 64) HT_ (h := ?_)
     refine puA (i := 2) (N := some 65) HT_ (h := ?_)
     refine taA2 (i := 0) (N := some 63) HT_ HW_ hHeld (h := ?_)
     refine onA (i := 3) (N := some 66) HT_ (h := fun K hK => ?_)
     refine goes_ Try.func49 (by kernel_rfl) rfl #[.int .i64 t8002, .slice Ao13 t8003.length co13] (by rfl) rfl rfl lm ?_
     with_reducible refine (spec_FromSets.calls k t8002 _ _ t8003 t8028 t8029 _ ?side1 ?side2 A22.out).mono ?_
     (case side1 => repeat (first | exact (Kd.R_reads' HO8005.out).2.2 | (with_reducible refine Kd.C_alloc ?_ _) | (with_reducible refine Kd.C_drewN ?_ _) | (with_reducible refine Kd.C_drew ?_)))
     (case side2 => exact (Kd.R_reads' HO8005.out).2.1)
     rintro e w27 ⟨v8030, rfl, ho0, hb⟩
     refine ⟨_, rfl, ?_⟩
     have n0_ := aQ (Kd.R_elder' (pR HO8005.out) (Kd.R_base ho0) hb)
     have n1_ := aQ (Kd.R_elder' (pR HO8009.out) (Kd.R_base ho0) hb)
     have n2_ := aQ (Kd.R_elder' (pR HO8015.out) (Kd.R_base ho0) hb)
     have n3_ := aQ (Kd.R_elder' (pR HO8019.out) (Kd.R_base ho0) hb)
     have n4_ := aQ (Kd.R_elder' (pR HO8023.out) (Kd.R_base ho0) hb)
     have n5_ := aQ (Kd.R_lower (Kd.R_new' (Kd.R_new' (Kd.R_new' (Kd.R_new' (Kd.R_new' ho0 (Kd.R_lt (pR HO8005.out))) (Kd.R_lt (pR HO8009.out))) (Kd.R_lt (pR HO8015.out))) (Kd.R_lt (pR HO8019.out))) (Kd.R_lt (pR HO8023.out))) (below_size (pB1 HB.out GE8010.out)))
     have n6_ := aQ (blk_below (g := gb8010) (o := .cells #[.int .i64 t8006, .slice Ao17 t8007.length co17] 28 (0, 0)) (pk BK8010.out) hb)
     have n7_ := aQ (below_step (pB1 HB.out GE8010.out) hb)
     clear HO8005
     clear HO8009
     clear HO8015
     clear HO8019
     clear HO8023
     clear BK8010
     clear HB
     have HO8005 := n0_
     have HO8009 := n1_
     have HO8015 := n2_
     have HO8019 := n3_
     have HO8023 := n4_
     have HO8031 := n5_
     have BK8010 := n6_
     have HB := n7_
     clear n0_ n1_ n2_ n3_ n4_ n5_ n6_ n7_
     (try clear hb)
     (try clear hb2)
     (try clear hk)
     (try clear hi)
     (try clear ho0)
     obtain ⟨Ao28, co28, eo28⟩ := Kd.R_slice HO8031.out
     (first | subst eo28 | (injection eo28 with f1_ f2_ f3_; have f4_ := f1_.symm; have f5_ := f3_.symm; clear f1_ f2_ f3_; subst f4_; subst f5_))
     refine hK.out _ _ ⟨(blk_cell BK8010.out 0).trans rfl, (blk_cell BK8010.out 1).trans rfl⟩ (fun hHeld => ?_)
     clear hK K
     refine noA (h := ?_)
     refine onA (i := 4) (N := some 67) HT_ (h := fun K hK => ?_)
     refine goes_ Try.func48 (by kernel_rfl) rfl #[.agg #[.int .i64 t8006, .slice Ao17 t8007.length co17], .agg #[.int .i64 t8028, .slice Ao28 t8029.length co28]] (by rfl) rfl rfl lm ?_
     with_reducible refine (spec_EqualMatroid.calls k t8006 _ _ t8007 t8028 _ _ t8029 true _ ?side1 ?side2 ?side3 ?side4 A23.out).mono ?_
     (case side1 => repeat (first | exact (Kd.R_reads' HO8009.out).2.2 | (with_reducible refine Kd.C_alloc ?_ _) | (with_reducible refine Kd.C_drewN ?_ _) | (with_reducible refine Kd.C_drew ?_)))
     (case side2 => exact (Kd.R_reads' HO8009.out).2.1)
     (case side3 => repeat (first | exact (Kd.R_reads' HO8031.out).2.2 | (with_reducible refine Kd.C_alloc ?_ _) | (with_reducible refine Kd.C_drewN ?_ _) | (with_reducible refine Kd.C_drew ?_)))
     (case side4 => exact (Kd.R_reads' HO8031.out).2.1)
     rintro e w29 ⟨rfl, hb⟩
     refine ⟨_, rfl, ?_⟩
     have n0_ := aQ (Kd.R_below (pR HO8005.out) hb)
     have n1_ := aQ (Kd.R_below (pR HO8009.out) hb)
     have n2_ := aQ (Kd.R_below (pR HO8015.out) hb)
     have n3_ := aQ (Kd.R_below (pR HO8019.out) hb)
     have n4_ := aQ (Kd.R_below (pR HO8023.out) hb)
     have n5_ := aQ (Kd.R_below (pR HO8031.out) hb)
     have n6_ := aQ (blk_below (g := gb8010) (o := .cells #[.int .i64 t8006, .slice Ao17 t8007.length co17] 28 (0, 0)) (pk BK8010.out) hb)
     have n7_ := aQ (below_step (pB1 HB.out GE8010.out) hb)
     clear HO8005
     clear HO8009
     clear HO8015
     clear HO8019
     clear HO8023
     clear HO8031
     clear BK8010
     clear HB
     have HO8005 := n0_
     have HO8009 := n1_
     have HO8015 := n2_
     have HO8019 := n3_
     have HO8023 := n4_
     have HO8031 := n5_
     have BK8010 := n6_
     have HB := n7_
     clear n0_ n1_ n2_ n3_ n4_ n5_ n6_ n7_
     (try clear hb)
     (try clear hb2)
     (try clear hk)
     (try clear hi)
     refine hK.out _ _ ⟨(blk_cell BK8010.out 0).trans rfl, (blk_cell BK8010.out 1).trans rfl⟩ (fun hHeld => ?_)
     clear hK K
     refine noA (h := ?_)
     refine puA (i := 5) (N := some 68) HT_ (h := ?_)
     refine puA (i := 6) (N := some 69) HT_ (h := ?_)
     refine puA (i := 7) (N := some 70) HT_ (h := ?_)
     refine puA (i := 8) (N := some 71) HT_ (h := ?_)
     refine puA (i := 9) (N := some 72) HT_ (h := ?_)
     refine puA (i := 10) (N := some 73) HT_ (h := ?_)
     refine puA (i := 11) (N := some 74) HT_ (h := ?_)
     refine puU (i := 12) (N := some 75) HT_ (h := ?_)
     refine puU (i := 13) (N := some 76) HT_ (h := ?_)
     refine puU (i := 14) (N := some 77) HT_ (h := ?_)
     refine puU (i := 15) (N := some 78) HT_ (h := ?_)
     refine puA (i := 16) (N := some 79) HT_ (h := ?_)
     refine puA (i := 17) (N := some 80) HT_ (h := ?_)
     refine puU (i := 18) (N := some 81) HT_ (h := ?_)
     refine puU (i := 19) (N := some 82) HT_ (h := ?_)
     refine puU (i := 20) (N := some 83) HT_ (h := ?_)
     refine puA (i := 21) (N := some 84) HT_ (h := ?_)
     refine puA (i := 22) (N := some 85) HT_ (h := ?_)
     refine puU (i := 23) (N := some 86) HT_ (h := ?_)
     refine puU (i := 24) (N := some 87) HT_ (h := ?_)
     refine puU (i := 25) (N := some 88) HT_ (h := ?_)
     refine puA (i := 26) (N := some 89) HT_ (h := ?_)
     refine puA (i := 27) (N := some 90) HT_ (h := ?_)
     refine puU (i := 28) (N := some 91) HT_ (h := ?_)
     refine puU (i := 29) (N := some 92) HT_ (h := ?_)
     refine puU (i := 30) (N := some 93) HT_ (h := ?_)
     refine puU (i := 31) (N := some 94) HT_ (h := ?_)
     refine puU (i := 32) (N := some 95) HT_ (h := ?_)
     refine puU (i := 33) (N := some 96) HT_ (h := ?_)
     refine puU (i := 34) (N := some 97) HT_ (h := ?_)
     refine puA (i := 35) (N := some 98) HT_ (h := ?_)
     refine done_ (done_of HT_.out (by kernel_rfl)) ?_
     try go_wp2
     go_meet
     case rel => exact ⟨_, (true), rs_, H', ⟨by first | omega | exact Nat.le_refl _⟩, ⟨by (with_reducible repeat (first | apply Kd.R_alloc | apply Kd.R_drewN | apply Kd.R_drew)); exact Kd.R_mono HO8005.out (fun _ hk => ⟨hk.1.1.1.2, ⟨hk.1.1.2, hk.1.1.1.1.2⟩⟩)⟩, ⟨by (with_reducible repeat (first | apply Kd.R_alloc | apply Kd.R_drewN | apply Kd.R_drew)); exact Kd.R_mono HO8015.out (fun _ hk => ⟨hk.1.1.1.1.2, ⟨hk.1.1.2, hk.1.1.1.2⟩⟩)⟩, ⟨by (with_reducible repeat (first | apply Kd.R_alloc | apply Kd.R_drewN | apply Kd.R_drew)); exact Kd.R_mono HO8019.out (fun _ hk => ⟨hk.1.1.1.1.2, ⟨hk.1.1.2, hk.1.1.1.2⟩⟩)⟩, ⟨by (with_reducible repeat (first | apply Kd.R_alloc | apply Kd.R_drewN | apply Kd.R_drew)); exact Kd.R_mono HO8009.out (fun _ hk => ⟨hk.1.1.1.1.2, ⟨hk.1.1.1.2, hk.1.1.2⟩⟩)⟩, ⟨pk BK8010.out⟩, ⟨pB1 HB.out GE8010.out⟩⟩
    ·rw [if_neg c25] at H
     have c25b0 : (t8017 != t8021) = false := by simpa using c25
     (try (have c25b1 : decide (t8017 = t8021) = true := by simpa using c25))
     (try (have c25b2 : (t8017 == t8021) = true := by simpa using c25))
     clear c25
     (first | rw [c25b0] | (simp only [i64_w, i32_w]; rw [c25b0]) | skip)
     replace H := Option.bind_eq_some_iff.mp H
     obtain ⟨t8033, A300, H⟩ := H
     replace H : (if t8033 = true then (if t8024 = t8026 then (if (t8025 != t8027) = true then (laws_FnTransversals.j0 k t8002 t8003 t8011 t8012 t8013 t8016 t8017 t8025 true t8006 t8007) else ((impl_AreLists.f k t8002 t8003).bind fun t8034 => ((spec_AreLists.f k t8002 t8003).bind fun t8035 => (laws_FnTransversals.j0 k t8002 t8003 t8011 t8012 t8013 t8016 t8017 t8025 (t8034 != t8035) t8006 t8007)))) else (laws_FnTransversals.j0 k t8002 t8003 t8011 t8012 t8013 t8016 t8017 t8025 true t8006 t8007)) else (laws_FnTransversals.j0 k t8002 t8003 t8011 t8012 t8013 t8016 t8017 t8025 true t8006 t8007)) = some true := H
     have A30 := aQ A300
     clear A300
     by_cases c31 : t8033 = true
     ·subst c31
      have H1 : (if t8024 = t8026 then (if (t8025 != t8027) = true then (laws_FnTransversals.j0 k t8002 t8003 t8011 t8012 t8013 t8016 t8017 t8025 true t8006 t8007) else ((impl_AreLists.f k t8002 t8003).bind fun t8034 => ((spec_AreLists.f k t8002 t8003).bind fun t8035 => (laws_FnTransversals.j0 k t8002 t8003 t8011 t8012 t8013 t8016 t8017 t8025 (t8034 != t8035) t8006 t8007)))) else (laws_FnTransversals.j0 k t8002 t8003 t8011 t8012 t8013 t8016 t8017 t8025 true t8006 t8007)) = some true := by rw [if_pos rfl] at H; exact H
      clear H
      have H := H1
      clear H1
      by_cases c32 : t8024 = t8026
      ·rw [if_pos c32] at H
       have c32b0 : (t8024 == t8026) = true := beq_iff_eq.mpr c32
       have c32b1 : (t8024 != t8026) = false := bne_eq_false_iff_eq.mpr c32
       clear c32
       by_cases c33 : (t8025 != t8027) = true
       ·rw [if_pos c33] at H
        have c33b0 : (t8025 != t8027) = true := c33
        (try (have c33b1 : decide (t8025 = t8027) = false := by simpa using c33))
        (try (have c33b2 : (t8025 == t8027) = false := by simpa using c33))
        (try (have c33b3 : ¬ (t8025 = t8027) := by simpa using c33))
        clear c33
        have H' := aQ H
        clear H
        try go_wp2
        have n0_ := aQ (Kd.R_drew HO8005.out)
        have n1_ := aQ (Kd.R_drew HO8009.out)
        have n2_ := aQ (Kd.R_drew HO8015.out)
        have n3_ := aQ (Kd.R_drew HO8019.out)
        have n4_ := aQ (Kd.R_drew HO8023.out)
        have n5_ := aQ (blk_drew BK8010.out)
        have n6_ := aQ (below_drew1 HB.out)
        clear HO8005
        clear HO8009
        clear HO8015
        clear HO8019
        clear HO8023
        clear BK8010
        clear HB
        have HO8005 := n0_
        have HO8009 := n1_
        have HO8015 := n2_
        have HO8019 := n3_
        have HO8023 := n4_
        have BK8010 := n5_
        have HB := n6_
        clear n0_ n1_ n2_ n3_ n4_ n5_ n6_
        refine start_ (n := 36) (S := fun w' => w'.cell? ⟨gb8010, 0, none⟩ = some (.int .i64 t8006) ∧ w'.cell? ⟨gb8010, 1, none⟩ = some (.slice Ao17 t8007.length co17)) (ds := []) #[false, false, false, false, false, false, false, false, false, false, false, false, false, false, false, false, false, false, false, false, false, false, false, false, false, false, false, false, false, false, false, false, false, false, false, false] (by kernel_rfl) rfl rfl ⟨(blk_cell BK8010.out 0).trans rfl, (blk_cell BK8010.out 1).trans rfl⟩ (fun hHeld => ?_); refine with_tabW laws_FnTransversals.tab10 laws_FnTransversals.bits10 (fun HT_ HW_ => ?_)
        generalize w21.drew = w34 at HO8005 HO8009 HO8015 HO8019 HO8023 BK8010 HB hHeld ⊢
        refine puA (i := 1) (N := some 64) HT_ (h := ?_)
        refine puA (i := 2) (N := some 65) HT_ (h := ?_)
        refine taA2 (i := 0) (N := some 63) HT_ HW_ hHeld (h := ?_)
        refine onA (i := 3) (N := some 66) HT_ (h := fun K hK => ?_)
        refine goes_ Try.func49 (by kernel_rfl) rfl #[.int .i64 t8002, .slice Ao13 t8003.length co13] (by rfl) rfl rfl lm ?_
        with_reducible refine (spec_FromSets.calls k t8002 _ _ t8003 t8028 t8029 _ ?side1 ?side2 A22.out).mono ?_
        (case side1 => repeat (first | exact (Kd.R_reads' HO8005.out).2.2 | (with_reducible refine Kd.C_alloc ?_ _) | (with_reducible refine Kd.C_drewN ?_ _) | (with_reducible refine Kd.C_drew ?_)))
        (case side2 => exact (Kd.R_reads' HO8005.out).2.1)
        rintro e w35 ⟨v8030, rfl, ho0, hb⟩
        refine ⟨_, rfl, ?_⟩
        have n0_ := aQ (Kd.R_elder' (pR HO8005.out) (Kd.R_base ho0) hb)
        have n1_ := aQ (Kd.R_elder' (pR HO8009.out) (Kd.R_base ho0) hb)
        have n2_ := aQ (Kd.R_elder' (pR HO8015.out) (Kd.R_base ho0) hb)
        have n3_ := aQ (Kd.R_elder' (pR HO8019.out) (Kd.R_base ho0) hb)
        have n4_ := aQ (Kd.R_elder' (pR HO8023.out) (Kd.R_base ho0) hb)
        have n5_ := aQ (Kd.R_lower (Kd.R_new' (Kd.R_new' (Kd.R_new' (Kd.R_new' (Kd.R_new' ho0 (Kd.R_lt (pR HO8005.out))) (Kd.R_lt (pR HO8009.out))) (Kd.R_lt (pR HO8015.out))) (Kd.R_lt (pR HO8019.out))) (Kd.R_lt (pR HO8023.out))) (below_size (pB1 HB.out GE8010.out)))
        have n6_ := aQ (blk_below (g := gb8010) (o := .cells #[.int .i64 t8006, .slice Ao17 t8007.length co17] 28 (0, 0)) (pk BK8010.out) hb)
        have n7_ := aQ (below_step (pB1 HB.out GE8010.out) hb)
        clear HO8005
        clear HO8009
        clear HO8015
        clear HO8019
        clear HO8023
        clear BK8010
        clear HB
        have HO8005 := n0_
        have HO8009 := n1_
        have HO8015 := n2_
        have HO8019 := n3_
        have HO8023 := n4_
        have HO8031 := n5_
        have BK8010 := n6_
        have HB := n7_
        clear n0_ n1_ n2_ n3_ n4_ n5_ n6_ n7_
        (try clear hb)
        (try clear hb2)
        (try clear hk)
        (try clear hi)
        (try clear ho0)
        obtain ⟨Ao36, co36, eo36⟩ := Kd.R_slice HO8031.out
        (first | subst eo36 | (injection eo36 with f1_ f2_ f3_; have f4_ := f1_.symm; have f5_ := f3_.symm; clear f1_ f2_ f3_; subst f4_; subst f5_))
        refine hK.out _ _ ⟨(blk_cell BK8010.out 0).trans rfl, (blk_cell BK8010.out 1).trans rfl⟩ (fun hHeld => ?_)
        clear hK K
        refine noA (h := ?_)
        refine onA (i := 4) (N := some 67) HT_ (h := fun K hK => ?_)
        refine goes_ Try.func48 (by kernel_rfl) rfl #[.agg #[.int .i64 t8006, .slice Ao17 t8007.length co17], .agg #[.int .i64 t8028, .slice Ao36 t8029.length co36]] (by rfl) rfl rfl lm ?_
        with_reducible refine (spec_EqualMatroid.calls k t8006 _ _ t8007 t8028 _ _ t8029 true _ ?side1 ?side2 ?side3 ?side4 A23.out).mono ?_
        (case side1 => repeat (first | exact (Kd.R_reads' HO8009.out).2.2 | (with_reducible refine Kd.C_alloc ?_ _) | (with_reducible refine Kd.C_drewN ?_ _) | (with_reducible refine Kd.C_drew ?_)))
        (case side2 => exact (Kd.R_reads' HO8009.out).2.1)
        (case side3 => repeat (first | exact (Kd.R_reads' HO8031.out).2.2 | (with_reducible refine Kd.C_alloc ?_ _) | (with_reducible refine Kd.C_drewN ?_ _) | (with_reducible refine Kd.C_drew ?_)))
        (case side4 => exact (Kd.R_reads' HO8031.out).2.1)
        rintro e w37 ⟨rfl, hb⟩
        refine ⟨_, rfl, ?_⟩
        have n0_ := aQ (Kd.R_below (pR HO8005.out) hb)
        have n1_ := aQ (Kd.R_below (pR HO8009.out) hb)
        have n2_ := aQ (Kd.R_below (pR HO8015.out) hb)
        have n3_ := aQ (Kd.R_below (pR HO8019.out) hb)
        have n4_ := aQ (Kd.R_below (pR HO8023.out) hb)
        have n5_ := aQ (Kd.R_below (pR HO8031.out) hb)
        have n6_ := aQ (blk_below (g := gb8010) (o := .cells #[.int .i64 t8006, .slice Ao17 t8007.length co17] 28 (0, 0)) (pk BK8010.out) hb)
        have n7_ := aQ (below_step (pB1 HB.out GE8010.out) hb)
        clear HO8005
        clear HO8009
        clear HO8015
        clear HO8019
        clear HO8023
        clear HO8031
        clear BK8010
        clear HB
        have HO8005 := n0_
        have HO8009 := n1_
        have HO8015 := n2_
        have HO8019 := n3_
        have HO8023 := n4_
        have HO8031 := n5_
        have BK8010 := n6_
        have HB := n7_
        clear n0_ n1_ n2_ n3_ n4_ n5_ n6_ n7_
        (try clear hb)
        (try clear hb2)
        (try clear hk)
        (try clear hi)
        obtain ⟨Ao38, co38, eo38⟩ := Kd.R_slice HO8019.out
        (first | subst eo38 | (injection eo38 with f1_ f2_ f3_; have f4_ := f1_.symm; have f5_ := f3_.symm; clear f1_ f2_ f3_; subst f4_; subst f5_))
        obtain ⟨Ao39, co39, eo39⟩ := Kd.R_slice HO8023.out
        (first | subst eo39 | (injection eo39 with f1_ f2_ f3_; have f4_ := f1_.symm; have f5_ := f3_.symm; clear f1_ f2_ f3_; subst f4_; subst f5_))
        refine hK.out _ _ ⟨(blk_cell BK8010.out 0).trans rfl, (blk_cell BK8010.out 1).trans rfl⟩ (fun hHeld => ?_)
        clear hK K
        refine noA (h := ?_)
        refine puA (i := 5) (N := some 68) HT_ (h := ?_)
        refine puA (i := 6) (N := some 69) HT_ (h := ?_)
        refine puA (i := 7) (N := some 70) HT_ (h := ?_)
        refine puA (i := 8) (N := some 71) HT_ (h := ?_)
        refine puA (i := 9) (N := some 72) HT_ (h := ?_)
        refine puA (i := 10) (N := some 73) HT_ (h := ?_)
        refine puA (i := 11) (N := some 74) HT_ (h := ?_)
        refine puA (i := 12) (N := some 75) HT_ (h := ?_)
        refine puA (i := 13) (N := some 76) HT_ (h := ?_)
        refine onA (i := 14) (N := some 77) HT_ (h := fun K hK => ?_)
        refine goes_ Try.func38 (by kernel_rfl) rfl #[.slice Ao38 t8016.length co38, .slice Ao39 t8020.length co39] (by rfl) rfl rfl lm ?_
        with_reducible refine (laws_sameInts.calls k _ _ t8016 _ _ t8020 true _ ?side1 ?side2 ?side3 ?side4 A30.out).mono ?_
        (case side1 => repeat (first | exact (Kd.R_reads' HO8019.out).2.2 | (with_reducible refine Kd.C_alloc ?_ _) | (with_reducible refine Kd.C_drewN ?_ _) | (with_reducible refine Kd.C_drew ?_)))
        (case side2 => exact (Kd.R_reads' HO8019.out).2.1)
        (case side3 => repeat (first | exact (Kd.R_reads' HO8023.out).2.2 | (with_reducible refine Kd.C_alloc ?_ _) | (with_reducible refine Kd.C_drewN ?_ _) | (with_reducible refine Kd.C_drew ?_)))
        (case side4 => exact (Kd.R_reads' HO8023.out).2.1)
        rintro e w' ⟨rfl, ⟨nd, rfl⟩⟩
        refine ⟨_, rfl, ?_⟩
        refine hK.out _ _ ⟨(blk_cell BK8010.out 0).trans rfl, (blk_cell BK8010.out 1).trans rfl⟩ (fun hHeld => ?_)
        clear hK K
        refine noA (h := ?_)
        refine puA (i := 15) (N := some 78) HT_ (h := ?_)
        refine puA (i := 16) (N := some 79) HT_ (h := ?_)
        refine puA (i := 17) (N := some 80) HT_ (h := ?_)
        refine puA (i := 18) (N := some 81) HT_ (h := ?_)
        refine puA (i := 19) (N := some 82) HT_ (h := ?_)
        refine puA (i := 20) (N := some 83) HT_ (h := ?_)
        refine puA (i := 21) (N := some 84) HT_ (h := ?_)
        refine puA (i := 22) (N := some 85) HT_ (h := ?_)
        refine puA (i := 23) (N := some 86) HT_ (h := ?_)
        refine puA (i := 24) (N := some 87) HT_ (h := ?_)
        refine puA (i := 25) (N := some 88) HT_ (h := ?_)
        refine puA (i := 26) (N := some 89) HT_ (h := ?_)
        refine puA (i := 27) (N := some 90) HT_ (h := ?_)
        refine puU (i := 28) (N := some 91) HT_ (h := ?_)
        refine puU (i := 29) (N := some 92) HT_ (h := ?_)
        refine puU (i := 30) (N := some 93) HT_ (h := ?_)
        refine puU (i := 31) (N := some 94) HT_ (h := ?_)
        refine puU (i := 32) (N := some 95) HT_ (h := ?_)
        refine puU (i := 33) (N := some 96) HT_ (h := ?_)
        refine puU (i := 34) (N := some 97) HT_ (h := ?_)
        refine puA (i := 35) (N := some 98) HT_ (h := ?_)
        refine done_ (done_of HT_.out (by kernel_rfl)) ?_
        try go_wp2
        go_meet
        case rel => exact ⟨_, (true), rs_, H', ⟨by first | omega | exact Nat.le_refl _⟩, ⟨by (with_reducible repeat (first | apply Kd.R_alloc | apply Kd.R_drewN | apply Kd.R_drew)); exact Kd.R_mono HO8005.out (fun _ hk => ⟨hk.1.1.1.2, ⟨hk.1.1.2, hk.1.1.1.1.2⟩⟩)⟩, ⟨by (with_reducible repeat (first | apply Kd.R_alloc | apply Kd.R_drewN | apply Kd.R_drew)); exact Kd.R_mono HO8015.out (fun _ hk => ⟨hk.1.1.1.1.2, ⟨hk.1.1.2, hk.1.1.1.2⟩⟩)⟩, ⟨by (with_reducible repeat (first | apply Kd.R_alloc | apply Kd.R_drewN | apply Kd.R_drew)); exact Kd.R_mono HO8019.out (fun _ hk => ⟨hk.1.1.1.1.2, ⟨hk.1.1.2, hk.1.1.1.2⟩⟩)⟩, ⟨by (with_reducible repeat (first | apply Kd.R_alloc | apply Kd.R_drewN | apply Kd.R_drew)); exact Kd.R_mono HO8009.out (fun _ hk => ⟨hk.1.1.1.1.2, ⟨hk.1.1.1.2, hk.1.1.2⟩⟩)⟩, ⟨pk BK8010.out⟩, ⟨pB1 HB.out GE8010.out⟩⟩
       ·rw [if_neg c33] at H
        have c33b0 : (t8025 != t8027) = false := by simpa using c33
        (try (have c33b1 : decide (t8025 = t8027) = true := by simpa using c33))
        (try (have c33b2 : (t8025 == t8027) = true := by simpa using c33))
        clear c33
        replace H := Option.bind_eq_some_iff.mp H
        obtain ⟨t8034, A400, H⟩ := H
        replace H : ((spec_AreLists.f k t8002 t8003).bind fun t8035 => (laws_FnTransversals.j0 k t8002 t8003 t8011 t8012 t8013 t8016 t8017 t8025 (t8034 != t8035) t8006 t8007)) = some true := H
        have A40 := aQ A400
        clear A400
        replace H := Option.bind_eq_some_iff.mp H
        obtain ⟨t8035, A410, H⟩ := H
        replace H : (laws_FnTransversals.j0 k t8002 t8003 t8011 t8012 t8013 t8016 t8017 t8025 (t8034 != t8035) t8006 t8007) = some true := H
        have A41 := aQ A410
        clear A410
        have H' := aQ H
        clear H
        try go_wp2
        have n0_ := aQ (Kd.R_drew HO8005.out)
        have n1_ := aQ (Kd.R_drew HO8009.out)
        have n2_ := aQ (Kd.R_drew HO8015.out)
        have n3_ := aQ (Kd.R_drew HO8019.out)
        have n4_ := aQ (Kd.R_drew HO8023.out)
        have n5_ := aQ (blk_drew BK8010.out)
        have n6_ := aQ (below_drew1 HB.out)
        clear HO8005
        clear HO8009
        clear HO8015
        clear HO8019
        clear HO8023
        clear BK8010
        clear HB
        have HO8005 := n0_
        have HO8009 := n1_
        have HO8015 := n2_
        have HO8019 := n3_
        have HO8023 := n4_
        have BK8010 := n5_
        have HB := n6_
        clear n0_ n1_ n2_ n3_ n4_ n5_ n6_
        refine start_ (n := 36) (S := fun w' => w'.cell? ⟨gb8010, 0, none⟩ = some (.int .i64 t8006) ∧ w'.cell? ⟨gb8010, 1, none⟩ = some (.slice Ao17 t8007.length co17)) (ds := []) #[false, false, false, false, false, false, false, false, false, false, false, false, false, false, false, false, false, false, false, false, false, false, false, false, false, false, false, false, false, false, false, false, false, false, false, false] (by kernel_rfl) rfl rfl ⟨(blk_cell BK8010.out 0).trans rfl, (blk_cell BK8010.out 1).trans rfl⟩ (fun hHeld => ?_); refine with_tabW laws_FnTransversals.tab10 laws_FnTransversals.bits10 (fun HT_ HW_ => ?_)
        generalize w21.drew = w42 at HO8005 HO8009 HO8015 HO8019 HO8023 BK8010 HB hHeld ⊢
        refine puA (i := 1) (N := some 64) HT_ (h := ?_)
        refine puA (i := 2) (N := some 65) HT_ (h := ?_)
        refine taA2 (i := 0) (N := some 63) HT_ HW_ hHeld (h := ?_)
        refine onA (i := 3) (N := some 66) HT_ (h := fun K hK => ?_)
        refine goes_ Try.func49 (by kernel_rfl) rfl #[.int .i64 t8002, .slice Ao13 t8003.length co13] (by rfl) rfl rfl lm ?_
        with_reducible refine (spec_FromSets.calls k t8002 _ _ t8003 t8028 t8029 _ ?side1 ?side2 A22.out).mono ?_
        (case side1 => repeat (first | exact (Kd.R_reads' HO8005.out).2.2 | (with_reducible refine Kd.C_alloc ?_ _) | (with_reducible refine Kd.C_drewN ?_ _) | (with_reducible refine Kd.C_drew ?_)))
        (case side2 => exact (Kd.R_reads' HO8005.out).2.1)
        rintro e w43 ⟨v8030, rfl, ho0, hb⟩
        refine ⟨_, rfl, ?_⟩
        have n0_ := aQ (Kd.R_elder' (pR HO8005.out) (Kd.R_base ho0) hb)
        have n1_ := aQ (Kd.R_elder' (pR HO8009.out) (Kd.R_base ho0) hb)
        have n2_ := aQ (Kd.R_elder' (pR HO8015.out) (Kd.R_base ho0) hb)
        have n3_ := aQ (Kd.R_elder' (pR HO8019.out) (Kd.R_base ho0) hb)
        have n4_ := aQ (Kd.R_elder' (pR HO8023.out) (Kd.R_base ho0) hb)
        have n5_ := aQ (Kd.R_lower (Kd.R_new' (Kd.R_new' (Kd.R_new' (Kd.R_new' (Kd.R_new' ho0 (Kd.R_lt (pR HO8005.out))) (Kd.R_lt (pR HO8009.out))) (Kd.R_lt (pR HO8015.out))) (Kd.R_lt (pR HO8019.out))) (Kd.R_lt (pR HO8023.out))) (below_size (pB1 HB.out GE8010.out)))
        have n6_ := aQ (blk_below (g := gb8010) (o := .cells #[.int .i64 t8006, .slice Ao17 t8007.length co17] 28 (0, 0)) (pk BK8010.out) hb)
        have n7_ := aQ (below_step (pB1 HB.out GE8010.out) hb)
        clear HO8005
        clear HO8009
        clear HO8015
        clear HO8019
        clear HO8023
        clear BK8010
        clear HB
        have HO8005 := n0_
        have HO8009 := n1_
        have HO8015 := n2_
        have HO8019 := n3_
        have HO8023 := n4_
        have HO8031 := n5_
        have BK8010 := n6_
        have HB := n7_
        clear n0_ n1_ n2_ n3_ n4_ n5_ n6_ n7_
        (try clear hb)
        (try clear hb2)
        (try clear hk)
        (try clear hi)
        (try clear ho0)
        obtain ⟨Ao44, co44, eo44⟩ := Kd.R_slice HO8031.out
        (first | subst eo44 | (injection eo44 with f1_ f2_ f3_; have f4_ := f1_.symm; have f5_ := f3_.symm; clear f1_ f2_ f3_; subst f4_; subst f5_))
        refine hK.out _ _ ⟨(blk_cell BK8010.out 0).trans rfl, (blk_cell BK8010.out 1).trans rfl⟩ (fun hHeld => ?_)
        clear hK K
        refine noA (h := ?_)
        refine onA (i := 4) (N := some 67) HT_ (h := fun K hK => ?_)
        refine goes_ Try.func48 (by kernel_rfl) rfl #[.agg #[.int .i64 t8006, .slice Ao17 t8007.length co17], .agg #[.int .i64 t8028, .slice Ao44 t8029.length co44]] (by rfl) rfl rfl lm ?_
        with_reducible refine (spec_EqualMatroid.calls k t8006 _ _ t8007 t8028 _ _ t8029 true _ ?side1 ?side2 ?side3 ?side4 A23.out).mono ?_
        (case side1 => repeat (first | exact (Kd.R_reads' HO8009.out).2.2 | (with_reducible refine Kd.C_alloc ?_ _) | (with_reducible refine Kd.C_drewN ?_ _) | (with_reducible refine Kd.C_drew ?_)))
        (case side2 => exact (Kd.R_reads' HO8009.out).2.1)
        (case side3 => repeat (first | exact (Kd.R_reads' HO8031.out).2.2 | (with_reducible refine Kd.C_alloc ?_ _) | (with_reducible refine Kd.C_drewN ?_ _) | (with_reducible refine Kd.C_drew ?_)))
        (case side4 => exact (Kd.R_reads' HO8031.out).2.1)
        rintro e w45 ⟨rfl, hb⟩
        refine ⟨_, rfl, ?_⟩
        have n0_ := aQ (Kd.R_below (pR HO8005.out) hb)
        have n1_ := aQ (Kd.R_below (pR HO8009.out) hb)
        have n2_ := aQ (Kd.R_below (pR HO8015.out) hb)
        have n3_ := aQ (Kd.R_below (pR HO8019.out) hb)
        have n4_ := aQ (Kd.R_below (pR HO8023.out) hb)
        have n5_ := aQ (Kd.R_below (pR HO8031.out) hb)
        have n6_ := aQ (blk_below (g := gb8010) (o := .cells #[.int .i64 t8006, .slice Ao17 t8007.length co17] 28 (0, 0)) (pk BK8010.out) hb)
        have n7_ := aQ (below_step (pB1 HB.out GE8010.out) hb)
        clear HO8005
        clear HO8009
        clear HO8015
        clear HO8019
        clear HO8023
        clear HO8031
        clear BK8010
        clear HB
        have HO8005 := n0_
        have HO8009 := n1_
        have HO8015 := n2_
        have HO8019 := n3_
        have HO8023 := n4_
        have HO8031 := n5_
        have BK8010 := n6_
        have HB := n7_
        clear n0_ n1_ n2_ n3_ n4_ n5_ n6_ n7_
        (try clear hb)
        (try clear hb2)
        (try clear hk)
        (try clear hi)
        obtain ⟨Ao46, co46, eo46⟩ := Kd.R_slice HO8019.out
        (first | subst eo46 | (injection eo46 with f1_ f2_ f3_; have f4_ := f1_.symm; have f5_ := f3_.symm; clear f1_ f2_ f3_; subst f4_; subst f5_))
        obtain ⟨Ao47, co47, eo47⟩ := Kd.R_slice HO8023.out
        (first | subst eo47 | (injection eo47 with f1_ f2_ f3_; have f4_ := f1_.symm; have f5_ := f3_.symm; clear f1_ f2_ f3_; subst f4_; subst f5_))
        refine hK.out _ _ ⟨(blk_cell BK8010.out 0).trans rfl, (blk_cell BK8010.out 1).trans rfl⟩ (fun hHeld => ?_)
        clear hK K
        refine noA (h := ?_)
        refine puA (i := 5) (N := some 68) HT_ (h := ?_)
        refine puA (i := 6) (N := some 69) HT_ (h := ?_)
        refine puA (i := 7) (N := some 70) HT_ (h := ?_)
        refine puA (i := 8) (N := some 71) HT_ (h := ?_)
        refine puA (i := 9) (N := some 72) HT_ (h := ?_)
        refine puA (i := 10) (N := some 73) HT_ (h := ?_)
        refine puA (i := 11) (N := some 74) HT_ (h := ?_)
        refine puA (i := 12) (N := some 75) HT_ (h := ?_)
        refine puA (i := 13) (N := some 76) HT_ (h := ?_)
        refine onA (i := 14) (N := some 77) HT_ (h := fun K hK => ?_)
        refine goes_ Try.func38 (by kernel_rfl) rfl #[.slice Ao46 t8016.length co46, .slice Ao47 t8020.length co47] (by rfl) rfl rfl lm ?_
        with_reducible refine (laws_sameInts.calls k _ _ t8016 _ _ t8020 true _ ?side1 ?side2 ?side3 ?side4 A30.out).mono ?_
        (case side1 => repeat (first | exact (Kd.R_reads' HO8019.out).2.2 | (with_reducible refine Kd.C_alloc ?_ _) | (with_reducible refine Kd.C_drewN ?_ _) | (with_reducible refine Kd.C_drew ?_)))
        (case side2 => exact (Kd.R_reads' HO8019.out).2.1)
        (case side3 => repeat (first | exact (Kd.R_reads' HO8023.out).2.2 | (with_reducible refine Kd.C_alloc ?_ _) | (with_reducible refine Kd.C_drewN ?_ _) | (with_reducible refine Kd.C_drew ?_)))
        (case side4 => exact (Kd.R_reads' HO8023.out).2.1)
        rintro e w' ⟨rfl, ⟨nd, rfl⟩⟩
        refine ⟨_, rfl, ?_⟩
        refine hK.out _ _ ⟨(blk_cell BK8010.out 0).trans rfl, (blk_cell BK8010.out 1).trans rfl⟩ (fun hHeld => ?_)
        clear hK K
        refine noA (h := ?_)
        refine puA (i := 15) (N := some 78) HT_ (h := ?_)
        refine puA (i := 16) (N := some 79) HT_ (h := ?_)
        refine puA (i := 17) (N := some 80) HT_ (h := ?_)
        refine puA (i := 18) (N := some 81) HT_ (h := ?_)
        refine puA (i := 19) (N := some 82) HT_ (h := ?_)
        refine puA (i := 20) (N := some 83) HT_ (h := ?_)
        refine puA (i := 21) (N := some 84) HT_ (h := ?_)
        refine puA (i := 22) (N := some 85) HT_ (h := ?_)
        refine puA (i := 23) (N := some 86) HT_ (h := ?_)
        refine puA (i := 24) (N := some 87) HT_ (h := ?_)
        refine puA (i := 25) (N := some 88) HT_ (h := ?_)
        refine puA (i := 26) (N := some 89) HT_ (h := ?_)
        refine puA (i := 27) (N := some 90) HT_ (h := ?_)
        refine puA (i := 28) (N := some 91) HT_ (h := ?_)
        refine puA (i := 29) (N := some 92) HT_ (h := ?_)
        refine puA (i := 31) (N := some 94) HT_ (h := ?_)
        refine puA (i := 32) (N := some 95) HT_ (h := ?_)
        refine onA (i := 30) (N := some 93) HT_ (h := fun K hK => ?_)
        refine goes_ Try.func50 (by kernel_rfl) rfl #[.int .i64 t8002, .slice Ao13 t8003.length co13] (by rfl) rfl rfl lm ?_
        with_reducible refine (impl_AreLists.calls k t8002 _ _ t8003 t8034 _ ?side1 ?side2 A40.out).mono ?_
        (case side1 => repeat (first | exact (Kd.R_reads' HO8005.out).2.2 | (with_reducible refine Kd.C_alloc ?_ _) | (with_reducible refine Kd.C_drewN ?_ _) | (with_reducible refine Kd.C_drew ?_)))
        (case side2 => exact (Kd.R_reads' HO8005.out).2.1)
        rintro e w' ⟨rfl, ⟨nd, rfl⟩⟩
        refine ⟨_, rfl, ?_⟩
        refine hK.out _ _ ⟨(blk_cell BK8010.out 0).trans rfl, (blk_cell BK8010.out 1).trans rfl⟩ (fun hHeld => ?_)
        clear hK K
        refine noA (h := ?_)
        refine onA (i := 33) (N := some 96) HT_ (h := fun K hK => ?_)
        refine goes_ Try.func51 (by kernel_rfl) rfl #[.int .i64 t8002, .slice Ao13 t8003.length co13] (by rfl) rfl rfl lm ?_
        with_reducible refine (spec_AreLists.calls k t8002 _ _ t8003 t8035 _ ?side1 ?side2 A41.out).mono ?_
        (case side1 => repeat (first | exact (Kd.R_reads' HO8005.out).2.2 | (with_reducible refine Kd.C_alloc ?_ _) | (with_reducible refine Kd.C_drewN ?_ _) | (with_reducible refine Kd.C_drew ?_)))
        (case side2 => exact (Kd.R_reads' HO8005.out).2.1)
        rintro e w' ⟨rfl, ⟨nd, rfl⟩⟩
        refine ⟨_, rfl, ?_⟩
        refine hK.out _ _ ⟨(blk_cell BK8010.out 0).trans rfl, (blk_cell BK8010.out 1).trans rfl⟩ (fun hHeld => ?_)
        clear hK K
        refine noA (h := ?_)
        refine puA (i := 34) (N := some 97) HT_ (h := ?_)
        refine puA (i := 35) (N := some 98) HT_ (h := ?_)
        refine done_ (done_of HT_.out (by kernel_rfl)) ?_
        try go_wp2
        go_meet
        case rel => exact ⟨_, ((t8034 != t8035)), rs_, H', ⟨by first | omega | exact Nat.le_refl _⟩, ⟨by (with_reducible repeat (first | apply Kd.R_alloc | apply Kd.R_drewN | apply Kd.R_drew)); exact Kd.R_mono HO8005.out (fun _ hk => ⟨hk.1.1.1.2, ⟨hk.1.1.2, hk.1.1.1.1.2⟩⟩)⟩, ⟨by (with_reducible repeat (first | apply Kd.R_alloc | apply Kd.R_drewN | apply Kd.R_drew)); exact Kd.R_mono HO8015.out (fun _ hk => ⟨hk.1.1.1.1.2, ⟨hk.1.1.2, hk.1.1.1.2⟩⟩)⟩, ⟨by (with_reducible repeat (first | apply Kd.R_alloc | apply Kd.R_drewN | apply Kd.R_drew)); exact Kd.R_mono HO8019.out (fun _ hk => ⟨hk.1.1.1.1.2, ⟨hk.1.1.2, hk.1.1.1.2⟩⟩)⟩, ⟨by (with_reducible repeat (first | apply Kd.R_alloc | apply Kd.R_drewN | apply Kd.R_drew)); exact Kd.R_mono HO8009.out (fun _ hk => ⟨hk.1.1.1.1.2, ⟨hk.1.1.1.2, hk.1.1.2⟩⟩)⟩, ⟨pk BK8010.out⟩, ⟨pB1 HB.out GE8010.out⟩⟩
      ·rw [if_neg c32] at H
       have c32b0 : (t8024 == t8026) = false := beq_eq_false_iff_ne.mpr c32
       have c32b1 : (t8024 != t8026) = true := bne_iff_ne.mpr c32
       have H' := aQ H
       clear H
       try go_wp2
       have n0_ := aQ (Kd.R_drew HO8005.out)
       have n1_ := aQ (Kd.R_drew HO8009.out)
       have n2_ := aQ (Kd.R_drew HO8015.out)
       have n3_ := aQ (Kd.R_drew HO8019.out)
       have n4_ := aQ (Kd.R_drew HO8023.out)
       have n5_ := aQ (blk_drew BK8010.out)
       have n6_ := aQ (below_drew1 HB.out)
       clear HO8005
       clear HO8009
       clear HO8015
       clear HO8019
       clear HO8023
       clear BK8010
       clear HB
       have HO8005 := n0_
       have HO8009 := n1_
       have HO8015 := n2_
       have HO8019 := n3_
       have HO8023 := n4_
       have BK8010 := n5_
       have HB := n6_
       clear n0_ n1_ n2_ n3_ n4_ n5_ n6_
       refine start_ (n := 36) (S := fun w' => w'.cell? ⟨gb8010, 0, none⟩ = some (.int .i64 t8006) ∧ w'.cell? ⟨gb8010, 1, none⟩ = some (.slice Ao17 t8007.length co17)) (ds := []) #[false, false, false, false, false, false, false, false, false, false, false, false, false, false, false, false, false, false, false, false, false, false, false, false, false, false, false, false, false, false, false, false, false, false, false, false] (by kernel_rfl) rfl rfl ⟨(blk_cell BK8010.out 0).trans rfl, (blk_cell BK8010.out 1).trans rfl⟩ (fun hHeld => ?_); refine with_tabW laws_FnTransversals.tab10 laws_FnTransversals.bits10 (fun HT_ HW_ => ?_)
       generalize w21.drew = w48 at HO8005 HO8009 HO8015 HO8019 HO8023 BK8010 HB hHeld ⊢
       refine puA (i := 1) (N := some 64) HT_ (h := ?_)
       refine puA (i := 2) (N := some 65) HT_ (h := ?_)
       refine taA2 (i := 0) (N := some 63) HT_ HW_ hHeld (h := ?_)
       refine onA (i := 3) (N := some 66) HT_ (h := fun K hK => ?_)
       refine goes_ Try.func49 (by kernel_rfl) rfl #[.int .i64 t8002, .slice Ao13 t8003.length co13] (by rfl) rfl rfl lm ?_
       with_reducible refine (spec_FromSets.calls k t8002 _ _ t8003 t8028 t8029 _ ?side1 ?side2 A22.out).mono ?_
       (case side1 => repeat (first | exact (Kd.R_reads' HO8005.out).2.2 | (with_reducible refine Kd.C_alloc ?_ _) | (with_reducible refine Kd.C_drewN ?_ _) | (with_reducible refine Kd.C_drew ?_)))
       (case side2 => exact (Kd.R_reads' HO8005.out).2.1)
       rintro e w49 ⟨v8030, rfl, ho0, hb⟩
       refine ⟨_, rfl, ?_⟩
       have n0_ := aQ (Kd.R_elder' (pR HO8005.out) (Kd.R_base ho0) hb)
       have n1_ := aQ (Kd.R_elder' (pR HO8009.out) (Kd.R_base ho0) hb)
       have n2_ := aQ (Kd.R_elder' (pR HO8015.out) (Kd.R_base ho0) hb)
       have n3_ := aQ (Kd.R_elder' (pR HO8019.out) (Kd.R_base ho0) hb)
       have n4_ := aQ (Kd.R_elder' (pR HO8023.out) (Kd.R_base ho0) hb)
       have n5_ := aQ (Kd.R_lower (Kd.R_new' (Kd.R_new' (Kd.R_new' (Kd.R_new' (Kd.R_new' ho0 (Kd.R_lt (pR HO8005.out))) (Kd.R_lt (pR HO8009.out))) (Kd.R_lt (pR HO8015.out))) (Kd.R_lt (pR HO8019.out))) (Kd.R_lt (pR HO8023.out))) (below_size (pB1 HB.out GE8010.out)))
       have n6_ := aQ (blk_below (g := gb8010) (o := .cells #[.int .i64 t8006, .slice Ao17 t8007.length co17] 28 (0, 0)) (pk BK8010.out) hb)
       have n7_ := aQ (below_step (pB1 HB.out GE8010.out) hb)
       clear HO8005
       clear HO8009
       clear HO8015
       clear HO8019
       clear HO8023
       clear BK8010
       clear HB
       have HO8005 := n0_
       have HO8009 := n1_
       have HO8015 := n2_
       have HO8019 := n3_
       have HO8023 := n4_
       have HO8031 := n5_
       have BK8010 := n6_
       have HB := n7_
       clear n0_ n1_ n2_ n3_ n4_ n5_ n6_ n7_
       (try clear hb)
       (try clear hb2)
       (try clear hk)
       (try clear hi)
       (try clear ho0)
       obtain ⟨Ao50, co50, eo50⟩ := Kd.R_slice HO8031.out
       (first | subst eo50 | (injection eo50 with f1_ f2_ f3_; have f4_ := f1_.symm; have f5_ := f3_.symm; clear f1_ f2_ f3_; subst f4_; subst f5_))
       refine hK.out _ _ ⟨(blk_cell BK8010.out 0).trans rfl, (blk_cell BK8010.out 1).trans rfl⟩ (fun hHeld => ?_)
       clear hK K
       refine noA (h := ?_)
       refine onA (i := 4) (N := some 67) HT_ (h := fun K hK => ?_)
       refine goes_ Try.func48 (by kernel_rfl) rfl #[.agg #[.int .i64 t8006, .slice Ao17 t8007.length co17], .agg #[.int .i64 t8028, .slice Ao50 t8029.length co50]] (by rfl) rfl rfl lm ?_
       with_reducible refine (spec_EqualMatroid.calls k t8006 _ _ t8007 t8028 _ _ t8029 true _ ?side1 ?side2 ?side3 ?side4 A23.out).mono ?_
       (case side1 => repeat (first | exact (Kd.R_reads' HO8009.out).2.2 | (with_reducible refine Kd.C_alloc ?_ _) | (with_reducible refine Kd.C_drewN ?_ _) | (with_reducible refine Kd.C_drew ?_)))
       (case side2 => exact (Kd.R_reads' HO8009.out).2.1)
       (case side3 => repeat (first | exact (Kd.R_reads' HO8031.out).2.2 | (with_reducible refine Kd.C_alloc ?_ _) | (with_reducible refine Kd.C_drewN ?_ _) | (with_reducible refine Kd.C_drew ?_)))
       (case side4 => exact (Kd.R_reads' HO8031.out).2.1)
       rintro e w51 ⟨rfl, hb⟩
       refine ⟨_, rfl, ?_⟩
       have n0_ := aQ (Kd.R_below (pR HO8005.out) hb)
       have n1_ := aQ (Kd.R_below (pR HO8009.out) hb)
       have n2_ := aQ (Kd.R_below (pR HO8015.out) hb)
       have n3_ := aQ (Kd.R_below (pR HO8019.out) hb)
       have n4_ := aQ (Kd.R_below (pR HO8023.out) hb)
       have n5_ := aQ (Kd.R_below (pR HO8031.out) hb)
       have n6_ := aQ (blk_below (g := gb8010) (o := .cells #[.int .i64 t8006, .slice Ao17 t8007.length co17] 28 (0, 0)) (pk BK8010.out) hb)
       have n7_ := aQ (below_step (pB1 HB.out GE8010.out) hb)
       clear HO8005
       clear HO8009
       clear HO8015
       clear HO8019
       clear HO8023
       clear HO8031
       clear BK8010
       clear HB
       have HO8005 := n0_
       have HO8009 := n1_
       have HO8015 := n2_
       have HO8019 := n3_
       have HO8023 := n4_
       have HO8031 := n5_
       have BK8010 := n6_
       have HB := n7_
       clear n0_ n1_ n2_ n3_ n4_ n5_ n6_ n7_
       (try clear hb)
       (try clear hb2)
       (try clear hk)
       (try clear hi)
       obtain ⟨Ao52, co52, eo52⟩ := Kd.R_slice HO8019.out
       (first | subst eo52 | (injection eo52 with f1_ f2_ f3_; have f4_ := f1_.symm; have f5_ := f3_.symm; clear f1_ f2_ f3_; subst f4_; subst f5_))
       obtain ⟨Ao53, co53, eo53⟩ := Kd.R_slice HO8023.out
       (first | subst eo53 | (injection eo53 with f1_ f2_ f3_; have f4_ := f1_.symm; have f5_ := f3_.symm; clear f1_ f2_ f3_; subst f4_; subst f5_))
       refine hK.out _ _ ⟨(blk_cell BK8010.out 0).trans rfl, (blk_cell BK8010.out 1).trans rfl⟩ (fun hHeld => ?_)
       clear hK K
       refine noA (h := ?_)
       refine puA (i := 5) (N := some 68) HT_ (h := ?_)
       refine puA (i := 6) (N := some 69) HT_ (h := ?_)
       refine puA (i := 7) (N := some 70) HT_ (h := ?_)
       refine puA (i := 8) (N := some 71) HT_ (h := ?_)
       refine puA (i := 9) (N := some 72) HT_ (h := ?_)
       refine puA (i := 10) (N := some 73) HT_ (h := ?_)
       refine puA (i := 11) (N := some 74) HT_ (h := ?_)
       refine puA (i := 12) (N := some 75) HT_ (h := ?_)
       refine puA (i := 13) (N := some 76) HT_ (h := ?_)
       refine onA (i := 14) (N := some 77) HT_ (h := fun K hK => ?_)
       refine goes_ Try.func38 (by kernel_rfl) rfl #[.slice Ao52 t8016.length co52, .slice Ao53 t8020.length co53] (by rfl) rfl rfl lm ?_
       with_reducible refine (laws_sameInts.calls k _ _ t8016 _ _ t8020 true _ ?side1 ?side2 ?side3 ?side4 A30.out).mono ?_
       (case side1 => repeat (first | exact (Kd.R_reads' HO8019.out).2.2 | (with_reducible refine Kd.C_alloc ?_ _) | (with_reducible refine Kd.C_drewN ?_ _) | (with_reducible refine Kd.C_drew ?_)))
       (case side2 => exact (Kd.R_reads' HO8019.out).2.1)
       (case side3 => repeat (first | exact (Kd.R_reads' HO8023.out).2.2 | (with_reducible refine Kd.C_alloc ?_ _) | (with_reducible refine Kd.C_drewN ?_ _) | (with_reducible refine Kd.C_drew ?_)))
       (case side4 => exact (Kd.R_reads' HO8023.out).2.1)
       rintro e w' ⟨rfl, ⟨nd, rfl⟩⟩
       refine ⟨_, rfl, ?_⟩
       refine hK.out _ _ ⟨(blk_cell BK8010.out 0).trans rfl, (blk_cell BK8010.out 1).trans rfl⟩ (fun hHeld => ?_)
       clear hK K
       refine noA (h := ?_)
       refine puA (i := 15) (N := some 78) HT_ (h := ?_)
       refine puA (i := 16) (N := some 79) HT_ (h := ?_)
       refine puA (i := 17) (N := some 80) HT_ (h := ?_)
       refine puA (i := 18) (N := some 81) HT_ (h := ?_)
       refine puA (i := 19) (N := some 82) HT_ (h := ?_)
       refine puA (i := 20) (N := some 83) HT_ (h := ?_)
       refine puA (i := 21) (N := some 84) HT_ (h := ?_)
       refine puA (i := 22) (N := some 85) HT_ (h := ?_)
       refine puU (i := 23) (N := some 86) HT_ (h := ?_)
       refine puU (i := 24) (N := some 87) HT_ (h := ?_)
       refine puU (i := 25) (N := some 88) HT_ (h := ?_)
       refine puA (i := 26) (N := some 89) HT_ (h := ?_)
       refine puA (i := 27) (N := some 90) HT_ (h := ?_)
       refine puU (i := 28) (N := some 91) HT_ (h := ?_)
       refine puU (i := 29) (N := some 92) HT_ (h := ?_)
       refine puU (i := 30) (N := some 93) HT_ (h := ?_)
       refine puU (i := 31) (N := some 94) HT_ (h := ?_)
       refine puU (i := 32) (N := some 95) HT_ (h := ?_)
       refine puU (i := 33) (N := some 96) HT_ (h := ?_)
       refine puU (i := 34) (N := some 97) HT_ (h := ?_)
       refine puA (i := 35) (N := some 98) HT_ (h := ?_)
       refine done_ (done_of HT_.out (by kernel_rfl)) ?_
       try go_wp2
       go_meet
       case rel => exact ⟨_, (true), rs_, H', ⟨by first | omega | exact Nat.le_refl _⟩, ⟨by (with_reducible repeat (first | apply Kd.R_alloc | apply Kd.R_drewN | apply Kd.R_drew)); exact Kd.R_mono HO8005.out (fun _ hk => ⟨hk.1.1.1.2, ⟨hk.1.1.2, hk.1.1.1.1.2⟩⟩)⟩, ⟨by (with_reducible repeat (first | apply Kd.R_alloc | apply Kd.R_drewN | apply Kd.R_drew)); exact Kd.R_mono HO8015.out (fun _ hk => ⟨hk.1.1.1.1.2, ⟨hk.1.1.2, hk.1.1.1.2⟩⟩)⟩, ⟨by (with_reducible repeat (first | apply Kd.R_alloc | apply Kd.R_drewN | apply Kd.R_drew)); exact Kd.R_mono HO8019.out (fun _ hk => ⟨hk.1.1.1.1.2, ⟨hk.1.1.2, hk.1.1.1.2⟩⟩)⟩, ⟨by (with_reducible repeat (first | apply Kd.R_alloc | apply Kd.R_drewN | apply Kd.R_drew)); exact Kd.R_mono HO8009.out (fun _ hk => ⟨hk.1.1.1.1.2, ⟨hk.1.1.1.2, hk.1.1.2⟩⟩)⟩, ⟨pk BK8010.out⟩, ⟨pB1 HB.out GE8010.out⟩⟩
     ·replace c31 := Bool.eq_false_iff.mpr c31
      subst c31
      have H1 : (laws_FnTransversals.j0 k t8002 t8003 t8011 t8012 t8013 t8016 t8017 t8025 true t8006 t8007) = some true := by rw [if_neg (show ¬ (false = true) by decide)] at H; exact H
      clear H
      have H := H1
      clear H1
      have H' := aQ H
      clear H
      try go_wp2
      have n0_ := aQ (Kd.R_drew HO8005.out)
      have n1_ := aQ (Kd.R_drew HO8009.out)
      have n2_ := aQ (Kd.R_drew HO8015.out)
      have n3_ := aQ (Kd.R_drew HO8019.out)
      have n4_ := aQ (Kd.R_drew HO8023.out)
      have n5_ := aQ (blk_drew BK8010.out)
      have n6_ := aQ (below_drew1 HB.out)
      clear HO8005
      clear HO8009
      clear HO8015
      clear HO8019
      clear HO8023
      clear BK8010
      clear HB
      have HO8005 := n0_
      have HO8009 := n1_
      have HO8015 := n2_
      have HO8019 := n3_
      have HO8023 := n4_
      have BK8010 := n5_
      have HB := n6_
      clear n0_ n1_ n2_ n3_ n4_ n5_ n6_
      refine start_ (n := 36) (S := fun w' => w'.cell? ⟨gb8010, 0, none⟩ = some (.int .i64 t8006) ∧ w'.cell? ⟨gb8010, 1, none⟩ = some (.slice Ao17 t8007.length co17)) (ds := []) #[false, false, false, false, false, false, false, false, false, false, false, false, false, false, false, false, false, false, false, false, false, false, false, false, false, false, false, false, false, false, false, false, false, false, false, false] (by kernel_rfl) rfl rfl ⟨(blk_cell BK8010.out 0).trans rfl, (blk_cell BK8010.out 1).trans rfl⟩ (fun hHeld => ?_); refine with_tabW laws_FnTransversals.tab10 laws_FnTransversals.bits10 (fun HT_ HW_ => ?_)
      generalize w21.drew = w54 at HO8005 HO8009 HO8015 HO8019 HO8023 BK8010 HB hHeld ⊢
      refine puA (i := 1) (N := some 64) HT_ (h := ?_)
      refine puA (i := 2) (N := some 65) HT_ (h := ?_)
      refine taA2 (i := 0) (N := some 63) HT_ HW_ hHeld (h := ?_)
      refine onA (i := 3) (N := some 66) HT_ (h := fun K hK => ?_)
      refine goes_ Try.func49 (by kernel_rfl) rfl #[.int .i64 t8002, .slice Ao13 t8003.length co13] (by rfl) rfl rfl lm ?_
      with_reducible refine (spec_FromSets.calls k t8002 _ _ t8003 t8028 t8029 _ ?side1 ?side2 A22.out).mono ?_
      (case side1 => repeat (first | exact (Kd.R_reads' HO8005.out).2.2 | (with_reducible refine Kd.C_alloc ?_ _) | (with_reducible refine Kd.C_drewN ?_ _) | (with_reducible refine Kd.C_drew ?_)))
      (case side2 => exact (Kd.R_reads' HO8005.out).2.1)
      rintro e w55 ⟨v8030, rfl, ho0, hb⟩
      refine ⟨_, rfl, ?_⟩
      have n0_ := aQ (Kd.R_elder' (pR HO8005.out) (Kd.R_base ho0) hb)
      have n1_ := aQ (Kd.R_elder' (pR HO8009.out) (Kd.R_base ho0) hb)
      have n2_ := aQ (Kd.R_elder' (pR HO8015.out) (Kd.R_base ho0) hb)
      have n3_ := aQ (Kd.R_elder' (pR HO8019.out) (Kd.R_base ho0) hb)
      have n4_ := aQ (Kd.R_elder' (pR HO8023.out) (Kd.R_base ho0) hb)
      have n5_ := aQ (Kd.R_lower (Kd.R_new' (Kd.R_new' (Kd.R_new' (Kd.R_new' (Kd.R_new' ho0 (Kd.R_lt (pR HO8005.out))) (Kd.R_lt (pR HO8009.out))) (Kd.R_lt (pR HO8015.out))) (Kd.R_lt (pR HO8019.out))) (Kd.R_lt (pR HO8023.out))) (below_size (pB1 HB.out GE8010.out)))
      have n6_ := aQ (blk_below (g := gb8010) (o := .cells #[.int .i64 t8006, .slice Ao17 t8007.length co17] 28 (0, 0)) (pk BK8010.out) hb)
      have n7_ := aQ (below_step (pB1 HB.out GE8010.out) hb)
      clear HO8005
      clear HO8009
      clear HO8015
      clear HO8019
      clear HO8023
      clear BK8010
      clear HB
      have HO8005 := n0_
      have HO8009 := n1_
      have HO8015 := n2_
      have HO8019 := n3_
      have HO8023 := n4_
      have HO8031 := n5_
      have BK8010 := n6_
      have HB := n7_
      clear n0_ n1_ n2_ n3_ n4_ n5_ n6_ n7_
      (try clear hb)
      (try clear hb2)
      (try clear hk)
      (try clear hi)
      (try clear ho0)
      obtain ⟨Ao56, co56, eo56⟩ := Kd.R_slice HO8031.out
      (first | subst eo56 | (injection eo56 with f1_ f2_ f3_; have f4_ := f1_.symm; have f5_ := f3_.symm; clear f1_ f2_ f3_; subst f4_; subst f5_))
      refine hK.out _ _ ⟨(blk_cell BK8010.out 0).trans rfl, (blk_cell BK8010.out 1).trans rfl⟩ (fun hHeld => ?_)
      clear hK K
      refine noA (h := ?_)
      refine onA (i := 4) (N := some 67) HT_ (h := fun K hK => ?_)
      refine goes_ Try.func48 (by kernel_rfl) rfl #[.agg #[.int .i64 t8006, .slice Ao17 t8007.length co17], .agg #[.int .i64 t8028, .slice Ao56 t8029.length co56]] (by rfl) rfl rfl lm ?_
      with_reducible refine (spec_EqualMatroid.calls k t8006 _ _ t8007 t8028 _ _ t8029 true _ ?side1 ?side2 ?side3 ?side4 A23.out).mono ?_
      (case side1 => repeat (first | exact (Kd.R_reads' HO8009.out).2.2 | (with_reducible refine Kd.C_alloc ?_ _) | (with_reducible refine Kd.C_drewN ?_ _) | (with_reducible refine Kd.C_drew ?_)))
      (case side2 => exact (Kd.R_reads' HO8009.out).2.1)
      (case side3 => repeat (first | exact (Kd.R_reads' HO8031.out).2.2 | (with_reducible refine Kd.C_alloc ?_ _) | (with_reducible refine Kd.C_drewN ?_ _) | (with_reducible refine Kd.C_drew ?_)))
      (case side4 => exact (Kd.R_reads' HO8031.out).2.1)
      rintro e w57 ⟨rfl, hb⟩
      refine ⟨_, rfl, ?_⟩
      have n0_ := aQ (Kd.R_below (pR HO8005.out) hb)
      have n1_ := aQ (Kd.R_below (pR HO8009.out) hb)
      have n2_ := aQ (Kd.R_below (pR HO8015.out) hb)
      have n3_ := aQ (Kd.R_below (pR HO8019.out) hb)
      have n4_ := aQ (Kd.R_below (pR HO8023.out) hb)
      have n5_ := aQ (Kd.R_below (pR HO8031.out) hb)
      have n6_ := aQ (blk_below (g := gb8010) (o := .cells #[.int .i64 t8006, .slice Ao17 t8007.length co17] 28 (0, 0)) (pk BK8010.out) hb)
      have n7_ := aQ (below_step (pB1 HB.out GE8010.out) hb)
      clear HO8005
      clear HO8009
      clear HO8015
      clear HO8019
      clear HO8023
      clear HO8031
      clear BK8010
      clear HB
      have HO8005 := n0_
      have HO8009 := n1_
      have HO8015 := n2_
      have HO8019 := n3_
      have HO8023 := n4_
      have HO8031 := n5_
      have BK8010 := n6_
      have HB := n7_
      clear n0_ n1_ n2_ n3_ n4_ n5_ n6_ n7_
      (try clear hb)
      (try clear hb2)
      (try clear hk)
      (try clear hi)
      obtain ⟨Ao58, co58, eo58⟩ := Kd.R_slice HO8019.out
      (first | subst eo58 | (injection eo58 with f1_ f2_ f3_; have f4_ := f1_.symm; have f5_ := f3_.symm; clear f1_ f2_ f3_; subst f4_; subst f5_))
      obtain ⟨Ao59, co59, eo59⟩ := Kd.R_slice HO8023.out
      (first | subst eo59 | (injection eo59 with f1_ f2_ f3_; have f4_ := f1_.symm; have f5_ := f3_.symm; clear f1_ f2_ f3_; subst f4_; subst f5_))
      refine hK.out _ _ ⟨(blk_cell BK8010.out 0).trans rfl, (blk_cell BK8010.out 1).trans rfl⟩ (fun hHeld => ?_)
      clear hK K
      refine noA (h := ?_)
      refine puA (i := 5) (N := some 68) HT_ (h := ?_)
      refine puA (i := 6) (N := some 69) HT_ (h := ?_)
      refine puA (i := 7) (N := some 70) HT_ (h := ?_)
      refine puA (i := 8) (N := some 71) HT_ (h := ?_)
      refine puA (i := 9) (N := some 72) HT_ (h := ?_)
      refine puA (i := 10) (N := some 73) HT_ (h := ?_)
      refine puA (i := 11) (N := some 74) HT_ (h := ?_)
      refine puA (i := 12) (N := some 75) HT_ (h := ?_)
      refine puA (i := 13) (N := some 76) HT_ (h := ?_)
      refine onA (i := 14) (N := some 77) HT_ (h := fun K hK => ?_)
      refine goes_ Try.func38 (by kernel_rfl) rfl #[.slice Ao58 t8016.length co58, .slice Ao59 t8020.length co59] (by rfl) rfl rfl lm ?_
      with_reducible refine (laws_sameInts.calls k _ _ t8016 _ _ t8020 false _ ?side1 ?side2 ?side3 ?side4 A30.out).mono ?_
      (case side1 => repeat (first | exact (Kd.R_reads' HO8019.out).2.2 | (with_reducible refine Kd.C_alloc ?_ _) | (with_reducible refine Kd.C_drewN ?_ _) | (with_reducible refine Kd.C_drew ?_)))
      (case side2 => exact (Kd.R_reads' HO8019.out).2.1)
      (case side3 => repeat (first | exact (Kd.R_reads' HO8023.out).2.2 | (with_reducible refine Kd.C_alloc ?_ _) | (with_reducible refine Kd.C_drewN ?_ _) | (with_reducible refine Kd.C_drew ?_)))
      (case side4 => exact (Kd.R_reads' HO8023.out).2.1)
      rintro e w' ⟨rfl, ⟨nd, rfl⟩⟩
      refine ⟨_, rfl, ?_⟩
      refine hK.out _ _ ⟨(blk_cell BK8010.out 0).trans rfl, (blk_cell BK8010.out 1).trans rfl⟩ (fun hHeld => ?_)
      clear hK K
      refine noA (h := ?_)
      refine puA (i := 15) (N := some 78) HT_ (h := ?_)
      refine puA (i := 16) (N := some 79) HT_ (h := ?_)
      refine puA (i := 17) (N := some 80) HT_ (h := ?_)
      refine puU (i := 18) (N := some 81) HT_ (h := ?_)
      refine puU (i := 19) (N := some 82) HT_ (h := ?_)
      refine puU (i := 20) (N := some 83) HT_ (h := ?_)
      refine puA (i := 21) (N := some 84) HT_ (h := ?_)
      refine puA (i := 22) (N := some 85) HT_ (h := ?_)
      refine puU (i := 23) (N := some 86) HT_ (h := ?_)
      refine puU (i := 24) (N := some 87) HT_ (h := ?_)
      refine puU (i := 25) (N := some 88) HT_ (h := ?_)
      refine puA (i := 26) (N := some 89) HT_ (h := ?_)
      refine puA (i := 27) (N := some 90) HT_ (h := ?_)
      refine puU (i := 28) (N := some 91) HT_ (h := ?_)
      refine puU (i := 29) (N := some 92) HT_ (h := ?_)
      refine puU (i := 30) (N := some 93) HT_ (h := ?_)
      refine puU (i := 31) (N := some 94) HT_ (h := ?_)
      refine puU (i := 32) (N := some 95) HT_ (h := ?_)
      refine puU (i := 33) (N := some 96) HT_ (h := ?_)
      refine puU (i := 34) (N := some 97) HT_ (h := ?_)
      refine puA (i := 35) (N := some 98) HT_ (h := ?_)
      refine done_ (done_of HT_.out (by kernel_rfl)) ?_
      try go_wp2
      go_meet
      case rel => exact ⟨_, (true), rs_, H', ⟨by first | omega | exact Nat.le_refl _⟩, ⟨by (with_reducible repeat (first | apply Kd.R_alloc | apply Kd.R_drewN | apply Kd.R_drew)); exact Kd.R_mono HO8005.out (fun _ hk => ⟨hk.1.1.1.2, ⟨hk.1.1.2, hk.1.1.1.1.2⟩⟩)⟩, ⟨by (with_reducible repeat (first | apply Kd.R_alloc | apply Kd.R_drewN | apply Kd.R_drew)); exact Kd.R_mono HO8015.out (fun _ hk => ⟨hk.1.1.1.1.2, ⟨hk.1.1.2, hk.1.1.1.2⟩⟩)⟩, ⟨by (with_reducible repeat (first | apply Kd.R_alloc | apply Kd.R_drewN | apply Kd.R_drew)); exact Kd.R_mono HO8019.out (fun _ hk => ⟨hk.1.1.1.1.2, ⟨hk.1.1.2, hk.1.1.1.2⟩⟩)⟩, ⟨by (with_reducible repeat (first | apply Kd.R_alloc | apply Kd.R_drewN | apply Kd.R_drew)); exact Kd.R_mono HO8009.out (fun _ hk => ⟨hk.1.1.1.1.2, ⟨hk.1.1.1.2, hk.1.1.2⟩⟩)⟩, ⟨pk BK8010.out⟩, ⟨pB1 HB.out GE8010.out⟩⟩
   ·replace c24 := Bool.eq_false_iff.mpr c24
    subst c24
    have H1 : (laws_FnTransversals.j0 k t8002 t8003 t8011 t8012 t8013 t8016 t8017 t8025 true t8006 t8007) = some true := by rw [if_neg (show ¬ (false = true) by decide)] at H; exact H
    clear H
    have H := H1
    clear H1
    have H' := aQ H
    clear H
    try go_wp2
    have n0_ := aQ (Kd.R_drew HO8005.out)
    have n1_ := aQ (Kd.R_drew HO8009.out)
    have n2_ := aQ (Kd.R_drew HO8015.out)
    have n3_ := aQ (Kd.R_drew HO8019.out)
    have n4_ := aQ (Kd.R_drew HO8023.out)
    have n5_ := aQ (blk_drew BK8010.out)
    have n6_ := aQ (below_drew1 HB.out)
    clear HO8005
    clear HO8009
    clear HO8015
    clear HO8019
    clear HO8023
    clear BK8010
    clear HB
    have HO8005 := n0_
    have HO8009 := n1_
    have HO8015 := n2_
    have HO8019 := n3_
    have HO8023 := n4_
    have BK8010 := n5_
    have HB := n6_
    clear n0_ n1_ n2_ n3_ n4_ n5_ n6_
    refine start_ (n := 36) (S := fun w' => w'.cell? ⟨gb8010, 0, none⟩ = some (.int .i64 t8006) ∧ w'.cell? ⟨gb8010, 1, none⟩ = some (.slice Ao17 t8007.length co17)) (ds := []) #[false, false, false, false, false, false, false, false, false, false, false, false, false, false, false, false, false, false, false, false, false, false, false, false, false, false, false, false, false, false, false, false, false, false, false, false] (by kernel_rfl) rfl rfl ⟨(blk_cell BK8010.out 0).trans rfl, (blk_cell BK8010.out 1).trans rfl⟩ (fun hHeld => ?_); refine with_tabW laws_FnTransversals.tab10 laws_FnTransversals.bits10 (fun HT_ HW_ => ?_)
    generalize w21.drew = w60 at HO8005 HO8009 HO8015 HO8019 HO8023 BK8010 HB hHeld ⊢
    refine puA (i := 1) (N := some 64) HT_ (h := ?_)
    refine puA (i := 2) (N := some 65) HT_ (h := ?_)
    refine taA2 (i := 0) (N := some 63) HT_ HW_ hHeld (h := ?_)
    refine onA (i := 3) (N := some 66) HT_ (h := fun K hK => ?_)
    refine goes_ Try.func49 (by kernel_rfl) rfl #[.int .i64 t8002, .slice Ao13 t8003.length co13] (by rfl) rfl rfl lm ?_
    with_reducible refine (spec_FromSets.calls k t8002 _ _ t8003 t8028 t8029 _ ?side1 ?side2 A22.out).mono ?_
    (case side1 => repeat (first | exact (Kd.R_reads' HO8005.out).2.2 | (with_reducible refine Kd.C_alloc ?_ _) | (with_reducible refine Kd.C_drewN ?_ _) | (with_reducible refine Kd.C_drew ?_)))
    (case side2 => exact (Kd.R_reads' HO8005.out).2.1)
    rintro e w61 ⟨v8030, rfl, ho0, hb⟩
    refine ⟨_, rfl, ?_⟩
    have n0_ := aQ (Kd.R_elder' (pR HO8005.out) (Kd.R_base ho0) hb)
    have n1_ := aQ (Kd.R_elder' (pR HO8009.out) (Kd.R_base ho0) hb)
    have n2_ := aQ (Kd.R_elder' (pR HO8015.out) (Kd.R_base ho0) hb)
    have n3_ := aQ (Kd.R_elder' (pR HO8019.out) (Kd.R_base ho0) hb)
    have n4_ := aQ (Kd.R_elder' (pR HO8023.out) (Kd.R_base ho0) hb)
    have n5_ := aQ (Kd.R_lower (Kd.R_new' (Kd.R_new' (Kd.R_new' (Kd.R_new' (Kd.R_new' ho0 (Kd.R_lt (pR HO8005.out))) (Kd.R_lt (pR HO8009.out))) (Kd.R_lt (pR HO8015.out))) (Kd.R_lt (pR HO8019.out))) (Kd.R_lt (pR HO8023.out))) (below_size (pB1 HB.out GE8010.out)))
    have n6_ := aQ (blk_below (g := gb8010) (o := .cells #[.int .i64 t8006, .slice Ao17 t8007.length co17] 28 (0, 0)) (pk BK8010.out) hb)
    have n7_ := aQ (below_step (pB1 HB.out GE8010.out) hb)
    clear HO8005
    clear HO8009
    clear HO8015
    clear HO8019
    clear HO8023
    clear BK8010
    clear HB
    have HO8005 := n0_
    have HO8009 := n1_
    have HO8015 := n2_
    have HO8019 := n3_
    have HO8023 := n4_
    have HO8031 := n5_
    have BK8010 := n6_
    have HB := n7_
    clear n0_ n1_ n2_ n3_ n4_ n5_ n6_ n7_
    (try clear hb)
    (try clear hb2)
    (try clear hk)
    (try clear hi)
    (try clear ho0)
    obtain ⟨Ao62, co62, eo62⟩ := Kd.R_slice HO8031.out
    (first | subst eo62 | (injection eo62 with f1_ f2_ f3_; have f4_ := f1_.symm; have f5_ := f3_.symm; clear f1_ f2_ f3_; subst f4_; subst f5_))
    refine hK.out _ _ ⟨(blk_cell BK8010.out 0).trans rfl, (blk_cell BK8010.out 1).trans rfl⟩ (fun hHeld => ?_)
    clear hK K
    refine noA (h := ?_)
    refine onA (i := 4) (N := some 67) HT_ (h := fun K hK => ?_)
    refine goes_ Try.func48 (by kernel_rfl) rfl #[.agg #[.int .i64 t8006, .slice Ao17 t8007.length co17], .agg #[.int .i64 t8028, .slice Ao62 t8029.length co62]] (by rfl) rfl rfl lm ?_
    with_reducible refine (spec_EqualMatroid.calls k t8006 _ _ t8007 t8028 _ _ t8029 false _ ?side1 ?side2 ?side3 ?side4 A23.out).mono ?_
    (case side1 => repeat (first | exact (Kd.R_reads' HO8009.out).2.2 | (with_reducible refine Kd.C_alloc ?_ _) | (with_reducible refine Kd.C_drewN ?_ _) | (with_reducible refine Kd.C_drew ?_)))
    (case side2 => exact (Kd.R_reads' HO8009.out).2.1)
    (case side3 => repeat (first | exact (Kd.R_reads' HO8031.out).2.2 | (with_reducible refine Kd.C_alloc ?_ _) | (with_reducible refine Kd.C_drewN ?_ _) | (with_reducible refine Kd.C_drew ?_)))
    (case side4 => exact (Kd.R_reads' HO8031.out).2.1)
    rintro e w63 ⟨rfl, hb⟩
    refine ⟨_, rfl, ?_⟩
    have n0_ := aQ (Kd.R_below (pR HO8005.out) hb)
    have n1_ := aQ (Kd.R_below (pR HO8009.out) hb)
    have n2_ := aQ (Kd.R_below (pR HO8015.out) hb)
    have n3_ := aQ (Kd.R_below (pR HO8019.out) hb)
    have n4_ := aQ (Kd.R_below (pR HO8023.out) hb)
    have n5_ := aQ (Kd.R_below (pR HO8031.out) hb)
    have n6_ := aQ (blk_below (g := gb8010) (o := .cells #[.int .i64 t8006, .slice Ao17 t8007.length co17] 28 (0, 0)) (pk BK8010.out) hb)
    have n7_ := aQ (below_step (pB1 HB.out GE8010.out) hb)
    clear HO8005
    clear HO8009
    clear HO8015
    clear HO8019
    clear HO8023
    clear HO8031
    clear BK8010
    clear HB
    have HO8005 := n0_
    have HO8009 := n1_
    have HO8015 := n2_
    have HO8019 := n3_
    have HO8023 := n4_
    have HO8031 := n5_
    have BK8010 := n6_
    have HB := n7_
    clear n0_ n1_ n2_ n3_ n4_ n5_ n6_ n7_
    (try clear hb)
    (try clear hb2)
    (try clear hk)
    (try clear hi)
    refine hK.out _ _ ⟨(blk_cell BK8010.out 0).trans rfl, (blk_cell BK8010.out 1).trans rfl⟩ (fun hHeld => ?_)
    clear hK K
    refine noA (h := ?_)
    refine puA (i := 5) (N := some 68) HT_ (h := ?_)
    refine puA (i := 6) (N := some 69) HT_ (h := ?_)
    refine puU (i := 7) (N := some 70) HT_ (h := ?_)
    refine puU (i := 8) (N := some 71) HT_ (h := ?_)
    refine puU (i := 9) (N := some 72) HT_ (h := ?_)
    refine puA (i := 10) (N := some 73) HT_ (h := ?_)
    refine puA (i := 11) (N := some 74) HT_ (h := ?_)
    refine puU (i := 12) (N := some 75) HT_ (h := ?_)
    refine puU (i := 13) (N := some 76) HT_ (h := ?_)
    refine puU (i := 14) (N := some 77) HT_ (h := ?_)
    refine puU (i := 15) (N := some 78) HT_ (h := ?_)
    refine puA (i := 16) (N := some 79) HT_ (h := ?_)
    refine puA (i := 17) (N := some 80) HT_ (h := ?_)
    refine puU (i := 18) (N := some 81) HT_ (h := ?_)
    refine puU (i := 19) (N := some 82) HT_ (h := ?_)
    refine puU (i := 20) (N := some 83) HT_ (h := ?_)
    refine puA (i := 21) (N := some 84) HT_ (h := ?_)
    refine puA (i := 22) (N := some 85) HT_ (h := ?_)
    refine puU (i := 23) (N := some 86) HT_ (h := ?_)
    refine puU (i := 24) (N := some 87) HT_ (h := ?_)
    refine puU (i := 25) (N := some 88) HT_ (h := ?_)
    refine puA (i := 26) (N := some 89) HT_ (h := ?_)
    refine puA (i := 27) (N := some 90) HT_ (h := ?_)
    refine puU (i := 28) (N := some 91) HT_ (h := ?_)
    refine puU (i := 29) (N := some 92) HT_ (h := ?_)
    refine puU (i := 30) (N := some 93) HT_ (h := ?_)
    refine puU (i := 31) (N := some 94) HT_ (h := ?_)
    refine puU (i := 32) (N := some 95) HT_ (h := ?_)
    refine puU (i := 33) (N := some 96) HT_ (h := ?_)
    refine puU (i := 34) (N := some 97) HT_ (h := ?_)
    refine puA (i := 35) (N := some 98) HT_ (h := ?_)
    refine done_ (done_of HT_.out (by kernel_rfl)) ?_
    try go_wp2
    go_meet
    case rel => exact ⟨_, (true), rs_, H', ⟨by first | omega | exact Nat.le_refl _⟩, ⟨by (with_reducible repeat (first | apply Kd.R_alloc | apply Kd.R_drewN | apply Kd.R_drew)); exact Kd.R_mono HO8005.out (fun _ hk => ⟨hk.1.1.1.2, ⟨hk.1.1.2, hk.1.1.1.1.2⟩⟩)⟩, ⟨by (with_reducible repeat (first | apply Kd.R_alloc | apply Kd.R_drewN | apply Kd.R_drew)); exact Kd.R_mono HO8015.out (fun _ hk => ⟨hk.1.1.1.1.2, ⟨hk.1.1.2, hk.1.1.1.2⟩⟩)⟩, ⟨by (with_reducible repeat (first | apply Kd.R_alloc | apply Kd.R_drewN | apply Kd.R_drew)); exact Kd.R_mono HO8019.out (fun _ hk => ⟨hk.1.1.1.1.2, ⟨hk.1.1.2, hk.1.1.1.2⟩⟩)⟩, ⟨by (with_reducible repeat (first | apply Kd.R_alloc | apply Kd.R_drewN | apply Kd.R_drew)); exact Kd.R_mono HO8009.out (fun _ hk => ⟨hk.1.1.1.1.2, ⟨hk.1.1.1.2, hk.1.1.2⟩⟩)⟩, ⟨pk BK8010.out⟩, ⟨pB1 HB.out GE8010.out⟩⟩
  case rest =>
   clear HC11
   try clear c2
   try clear p2
   try clear c3
   try clear c4
   try clear c24
   try clear c38
   try clear c48
   try clear c49
   obtain ⟨kq, x98_10, rfl, HA, HJ10, HO_4, HO_7, HO_9, HO_8011001, BK8010, HB⟩ := hcut
   cases kq with
   | zero => exact absurd HA.out (by simp [laws_FnTransversals.j0])
   | succ kj10 =>
    have H := HA.out
    clear HA
    simp only [laws_FnTransversals.j0] at H
    by_cases c64 : x98_10 = true
    ·subst c64
     have H1 : (some false) = some true := by rw [if_pos rfl] at H; exact H
     clear H
     have H := H1
     clear H1
     exact absurd (Option.some.inj H) (by decide)
    ·replace c64 := Bool.eq_false_iff.mpr c64
     subst c64
     have H1 : ((spec_AreLists.f kj10 t8002 t8003).bind fun t8036 => (if t8036 = true then ((spec_IsMatroid.f kj10 t8006 t8007).bind fun t8037 => (laws_FnTransversals.j1 kj10 t8011 t8012 t8013 t8016 t8017 t8025 (!t8037))) else (laws_FnTransversals.j1 kj10 t8011 t8012 t8013 t8016 t8017 t8025 false))) = some true := by rw [if_neg (show ¬ (false = true) by decide)] at H; exact H
     clear H
     have H := H1
     clear H1
     have HC65 := aQ H
     clear H
     go_upto_region 12 with (fail)
     go_cut [106] (fun v106 wc => ∃ (kq : Nat) (x106_64 : Bool), v106 = .bool x106_64 ∧ Aside0 (laws_FnTransversals.j1 kq t8011 t8012 t8013 t8016 t8017 t8025 x106_64 = some true) ∧ Aside0 (kq ≤ kj10) ∧ Aside0 (Kd.R (Kd.int .i64) 3 wc w.heap.size (fun k_ => some k_ ≠ (v8018 : Value).ownBlock ∧ some k_ ≠ ((.slice Ao17 t8007.length co17) : Value).ownBlock) (.slice Ao19 t8012.length co19) t8012) ∧ Aside0 (Kd.R (Kd.int .i64) 3 wc w.heap.size (fun k_ => some k_ ≠ ((.slice Ao19 t8012.length co19) : Value).ownBlock ∧ some k_ ≠ ((.slice Ao17 t8007.length co17) : Value).ownBlock) v8018 t8016) ∧ Aside0 (Kd.R (Kd.int .i64) 3 wc w.heap.size (fun k_ => some k_ ≠ ((.slice Ao19 t8012.length co19) : Value).ownBlock ∧ some k_ ≠ (v8018 : Value).ownBlock) (.slice Ao17 t8007.length co17) t8007) ∧ Aside0 (wc.heap[gb8010]? = some (.cells #[.int .i64 t8006, (.slice Ao17 t8007.length co17)] 28 (0, 0))) ∧ Aside0 (Below w.heap.size w wc))
     case first =>
      have H := HC65.out
      clear HC65
      replace H := Option.bind_eq_some_iff.mp H
      obtain ⟨t8036, A660, H⟩ := H
      replace H : (if t8036 = true then ((spec_IsMatroid.f kj10 t8006 t8007).bind fun t8037 => (laws_FnTransversals.j1 kj10 t8011 t8012 t8013 t8016 t8017 t8025 (!t8037))) else (laws_FnTransversals.j1 kj10 t8011 t8012 t8013 t8016 t8017 t8025 false)) = some true := H
      have A66 := aQ A660
      clear A660
      by_cases c67 : t8036 = true
      ·subst c67
       have H1 : ((spec_IsMatroid.f kj10 t8006 t8007).bind fun t8037 => (laws_FnTransversals.j1 kj10 t8011 t8012 t8013 t8016 t8017 t8025 (!t8037))) = some true := by rw [if_pos rfl] at H; exact H
       clear H
       have H := H1
       clear H1
       replace H := Option.bind_eq_some_iff.mp H
       obtain ⟨t8037, A680, H⟩ := H
       replace H : (laws_FnTransversals.j1 kj10 t8011 t8012 t8013 t8016 t8017 t8025 (!t8037)) = some true := H
       have A68 := aQ A680
       clear A680
       have H' := aQ H
       clear H
       go_wp2_with (first | ((with_reducible refine gate_callee (f := 51) rfl ?_); refine goesL_ (some 101) rfl rfl Try.func51 (by kernel_rfl) rfl #[.int .i64 t8002, .slice Ao13 t8003.length co13] rfl lm ?_; (with_reducible refine (spec_AreLists.calls kj10 t8002 _ _ t8003 true _ ?side1 ?side2 A66.out).mono ?_); (case side1 => repeat (first | exact (Kd.R_reads' HO_4.out).2.2 | (with_reducible refine Kd.C_alloc ?_ _) | (with_reducible refine Kd.C_drewN ?_ _) | (with_reducible refine Kd.C_drew ?_))); (case side2 => exact (Kd.R_reads' HO_4.out).2.1); rintro e w' ⟨rfl, ⟨nd, rfl⟩⟩; refine ⟨_, rfl, ?_⟩; have hcz69_0 := bc (v := (.int .i64 t8006)) BK8010.out 0; have hcz69_1 := bc (v := (.slice Ao17 t8007.length co17)) BK8010.out 1; have hfz69_0 := blk_frozen BK8010.out 0; have hfz69_1 := blk_frozen BK8010.out 1) | (go_at_call 52; (with_reducible refine (spec_IsMatroid.calls kj10 t8006 _ _ t8007 t8037 _ ?side1 ?side2 A68.out).mono ?_); (case side1 => repeat (first | exact (Kd.R_reads' HO_8011001.out).2.2 | (with_reducible refine Kd.C_alloc ?_ _) | (with_reducible refine Kd.C_drewN ?_ _) | (with_reducible refine Kd.C_drew ?_))); (case side2 => exact (Kd.R_reads' HO_8011001.out).2.1); rintro e w70 ⟨rfl, hb⟩; replace HO_4 := aQ (Kd.R_below (pR HO_4.out) hb); replace HO_7 := aQ (Kd.R_below (pR HO_7.out) hb); replace HO_9 := aQ (Kd.R_below (pR HO_9.out) hb); replace HO_8011001 := aQ (Kd.R_below (pR HO_8011001.out) hb); replace BK8010 := aQ (blk_below (g := gb8010) (o := .cells #[.int .i64 t8006, .slice Ao17 t8007.length co17] 28 (0, 0)) (pk BK8010.out) hb); replace HB := aQ (below_step (pB1 HB.out GE8010.out) hb); (try clear hb)))
       go_meet
       case rel => exact ⟨_, (!t8037), rs_, H', ⟨by have := HJ10.out; first | omega | exact Nat.le_refl _⟩, ⟨by (with_reducible repeat (first | apply Kd.R_alloc | apply Kd.R_drewN | apply Kd.R_drew)); exact Kd.R_mono HO_7.out (fun _ hk => ⟨hk.2.1, hk.2.2⟩)⟩, ⟨by (with_reducible repeat (first | apply Kd.R_alloc | apply Kd.R_drewN | apply Kd.R_drew)); exact Kd.R_mono HO_9.out (fun _ hk => ⟨hk.2.1, hk.2.2⟩)⟩, ⟨by (with_reducible repeat (first | apply Kd.R_alloc | apply Kd.R_drewN | apply Kd.R_drew)); exact Kd.R_mono HO_8011001.out (fun _ hk => ⟨hk.2.1, hk.2.2⟩)⟩, ⟨pk BK8010.out⟩, ⟨pB1 HB.out GE8010.out⟩⟩
      ·replace c67 := Bool.eq_false_iff.mpr c67
       subst c67
       have H1 : (laws_FnTransversals.j1 kj10 t8011 t8012 t8013 t8016 t8017 t8025 false) = some true := by rw [if_neg (show ¬ (false = true) by decide)] at H; exact H
       clear H
       have H := H1
       clear H1
       have H' := aQ H
       clear H
       go_wp2_with (first | ((with_reducible refine gate_callee (f := 51) rfl ?_); refine goesL_ (some 101) rfl rfl Try.func51 (by kernel_rfl) rfl #[.int .i64 t8002, .slice Ao13 t8003.length co13] rfl lm ?_; (with_reducible refine (spec_AreLists.calls kj10 t8002 _ _ t8003 false _ ?side1 ?side2 A66.out).mono ?_); (case side1 => repeat (first | exact (Kd.R_reads' HO_4.out).2.2 | (with_reducible refine Kd.C_alloc ?_ _) | (with_reducible refine Kd.C_drewN ?_ _) | (with_reducible refine Kd.C_drew ?_))); (case side2 => exact (Kd.R_reads' HO_4.out).2.1); rintro e w' ⟨rfl, ⟨nd, rfl⟩⟩; refine ⟨_, rfl, ?_⟩))
       go_meet
       case rel => exact ⟨_, (false), rs_, H', ⟨by have := HJ10.out; first | omega | exact Nat.le_refl _⟩, ⟨by (with_reducible repeat (first | apply Kd.R_alloc | apply Kd.R_drewN | apply Kd.R_drew)); exact Kd.R_mono HO_7.out (fun _ hk => ⟨hk.2.1, hk.2.2⟩)⟩, ⟨by (with_reducible repeat (first | apply Kd.R_alloc | apply Kd.R_drewN | apply Kd.R_drew)); exact Kd.R_mono HO_9.out (fun _ hk => ⟨hk.2.1, hk.2.2⟩)⟩, ⟨by (with_reducible repeat (first | apply Kd.R_alloc | apply Kd.R_drewN | apply Kd.R_drew)); exact Kd.R_mono HO_8011001.out (fun _ hk => ⟨hk.2.1, hk.2.2⟩)⟩, ⟨pk BK8010.out⟩, ⟨pB1 HB.out GE8010.out⟩⟩
     case rest =>
      clear HC65
      try clear c2
      try clear p2
      try clear c3
      try clear c4
      try clear c5
      try clear c6
      try clear c24
      try clear c38
      try clear c48
      try clear c49
      try clear c51
      try clear c64
      try clear c67
      try clear hcz69_0
      try clear hcz69_1
      try clear hfz69_0
      try clear hfz69_1
      try clear p2
      obtain ⟨kq, x106_64, rfl, HA, HJ64, HO_7, HO_9, HO_8011001, BK8010, HB⟩ := hcut
      cases kq with
      | zero => exact absurd HA.out (by simp [laws_FnTransversals.j1])
      | succ kj64 =>
       have H := HA.out
       clear HA
       simp only [laws_FnTransversals.j1] at H
       by_cases c71 : x106_64 = true
       ·subst c71
        have H1 : (some false) = some true := by rw [if_pos rfl] at H; exact H
        clear H
        have H := H1
        clear H1
        exact absurd (Option.some.inj H) (by decide)
       ·replace c71 := Bool.eq_false_iff.mpr c71
        subst c71
        have H1 : ((spec_ElementsOf.f kj64 t8013).bind fun t8038 => (laws_FnTransversals.l0 kj64 t8011 t8012 t8013 t8016 t8017 t8025 t8038 0)) = some true := by rw [if_neg (show ¬ (false = true) by decide)] at H; exact H
        clear H
        have H := H1
        clear H1
        replace H := Option.bind_eq_some_iff.mp H
        obtain ⟨t8038, A720, H⟩ := H
        replace H : (laws_FnTransversals.l0 kj64 t8011 t8012 t8013 t8016 t8017 t8025 t8038 0) = some true := H
        have A72 := aQ A720
        clear A720
        have H' := aQ H
        clear H
        go_wp2_with (first | ((with_reducible refine gate_callee (f := 53) rfl ?_); refine goesL_ (some 108) rfl rfl Try.func53 (by kernel_rfl) rfl #[.int .i64 t8013] rfl lm ?_; (with_reducible refine (spec_ElementsOf.calls kj64 t8013 t8038 _ A72.out).mono ?_); rintro e w73 ⟨v8039, rfl, ho0, hb⟩; refine ⟨_, rfl, ?_⟩; have HO8040 := aQ (Kd.R_lower (Kd.R_new' (Kd.R_new' (Kd.R_new' ho0 (Kd.R_lt (pR HO_7.out))) (Kd.R_lt (pR HO_9.out))) (Kd.R_lt (pR HO_8011001.out))) (below_size (pB1 HB.out GE8010.out))); replace HO_7 := aQ (Kd.R_elder' (pR HO_7.out) (Kd.R_base ho0) hb); replace HO_9 := aQ (Kd.R_elder' (pR HO_9.out) (Kd.R_base ho0) hb); replace HO_8011001 := aQ (Kd.R_elder' (pR HO_8011001.out) (Kd.R_base ho0) hb); replace BK8010 := aQ (blk_below (g := gb8010) (o := .cells #[.int .i64 t8006, .slice Ao17 t8007.length co17] 28 (0, 0)) (pk BK8010.out) hb); replace HB := aQ (below_step (pB1 HB.out GE8010.out) hb); (try clear hb); (try clear ho0)))
        go_loopg [18] kj64 (fun kq v18 w' => ∃ (x18_3 : Int), v18 = .int .i64 x18_3 ∧ Aside0 (laws_FnTransversals.l0 kq t8011 t8012 t8013 t8016 t8017 t8025 t8038 x18_3 = some true) ∧ Aside0 (kq ≤ kj64) ∧ Aside0 (Kd.R (Kd.int .i64) 3 w' w.heap.size (fun k_ => some k_ ≠ (v8018 : Value).ownBlock ∧ some k_ ≠ (v8039 : Value).ownBlock ∧ some k_ ≠ ((.slice Ao17 t8007.length co17) : Value).ownBlock) (.slice Ao19 t8012.length co19) t8012) ∧ Aside0 (Kd.R (Kd.int .i64) 3 w' w.heap.size (fun k_ => some k_ ≠ ((.slice Ao19 t8012.length co19) : Value).ownBlock ∧ some k_ ≠ (v8039 : Value).ownBlock ∧ some k_ ≠ ((.slice Ao17 t8007.length co17) : Value).ownBlock) v8018 t8016) ∧ Aside0 (Kd.R (Kd.int .i64) 3 w' w.heap.size (fun k_ => some k_ ≠ ((.slice Ao19 t8012.length co19) : Value).ownBlock ∧ some k_ ≠ (v8018 : Value).ownBlock ∧ some k_ ≠ ((.slice Ao17 t8007.length co17) : Value).ownBlock) v8039 t8038) ∧ Aside0 (Kd.R (Kd.int .i64) 3 w' w.heap.size (fun k_ => some k_ ≠ ((.slice Ao19 t8012.length co19) : Value).ownBlock ∧ some k_ ≠ (v8018 : Value).ownBlock ∧ some k_ ≠ (v8039 : Value).ownBlock) (.slice Ao17 t8007.length co17) t8007) ∧ Aside0 (w'.heap[gb8010]? = some (.cells #[.int .i64 t8006, (.slice Ao17 t8007.length co17)] 28 (0, 0))) ∧ Aside0 (Below w.heap.size w w'))
        case atStart => exact ⟨(0), rs_, H', ⟨Nat.le_refl _⟩, ⟨by (with_reducible repeat (first | apply Kd.R_alloc | apply Kd.R_drewN | apply Kd.R_drew)); exact Kd.R_mono HO_7.out (fun _ hk => ⟨hk.1.1, ⟨hk.2, hk.1.2⟩⟩)⟩, ⟨by (with_reducible repeat (first | apply Kd.R_alloc | apply Kd.R_drewN | apply Kd.R_drew)); exact Kd.R_mono HO_9.out (fun _ hk => ⟨hk.1.1, ⟨hk.2, hk.1.2⟩⟩)⟩, ⟨by (with_reducible repeat (first | apply Kd.R_alloc | apply Kd.R_drewN | apply Kd.R_drew)); exact Kd.R_mono HO8040.out (fun _ hk => ⟨hk.1.1.2, ⟨hk.1.2, hk.2⟩⟩)⟩, ⟨by (with_reducible repeat (first | apply Kd.R_alloc | apply Kd.R_drewN | apply Kd.R_drew)); exact Kd.R_mono HO_8011001.out (fun _ hk => ⟨hk.1.1, ⟨hk.1.2, hk.2⟩⟩)⟩, ⟨pk BK8010.out⟩, ⟨pB1 HB.out GE8010.out⟩⟩
        case round =>
         clear H'
         try clear c2
         try clear p2
         try clear c3
         try clear c4
         try clear c5
         try clear c6
         try clear c7
         try clear c24
         try clear c38
         try clear c48
         try clear c49
         try clear c51
         try clear c53
         try clear c64
         try clear c67
         try clear c71
         try clear hcz69_0
         try clear hcz69_1
         try clear hfz69_0
         try clear hfz69_1
         try clear p2
         obtain ⟨x18_3, rfl, HA, HK3, HO_7, HO_9, HO_17, HO_8011001, BK8010, HB⟩ := hrel
         cases gk with
         | zero => exact absurd HA.out (by simp [laws_FnTransversals.l0])
         | succ k3 =>
          have H := HA.out
          clear HA
          simp only [laws_FnTransversals.l0] at H
          by_cases c74 : x18_3 < (t8016.length : Int)
          ·rw [if_pos c74] at H
           have c74b0 : decide (x18_3 < (t8016.length : Int)) = true := decide_eq_true c74
           clear c74
           by_cases c75 : 0 ≤ x18_3
           ·rw [if_pos c75] at H
            have c75b0 : decide (0 ≤ x18_3) = true := decide_eq_true c75
            clear c75
            by_cases c76 : 0 ≤ (rd t8016 x18_3)
            ·rw [if_pos c76] at H
             have c76b0 : decide (0 ≤ (rd t8016 x18_3)) = true := decide_eq_true c76
             clear c76
             by_cases c77 : (rd t8016 x18_3) < (t8012.length : Int)
             ·rw [if_pos c77] at H
              have c77b0 : decide ((rd t8016 x18_3) < (t8012.length : Int)) = true := decide_eq_true c77
              clear c77
              by_cases c78 : x18_3 < (t8038.length : Int)
              ·rw [if_pos c78] at H
               have c78b0 : decide (x18_3 < (t8038.length : Int)) = true := decide_eq_true c78
               clear c78
               replace H := Option.bind_eq_some_iff.mp H
               obtain ⟨t8044, A790, H⟩ := H
               replace H : (if t8044 = true then (laws_FnTransversals.l0 k3 t8011 t8012 t8013 t8016 t8017 t8025 t8038 (wrap64 (x18_3 + 1))) else (some false)) = some true := H
               have A79 := aQ A790
               clear A790
               by_cases c80 : t8044 = true
               ·subst c80
                have H1 : (laws_FnTransversals.l0 k3 t8011 t8012 t8013 t8016 t8017 t8025 t8038 (wrap64 (x18_3 + 1))) = some true := by rw [if_pos rfl] at H; exact H
                clear H
                have H := H1
                clear H1
                have H' := aQ H
                clear H
                obtain ⟨Ao81, co81, eo81⟩ := Kd.R_slice HO_9.out
                subst eo81
                try go_wp2
                have n0_ := aQ (Kd.R_drew HO_7.out)
                have n1_ := aQ (Kd.R_drew HO_9.out)
                have n2_ := aQ (Kd.R_drew HO_17.out)
                have n3_ := aQ (Kd.R_drew HO_8011001.out)
                have n4_ := aQ (blk_drew BK8010.out)
                have n5_ := aQ (below_drew1 HB.out)
                clear HO_7
                clear HO_9
                clear HO_17
                clear HO_8011001
                clear BK8010
                clear HB
                have HO_7 := n0_
                have HO_9 := n1_
                have HO_17 := n2_
                have HO_8011001 := n3_
                have BK8010 := n4_
                have HB := n5_
                clear n0_ n1_ n2_ n3_ n4_ n5_
                have p8041 : 0 ≤ (x18_3 : Int) := of_decide_eq_true as_
                have q8041 : x18_3 < (t8016.length : Int) := of_decide_eq_true as_
                obtain ⟨ad8041, e8041, hx8041_0⟩ := Kd.at_int (Kd.R_reads' HO_9.out).2.2 x18_3 p8041 q8041
                cases e8041
                replace p8041 := eq_true p8041
                replace q8041 := eq_true q8041
                have p8042 : 0 ≤ ((rd t8016 x18_3) : Int) := of_decide_eq_true as_
                have q8042 : (rd t8016 x18_3) < (t8012.length : Int) := of_decide_eq_true as_
                obtain ⟨ad8042, e8042, hx8042_0⟩ := Kd.at_int (Kd.R_reads' HO_7.out).2.2 (rd t8016 x18_3) p8042 q8042
                cases e8042
                replace p8042 := eq_true p8042
                replace q8042 := eq_true q8042
                obtain ⟨Ao83, co83, eo83⟩ := Kd.R_slice HO_17.out
                (first | subst eo83 | (injection eo83 with f1_ f2_ f3_; have f4_ := f1_.symm; have f5_ := f3_.symm; clear f1_ f2_ f3_; subst f4_; subst f5_))
                have p8043 : 0 ≤ (x18_3 : Int) := of_decide_eq_true as_
                have q8043 : x18_3 < (t8038.length : Int) := of_decide_eq_true as_
                obtain ⟨ad8043, e8043, hx8043_0⟩ := Kd.at_int (Kd.R_reads' HO_17.out).2.2 x18_3 p8043 q8043
                cases e8043
                replace p8043 := eq_true p8043
                replace q8043 := eq_true q8043
                refine start_ (n := 13) (S := fun w' => w'.cell? (ad8041.add (x18_3).toNat) = some (.int .i64 (rd t8016 x18_3)) ∧ w'.cell? (ad8042.add ((rd t8016 x18_3)).toNat) = some (.int .i64 (rd t8012 (rd t8016 x18_3))) ∧ w'.cell? (ad8043.add (x18_3).toNat) = some (.int .i64 (rd t8038 x18_3))) (ds := []) #[false, false, false, false, false, false, false, false, false, false, false, false, false] (by kernel_rfl) rfl rfl ⟨hx8041_0, hx8042_0, hx8043_0⟩ (fun hHeld => ?_); refine with_tabW laws_FnTransversals.tab18 laws_FnTransversals.bits18 (fun HT_ HW_ => ?_)
                generalize wr.drew = w82 at HO_7 HO_9 HO_17 HO_8011001 BK8010 HB hx8041_0 hx8042_0 hx8043_0 hHeld ⊢
                refine puA (i := 0) (N := some 115) HT_ (h := ?_)
                refine puA (i := 1) (N := some 116) HT_ (h := ?_)
                refine puA (i := 2) (N := some 117) HT_ (h := ?_)
                refine puA (i := 3) (N := some 118) HT_ (h := ?_)
                refine puA (i := 7) (N := some 122) HT_ (h := ?_)
                refine puA (i := 8) (N := some 123) HT_ (h := ?_)
                refine puA (i := 9) (N := some 124) HT_ (h := ?_)
                refine taA3 (i := 4) (N := some 119) HT_ HW_ hHeld (h := ?_)
                refine puA (i := 5) (N := some 120) HT_ (h := ?_)
                refine taA3 (i := 6) (N := some 121) HT_ HW_ hHeld (h := ?_)
                refine taA3 (i := 10) (N := some 125) HT_ HW_ hHeld (h := ?_)
                refine onA (i := 11) (N := some 126) HT_ (h := fun K hK => ?_)
                refine goes_ Try.func54 (by kernel_rfl) rfl #[.int .i64 (rd t8012 (rd t8016 x18_3)), .int .i64 (rd t8038 x18_3)] (by rfl) rfl rfl lm ?_
                with_reducible refine (spec_HasElement.calls (rd t8012 (rd t8016 x18_3)) (rd t8038 x18_3) true _ A79.out).mono ?_
                rintro e w' ⟨rfl, ⟨nd, rfl⟩⟩
                refine ⟨_, rfl, ?_⟩
                refine hK.out _ _ ⟨hHeld.1, hHeld.2.1, hHeld.2.2⟩ (fun hHeld => ?_)
                clear hK K
                refine noA (h := ?_)
                refine puA (i := 12) (N := some 127) HT_ (h := ?_)
                refine done_ (done_of HT_.out (by kernel_rfl)) ?_
                try go_wp2
                go_roundg k3
                case measure => have := HJ10.out; have := HJ64.out; have := HK3.out; omega
                case rel => exact ⟨(wrap64 (x18_3 + 1)), rs_, H', ⟨by have := HJ10.out; have := HJ64.out; have := HK3.out; omega⟩, ⟨pR HO_7.out⟩, ⟨pR HO_9.out⟩, ⟨pR HO_17.out⟩, ⟨pR HO_8011001.out⟩, ⟨pk BK8010.out⟩, ⟨pB1 HB.out GE8010.out⟩⟩
               ·replace c80 := Bool.eq_false_iff.mpr c80
                subst c80
                have H1 : (some false) = some true := by rw [if_neg (show ¬ (false = true) by decide)] at H; exact H
                clear H
                have H := H1
                clear H1
                exact absurd (Option.some.inj H) (by decide)
              ·rw [if_neg c78] at H
               exact absurd H (by simp)
             ·rw [if_neg c77] at H
              exact absurd H (by simp)
            ·rw [if_neg c76] at H
             exact absurd H (by simp)
           ·rw [if_neg c75] at H
            exact absurd H (by simp)
          ·rw [if_neg c74] at H
           have c74b0 : decide (x18_3 < (t8016.length : Int)) = false := decide_eq_false c74
           clear c74
           replace H := Option.bind_eq_some_iff.mp H
           obtain ⟨t8045, A870, H⟩ := H
           replace H : (if t8045 = true then ((spec_IsSet.f t8011 t8013).bind fun t8046 => (if t8046 = true then (some (t8017 != t8025)) else (some true))) else (some true)) = some true := H
           have A87 := aQ A870
           clear A870
           by_cases c88 : t8045 = true
           ·subst c88
            have H1 : ((spec_IsSet.f t8011 t8013).bind fun t8046 => (if t8046 = true then (some (t8017 != t8025)) else (some true))) = some true := by rw [if_pos rfl] at H; exact H
            clear H
            have H := H1
            clear H1
            replace H := Option.bind_eq_some_iff.mp H
            obtain ⟨t8046, A890, H⟩ := H
            replace H : (if t8046 = true then (some (t8017 != t8025)) else (some true)) = some true := H
            have A89 := aQ A890
            clear A890
            by_cases c90 : t8046 = true
            ·subst c90
             have H1 : (some (t8017 != t8025)) = some true := by rw [if_pos rfl] at H; exact H
             clear H
             have H := H1
             clear H1
             have HR_ := Option.some.inj H
             (try (have HS_ := HR_; simp only [bne_iff_ne, ne_eq] at HS_))
             clear H
             obtain ⟨Ao91, co91, eo91⟩ := Kd.R_slice HO_9.out
             subst eo91
             go_wp2_with (first | ((with_reducible refine gate_callee (f := 51) rfl ?_); refine goesL_ (some 130) rfl rfl Try.func51 (by kernel_rfl) rfl #[.int .i64 t8011, .slice Ao19 t8012.length co19] rfl lm ?_; (with_reducible refine (spec_AreLists.calls k3 t8011 _ _ t8012 true _ ?side1 ?side2 A87.out).mono ?_); (case side1 => repeat (first | exact (Kd.R_reads' HO_7.out).2.2 | (with_reducible refine Kd.C_alloc ?_ _) | (with_reducible refine Kd.C_drewN ?_ _) | (with_reducible refine Kd.C_drew ?_))); (case side2 => exact (Kd.R_reads' HO_7.out).2.1); rintro e w' ⟨rfl, ⟨nd, rfl⟩⟩; refine ⟨_, rfl, ?_⟩) | (go_at_call 55; (with_reducible refine (spec_IsSet.calls t8011 t8013 true _ A89.out).mono ?_); rintro e w' ⟨rfl, ⟨nd, rfl⟩⟩))
             go_ret
             exact ⟨re_, pB1 HB.out GE8010.out⟩
            ·replace c90 := Bool.eq_false_iff.mpr c90
             subst c90
             have H1 : (some true) = some true := rfl
             clear H
             have H := H1
             clear H1
             have HR_ := Option.some.inj H
             (try (have HS_ := HR_; simp only [bne_iff_ne, ne_eq] at HS_))
             clear H
             obtain ⟨Ao92, co92, eo92⟩ := Kd.R_slice HO_9.out
             subst eo92
             go_wp2_with (first | ((with_reducible refine gate_callee (f := 51) rfl ?_); refine goesL_ (some 130) rfl rfl Try.func51 (by kernel_rfl) rfl #[.int .i64 t8011, .slice Ao19 t8012.length co19] rfl lm ?_; (with_reducible refine (spec_AreLists.calls k3 t8011 _ _ t8012 true _ ?side1 ?side2 A87.out).mono ?_); (case side1 => repeat (first | exact (Kd.R_reads' HO_7.out).2.2 | (with_reducible refine Kd.C_alloc ?_ _) | (with_reducible refine Kd.C_drewN ?_ _) | (with_reducible refine Kd.C_drew ?_))); (case side2 => exact (Kd.R_reads' HO_7.out).2.1); rintro e w' ⟨rfl, ⟨nd, rfl⟩⟩; refine ⟨_, rfl, ?_⟩) | (go_at_call 55; (with_reducible refine (spec_IsSet.calls t8011 t8013 false _ A89.out).mono ?_); rintro e w' ⟨rfl, ⟨nd, rfl⟩⟩))
             go_ret
             exact ⟨re_, pB1 HB.out GE8010.out⟩
           ·replace c88 := Bool.eq_false_iff.mpr c88
            subst c88
            have H1 : (some true) = some true := rfl
            clear H
            have H := H1
            clear H1
            have HR_ := Option.some.inj H
            (try (have HS_ := HR_; simp only [bne_iff_ne, ne_eq] at HS_))
            clear H
            obtain ⟨Ao93, co93, eo93⟩ := Kd.R_slice HO_9.out
            subst eo93
            go_wp2_with (first | ((with_reducible refine gate_callee (f := 51) rfl ?_); refine goesL_ (some 130) rfl rfl Try.func51 (by kernel_rfl) rfl #[.int .i64 t8011, .slice Ao19 t8012.length co19] rfl lm ?_; (with_reducible refine (spec_AreLists.calls k3 t8011 _ _ t8012 false _ ?side1 ?side2 A87.out).mono ?_); (case side1 => repeat (first | exact (Kd.R_reads' HO_7.out).2.2 | (with_reducible refine Kd.C_alloc ?_ _) | (with_reducible refine Kd.C_drewN ?_ _) | (with_reducible refine Kd.C_drew ?_))); (case side2 => exact (Kd.R_reads' HO_7.out).2.1); rintro e w' ⟨rfl, ⟨nd, rfl⟩⟩; refine ⟨_, rfl, ?_⟩))
            go_ret
            exact ⟨re_, pB1 HB.out GE8010.out⟩
/-- THE ONE PURE STATEMENT of laws_FnTransversals: yours. -/
def laws_FnTransversals.Pure : Prop := ∀ (l0 : List Int), l0.length ≤ maxLen → l0.length * 1 ≤ 140737488351232 → (∀ x ∈ l0, (Lit.int .u8 x).wf = true) → ∃ k, laws_FnTransversals.f k l0 = some true
theorem laws_FnTransversals.walk (P : laws_FnTransversals.Pure) (a0 : Option Addr) (len0 cap0 : Nat) (z0 : List Int) (w : World) (w0 : (a0 = none ∧ len0 = 0 ∧ cap0 = 0 ∧ z0 = []) ∨ ∃ x, a0 = some x ∧ len0 ≤ cap0 ∧ cap0 ≤ maxLen ∧ z0.length = cap0 ∧ (∀ i, i < z0.length → w.cell? (x.add i) = some (.int .u8 (z0.getD i 0))) ∧ ∀ n ∈ z0, (Lit.int .u8 n).wf = true) (y0 : len0 * 1 ≤ 140737488351232) :
  Calls Try.prog 7 #[.slice a0 len0 cap0] w fun e w' => e = .returned (.bool true) ∧ Below w.heap.size w w' := by
 obtain ⟨l0, rfl, hr0, hm0, hw0, hc0⟩ := ReadsInt.ofRowC w0
 obtain ⟨k, h⟩ := P l0 hm0 y0 hw0
 refine (laws_FnTransversals.calls k _ _ l0 w (Kd.C_of_reads (d := (0 : Int)) (h1 := fun _ => rfl) hr0) hc0 h).mono ?_
 rintro e w' ⟨rfl, hd⟩
 exact ⟨rfl, hd⟩
end Go.Proofs.Ytimkekeaeojpkaa.A
