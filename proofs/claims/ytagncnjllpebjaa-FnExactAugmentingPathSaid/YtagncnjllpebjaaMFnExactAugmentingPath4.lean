/- Machine side of the law FnExactAugmentingPath: Go functions as Lean functions, and proofs that calls come to what these tell. Conditions: those in each theorem. -/
import Derived.Test.YtagncnjllpebjaaMFnExactAugmentingPathwRepsOne
import Derived.Test.YtagncnjllpebjaaMFnExactAugmentingPath0
import Derived.Test.YtagncnjllpebjaaMFnExactAugmentingPath1
import Derived.Test.YtagncnjllpebjaaMFnExactAugmentingPath2
import Derived.Test.YtagncnjllpebjaaMFnExactAugmentingPath3
namespace Go.Proofs.Ytagncnjllpebjaa.A
open Go.RowKit Go.Proofs.YtagncnjllpebjaaW.PrintWords Go.Proofs.YtagncnjllpebjaaW.PrintLast Go.Proofs.YtagncnjllpebjaaW.PrintMore
attribute [local go_sem] max2_int min2_int max_two min_two max_three min_three max_four min_four
set_option linter.unusedVariables false
set_option linter.unusedSimpArgs false
/-! ### spec_AugmentingPath: function 23 -/
mutual
def spec_AugmentingPath.l0 : Nat → Int → List Int → Int → Int → Int → List Int → Int → List Int → Option (List Int × Bool)
 | 0, _, _, _, _, _, _, _, _ => none
 | k + 1, x2, x8, x9, x10, x24002000, x24002001, x24003000, x24003001 => if x10 < x24002000 then ((spec_l2Has.f x2 x10).bind fun t24010 => (if t24010 = true then (spec_AugmentingPath.l0 k x2 x8 x9 (wrap64 (x10 + 1)) x24002000 x24002001 x24003000 x24003001) else (if 0 ≤ (IntKind.u64.wrap (x10)) then ((spec_l20Free.f k x24002000 x24002001 (Go.bits .or .i64 x2 (shl .i64 1 (IntKind.u64.wrap (x10))))).bind fun t24011 => (if t24011 = true then (if 0 ≤ x10 then (if x10 < (x8.length : Int) then (if (rd x8 x10) > 0 then (if x9 < 0 then (spec_AugmentingPath.l0 k x2 x8 x10 (wrap64 (x10 + 1)) x24002000 x24002001 x24003000 x24003001) else (if 0 ≤ x9 then (if x9 < (x8.length : Int) then (if (rd x8 x10) < (rd x8 x9) then (spec_AugmentingPath.l0 k x2 x8 x10 (wrap64 (x10 + 1)) x24002000 x24002001 x24003000 x24003001) else (spec_AugmentingPath.l0 k x2 x8 x9 (wrap64 (x10 + 1)) x24002000 x24002001 x24003000 x24003001)) else (none)) else (none))) else (spec_AugmentingPath.l0 k x2 x8 x9 (wrap64 (x10 + 1)) x24002000 x24002001 x24003000 x24003001)) else (none)) else (none)) else (spec_AugmentingPath.l0 k x2 x8 x9 (wrap64 (x10 + 1)) x24002000 x24002001 x24003000 x24003001))) else (none)))) else (if x9 < 0 then (some ((([] : List Int)), false)) else (spec_AugmentingPath.l1 k x2 x8 x9 (([x9] : List Int)) x24002000 x24002001 x24003000 x24003001))
def spec_AugmentingPath.l1 : Nat → Int → List Int → Int → List Int → Int → List Int → Int → List Int → Option (List Int × Bool)
 | 0, _, _, _, _, _, _, _, _ => none
 | k + 1, x2, x8, x9, x11, x24002000, x24002001, x24003000, x24003001 => if 0 ≤ x9 then (if x9 < (x8.length : Int) then (if (rd x8 x9) > 1 then (spec_AugmentingPath.l2 k x2 x8 x9 x11 0 x24002000 x24002001 x24003000 x24003001) else (some (x11, true))) else (none)) else (none)
def spec_AugmentingPath.l2 : Nat → Int → List Int → Int → List Int → Int → Int → List Int → Int → List Int → Option (List Int × Bool)
 | 0, _, _, _, _, _, _, _, _, _ => none
 | k + 1, x2, x8, x9, x11, x12, x24002000, x24002001, x24003000, x24003001 => if 0 ≤ x12 then (if x12 < (x8.length : Int) then (if 0 ≤ x9 then (if x9 < (x8.length : Int) then (if (rd x8 x12) = (wrap64 ((rd x8 x9) - 1)) then ((spec_l20Step.f k x24002000 x24002001 x24003000 x24003001 x2 x9 x12).bind fun t24024 => (if t24024 = true then (if x11.length < 17592186044416 then (spec_AugmentingPath.l1 k x2 x8 x12 (x11 ++ [x12]) x24002000 x24002001 x24003000 x24003001) else (none)) else (spec_AugmentingPath.l2 k x2 x8 x9 x11 (wrap64 (x12 + 1)) x24002000 x24002001 x24003000 x24003001))) else (spec_AugmentingPath.l2 k x2 x8 x9 x11 (wrap64 (x12 + 1)) x24002000 x24002001 x24003000 x24003001)) else (none)) else (none)) else (none)) else (none)
end
def spec_AugmentingPath.f (k : Nat) (a0_0 : Int) (l0_1 : List Int) (a1_0 : Int) (l1_1 : List Int) (a2 : Int) : Option (List Int × Bool) := (spec_IsCommon.f k a0_0 l0_1 a1_0 l1_1 a2).bind fun t24003 => (if t24003 = true then ((spec_l20Far.f k a0_0 l0_1 a1_0 l1_1 a2).bind fun t24007 => (spec_AugmentingPath.l0 k a2 t24007 (-1) 0 a0_0 l0_1 a1_0 l1_1)) else (some ((([] : List Int)), false)))
theorem spec_AugmentingPath.mono_l : ∀ k, (∀ y0 y1 y2 y3 y4 y5 y6 y7, LeO (spec_AugmentingPath.l0 k y0 y1 y2 y3 y4 y5 y6 y7) (spec_AugmentingPath.l0 (k + 1) y0 y1 y2 y3 y4 y5 y6 y7)) ∧ (∀ y0 y1 y2 y3 y4 y5 y6 y7, LeO (spec_AugmentingPath.l1 k y0 y1 y2 y3 y4 y5 y6 y7) (spec_AugmentingPath.l1 (k + 1) y0 y1 y2 y3 y4 y5 y6 y7)) ∧ (∀ y0 y1 y2 y3 y4 y5 y6 y7 y8, LeO (spec_AugmentingPath.l2 k y0 y1 y2 y3 y4 y5 y6 y7 y8) (spec_AugmentingPath.l2 (k + 1) y0 y1 y2 y3 y4 y5 y6 y7 y8))
 | 0 => ⟨fun _ _ _ _ _ _ _ _ r h => by simp [spec_AugmentingPath.l0] at h, fun _ _ _ _ _ _ _ _ r h => by simp [spec_AugmentingPath.l1] at h, fun _ _ _ _ _ _ _ _ _ r h => by simp [spec_AugmentingPath.l2] at h⟩
 | k + 1 => by
  obtain ⟨ih0, ih1, ih2⟩ := spec_AugmentingPath.mono_l k
  refine ⟨?_, ?_, ?_⟩
  ·intro y0 y1 y2 y3 y4 y5 y6 y7
   unfold spec_AugmentingPath.l0
   repeat' first
   | (with_reducible exact ih0 _ _ _ _ _ _ _ _)
   | (with_reducible exact ih1 _ _ _ _ _ _ _ _)
   | (with_reducible exact ih2 _ _ _ _ _ _ _ _ _)
   | (with_reducible exact spec_IsCommon.mono _ _ _ _ _ _)
   | (with_reducible exact spec_l20Far.mono _ _ _ _ _ _)
   | (with_reducible exact spec_l20Free.mono _ _ _ _)
   | (with_reducible exact spec_l20Step.mono _ _ _ _ _ _ _ _)
   | (with_reducible exact LeO.refl _)
   | (with_reducible exact LeO.none _)
   | (with_reducible refine LeO.ite ?_ ?_)
   | (with_reducible refine LeO.bind ?_ (fun _ => ?_))
   | exact ih0 _ _ _ _ _ _ _ _
   | exact ih1 _ _ _ _ _ _ _ _
   | exact ih2 _ _ _ _ _ _ _ _ _
   | exact spec_IsCommon.mono _ _ _ _ _ _
   | exact spec_l20Far.mono _ _ _ _ _ _
   | exact spec_l20Free.mono _ _ _ _
   | exact spec_l20Step.mono _ _ _ _ _ _ _ _
   | exact LeO.none _
   | refine LeO.ite ?_ ?_
   | refine LeO.bind ?_ (fun _ => ?_)
  ·intro y0 y1 y2 y3 y4 y5 y6 y7
   unfold spec_AugmentingPath.l1
   repeat' first
   | (with_reducible exact ih0 _ _ _ _ _ _ _ _)
   | (with_reducible exact ih1 _ _ _ _ _ _ _ _)
   | (with_reducible exact ih2 _ _ _ _ _ _ _ _ _)
   | (with_reducible exact spec_IsCommon.mono _ _ _ _ _ _)
   | (with_reducible exact spec_l20Far.mono _ _ _ _ _ _)
   | (with_reducible exact spec_l20Free.mono _ _ _ _)
   | (with_reducible exact spec_l20Step.mono _ _ _ _ _ _ _ _)
   | (with_reducible exact LeO.refl _)
   | (with_reducible exact LeO.none _)
   | (with_reducible refine LeO.ite ?_ ?_)
   | (with_reducible refine LeO.bind ?_ (fun _ => ?_))
   | exact ih0 _ _ _ _ _ _ _ _
   | exact ih1 _ _ _ _ _ _ _ _
   | exact ih2 _ _ _ _ _ _ _ _ _
   | exact spec_IsCommon.mono _ _ _ _ _ _
   | exact spec_l20Far.mono _ _ _ _ _ _
   | exact spec_l20Free.mono _ _ _ _
   | exact spec_l20Step.mono _ _ _ _ _ _ _ _
   | exact LeO.none _
   | refine LeO.ite ?_ ?_
   | refine LeO.bind ?_ (fun _ => ?_)
  ·intro y0 y1 y2 y3 y4 y5 y6 y7 y8
   unfold spec_AugmentingPath.l2
   repeat' first
   | (with_reducible exact ih0 _ _ _ _ _ _ _ _)
   | (with_reducible exact ih1 _ _ _ _ _ _ _ _)
   | (with_reducible exact ih2 _ _ _ _ _ _ _ _ _)
   | (with_reducible exact spec_IsCommon.mono _ _ _ _ _ _)
   | (with_reducible exact spec_l20Far.mono _ _ _ _ _ _)
   | (with_reducible exact spec_l20Free.mono _ _ _ _)
   | (with_reducible exact spec_l20Step.mono _ _ _ _ _ _ _ _)
   | (with_reducible exact LeO.refl _)
   | (with_reducible exact LeO.none _)
   | (with_reducible refine LeO.ite ?_ ?_)
   | (with_reducible refine LeO.bind ?_ (fun _ => ?_))
   | exact ih0 _ _ _ _ _ _ _ _
   | exact ih1 _ _ _ _ _ _ _ _
   | exact ih2 _ _ _ _ _ _ _ _ _
   | exact spec_IsCommon.mono _ _ _ _ _ _
   | exact spec_l20Far.mono _ _ _ _ _ _
   | exact spec_l20Free.mono _ _ _ _
   | exact spec_l20Step.mono _ _ _ _ _ _ _ _
   | exact LeO.none _
   | refine LeO.ite ?_ ?_
   | refine LeO.bind ?_ (fun _ => ?_)
theorem spec_AugmentingPath.mono : ∀ a0 a1 a2 a3 a4 k, LeO (spec_AugmentingPath.f k a0 a1 a2 a3 a4) (spec_AugmentingPath.f (k + 1) a0 a1 a2 a3 a4) := by
 intro a0 a1 a2 a3 a4 k
 obtain ⟨ih0, ih1, ih2⟩ := spec_AugmentingPath.mono_l k
 unfold spec_AugmentingPath.f
 repeat' first
   | (with_reducible exact ih0 _ _ _ _ _ _ _ _)
   | (with_reducible exact ih1 _ _ _ _ _ _ _ _)
   | (with_reducible exact ih2 _ _ _ _ _ _ _ _ _)
   | (with_reducible exact spec_IsCommon.mono _ _ _ _ _ _)
   | (with_reducible exact spec_l20Far.mono _ _ _ _ _ _)
   | (with_reducible exact spec_l20Free.mono _ _ _ _)
   | (with_reducible exact spec_l20Step.mono _ _ _ _ _ _ _ _)
   | (with_reducible exact LeO.refl _)
   | (with_reducible exact LeO.none _)
   | (with_reducible refine LeO.ite ?_ ?_)
   | (with_reducible refine LeO.bind ?_ (fun _ => ?_))
   | exact ih0 _ _ _ _ _ _ _ _
   | exact ih1 _ _ _ _ _ _ _ _
   | exact ih2 _ _ _ _ _ _ _ _ _
   | exact spec_IsCommon.mono _ _ _ _ _ _
   | exact spec_l20Far.mono _ _ _ _ _ _
   | exact spec_l20Free.mono _ _ _ _
   | exact spec_l20Step.mono _ _ _ _ _ _ _ _
   | exact LeO.none _
   | refine LeO.ite ?_ ?_
   | refine LeO.bind ?_ (fun _ => ?_)
def spec_AugmentingPath.T8 : Bool × List (List Nat × List Nat) := (true, [([], []), ([], []), ([0, 1], [0, 1]), ([2], [2]), ([3, 2], [3]), ([4], [4]), ([4], [4]), ([4], [4]), ([7, 4], [4, 7]), ([8, 4], [4, 8]), ([6, 9, 4], [4, 6, 9]), ([5, 10, 4, 4], [4, 5, 10]), ([4, 11], [4, 11]), ([12, 11], [12]), ([13], [13]), ([13], [13]), ([14, 15, 13], [13, 14, 15]), ([16, 13], [13, 16]), ([17, 13], [13, 17]), ([13, 18], [13, 18]), ([19, 13], [19]), ([20], [20]), ([21, 20], [20, 21]), ([22, 20, 20], [20, 22]), ([23], [23]), ([23], [23]), ([24, 25, 23], [23, 24, 25]), ([26, 23], [23, 26]), ([23], [23]), ([23], [23]), ([28, 29, 23], [23, 28, 29]), ([30, 23], [23, 30]), ([27, 31, 23], [23, 27, 31]), ([23, 32, 20], [20, 23, 32]), ([20, 33], [20, 33])])
def spec_AugmentingPath.B8 : List Nat := [0, 0, 3, 7, 15, 31, 31, 31, 159, 415, 991, 2047, 4095, 8191, 16383, 16383, 65535, 131071, 262143, 524287, 1048575, 2097151, 4194303, 8388607, 16777215, 16777215, 67108863, 134217727, 16777215, 16777215, 822083583, 1895825407, 4294967295, 8589934591, 17179869183]
theorem spec_AugmentingPath.tab8 : rtab .any (opsOf Try.f23 8) = spec_AugmentingPath.T8 := by kernel_rfl
theorem spec_AugmentingPath.bits8 : waitsOk spec_AugmentingPath.T8.2 spec_AugmentingPath.B8 = true := by kernel_rfl
def spec_AugmentingPath.T15 : Bool × List (List Nat × List Nat) := (true, [([], []), ([], []), ([0, 1], [0, 1]), ([2], [2]), ([], []), ([], []), ([4, 5], [4, 5]), ([6], [6]), ([7], [7]), ([3, 8], [3, 8]), ([9], [9]), ([10], [10]), ([10], [10]), ([10], [10]), ([10], [10]), ([10], [10]), ([11, 12, 13, 14, 15, 10, 10], [10, 11, 12, 13, 14, 15]), ([16, 10], [10, 16]), ([10, 17], [10, 17])])
def spec_AugmentingPath.B15 : List Nat := [0, 0, 3, 7, 0, 0, 48, 112, 240, 511, 1023, 2047, 2047, 2047, 2047, 2047, 65535, 131071, 262143]
theorem spec_AugmentingPath.tab15 : rtab .any (opsOf Try.f23 15) = spec_AugmentingPath.T15 := by kernel_rfl
theorem spec_AugmentingPath.bits15 : waitsOk spec_AugmentingPath.T15.2 spec_AugmentingPath.B15 = true := by kernel_rfl
set_option maxHeartbeats 8000000 in
set_option maxRecDepth 100000 in
theorem spec_AugmentingPath.calls (k : Nat) (a0_0 : Int) (A0_1 : Option Addr) (c0_1 : Nat) (l0_1 : List Int) (a1_0 : Int) (A1_1 : Option Addr) (c1_1 : Nat) (l1_1 : List Int) (a2 : Int) (r1 : List Int) (r2 : Bool) (w : World) (hr0_1 : Kd.C (Kd.int .i64) w A0_1 l0_1.length l0_1) (hc0_1 : l0_1.length ≤ c0_1) (hr1_1 : Kd.C (Kd.int .i64) w A1_1 l1_1.length l1_1) (hc1_1 : l1_1.length ≤ c1_1) (h : spec_AugmentingPath.f k a0_0 l0_1 a1_0 l1_1 a2 = some (r1, r2)) :
  Calls Try.prog 23 #[.agg #[.int .i64 a0_0, .slice A0_1 l0_1.length c0_1], .agg #[.int .i64 a1_0, .slice A1_1 l1_1.length c1_1], .int .i64 a2] w fun e w' => ∃ v0_ : Value, e = .returned (.tuple #[v0_, .bool r2]) ∧ Kd.R (Kd.int .i64) 3 w' w.heap.size (fun _ => True) v0_ r1 ∧ Below w.heap.size w w' := by
 have hu26 := Try.underlying26
 have HR0_1 := aQ hr0_1
 have HC0_1 := aQ hc0_1
 clear hr0_1 hc0_1
 have HR1_1 := aQ hr1_1
 have HC1_1 := aQ hc1_1
 clear hr1_1 hc1_1
 have HB := aQ (Below.refl w.heap.size w)
 have H : ((spec_IsCommon.f k a0_0 l0_1 a1_0 l1_1 a2).bind fun t24003 => (if t24003 = true then ((spec_l20Far.f k a0_0 l0_1 a1_0 l1_1 a2).bind fun t24007 => (spec_AugmentingPath.l0 k a2 t24007 (-1) 0 a0_0 l0_1 a1_0 l1_1)) else (some ((([] : List Int)), false)))) = some (r1, r2) := h
 clear h
 replace H := Option.bind_eq_some_iff.mp H
 obtain ⟨t24003, A40, H⟩ := H
 replace H : (if t24003 = true then ((spec_l20Far.f k a0_0 l0_1 a1_0 l1_1 a2).bind fun t24007 => (spec_AugmentingPath.l0 k a2 t24007 (-1) 0 a0_0 l0_1 a1_0 l1_1)) else (some ((([] : List Int)), false))) = some (r1, r2) := H
 have A4 := aQ A40
 clear A40
 by_cases c5 : t24003 = true
 ·subst c5
  have H1 : ((spec_l20Far.f k a0_0 l0_1 a1_0 l1_1 a2).bind fun t24007 => (spec_AugmentingPath.l0 k a2 t24007 (-1) 0 a0_0 l0_1 a1_0 l1_1)) = some (r1, r2) := by rw [if_pos rfl] at H; exact H
  clear H
  have H := H1
  clear H1
  replace H := Option.bind_eq_some_iff.mp H
  obtain ⟨t24007, A60, H⟩ := H
  replace H : (spec_AugmentingPath.l0 k a2 t24007 (-1) 0 a0_0 l0_1 a1_0 l1_1) = some (r1, r2) := H
  have A6 := aQ A60
  clear A60
  have H' := aQ H
  clear H
  go_enter Try.func23, Try.ntmps23
  go_wp2_with (first | ((with_reducible refine gate_dst (N := 3) rfl ?_); refine box_event ?hg (N := 3) ?hd (cs := #[.int .i64 a0_0, .slice A0_1 l0_1.length c0_1]) (t := 26) ?hr ?_; (case hd => rfl); (case hg => rfl); (case hr => first | (go_simp; done) | (go_simp; rfl)); intro gb24001 hg w7 hbox hb; have BK24001 := aQ (hbox); have GW24001 := aQ ((by rw [hg]; exact (below_size (pB HB.out)) : w.heap.size ≤ gb24001)); have GE24001 := aQ ((by rw [hg]; exact (below_size (pB HB.out)) : w.heap.size ≤ gb24001)); replace HB := aQ (below_step (pB HB.out) hb); clear hb hbox hg) | ((with_reducible refine gate_dst (N := 4) rfl ?_); refine box_event ?hg (N := 4) ?hd (cs := #[.int .i64 a1_0, .slice A1_1 l1_1.length c1_1]) (t := 26) ?hr ?_; (case hd => rfl); (case hg => rfl); (case hr => first | (go_simp; done) | (go_simp; rfl)); intro gb24002 hg w8 hbox hb; have BK24002 := aQ (hbox); have GW24002 := aQ ((by rw [hg]; exact (below_size (pB1 HB.out GE24001.out)) : w.heap.size ≤ gb24002)); have GE24002 := aQ ((by rw [hg]; exact (below_size (pB1 HB.out GE24001.out)) : w.heap.size ≤ gb24002)); replace HB := aQ (below_step (pB1 HB.out GE24001.out) hb); have NB24001_24002 := aQ ((by rw [hg]; exact Nat.ne_of_lt (blk_lt (g := gb24001) (o := .cells #[.int .i64 a0_0, .slice A0_1 l0_1.length c0_1] 26 (0, 0)) (pk BK24001.out)) : gb24001 ≠ gb24002)); have NB24002_24001 := aQ ((by rw [hg]; exact Nat.ne_of_gt (blk_lt (g := gb24001) (o := .cells #[.int .i64 a0_0, .slice A0_1 l0_1.length c0_1] 26 (0, 0)) (pk BK24001.out)) : gb24002 ≠ gb24001)); replace BK24001 := aQ (blk_below (g := gb24001) (o := .cells #[.int .i64 a0_0, .slice A0_1 l0_1.length c0_1] 26 (0, 0)) (pk BK24001.out) hb); clear hb hbox hg; have hnb9 := NB24001_24002.out; have hnc9 := NB24002_24001.out; have hcz10_0 := bc (v := (.int .i64 a0_0)) BK24001.out 0; have hcz10_1 := bc (v := (.slice A0_1 l0_1.length c0_1)) BK24001.out 1; have hfz10_0 := blk_frozen BK24001.out 0; have hfz10_1 := blk_frozen BK24001.out 1; have hcz11_0 := bc (v := (.int .i64 a1_0)) BK24002.out 0; have hcz11_1 := bc (v := (.slice A1_1 l1_1.length c1_1)) BK24002.out 1; have hfz11_0 := blk_frozen BK24002.out 0; have hfz11_1 := blk_frozen BK24002.out 1) | ((with_reducible refine gate_callee (f := 66) rfl ?_); refine goesL_ (some 16) rfl rfl Try.func66 (by kernel_rfl) rfl #[.agg #[.int .i64 a0_0, .slice A0_1 l0_1.length c0_1], .agg #[.int .i64 a1_0, .slice A1_1 l1_1.length c1_1], .int .i64 a2] rfl lm ?_; (with_reducible refine (spec_IsCommon.calls k a0_0 _ _ l0_1 a1_0 _ _ l1_1 a2 true _ ?side1 ?side2 ?side3 ?side4 A4.out).mono ?_); (case side1 => exact pC (Kd.C_below HR0_1.out HB.out)); (case side2 => exact HC0_1.out); (case side3 => exact pC (Kd.C_below HR1_1.out HB.out)); (case side4 => exact HC1_1.out); rintro e w12 ⟨rfl, hb⟩; refine ⟨_, rfl, ?_⟩; replace BK24001 := aQ (blk_below (g := gb24001) (o := .cells #[.int .i64 a0_0, .slice A0_1 l0_1.length c0_1] 26 (0, 0)) (pk BK24001.out) hb); replace BK24002 := aQ (blk_below (g := gb24002) (o := .cells #[.int .i64 a1_0, .slice A1_1 l1_1.length c1_1] 26 (0, 0)) (pk BK24002.out) hb); replace HB := aQ (below_step (pB2 HB.out GE24001.out GE24002.out) hb); (try clear hb); have hcz13_0 := bc (v := (.int .i64 a0_0)) BK24001.out 0; have hcz13_1 := bc (v := (.slice A0_1 l0_1.length c0_1)) BK24001.out 1; have hfz13_0 := blk_frozen BK24001.out 0; have hfz13_1 := blk_frozen BK24001.out 1; have hcz14_0 := bc (v := (.int .i64 a1_0)) BK24002.out 0; have hcz14_1 := bc (v := (.slice A1_1 l1_1.length c1_1)) BK24002.out 1; have hfz14_0 := blk_frozen BK24002.out 0; have hfz14_1 := blk_frozen BK24002.out 1) | ((with_reducible refine gate_callee (f := 67) rfl ?_); refine goesL_ (some 22) rfl rfl Try.func67 (by kernel_rfl) rfl #[.agg #[.int .i64 a0_0, .slice A0_1 l0_1.length c0_1], .agg #[.int .i64 a1_0, .slice A1_1 l1_1.length c1_1], .int .i64 a2] rfl lm ?_; (with_reducible refine (spec_l20Far.calls k a0_0 _ _ l0_1 a1_0 _ _ l1_1 a2 t24007 _ ?side1 ?side2 ?side3 ?side4 A6.out).mono ?_); (case side1 => exact pC (Kd.C_below HR0_1.out HB.out)); (case side2 => exact HC0_1.out); (case side3 => exact pC (Kd.C_below HR1_1.out HB.out)); (case side4 => exact HC1_1.out); rintro e w15 ⟨v24008, rfl, ho0, hb⟩; obtain ⟨Ao24008, co24008, eo24008⟩ := Kd.R_slice ho0; subst eo24008; refine ⟨_, rfl, ?_⟩; have HO24009 := aQ (Kd.R_lower ho0 (below_size (pB2 HB.out GE24001.out GE24002.out))); replace BK24001 := aQ (blk_below (g := gb24001) (o := .cells #[.int .i64 a0_0, .slice A0_1 l0_1.length c0_1] 26 (0, 0)) (pk BK24001.out) hb); replace BK24002 := aQ (blk_below (g := gb24002) (o := .cells #[.int .i64 a1_0, .slice A1_1 l1_1.length c1_1] 26 (0, 0)) (pk BK24002.out) hb); replace HB := aQ (below_step (pB2 HB.out GE24001.out GE24002.out) hb); (try clear hb); (try clear ho0)))
  go_loopg [9, 10] k (fun kq v9 v10 w' => ∃ (x9_1 : Int) (x10_1 : Int), v9 = .int .i64 x9_1 ∧ v10 = .int .i64 x10_1 ∧ Aside0 (spec_AugmentingPath.l0 kq a2 t24007 x9_1 x10_1 a0_0 l0_1 a1_0 l1_1 = some (r1, r2)) ∧ Aside0 (kq ≤ k) ∧ Aside0 (Kd.R (Kd.int .i64) 3 w' w.heap.size (fun _ => True) (.slice Ao24008 t24007.length co24008 : Value) t24007) ∧ Aside0 (w'.heap[gb24001]? = some (.cells #[.int .i64 a0_0, (.slice A0_1 l0_1.length c0_1)] 26 (0, 0))) ∧ Aside0 (w'.heap[gb24002]? = some (.cells #[.int .i64 a1_0, (.slice A1_1 l1_1.length c1_1)] 26 (0, 0))) ∧ Aside0 (Below w.heap.size w w'))
  case atStart => exact ⟨((-1)), (0), rs_, rs_, H', ⟨Nat.le_refl _⟩, ⟨pR HO24009.out⟩, ⟨pk BK24001.out⟩, ⟨pk BK24002.out⟩, ⟨pB2 HB.out GE24001.out GE24002.out⟩⟩
  case round =>
   clear H'
   try clear c1
   try clear c2
   try clear p2
   try clear c5
   try clear c6
   try clear c9
   try clear hcz10_0
   try clear hcz10_1
   try clear hcz11_0
   try clear hcz11_1
   try clear hcz13_0
   try clear hcz13_1
   try clear hcz14_0
   try clear hcz14_1
   try clear hfz10_0
   try clear hfz10_1
   try clear hfz11_0
   try clear hfz11_1
   try clear hfz13_0
   try clear hfz13_1
   try clear hfz14_0
   try clear hfz14_1
   obtain ⟨x9_1, x10_1, rfl, rfl, HA, HK1, HO_8, BK24001, BK24002, HB⟩ := hrel
   cases gk with
   | zero => exact absurd HA.out (by simp [spec_AugmentingPath.l0])
   | succ k1 =>
    have H := HA.out
    clear HA
    simp only [spec_AugmentingPath.l0] at H
    by_cases c16 : x10_1 < a0_0
    ·rw [if_pos c16] at H
     have c16b0 : decide (x10_1 < a0_0) = true := decide_eq_true c16
     clear c16
     replace H := Option.bind_eq_some_iff.mp H
     obtain ⟨t24010, A170, H⟩ := H
     replace H : (if t24010 = true then (spec_AugmentingPath.l0 k1 a2 t24007 x9_1 (wrap64 (x10_1 + 1)) a0_0 l0_1 a1_0 l1_1) else (if 0 ≤ (IntKind.u64.wrap (x10_1)) then ((spec_l20Free.f k1 a0_0 l0_1 (Go.bits .or .i64 a2 (shl .i64 1 (IntKind.u64.wrap (x10_1))))).bind fun t24011 => (if t24011 = true then (if 0 ≤ x10_1 then (if x10_1 < (t24007.length : Int) then (if (rd t24007 x10_1) > 0 then (if x9_1 < 0 then (spec_AugmentingPath.l0 k1 a2 t24007 x10_1 (wrap64 (x10_1 + 1)) a0_0 l0_1 a1_0 l1_1) else (if 0 ≤ x9_1 then (if x9_1 < (t24007.length : Int) then (if (rd t24007 x10_1) < (rd t24007 x9_1) then (spec_AugmentingPath.l0 k1 a2 t24007 x10_1 (wrap64 (x10_1 + 1)) a0_0 l0_1 a1_0 l1_1) else (spec_AugmentingPath.l0 k1 a2 t24007 x9_1 (wrap64 (x10_1 + 1)) a0_0 l0_1 a1_0 l1_1)) else (none)) else (none))) else (spec_AugmentingPath.l0 k1 a2 t24007 x9_1 (wrap64 (x10_1 + 1)) a0_0 l0_1 a1_0 l1_1)) else (none)) else (none)) else (spec_AugmentingPath.l0 k1 a2 t24007 x9_1 (wrap64 (x10_1 + 1)) a0_0 l0_1 a1_0 l1_1))) else (none))) = some (r1, r2) := H
     have A17 := aQ A170
     clear A170
     by_cases c18 : t24010 = true
     ·subst c18
      have H1 : (spec_AugmentingPath.l0 k1 a2 t24007 x9_1 (wrap64 (x10_1 + 1)) a0_0 l0_1 a1_0 l1_1) = some (r1, r2) := by rw [if_pos rfl] at H; exact H
      clear H
      have H := H1
      clear H1
      have H' := aQ H
      clear H
      have hnb19 := NB24001_24002.out
      have hnc19 := NB24002_24001.out
      have hcz20_0 := bc (v := (.int .i64 a0_0)) BK24001.out 0
      have hcz20_1 := bc (v := (.slice A0_1 l0_1.length c0_1)) BK24001.out 1
      have hfz20_0 := blk_frozen BK24001.out 0
      have hfz20_1 := blk_frozen BK24001.out 1
      try go_wp2
      have n0_ := aQ (Kd.R_drew HO_8.out)
      have n1_ := aQ (blk_drew BK24001.out)
      have n2_ := aQ (blk_drew BK24002.out)
      have n3_ := aQ (below_drew1 HB.out)
      clear HO_8
      clear BK24001
      clear BK24002
      clear HB
      have HO_8 := n0_
      have BK24001 := n1_
      have BK24002 := n2_
      have HB := n3_
      clear n0_ n1_ n2_ n3_
      refine start_ (n := 35) (S := fun w' => True) (ds := []) #[false, false, false, false, false, false, false, false, false, false, false, false, false, false, false, false, false, false, false, false, false, false, false, false, false, false, false, false, false, false, false, false, false, false, false] (by kernel_rfl) rfl rfl trivial (fun hHeld => ?_); refine with_tabW spec_AugmentingPath.tab8 spec_AugmentingPath.bits8 (fun HT_ HW_ => ?_)
      generalize wr.drew = w21 at HO_8 BK24001 BK24002 HB hHeld ⊢
      refine puA (i := 0) (N := some 29) HT_ (h := ?_)
      refine puA (i := 1) (N := some 30) HT_ (h := ?_)
      refine onA (i := 2) (N := some 31) HT_ (h := fun K hK => ?_)
      refine goes_ Try.func68 (by kernel_rfl) rfl #[.int .i64 a2, .int .i64 x10_1] (by rfl) rfl rfl lm ?_
      with_reducible refine (spec_l2Has.calls a2 x10_1 true _ A17.out).mono ?_
      rintro e w' ⟨rfl, ⟨nd, rfl⟩⟩
      refine ⟨_, rfl, ?_⟩
      refine hK.out _ _ trivial (fun hHeld => ?_)
      clear hK K
      refine noA (h := ?_)
      refine puA (i := 3) (N := some 32) HT_ (h := ?_)
      refine puA (i := 4) (N := some 33) HT_ (h := ?_)
      refine puU (i := 5) (N := some 34) HT_ (h := ?_)
      refine puU (i := 6) (N := some 35) HT_ (h := ?_)
      refine puU (i := 7) (N := some 36) HT_ (h := ?_)
      refine puU (i := 8) (N := some 37) HT_ (h := ?_)
      refine puU (i := 9) (N := some 38) HT_ (h := ?_)
      refine puU (i := 10) (N := some 39) HT_ (h := ?_)
      refine puU (i := 11) (N := some 40) HT_ (h := ?_)
      refine puA (i := 12) (N := some 41) HT_ (h := ?_)
      refine puA (i := 13) (N := some 42) HT_ (h := ?_)
      refine puU (i := 14) (N := some 43) HT_ (h := ?_)
      refine puU (i := 15) (N := some 44) HT_ (h := ?_)
      refine puU (i := 16) (N := some 45) HT_ (h := ?_)
      refine puU (i := 17) (N := some 46) HT_ (h := ?_)
      refine puU (i := 18) (N := some 47) HT_ (h := ?_)
      refine puA (i := 19) (N := some 48) HT_ (h := ?_)
      refine puA (i := 20) (N := some 49) HT_ (h := ?_)
      refine puU (i := 21) (N := some 50) HT_ (h := ?_)
      refine puU (i := 22) (N := some 51) HT_ (h := ?_)
      refine puU (i := 23) (N := some 52) HT_ (h := ?_)
      refine puU (i := 24) (N := some 53) HT_ (h := ?_)
      refine puU (i := 25) (N := some 54) HT_ (h := ?_)
      refine puU (i := 26) (N := some 55) HT_ (h := ?_)
      refine puU (i := 27) (N := some 56) HT_ (h := ?_)
      refine puU (i := 28) (N := some 57) HT_ (h := ?_)
      refine puU (i := 29) (N := some 58) HT_ (h := ?_)
      refine puU (i := 30) (N := some 59) HT_ (h := ?_)
      refine puU (i := 31) (N := some 60) HT_ (h := ?_)
      refine puU (i := 32) (N := some 61) HT_ (h := ?_)
      refine puU (i := 33) (N := some 62) HT_ (h := ?_)
      refine puA (i := 34) (N := some 63) HT_ (h := ?_)
      refine done_ (done_of HT_.out (by kernel_rfl)) ?_
      try go_wp2
      go_roundg k1
      case measure => have := HK1.out; omega
      case rel => exact ⟨(x9_1), (wrap64 (x10_1 + 1)), rs_, rs_, H', ⟨by have := HK1.out; omega⟩, ⟨pR HO_8.out⟩, ⟨pk BK24001.out⟩, ⟨pk BK24002.out⟩, ⟨pB2 HB.out GE24001.out GE24002.out⟩⟩
     ·replace c18 := Bool.eq_false_iff.mpr c18
      subst c18
      have H1 : (if 0 ≤ (IntKind.u64.wrap (x10_1)) then ((spec_l20Free.f k1 a0_0 l0_1 (Go.bits .or .i64 a2 (shl .i64 1 (IntKind.u64.wrap (x10_1))))).bind fun t24011 => (if t24011 = true then (if 0 ≤ x10_1 then (if x10_1 < (t24007.length : Int) then (if (rd t24007 x10_1) > 0 then (if x9_1 < 0 then (spec_AugmentingPath.l0 k1 a2 t24007 x10_1 (wrap64 (x10_1 + 1)) a0_0 l0_1 a1_0 l1_1) else (if 0 ≤ x9_1 then (if x9_1 < (t24007.length : Int) then (if (rd t24007 x10_1) < (rd t24007 x9_1) then (spec_AugmentingPath.l0 k1 a2 t24007 x10_1 (wrap64 (x10_1 + 1)) a0_0 l0_1 a1_0 l1_1) else (spec_AugmentingPath.l0 k1 a2 t24007 x9_1 (wrap64 (x10_1 + 1)) a0_0 l0_1 a1_0 l1_1)) else (none)) else (none))) else (spec_AugmentingPath.l0 k1 a2 t24007 x9_1 (wrap64 (x10_1 + 1)) a0_0 l0_1 a1_0 l1_1)) else (none)) else (none)) else (spec_AugmentingPath.l0 k1 a2 t24007 x9_1 (wrap64 (x10_1 + 1)) a0_0 l0_1 a1_0 l1_1))) else (none)) = some (r1, r2) := by rw [if_neg (show ¬ (false = true) by decide)] at H; exact H
      clear H
      have H := H1
      clear H1
      obtain ⟨ji22, hji22⟩ : ∃ j_ : Int, (IntKind.u64.wrap (x10_1)) = j_ := ⟨_, rfl⟩
      replace H : (if 0 ≤ (ji22) then ((spec_l20Free.f k1 a0_0 l0_1 (Go.bits .or .i64 a2 (shl .i64 1 (ji22)))).bind fun t24011 => (if t24011 = true then (if 0 ≤ x10_1 then (if x10_1 < (t24007.length : Int) then (if (rd t24007 x10_1) > 0 then (if x9_1 < 0 then (spec_AugmentingPath.l0 k1 a2 t24007 x10_1 (wrap64 (x10_1 + 1)) a0_0 l0_1 a1_0 l1_1) else (if 0 ≤ x9_1 then (if x9_1 < (t24007.length : Int) then (if (rd t24007 x10_1) < (rd t24007 x9_1) then (spec_AugmentingPath.l0 k1 a2 t24007 x10_1 (wrap64 (x10_1 + 1)) a0_0 l0_1 a1_0 l1_1) else (spec_AugmentingPath.l0 k1 a2 t24007 x9_1 (wrap64 (x10_1 + 1)) a0_0 l0_1 a1_0 l1_1)) else (none)) else (none))) else (spec_AugmentingPath.l0 k1 a2 t24007 x9_1 (wrap64 (x10_1 + 1)) a0_0 l0_1 a1_0 l1_1)) else (none)) else (none)) else (spec_AugmentingPath.l0 k1 a2 t24007 x9_1 (wrap64 (x10_1 + 1)) a0_0 l0_1 a1_0 l1_1))) else (none)) = some (r1, r2) := by first | (rw [hji22] at H; exact H) | (simp only [hji22] at H ⊢; exact H)
      (try rw [hji22] at A17)
      by_cases c23 : 0 ≤ (ji22)
      ·rw [if_pos c23] at H
       have c23b0 := eq_true c23
       have c23b1 : decide (0 ≤ (ji22)) = true := decide_eq_true c23
       clear c23
       obtain ⟨ji24, hji24⟩ : ∃ j_ : Int, (shl .i64 1 (ji22)) = j_ := ⟨_, rfl⟩
       replace H : ((spec_l20Free.f k1 a0_0 l0_1 (Go.bits .or .i64 a2 (ji24))).bind fun t24011 => (if t24011 = true then (if 0 ≤ x10_1 then (if x10_1 < (t24007.length : Int) then (if (rd t24007 x10_1) > 0 then (if x9_1 < 0 then (spec_AugmentingPath.l0 k1 a2 t24007 x10_1 (wrap64 (x10_1 + 1)) a0_0 l0_1 a1_0 l1_1) else (if 0 ≤ x9_1 then (if x9_1 < (t24007.length : Int) then (if (rd t24007 x10_1) < (rd t24007 x9_1) then (spec_AugmentingPath.l0 k1 a2 t24007 x10_1 (wrap64 (x10_1 + 1)) a0_0 l0_1 a1_0 l1_1) else (spec_AugmentingPath.l0 k1 a2 t24007 x9_1 (wrap64 (x10_1 + 1)) a0_0 l0_1 a1_0 l1_1)) else (none)) else (none))) else (spec_AugmentingPath.l0 k1 a2 t24007 x9_1 (wrap64 (x10_1 + 1)) a0_0 l0_1 a1_0 l1_1)) else (none)) else (none)) else (spec_AugmentingPath.l0 k1 a2 t24007 x9_1 (wrap64 (x10_1 + 1)) a0_0 l0_1 a1_0 l1_1))) = some (r1, r2) := by first | (rw [hji24] at H; exact H) | (simp only [hji24] at H ⊢; exact H)
       (try rw [hji24] at A17)
       have hji24_ : (IntKind.i64.wrap (1 * 2 ^ min (ji22).toNat 64)) = ji24 := hji24
       have hji24z : (ji22) ≤ 64 → (IntKind.i64.wrap (1 * 2 ^ (ji22).toNat)) = ji24 := shl_small hji24
       have hji24u : (IntKind.i64.wrap (2 ^ min (ji22).toNat 64)) = ji24 := by have h_ := hji24_; rw [Int.one_mul] at h_; exact h_
       have hji24v : (ji22) ≤ 64 → (IntKind.i64.wrap (2 ^ (ji22).toNat)) = ji24 := fun hle_ => by have h_ := hji24z hle_; rw [Int.one_mul] at h_; exact h_
       have hji24y : (wrap64 (1 * 2 ^ min (ji22).toNat 64)) = ji24 := (i64_w _).symm.trans hji24_
       have hji24x : (ji22) ≤ 64 → (wrap64 (1 * 2 ^ (ji22).toNat)) = ji24 := fun h_ => (i64_w _).symm.trans (hji24z h_)
       replace H := Option.bind_eq_some_iff.mp H
       obtain ⟨t24011, A250, H⟩ := H
       replace H : (if t24011 = true then (if 0 ≤ x10_1 then (if x10_1 < (t24007.length : Int) then (if (rd t24007 x10_1) > 0 then (if x9_1 < 0 then (spec_AugmentingPath.l0 k1 a2 t24007 x10_1 (wrap64 (x10_1 + 1)) a0_0 l0_1 a1_0 l1_1) else (if 0 ≤ x9_1 then (if x9_1 < (t24007.length : Int) then (if (rd t24007 x10_1) < (rd t24007 x9_1) then (spec_AugmentingPath.l0 k1 a2 t24007 x10_1 (wrap64 (x10_1 + 1)) a0_0 l0_1 a1_0 l1_1) else (spec_AugmentingPath.l0 k1 a2 t24007 x9_1 (wrap64 (x10_1 + 1)) a0_0 l0_1 a1_0 l1_1)) else (none)) else (none))) else (spec_AugmentingPath.l0 k1 a2 t24007 x9_1 (wrap64 (x10_1 + 1)) a0_0 l0_1 a1_0 l1_1)) else (none)) else (none)) else (spec_AugmentingPath.l0 k1 a2 t24007 x9_1 (wrap64 (x10_1 + 1)) a0_0 l0_1 a1_0 l1_1)) = some (r1, r2) := H
       have A25 := aQ A250
       clear A250
       by_cases c26 : t24011 = true
       ·subst c26
        have H1 : (if 0 ≤ x10_1 then (if x10_1 < (t24007.length : Int) then (if (rd t24007 x10_1) > 0 then (if x9_1 < 0 then (spec_AugmentingPath.l0 k1 a2 t24007 x10_1 (wrap64 (x10_1 + 1)) a0_0 l0_1 a1_0 l1_1) else (if 0 ≤ x9_1 then (if x9_1 < (t24007.length : Int) then (if (rd t24007 x10_1) < (rd t24007 x9_1) then (spec_AugmentingPath.l0 k1 a2 t24007 x10_1 (wrap64 (x10_1 + 1)) a0_0 l0_1 a1_0 l1_1) else (spec_AugmentingPath.l0 k1 a2 t24007 x9_1 (wrap64 (x10_1 + 1)) a0_0 l0_1 a1_0 l1_1)) else (none)) else (none))) else (spec_AugmentingPath.l0 k1 a2 t24007 x9_1 (wrap64 (x10_1 + 1)) a0_0 l0_1 a1_0 l1_1)) else (none)) else (none)) = some (r1, r2) := by rw [if_pos rfl] at H; exact H
        clear H
        have H := H1
        clear H1
        by_cases c27 : 0 ≤ x10_1
        ·rw [if_pos c27] at H
         have c27b0 : decide (0 ≤ x10_1) = true := decide_eq_true c27
         clear c27
         by_cases c28 : x10_1 < (t24007.length : Int)
         ·rw [if_pos c28] at H
          have c28b0 : decide (x10_1 < (t24007.length : Int)) = true := decide_eq_true c28
          clear c28
          by_cases c29 : (rd t24007 x10_1) > 0
          ·rw [if_pos c29] at H
           have c29b0 : decide (0 < (rd t24007 x10_1)) = true := decide_eq_true c29
           clear c29
           by_cases c30 : x9_1 < 0
           ·rw [if_pos c30] at H
            have c30b0 : decide (x9_1 < 0) = true := decide_eq_true c30
            clear c30
            have H' := aQ H
            clear H
            have hnb31 := NB24001_24002.out
            have hnc31 := NB24002_24001.out
            have hcz32_0 := bc (v := (.int .i64 a0_0)) BK24001.out 0
            have hcz32_1 := bc (v := (.slice A0_1 l0_1.length c0_1)) BK24001.out 1
            have hfz32_0 := blk_frozen BK24001.out 0
            have hfz32_1 := blk_frozen BK24001.out 1
            try go_wp2
            have n0_ := aQ (Kd.R_drew HO_8.out)
            have n1_ := aQ (blk_drew BK24001.out)
            have n2_ := aQ (blk_drew BK24002.out)
            have n3_ := aQ (below_drew1 HB.out)
            clear HO_8
            clear BK24001
            clear BK24002
            clear HB
            have HO_8 := n0_
            have BK24001 := n1_
            have BK24002 := n2_
            have HB := n3_
            clear n0_ n1_ n2_ n3_
            have p24012 : 0 ≤ (x10_1 : Int) := of_decide_eq_true as_
            have q24012 : x10_1 < (t24007.length : Int) := of_decide_eq_true as_
            obtain ⟨ad24012, e24012, hx24012_0⟩ := Kd.at_int (Kd.R_reads' HO_8.out).2.2 x10_1 p24012 q24012
            cases e24012
            replace p24012 := eq_true p24012
            replace q24012 := eq_true q24012
            refine start_ (n := 35) (S := fun w' => w'.cell? ⟨gb24001, 0, none⟩ = some (.int .i64 a0_0) ∧ w'.cell? ⟨gb24001, 1, none⟩ = some (.slice A0_1 l0_1.length c0_1) ∧ w'.cell? (ad24012.add (x10_1).toNat) = some (.int .i64 (rd t24007 x10_1))) (ds := []) #[false, false, false, false, false, false, false, false, false, false, false, false, false, false, false, false, false, false, false, false, false, false, false, false, false, false, false, false, false, false, false, false, false, false, false] (by kernel_rfl) rfl rfl ⟨(blk_cell BK24001.out 0).trans rfl, (blk_cell BK24001.out 1).trans rfl, hx24012_0⟩ (fun hHeld => ?_); refine with_tabW spec_AugmentingPath.tab8 spec_AugmentingPath.bits8 (fun HT_ HW_ => ?_)
            generalize wr.drew = w33 at HO_8 BK24001 BK24002 HB hx24012_0 hHeld ⊢
            refine puA (i := 0) (N := some 29) HT_ (h := ?_)
            refine puA (i := 1) (N := some 30) HT_ (h := ?_)
            refine onA (i := 2) (N := some 31) HT_ (h := fun K hK => ?_)
            refine goes_ Try.func68 (by kernel_rfl) rfl #[.int .i64 a2, .int .i64 x10_1] (by rfl) rfl rfl lm ?_
            with_reducible refine (spec_l2Has.calls a2 x10_1 false _ A17.out).mono ?_
            rintro e w' ⟨rfl, ⟨nd, rfl⟩⟩
            refine ⟨_, rfl, ?_⟩
            refine hK.out _ _ ⟨(blk_cell BK24001.out 0).trans rfl, (blk_cell BK24001.out 1).trans rfl, hHeld.2.2⟩ (fun hHeld => ?_)
            clear hK K
            refine noA (h := ?_)
            refine puA (i := 3) (N := some 32) HT_ (h := ?_)
            refine puA (i := 4) (N := some 33) HT_ (h := ?_)
            refine puA (i := 6) (N := some 35) HT_ (h := ?_)
            refine puA (i := 7) (N := some 36) HT_ (h := ?_)
            refine puA (i := 8) (N := some 37) HT_ (h := ?_)
            refine puA (i := 9) (N := some 38) HT_ (h := ?_)
            refine puA (i := 10) (N := some 39) HT_ (h := ?_)
            refine taA3 (i := 5) (N := some 34) HT_ HW_ hHeld (h := ?_)
            refine onA (i := 11) (N := some 40) HT_ (h := fun K hK => ?_)
            refine goes_ Try.func69 (by kernel_rfl) rfl #[.agg #[.int .i64 a0_0, .slice A0_1 l0_1.length c0_1], .int .i64 (Go.bits .or .i64 a2 (ji24))] (by rfl) rfl rfl (by (try simp only [List.map_toArray, List.map_cons, List.map_nil]); first | done | (simp only [hji24]; rfl) | rfl | (simp only [List.length_drop, List.length_take]; rfl)) ?_
            with_reducible refine (spec_l20Free.calls k1 a0_0 _ _ l0_1 (Go.bits .or .i64 a2 (ji24)) true _ ?side1 ?side2 A25.out).mono ?_
            (case side1 => repeat (first | exact (Kd.C_below HR0_1.out (pB2 HB.out GE24001.out GE24002.out)) | (with_reducible refine Kd.C_alloc ?_ _) | (with_reducible refine Kd.C_drewN ?_ _) | (with_reducible refine Kd.C_drew ?_)))
            (case side2 => exact HC0_1.out)
            rintro e w34 ⟨rfl, hb⟩
            have HS2_ := (hb.cell (World.block_lt_of_cell? _ _ (hHeld.2.2))).trans (hHeld.2.2)
            refine ⟨_, rfl, ?_⟩
            have n0_ := aQ (Kd.R_below (pR HO_8.out) hb)
            have n1_ := aQ (blk_below (g := gb24001) (o := .cells #[.int .i64 a0_0, .slice A0_1 l0_1.length c0_1] 26 (0, 0)) (pk BK24001.out) hb)
            have n2_ := aQ (blk_below (g := gb24002) (o := .cells #[.int .i64 a1_0, .slice A1_1 l1_1.length c1_1] 26 (0, 0)) (pk BK24002.out) hb)
            have n3_ := aQ (below_step (pB2 HB.out GE24001.out GE24002.out) hb)
            clear HO_8
            clear BK24001
            clear BK24002
            clear HB
            have HO_8 := n0_
            have BK24001 := n1_
            have BK24002 := n2_
            have HB := n3_
            clear n0_ n1_ n2_ n3_
            (try clear hb)
            (try clear hb2)
            (try clear hk)
            (try clear hi)
            obtain ⟨Ao35, co35, eo35⟩ := Kd.R_slice HO_8.out
            (first | subst eo35 | (injection eo35 with f1_ f2_ f3_; have f4_ := f1_.symm; have f5_ := f3_.symm; clear f1_ f2_ f3_; subst f4_; subst f5_))
            refine hK.out _ _ ⟨(blk_cell BK24001.out 0).trans rfl, (blk_cell BK24001.out 1).trans rfl, HS2_⟩ (fun hHeld => ?_)
            clear hK K
            refine noA (h := ?_)
            refine puA (i := 12) (N := some 41) HT_ (h := ?_)
            refine puA (i := 13) (N := some 42) HT_ (h := ?_)
            refine puA (i := 14) (N := some 43) HT_ (h := ?_)
            refine puA (i := 15) (N := some 44) HT_ (h := ?_)
            refine puA (i := 16) (N := some 45) HT_ (h := ?_)
            refine taA3 (i := 17) (N := some 46) HT_ HW_ hHeld (h := ?_)
            refine puA (i := 18) (N := some 47) HT_ (h := ?_)
            refine puA (i := 19) (N := some 48) HT_ (h := ?_)
            refine puA (i := 20) (N := some 49) HT_ (h := ?_)
            refine puA (i := 21) (N := some 50) HT_ (h := ?_)
            refine puA (i := 22) (N := some 51) HT_ (h := ?_)
            refine puA (i := 23) (N := some 52) HT_ (h := ?_)
            refine puU (i := 24) (N := some 53) HT_ (h := ?_)
            refine puU (i := 25) (N := some 54) HT_ (h := ?_)
            refine puU (i := 26) (N := some 55) HT_ (h := ?_)
            refine puU (i := 27) (N := some 56) HT_ (h := ?_)
            refine puU (i := 28) (N := some 57) HT_ (h := ?_)
            refine puU (i := 29) (N := some 58) HT_ (h := ?_)
            refine puU (i := 30) (N := some 59) HT_ (h := ?_)
            refine puU (i := 31) (N := some 60) HT_ (h := ?_)
            refine puU (i := 32) (N := some 61) HT_ (h := ?_)
            refine puA (i := 33) (N := some 62) HT_ (h := ?_)
            refine puA (i := 34) (N := some 63) HT_ (h := ?_)
            refine done_ (done_of HT_.out (by kernel_rfl)) ?_
            try go_wp2
            go_roundg k1
            case measure => have := HK1.out; omega
            case rel => exact ⟨(x10_1), (wrap64 (x10_1 + 1)), rs_, rs_, H', ⟨by have := HK1.out; omega⟩, ⟨pR HO_8.out⟩, ⟨pk BK24001.out⟩, ⟨pk BK24002.out⟩, ⟨pB2 HB.out GE24001.out GE24002.out⟩⟩
           ·rw [if_neg c30] at H
            have c30b0 : decide (x9_1 < 0) = false := decide_eq_false c30
            clear c30
            by_cases c36 : 0 ≤ x9_1
            ·rw [if_pos c36] at H
             have c36b0 : decide (0 ≤ x9_1) = true := decide_eq_true c36
             clear c36
             by_cases c37 : x9_1 < (t24007.length : Int)
             ·rw [if_pos c37] at H
              have c37b0 : decide (x9_1 < (t24007.length : Int)) = true := decide_eq_true c37
              clear c37
              by_cases c38 : (rd t24007 x10_1) < (rd t24007 x9_1)
              ·rw [if_pos c38] at H
               have c38b0 : decide ((rd t24007 x10_1) < (rd t24007 x9_1)) = true := decide_eq_true c38
               clear c38
               have H' := aQ H
               clear H
               have hnb39 := NB24001_24002.out
               have hnc39 := NB24002_24001.out
               have hcz40_0 := bc (v := (.int .i64 a0_0)) BK24001.out 0
               have hcz40_1 := bc (v := (.slice A0_1 l0_1.length c0_1)) BK24001.out 1
               have hfz40_0 := blk_frozen BK24001.out 0
               have hfz40_1 := blk_frozen BK24001.out 1
               try go_wp2
               have n0_ := aQ (Kd.R_drew HO_8.out)
               have n1_ := aQ (blk_drew BK24001.out)
               have n2_ := aQ (blk_drew BK24002.out)
               have n3_ := aQ (below_drew1 HB.out)
               clear HO_8
               clear BK24001
               clear BK24002
               clear HB
               have HO_8 := n0_
               have BK24001 := n1_
               have BK24002 := n2_
               have HB := n3_
               clear n0_ n1_ n2_ n3_
               have p24012 : 0 ≤ (x10_1 : Int) := of_decide_eq_true as_
               have q24012 : x10_1 < (t24007.length : Int) := of_decide_eq_true as_
               obtain ⟨ad24012, e24012, hx24012_0⟩ := Kd.at_int (Kd.R_reads' HO_8.out).2.2 x10_1 p24012 q24012
               cases e24012
               replace p24012 := eq_true p24012
               replace q24012 := eq_true q24012
               have p24013 : 0 ≤ (x10_1 : Int) := of_decide_eq_true as_
               have q24013 : x10_1 < (t24007.length : Int) := of_decide_eq_true as_
               obtain ⟨ad24013, e24013, hx24013_0⟩ := Kd.at_int (Kd.R_reads' HO_8.out).2.2 x10_1 p24013 q24013
               obtain rfl : ad24012 = ad24013 := (by injection e24013)
               replace p24013 := eq_true p24013
               replace q24013 := eq_true q24013
               have p24014 : 0 ≤ (x9_1 : Int) := of_decide_eq_true as_
               have q24014 : x9_1 < (t24007.length : Int) := of_decide_eq_true as_
               obtain ⟨ad24014, e24014, hx24014_0⟩ := Kd.at_int (Kd.R_reads' HO_8.out).2.2 x9_1 p24014 q24014
               obtain rfl : ad24012 = ad24014 := (by injection e24014)
               replace p24014 := eq_true p24014
               replace q24014 := eq_true q24014
               refine start_ (n := 35) (S := fun w' => w'.cell? ⟨gb24001, 0, none⟩ = some (.int .i64 a0_0) ∧ w'.cell? ⟨gb24001, 1, none⟩ = some (.slice A0_1 l0_1.length c0_1) ∧ w'.cell? (ad24012.add (x10_1).toNat) = some (.int .i64 (rd t24007 x10_1)) ∧ w'.cell? (ad24012.add (x10_1).toNat) = some (.int .i64 (rd t24007 x10_1)) ∧ w'.cell? (ad24012.add (x9_1).toNat) = some (.int .i64 (rd t24007 x9_1))) (ds := []) #[false, false, false, false, false, false, false, false, false, false, false, false, false, false, false, false, false, false, false, false, false, false, false, false, false, false, false, false, false, false, false, false, false, false, false] (by kernel_rfl) rfl rfl ⟨(blk_cell BK24001.out 0).trans rfl, (blk_cell BK24001.out 1).trans rfl, hx24012_0, hx24013_0, hx24014_0⟩ (fun hHeld => ?_); refine with_tabW spec_AugmentingPath.tab8 spec_AugmentingPath.bits8 (fun HT_ HW_ => ?_)
               generalize wr.drew = w41 at HO_8 BK24001 BK24002 HB hx24012_0 hx24013_0 hx24014_0 hHeld ⊢
               refine puA (i := 0) (N := some 29) HT_ (h := ?_)
               refine puA (i := 1) (N := some 30) HT_ (h := ?_)
               refine onA (i := 2) (N := some 31) HT_ (h := fun K hK => ?_)
               refine goes_ Try.func68 (by kernel_rfl) rfl #[.int .i64 a2, .int .i64 x10_1] (by rfl) rfl rfl lm ?_
               with_reducible refine (spec_l2Has.calls a2 x10_1 false _ A17.out).mono ?_
               rintro e w' ⟨rfl, ⟨nd, rfl⟩⟩
               refine ⟨_, rfl, ?_⟩
               refine hK.out _ _ ⟨(blk_cell BK24001.out 0).trans rfl, (blk_cell BK24001.out 1).trans rfl, hHeld.2.2.1, hHeld.2.2.2.1, hHeld.2.2.2.2⟩ (fun hHeld => ?_)
               clear hK K
               refine noA (h := ?_)
               refine puA (i := 3) (N := some 32) HT_ (h := ?_)
               refine puA (i := 4) (N := some 33) HT_ (h := ?_)
               refine puA (i := 6) (N := some 35) HT_ (h := ?_)
               refine puA (i := 7) (N := some 36) HT_ (h := ?_)
               refine puA (i := 8) (N := some 37) HT_ (h := ?_)
               refine puA (i := 9) (N := some 38) HT_ (h := ?_)
               refine puA (i := 10) (N := some 39) HT_ (h := ?_)
               refine taA5 (i := 5) (N := some 34) HT_ HW_ hHeld (h := ?_)
               refine onA (i := 11) (N := some 40) HT_ (h := fun K hK => ?_)
               refine goes_ Try.func69 (by kernel_rfl) rfl #[.agg #[.int .i64 a0_0, .slice A0_1 l0_1.length c0_1], .int .i64 (Go.bits .or .i64 a2 (ji24))] (by rfl) rfl rfl (by (try simp only [List.map_toArray, List.map_cons, List.map_nil]); first | done | (simp only [hji24]; rfl) | rfl | (simp only [List.length_drop, List.length_take]; rfl)) ?_
               with_reducible refine (spec_l20Free.calls k1 a0_0 _ _ l0_1 (Go.bits .or .i64 a2 (ji24)) true _ ?side1 ?side2 A25.out).mono ?_
               (case side1 => repeat (first | exact (Kd.C_below HR0_1.out (pB2 HB.out GE24001.out GE24002.out)) | (with_reducible refine Kd.C_alloc ?_ _) | (with_reducible refine Kd.C_drewN ?_ _) | (with_reducible refine Kd.C_drew ?_)))
               (case side2 => exact HC0_1.out)
               rintro e w42 ⟨rfl, hb⟩
               have HS2_ := (hb.cell (World.block_lt_of_cell? _ _ (hHeld.2.2.1))).trans (hHeld.2.2.1)
               have HS3_ := (hb.cell (World.block_lt_of_cell? _ _ (hHeld.2.2.2.1))).trans (hHeld.2.2.2.1)
               have HS4_ := (hb.cell (World.block_lt_of_cell? _ _ (hHeld.2.2.2.2))).trans (hHeld.2.2.2.2)
               refine ⟨_, rfl, ?_⟩
               have n0_ := aQ (Kd.R_below (pR HO_8.out) hb)
               have n1_ := aQ (blk_below (g := gb24001) (o := .cells #[.int .i64 a0_0, .slice A0_1 l0_1.length c0_1] 26 (0, 0)) (pk BK24001.out) hb)
               have n2_ := aQ (blk_below (g := gb24002) (o := .cells #[.int .i64 a1_0, .slice A1_1 l1_1.length c1_1] 26 (0, 0)) (pk BK24002.out) hb)
               have n3_ := aQ (below_step (pB2 HB.out GE24001.out GE24002.out) hb)
               clear HO_8
               clear BK24001
               clear BK24002
               clear HB
               have HO_8 := n0_
               have BK24001 := n1_
               have BK24002 := n2_
               have HB := n3_
               clear n0_ n1_ n2_ n3_
               (try clear hb)
               (try clear hb2)
               (try clear hk)
               (try clear hi)
               obtain ⟨Ao43, co43, eo43⟩ := Kd.R_slice HO_8.out
               (first | subst eo43 | (injection eo43 with f1_ f2_ f3_; have f4_ := f1_.symm; have f5_ := f3_.symm; clear f1_ f2_ f3_; subst f4_; subst f5_))
               refine hK.out _ _ ⟨(blk_cell BK24001.out 0).trans rfl, (blk_cell BK24001.out 1).trans rfl, HS2_, HS3_, HS4_⟩ (fun hHeld => ?_)
               clear hK K
               refine noA (h := ?_)
               refine puA (i := 12) (N := some 41) HT_ (h := ?_)
               refine puA (i := 13) (N := some 42) HT_ (h := ?_)
               refine puA (i := 14) (N := some 43) HT_ (h := ?_)
               refine puA (i := 15) (N := some 44) HT_ (h := ?_)
               refine puA (i := 16) (N := some 45) HT_ (h := ?_)
               refine taA5 (i := 17) (N := some 46) HT_ HW_ hHeld (h := ?_)
               refine puA (i := 18) (N := some 47) HT_ (h := ?_)
               refine puA (i := 19) (N := some 48) HT_ (h := ?_)
               refine puA (i := 20) (N := some 49) HT_ (h := ?_)
               refine puA (i := 21) (N := some 50) HT_ (h := ?_)
               refine puA (i := 22) (N := some 51) HT_ (h := ?_)
               refine puA (i := 23) (N := some 52) HT_ (h := ?_)
               refine puA (i := 24) (N := some 53) HT_ (h := ?_)
               refine puA (i := 25) (N := some 54) HT_ (h := ?_)
               refine puA (i := 26) (N := some 55) HT_ (h := ?_)
               refine puA (i := 28) (N := some 57) HT_ (h := ?_)
               refine puA (i := 29) (N := some 58) HT_ (h := ?_)
               refine puA (i := 30) (N := some 59) HT_ (h := ?_)
               refine taA5 (i := 27) (N := some 56) HT_ HW_ hHeld (h := ?_)
               refine taA5 (i := 31) (N := some 60) HT_ HW_ hHeld (h := ?_)
               refine puA (i := 32) (N := some 61) HT_ (h := ?_)
               refine puA (i := 33) (N := some 62) HT_ (h := ?_)
               refine puA (i := 34) (N := some 63) HT_ (h := ?_)
               refine done_ (done_of HT_.out (by kernel_rfl)) ?_
               try go_wp2
               go_roundg k1
               case measure => have := HK1.out; omega
               case rel => exact ⟨(x10_1), (wrap64 (x10_1 + 1)), rs_, rs_, H', ⟨by have := HK1.out; omega⟩, ⟨pR HO_8.out⟩, ⟨pk BK24001.out⟩, ⟨pk BK24002.out⟩, ⟨pB2 HB.out GE24001.out GE24002.out⟩⟩
              ·rw [if_neg c38] at H
               have c38b0 : decide ((rd t24007 x10_1) < (rd t24007 x9_1)) = false := decide_eq_false c38
               clear c38
               have H' := aQ H
               clear H
               have hnb44 := NB24001_24002.out
               have hnc44 := NB24002_24001.out
               have hcz45_0 := bc (v := (.int .i64 a0_0)) BK24001.out 0
               have hcz45_1 := bc (v := (.slice A0_1 l0_1.length c0_1)) BK24001.out 1
               have hfz45_0 := blk_frozen BK24001.out 0
               have hfz45_1 := blk_frozen BK24001.out 1
               try go_wp2
               have n0_ := aQ (Kd.R_drew HO_8.out)
               have n1_ := aQ (blk_drew BK24001.out)
               have n2_ := aQ (blk_drew BK24002.out)
               have n3_ := aQ (below_drew1 HB.out)
               clear HO_8
               clear BK24001
               clear BK24002
               clear HB
               have HO_8 := n0_
               have BK24001 := n1_
               have BK24002 := n2_
               have HB := n3_
               clear n0_ n1_ n2_ n3_
               have p24012 : 0 ≤ (x10_1 : Int) := of_decide_eq_true as_
               have q24012 : x10_1 < (t24007.length : Int) := of_decide_eq_true as_
               obtain ⟨ad24012, e24012, hx24012_0⟩ := Kd.at_int (Kd.R_reads' HO_8.out).2.2 x10_1 p24012 q24012
               cases e24012
               replace p24012 := eq_true p24012
               replace q24012 := eq_true q24012
               have p24013 : 0 ≤ (x10_1 : Int) := of_decide_eq_true as_
               have q24013 : x10_1 < (t24007.length : Int) := of_decide_eq_true as_
               obtain ⟨ad24013, e24013, hx24013_0⟩ := Kd.at_int (Kd.R_reads' HO_8.out).2.2 x10_1 p24013 q24013
               obtain rfl : ad24012 = ad24013 := (by injection e24013)
               replace p24013 := eq_true p24013
               replace q24013 := eq_true q24013
               have p24014 : 0 ≤ (x9_1 : Int) := of_decide_eq_true as_
               have q24014 : x9_1 < (t24007.length : Int) := of_decide_eq_true as_
               obtain ⟨ad24014, e24014, hx24014_0⟩ := Kd.at_int (Kd.R_reads' HO_8.out).2.2 x9_1 p24014 q24014
               obtain rfl : ad24012 = ad24014 := (by injection e24014)
               replace p24014 := eq_true p24014
               replace q24014 := eq_true q24014
               refine start_ (n := 35) (S := fun w' => w'.cell? ⟨gb24001, 0, none⟩ = some (.int .i64 a0_0) ∧ w'.cell? ⟨gb24001, 1, none⟩ = some (.slice A0_1 l0_1.length c0_1) ∧ w'.cell? (ad24012.add (x10_1).toNat) = some (.int .i64 (rd t24007 x10_1)) ∧ w'.cell? (ad24012.add (x10_1).toNat) = some (.int .i64 (rd t24007 x10_1)) ∧ w'.cell? (ad24012.add (x9_1).toNat) = some (.int .i64 (rd t24007 x9_1))) (ds := []) #[false, false, false, false, false, false, false, false, false, false, false, false, false, false, false, false, false, false, false, false, false, false, false, false, false, false, false, false, false, false, false, false, false, false, false] (by kernel_rfl) rfl rfl ⟨(blk_cell BK24001.out 0).trans rfl, (blk_cell BK24001.out 1).trans rfl, hx24012_0, hx24013_0, hx24014_0⟩ (fun hHeld => ?_); refine with_tabW spec_AugmentingPath.tab8 spec_AugmentingPath.bits8 (fun HT_ HW_ => ?_)
               generalize wr.drew = w46 at HO_8 BK24001 BK24002 HB hx24012_0 hx24013_0 hx24014_0 hHeld ⊢
               refine puA (i := 0) (N := some 29) HT_ (h := ?_)
               refine puA (i := 1) (N := some 30) HT_ (h := ?_)
               refine onA (i := 2) (N := some 31) HT_ (h := fun K hK => ?_)
               refine goes_ Try.func68 (by kernel_rfl) rfl #[.int .i64 a2, .int .i64 x10_1] (by rfl) rfl rfl lm ?_
               with_reducible refine (spec_l2Has.calls a2 x10_1 false _ A17.out).mono ?_
               rintro e w' ⟨rfl, ⟨nd, rfl⟩⟩
               refine ⟨_, rfl, ?_⟩
               refine hK.out _ _ ⟨(blk_cell BK24001.out 0).trans rfl, (blk_cell BK24001.out 1).trans rfl, hHeld.2.2.1, hHeld.2.2.2.1, hHeld.2.2.2.2⟩ (fun hHeld => ?_)
               clear hK K
               refine noA (h := ?_)
               refine puA (i := 3) (N := some 32) HT_ (h := ?_)
               refine puA (i := 4) (N := some 33) HT_ (h := ?_)
               refine puA (i := 6) (N := some 35) HT_ (h := ?_)
               refine puA (i := 7) (N := some 36) HT_ (h := ?_)
               refine puA (i := 8) (N := some 37) HT_ (h := ?_)
               refine puA (i := 9) (N := some 38) HT_ (h := ?_)
               refine puA (i := 10) (N := some 39) HT_ (h := ?_)
               refine taA5 (i := 5) (N := some 34) HT_ HW_ hHeld (h := ?_)
               refine onA (i := 11) (N := some 40) HT_ (h := fun K hK => ?_)
               refine goes_ Try.func69 (by kernel_rfl) rfl #[.agg #[.int .i64 a0_0, .slice A0_1 l0_1.length c0_1], .int .i64 (Go.bits .or .i64 a2 (ji24))] (by rfl) rfl rfl (by (try simp only [List.map_toArray, List.map_cons, List.map_nil]); first | done | (simp only [hji24]; rfl) | rfl | (simp only [List.length_drop, List.length_take]; rfl)) ?_
               with_reducible refine (spec_l20Free.calls k1 a0_0 _ _ l0_1 (Go.bits .or .i64 a2 (ji24)) true _ ?side1 ?side2 A25.out).mono ?_
               (case side1 => repeat (first | exact (Kd.C_below HR0_1.out (pB2 HB.out GE24001.out GE24002.out)) | (with_reducible refine Kd.C_alloc ?_ _) | (with_reducible refine Kd.C_drewN ?_ _) | (with_reducible refine Kd.C_drew ?_)))
               (case side2 => exact HC0_1.out)
               rintro e w47 ⟨rfl, hb⟩
               have HS2_ := (hb.cell (World.block_lt_of_cell? _ _ (hHeld.2.2.1))).trans (hHeld.2.2.1)
               have HS3_ := (hb.cell (World.block_lt_of_cell? _ _ (hHeld.2.2.2.1))).trans (hHeld.2.2.2.1)
               have HS4_ := (hb.cell (World.block_lt_of_cell? _ _ (hHeld.2.2.2.2))).trans (hHeld.2.2.2.2)
               refine ⟨_, rfl, ?_⟩
               have n0_ := aQ (Kd.R_below (pR HO_8.out) hb)
               have n1_ := aQ (blk_below (g := gb24001) (o := .cells #[.int .i64 a0_0, .slice A0_1 l0_1.length c0_1] 26 (0, 0)) (pk BK24001.out) hb)
               have n2_ := aQ (blk_below (g := gb24002) (o := .cells #[.int .i64 a1_0, .slice A1_1 l1_1.length c1_1] 26 (0, 0)) (pk BK24002.out) hb)
               have n3_ := aQ (below_step (pB2 HB.out GE24001.out GE24002.out) hb)
               clear HO_8
               clear BK24001
               clear BK24002
               clear HB
               have HO_8 := n0_
               have BK24001 := n1_
               have BK24002 := n2_
               have HB := n3_
               clear n0_ n1_ n2_ n3_
               (try clear hb)
               (try clear hb2)
               (try clear hk)
               (try clear hi)
               obtain ⟨Ao48, co48, eo48⟩ := Kd.R_slice HO_8.out
               (first | subst eo48 | (injection eo48 with f1_ f2_ f3_; have f4_ := f1_.symm; have f5_ := f3_.symm; clear f1_ f2_ f3_; subst f4_; subst f5_))
               refine hK.out _ _ ⟨(blk_cell BK24001.out 0).trans rfl, (blk_cell BK24001.out 1).trans rfl, HS2_, HS3_, HS4_⟩ (fun hHeld => ?_)
               clear hK K
               refine noA (h := ?_)
               refine puA (i := 12) (N := some 41) HT_ (h := ?_)
               refine puA (i := 13) (N := some 42) HT_ (h := ?_)
               refine puA (i := 14) (N := some 43) HT_ (h := ?_)
               refine puA (i := 15) (N := some 44) HT_ (h := ?_)
               refine puA (i := 16) (N := some 45) HT_ (h := ?_)
               refine taA5 (i := 17) (N := some 46) HT_ HW_ hHeld (h := ?_)
               refine puA (i := 18) (N := some 47) HT_ (h := ?_)
               refine puA (i := 19) (N := some 48) HT_ (h := ?_)
               refine puA (i := 20) (N := some 49) HT_ (h := ?_)
               refine puA (i := 21) (N := some 50) HT_ (h := ?_)
               refine puA (i := 22) (N := some 51) HT_ (h := ?_)
               refine puA (i := 23) (N := some 52) HT_ (h := ?_)
               refine puA (i := 24) (N := some 53) HT_ (h := ?_)
               refine puA (i := 25) (N := some 54) HT_ (h := ?_)
               refine puA (i := 26) (N := some 55) HT_ (h := ?_)
               refine puA (i := 28) (N := some 57) HT_ (h := ?_)
               refine puA (i := 29) (N := some 58) HT_ (h := ?_)
               refine puA (i := 30) (N := some 59) HT_ (h := ?_)
               refine taA5 (i := 27) (N := some 56) HT_ HW_ hHeld (h := ?_)
               refine taA5 (i := 31) (N := some 60) HT_ HW_ hHeld (h := ?_)
               refine puA (i := 32) (N := some 61) HT_ (h := ?_)
               refine puA (i := 33) (N := some 62) HT_ (h := ?_)
               refine puA (i := 34) (N := some 63) HT_ (h := ?_)
               refine done_ (done_of HT_.out (by kernel_rfl)) ?_
               try go_wp2
               go_roundg k1
               case measure => have := HK1.out; omega
               case rel => exact ⟨(x9_1), (wrap64 (x10_1 + 1)), rs_, rs_, H', ⟨by have := HK1.out; omega⟩, ⟨pR HO_8.out⟩, ⟨pk BK24001.out⟩, ⟨pk BK24002.out⟩, ⟨pB2 HB.out GE24001.out GE24002.out⟩⟩
             ·rw [if_neg c37] at H
              exact absurd H (by simp)
            ·rw [if_neg c36] at H
             exact absurd H (by simp)
          ·rw [if_neg c29] at H
           have c29b0 : decide (0 < (rd t24007 x10_1)) = false := decide_eq_false c29
           clear c29
           have H' := aQ H
           clear H
           have hnb49 := NB24001_24002.out
           have hnc49 := NB24002_24001.out
           have hcz50_0 := bc (v := (.int .i64 a0_0)) BK24001.out 0
           have hcz50_1 := bc (v := (.slice A0_1 l0_1.length c0_1)) BK24001.out 1
           have hfz50_0 := blk_frozen BK24001.out 0
           have hfz50_1 := blk_frozen BK24001.out 1
           try go_wp2
           have n0_ := aQ (Kd.R_drew HO_8.out)
           have n1_ := aQ (blk_drew BK24001.out)
           have n2_ := aQ (blk_drew BK24002.out)
           have n3_ := aQ (below_drew1 HB.out)
           clear HO_8
           clear BK24001
           clear BK24002
           clear HB
           have HO_8 := n0_
           have BK24001 := n1_
           have BK24002 := n2_
           have HB := n3_
           clear n0_ n1_ n2_ n3_
           have p24012 : 0 ≤ (x10_1 : Int) := of_decide_eq_true as_
           have q24012 : x10_1 < (t24007.length : Int) := of_decide_eq_true as_
           obtain ⟨ad24012, e24012, hx24012_0⟩ := Kd.at_int (Kd.R_reads' HO_8.out).2.2 x10_1 p24012 q24012
           cases e24012
           replace p24012 := eq_true p24012
           replace q24012 := eq_true q24012
           refine start_ (n := 35) (S := fun w' => w'.cell? ⟨gb24001, 0, none⟩ = some (.int .i64 a0_0) ∧ w'.cell? ⟨gb24001, 1, none⟩ = some (.slice A0_1 l0_1.length c0_1) ∧ w'.cell? (ad24012.add (x10_1).toNat) = some (.int .i64 (rd t24007 x10_1))) (ds := []) #[false, false, false, false, false, false, false, false, false, false, false, false, false, false, false, false, false, false, false, false, false, false, false, false, false, false, false, false, false, false, false, false, false, false, false] (by kernel_rfl) rfl rfl ⟨(blk_cell BK24001.out 0).trans rfl, (blk_cell BK24001.out 1).trans rfl, hx24012_0⟩ (fun hHeld => ?_); refine with_tabW spec_AugmentingPath.tab8 spec_AugmentingPath.bits8 (fun HT_ HW_ => ?_)
           generalize wr.drew = w51 at HO_8 BK24001 BK24002 HB hx24012_0 hHeld ⊢
           refine puA (i := 0) (N := some 29) HT_ (h := ?_)
           refine puA (i := 1) (N := some 30) HT_ (h := ?_)
           refine onA (i := 2) (N := some 31) HT_ (h := fun K hK => ?_)
           refine goes_ Try.func68 (by kernel_rfl) rfl #[.int .i64 a2, .int .i64 x10_1] (by rfl) rfl rfl lm ?_
           with_reducible refine (spec_l2Has.calls a2 x10_1 false _ A17.out).mono ?_
           rintro e w' ⟨rfl, ⟨nd, rfl⟩⟩
           refine ⟨_, rfl, ?_⟩
           refine hK.out _ _ ⟨(blk_cell BK24001.out 0).trans rfl, (blk_cell BK24001.out 1).trans rfl, hHeld.2.2⟩ (fun hHeld => ?_)
           clear hK K
           refine noA (h := ?_)
           refine puA (i := 3) (N := some 32) HT_ (h := ?_)
           refine puA (i := 4) (N := some 33) HT_ (h := ?_)
           refine puA (i := 6) (N := some 35) HT_ (h := ?_)
           refine puA (i := 7) (N := some 36) HT_ (h := ?_)
           refine puA (i := 8) (N := some 37) HT_ (h := ?_)
           refine puA (i := 9) (N := some 38) HT_ (h := ?_)
           refine puA (i := 10) (N := some 39) HT_ (h := ?_)
           refine taA3 (i := 5) (N := some 34) HT_ HW_ hHeld (h := ?_)
           refine onA (i := 11) (N := some 40) HT_ (h := fun K hK => ?_)
           refine goes_ Try.func69 (by kernel_rfl) rfl #[.agg #[.int .i64 a0_0, .slice A0_1 l0_1.length c0_1], .int .i64 (Go.bits .or .i64 a2 (ji24))] (by rfl) rfl rfl (by (try simp only [List.map_toArray, List.map_cons, List.map_nil]); first | done | (simp only [hji24]; rfl) | rfl | (simp only [List.length_drop, List.length_take]; rfl)) ?_
           with_reducible refine (spec_l20Free.calls k1 a0_0 _ _ l0_1 (Go.bits .or .i64 a2 (ji24)) true _ ?side1 ?side2 A25.out).mono ?_
           (case side1 => repeat (first | exact (Kd.C_below HR0_1.out (pB2 HB.out GE24001.out GE24002.out)) | (with_reducible refine Kd.C_alloc ?_ _) | (with_reducible refine Kd.C_drewN ?_ _) | (with_reducible refine Kd.C_drew ?_)))
           (case side2 => exact HC0_1.out)
           rintro e w52 ⟨rfl, hb⟩
           have HS2_ := (hb.cell (World.block_lt_of_cell? _ _ (hHeld.2.2))).trans (hHeld.2.2)
           refine ⟨_, rfl, ?_⟩
           have n0_ := aQ (Kd.R_below (pR HO_8.out) hb)
           have n1_ := aQ (blk_below (g := gb24001) (o := .cells #[.int .i64 a0_0, .slice A0_1 l0_1.length c0_1] 26 (0, 0)) (pk BK24001.out) hb)
           have n2_ := aQ (blk_below (g := gb24002) (o := .cells #[.int .i64 a1_0, .slice A1_1 l1_1.length c1_1] 26 (0, 0)) (pk BK24002.out) hb)
           have n3_ := aQ (below_step (pB2 HB.out GE24001.out GE24002.out) hb)
           clear HO_8
           clear BK24001
           clear BK24002
           clear HB
           have HO_8 := n0_
           have BK24001 := n1_
           have BK24002 := n2_
           have HB := n3_
           clear n0_ n1_ n2_ n3_
           (try clear hb)
           (try clear hb2)
           (try clear hk)
           (try clear hi)
           obtain ⟨Ao53, co53, eo53⟩ := Kd.R_slice HO_8.out
           (first | subst eo53 | (injection eo53 with f1_ f2_ f3_; have f4_ := f1_.symm; have f5_ := f3_.symm; clear f1_ f2_ f3_; subst f4_; subst f5_))
           refine hK.out _ _ ⟨(blk_cell BK24001.out 0).trans rfl, (blk_cell BK24001.out 1).trans rfl, HS2_⟩ (fun hHeld => ?_)
           clear hK K
           refine noA (h := ?_)
           refine puA (i := 12) (N := some 41) HT_ (h := ?_)
           refine puA (i := 13) (N := some 42) HT_ (h := ?_)
           refine puA (i := 14) (N := some 43) HT_ (h := ?_)
           refine puA (i := 15) (N := some 44) HT_ (h := ?_)
           refine puA (i := 16) (N := some 45) HT_ (h := ?_)
           refine taA3 (i := 17) (N := some 46) HT_ HW_ hHeld (h := ?_)
           refine puA (i := 18) (N := some 47) HT_ (h := ?_)
           refine puA (i := 19) (N := some 48) HT_ (h := ?_)
           refine puA (i := 20) (N := some 49) HT_ (h := ?_)
           refine puU (i := 21) (N := some 50) HT_ (h := ?_)
           refine puU (i := 22) (N := some 51) HT_ (h := ?_)
           refine puU (i := 23) (N := some 52) HT_ (h := ?_)
           refine puU (i := 24) (N := some 53) HT_ (h := ?_)
           refine puU (i := 25) (N := some 54) HT_ (h := ?_)
           refine puU (i := 26) (N := some 55) HT_ (h := ?_)
           refine puU (i := 27) (N := some 56) HT_ (h := ?_)
           refine puU (i := 28) (N := some 57) HT_ (h := ?_)
           refine puU (i := 29) (N := some 58) HT_ (h := ?_)
           refine puU (i := 30) (N := some 59) HT_ (h := ?_)
           refine puU (i := 31) (N := some 60) HT_ (h := ?_)
           refine puU (i := 32) (N := some 61) HT_ (h := ?_)
           refine puU (i := 33) (N := some 62) HT_ (h := ?_)
           refine puA (i := 34) (N := some 63) HT_ (h := ?_)
           refine done_ (done_of HT_.out (by kernel_rfl)) ?_
           try go_wp2
           go_roundg k1
           case measure => have := HK1.out; omega
           case rel => exact ⟨(x9_1), (wrap64 (x10_1 + 1)), rs_, rs_, H', ⟨by have := HK1.out; omega⟩, ⟨pR HO_8.out⟩, ⟨pk BK24001.out⟩, ⟨pk BK24002.out⟩, ⟨pB2 HB.out GE24001.out GE24002.out⟩⟩
         ·rw [if_neg c28] at H
          exact absurd H (by simp)
        ·rw [if_neg c27] at H
         exact absurd H (by simp)
       ·replace c26 := Bool.eq_false_iff.mpr c26
        subst c26
        have H1 : (spec_AugmentingPath.l0 k1 a2 t24007 x9_1 (wrap64 (x10_1 + 1)) a0_0 l0_1 a1_0 l1_1) = some (r1, r2) := by rw [if_neg (show ¬ (false = true) by decide)] at H; exact H
        clear H
        have H := H1
        clear H1
        have H' := aQ H
        clear H
        have hnb54 := NB24001_24002.out
        have hnc54 := NB24002_24001.out
        have hcz55_0 := bc (v := (.int .i64 a0_0)) BK24001.out 0
        have hcz55_1 := bc (v := (.slice A0_1 l0_1.length c0_1)) BK24001.out 1
        have hfz55_0 := blk_frozen BK24001.out 0
        have hfz55_1 := blk_frozen BK24001.out 1
        try go_wp2
        have n0_ := aQ (Kd.R_drew HO_8.out)
        have n1_ := aQ (blk_drew BK24001.out)
        have n2_ := aQ (blk_drew BK24002.out)
        have n3_ := aQ (below_drew1 HB.out)
        clear HO_8
        clear BK24001
        clear BK24002
        clear HB
        have HO_8 := n0_
        have BK24001 := n1_
        have BK24002 := n2_
        have HB := n3_
        clear n0_ n1_ n2_ n3_
        refine start_ (n := 35) (S := fun w' => w'.cell? ⟨gb24001, 0, none⟩ = some (.int .i64 a0_0) ∧ w'.cell? ⟨gb24001, 1, none⟩ = some (.slice A0_1 l0_1.length c0_1)) (ds := []) #[false, false, false, false, false, false, false, false, false, false, false, false, false, false, false, false, false, false, false, false, false, false, false, false, false, false, false, false, false, false, false, false, false, false, false] (by kernel_rfl) rfl rfl ⟨(blk_cell BK24001.out 0).trans rfl, (blk_cell BK24001.out 1).trans rfl⟩ (fun hHeld => ?_); refine with_tabW spec_AugmentingPath.tab8 spec_AugmentingPath.bits8 (fun HT_ HW_ => ?_)
        generalize wr.drew = w56 at HO_8 BK24001 BK24002 HB hHeld ⊢
        refine puA (i := 0) (N := some 29) HT_ (h := ?_)
        refine puA (i := 1) (N := some 30) HT_ (h := ?_)
        refine onA (i := 2) (N := some 31) HT_ (h := fun K hK => ?_)
        refine goes_ Try.func68 (by kernel_rfl) rfl #[.int .i64 a2, .int .i64 x10_1] (by rfl) rfl rfl lm ?_
        with_reducible refine (spec_l2Has.calls a2 x10_1 false _ A17.out).mono ?_
        rintro e w' ⟨rfl, ⟨nd, rfl⟩⟩
        refine ⟨_, rfl, ?_⟩
        refine hK.out _ _ ⟨(blk_cell BK24001.out 0).trans rfl, (blk_cell BK24001.out 1).trans rfl⟩ (fun hHeld => ?_)
        clear hK K
        refine noA (h := ?_)
        refine puA (i := 3) (N := some 32) HT_ (h := ?_)
        refine puA (i := 4) (N := some 33) HT_ (h := ?_)
        refine puA (i := 6) (N := some 35) HT_ (h := ?_)
        refine puA (i := 7) (N := some 36) HT_ (h := ?_)
        refine puA (i := 8) (N := some 37) HT_ (h := ?_)
        refine puA (i := 9) (N := some 38) HT_ (h := ?_)
        refine puA (i := 10) (N := some 39) HT_ (h := ?_)
        refine taA2 (i := 5) (N := some 34) HT_ HW_ hHeld (h := ?_)
        refine onA (i := 11) (N := some 40) HT_ (h := fun K hK => ?_)
        refine goes_ Try.func69 (by kernel_rfl) rfl #[.agg #[.int .i64 a0_0, .slice A0_1 l0_1.length c0_1], .int .i64 (Go.bits .or .i64 a2 (ji24))] (by rfl) rfl rfl (by (try simp only [List.map_toArray, List.map_cons, List.map_nil]); first | done | (simp only [hji24]; rfl) | rfl | (simp only [List.length_drop, List.length_take]; rfl)) ?_
        with_reducible refine (spec_l20Free.calls k1 a0_0 _ _ l0_1 (Go.bits .or .i64 a2 (ji24)) false _ ?side1 ?side2 A25.out).mono ?_
        (case side1 => repeat (first | exact (Kd.C_below HR0_1.out (pB2 HB.out GE24001.out GE24002.out)) | (with_reducible refine Kd.C_alloc ?_ _) | (with_reducible refine Kd.C_drewN ?_ _) | (with_reducible refine Kd.C_drew ?_)))
        (case side2 => exact HC0_1.out)
        rintro e w57 ⟨rfl, hb⟩
        refine ⟨_, rfl, ?_⟩
        have n0_ := aQ (Kd.R_below (pR HO_8.out) hb)
        have n1_ := aQ (blk_below (g := gb24001) (o := .cells #[.int .i64 a0_0, .slice A0_1 l0_1.length c0_1] 26 (0, 0)) (pk BK24001.out) hb)
        have n2_ := aQ (blk_below (g := gb24002) (o := .cells #[.int .i64 a1_0, .slice A1_1 l1_1.length c1_1] 26 (0, 0)) (pk BK24002.out) hb)
        have n3_ := aQ (below_step (pB2 HB.out GE24001.out GE24002.out) hb)
        clear HO_8
        clear BK24001
        clear BK24002
        clear HB
        have HO_8 := n0_
        have BK24001 := n1_
        have BK24002 := n2_
        have HB := n3_
        clear n0_ n1_ n2_ n3_
        (try clear hb)
        (try clear hb2)
        (try clear hk)
        (try clear hi)
        refine hK.out _ _ ⟨(blk_cell BK24001.out 0).trans rfl, (blk_cell BK24001.out 1).trans rfl⟩ (fun hHeld => ?_)
        clear hK K
        refine noA (h := ?_)
        refine puA (i := 12) (N := some 41) HT_ (h := ?_)
        refine puA (i := 13) (N := some 42) HT_ (h := ?_)
        refine puU (i := 14) (N := some 43) HT_ (h := ?_)
        refine puU (i := 15) (N := some 44) HT_ (h := ?_)
        refine puU (i := 16) (N := some 45) HT_ (h := ?_)
        refine puU (i := 17) (N := some 46) HT_ (h := ?_)
        refine puU (i := 18) (N := some 47) HT_ (h := ?_)
        refine puA (i := 19) (N := some 48) HT_ (h := ?_)
        refine puA (i := 20) (N := some 49) HT_ (h := ?_)
        refine puU (i := 21) (N := some 50) HT_ (h := ?_)
        refine puU (i := 22) (N := some 51) HT_ (h := ?_)
        refine puU (i := 23) (N := some 52) HT_ (h := ?_)
        refine puU (i := 24) (N := some 53) HT_ (h := ?_)
        refine puU (i := 25) (N := some 54) HT_ (h := ?_)
        refine puU (i := 26) (N := some 55) HT_ (h := ?_)
        refine puU (i := 27) (N := some 56) HT_ (h := ?_)
        refine puU (i := 28) (N := some 57) HT_ (h := ?_)
        refine puU (i := 29) (N := some 58) HT_ (h := ?_)
        refine puU (i := 30) (N := some 59) HT_ (h := ?_)
        refine puU (i := 31) (N := some 60) HT_ (h := ?_)
        refine puU (i := 32) (N := some 61) HT_ (h := ?_)
        refine puU (i := 33) (N := some 62) HT_ (h := ?_)
        refine puA (i := 34) (N := some 63) HT_ (h := ?_)
        refine done_ (done_of HT_.out (by kernel_rfl)) ?_
        try go_wp2
        go_roundg k1
        case measure => have := HK1.out; omega
        case rel => exact ⟨(x9_1), (wrap64 (x10_1 + 1)), rs_, rs_, H', ⟨by have := HK1.out; omega⟩, ⟨pR HO_8.out⟩, ⟨pk BK24001.out⟩, ⟨pk BK24002.out⟩, ⟨pB2 HB.out GE24001.out GE24002.out⟩⟩
      ·rw [if_neg c23] at H
       exact absurd H (by simp)
    ·rw [if_neg c16] at H
     have c16b0 : decide (x10_1 < a0_0) = false := decide_eq_false c16
     clear c16
     by_cases c58 : x9_1 < 0
     ·rw [if_pos c58] at H
      have c58b0 : decide (x9_1 < 0) = true := decide_eq_true c58
      clear c58
      obtain ⟨y24015, hy24015⟩ : ∃ y_ : List Int, y_ = (([] : List Int)) := ⟨_, rfl⟩
      replace H : (some (y24015, false)) = some (r1, r2) := by first | (rw [hy24015]; with_reducible exact H) | (have H2_ := (Option.bind_some _ _).symm.trans H; rw [hy24015]; with_reducible exact H2_) | (have H2_ := (Option.bind_some _ _).symm.trans H; with_reducible exact H2_) | with_reducible exact H | (rw [hy24015]; exact H) | exact H
      have Ny24015 := aQ hy24015
      clear hy24015
      simp only [Option.some.injEq, Prod.mk.injEq] at H
      obtain ⟨rfl, rfl⟩ := H
      have hnb59 := NB24001_24002.out
      have hnc59 := NB24002_24001.out
      have hcz60_0 := bc (v := (.int .i64 a0_0)) BK24001.out 0
      have hcz60_1 := bc (v := (.slice A0_1 l0_1.length c0_1)) BK24001.out 1
      have hfz60_0 := blk_frozen BK24001.out 0
      have hfz60_1 := blk_frozen BK24001.out 1
      go_wp2_with (first | ((with_reducible refine gate_dst (N := 67) rfl ?_); refine Kd.R_lit (Kd.int .i64) _ 3 ?hg (N := 67) ?hd (xs := ([] : List Int)) (inner := []) (ok := fun _ => True) (okp := fun _ => True) ?hr ?hp (fun _ hk => hk) trivial (Below.refl _ _) (Nat.le_refl _) (by simp) ?_; (case hd => rfl); (case hg => rfl); (case hr => first | (go_simp; done) | (go_simp; rfl)); (case hp => exact (Reps.none _ _)); intro v24016 w61 ho62 hb hg_ hnew_; clear hg_ hnew_; (first | rw [← Ny24015.out] at ho62 | (simp only [Int.reduceToNat] at ho62; rw [← Ny24015.out] at ho62)); have HO24017 := aQ (Kd.R_lower (Kd.R_new' ho62 (Kd.R_lt (pR HO_8.out))) (below_size (pB2 HB.out GE24001.out GE24002.out))); replace HO_8 := aQ (Kd.R_elder' (pR HO_8.out) (Kd.R_base ho62) hb); replace BK24001 := aQ (blk_below (g := gb24001) (o := .cells #[.int .i64 a0_0, .slice A0_1 l0_1.length c0_1] 26 (0, 0)) (pk BK24001.out) hb); replace BK24002 := aQ (blk_below (g := gb24002) (o := .cells #[.int .i64 a1_0, .slice A1_1 l1_1.length c1_1] 26 (0, 0)) (pk BK24002.out) hb); replace HB := aQ (below_step (pB2 HB.out GE24001.out GE24002.out) hb); clear hb ho62))
      go_ret2
      exact ⟨_, by first | rfl | (simp [errW_none, errW_some] <;> rfl) | (simp [*, errW_none, errW_some] <;> rfl), by (with_reducible repeat (first | apply Kd.R_alloc | apply Kd.R_drewN | apply Kd.R_drew)); exact Kd.R_mono HO24017.out (fun _ hk => trivial), pB2 HB.out GE24001.out GE24002.out⟩
     ·rw [if_neg c58] at H
      have c58b0 : decide (x9_1 < 0) = false := decide_eq_false c58
      clear c58
      obtain ⟨y24018, hy24018⟩ : ∃ y_ : List Int, y_ = (([x9_1] : List Int)) := ⟨_, rfl⟩
      replace H : (spec_AugmentingPath.l1 k1 a2 t24007 x9_1 y24018 a0_0 l0_1 a1_0 l1_1) = some (r1, r2) := by first | (rw [hy24018]; with_reducible exact H) | (have H2_ := (Option.bind_some _ _).symm.trans H; rw [hy24018]; with_reducible exact H2_) | (have H2_ := (Option.bind_some _ _).symm.trans H; with_reducible exact H2_) | with_reducible exact H | (rw [hy24018]; exact H) | exact H
      have Ny24018 := aQ hy24018
      clear hy24018
      have H' := aQ H
      clear H
      have hnb63 := NB24001_24002.out
      have hnc63 := NB24002_24001.out
      have hcz64_0 := bc (v := (.int .i64 a0_0)) BK24001.out 0
      have hcz64_1 := bc (v := (.slice A0_1 l0_1.length c0_1)) BK24001.out 1
      have hfz64_0 := blk_frozen BK24001.out 0
      have hfz64_1 := blk_frozen BK24001.out 1
      go_wp2_with (first | ((with_reducible refine gate_dst (N := 69) rfl ?_); refine Kd.R_lit (Kd.int .i64) _ 3 ?hg (N := 69) ?hd (xs := ([x9_1] : List Int)) (inner := [.int .i64 x9_1]) (ok := fun _ => True) (okp := fun _ => True) ?hr ?hp (fun _ hk => hk) trivial (Below.refl _ _) (Nat.le_refl _) (by simp) ?_; (case hd => rfl); (case hg => rfl); (case hr => first | (go_simp; done) | (go_simp; rfl)); (case hp => exact (Reps.one (show Kd.M (Kd.int .i64) _ _ _ x9_1 [.int .i64 x9_1] from rfl) (Reps.none _ _))); intro v24019 w65 ho66 hb hg_ hnew_; clear hg_ hnew_; (first | rw [← Ny24018.out] at ho66 | (simp only [Int.reduceToNat] at ho66; rw [← Ny24018.out] at ho66)); have HO24020 := aQ (Kd.R_lower (Kd.R_new' ho66 (Kd.R_lt (pR HO_8.out))) (below_size (pB2 HB.out GE24001.out GE24002.out))); replace HO_8 := aQ (Kd.R_elder' (pR HO_8.out) (Kd.R_base ho66) hb); replace BK24001 := aQ (blk_below (g := gb24001) (o := .cells #[.int .i64 a0_0, .slice A0_1 l0_1.length c0_1] 26 (0, 0)) (pk BK24001.out) hb); replace BK24002 := aQ (blk_below (g := gb24002) (o := .cells #[.int .i64 a1_0, .slice A1_1 l1_1.length c1_1] 26 (0, 0)) (pk BK24002.out) hb); replace HB := aQ (below_step (pB2 HB.out GE24001.out GE24002.out) hb); clear hb ho66))
      go_loopg [9, 11] k1 (fun kq v9 v11 w' => ∃ (x9_2 : Int) (x11_2 : List Int), v9 = .int .i64 x9_2 ∧ Aside0 (spec_AugmentingPath.l1 kq a2 t24007 x9_2 x11_2 a0_0 l0_1 a1_0 l1_1 = some (r1, r2)) ∧ Aside0 (kq ≤ k1) ∧ Aside0 (Kd.R (Kd.int .i64) 3 w' w.heap.size (fun k_ => some k_ ≠ (v11 : Value).ownBlock) (.slice Ao24008 t24007.length co24008 : Value) t24007) ∧ Aside0 (Kd.R (Kd.int .i64) 3 w' w.heap.size (fun k_ => some k_ ≠ ((.slice Ao24008 t24007.length co24008 : Value) : Value).ownBlock) v11 x11_2) ∧ Aside0 (w'.heap[gb24001]? = some (.cells #[.int .i64 a0_0, (.slice A0_1 l0_1.length c0_1)] 26 (0, 0))) ∧ Aside0 (w'.heap[gb24002]? = some (.cells #[.int .i64 a1_0, (.slice A1_1 l1_1.length c1_1)] 26 (0, 0))) ∧ Aside0 (Below w.heap.size w w'))
      case atStart => exact ⟨(x9_1), (y24018), rs_, H', ⟨Nat.le_refl _⟩, ⟨by (with_reducible repeat (first | apply Kd.R_alloc | apply Kd.R_drewN | apply Kd.R_drew)); exact Kd.R_mono HO_8.out (fun _ hk => hk.2)⟩, ⟨by (with_reducible repeat (first | apply Kd.R_alloc | apply Kd.R_drewN | apply Kd.R_drew)); exact Kd.R_mono HO24020.out (fun _ hk => hk.2)⟩, ⟨pk BK24001.out⟩, ⟨pk BK24002.out⟩, ⟨pB2 HB.out GE24001.out GE24002.out⟩⟩
      case round =>
       clear H'
       try clear c1
       try clear c2
       try clear p2
       try clear q2
       try clear hx2
       try clear c5
       try clear c6
       try clear p6
       try clear c16
       try clear c16b0
       try clear c23
       try clear p24
       try clear q24
       try clear hx24
       try clear c26
       try clear c27
       try clear c28
       try clear c54
       try clear c58
       try clear c58b0
       try clear c59
       try clear c63
       try clear p64
       try clear hcz55_0
       try clear hcz55_1
       try clear hcz60_0
       try clear hcz60_1
       try clear hcz64_0
       try clear hcz64_1
       try clear hfz55_0
       try clear hfz55_1
       try clear hfz60_0
       try clear hfz60_1
       try clear hfz64_0
       try clear hfz64_1
       try clear hx24012_0
       try clear p24012
       try clear q24012
       obtain ⟨x9_2, x11_2, rfl, HA, HK2, HO_8, HO_11, BK24001, BK24002, HB⟩ := hrel
       cases gk with
       | zero => exact absurd HA.out (by simp [spec_AugmentingPath.l1])
       | succ k2 =>
        have H := HA.out
        clear HA
        simp only [spec_AugmentingPath.l1] at H
        by_cases c67 : 0 ≤ x9_2
        ·rw [if_pos c67] at H
         have c67b0 : decide (0 ≤ x9_2) = true := decide_eq_true c67
         clear c67
         by_cases c68 : x9_2 < (t24007.length : Int)
         ·rw [if_pos c68] at H
          have c68b0 : decide (x9_2 < (t24007.length : Int)) = true := decide_eq_true c68
          clear c68
          by_cases c69 : (rd t24007 x9_2) > 1
          ·rw [if_pos c69] at H
           have c69b0 : decide (1 < (rd t24007 x9_2)) = true := decide_eq_true c69
           clear c69
           have H' := aQ H
           clear H
           have p24021 : 0 ≤ (x9_2 : Int) := of_decide_eq_true as_
           have q24021 : x9_2 < (t24007.length : Int) := of_decide_eq_true as_
           obtain ⟨ad24021, e24021, hx24021_0⟩ := Kd.at_int (Kd.R_reads' HO_8.out).2.2 x9_2 p24021 q24021
           cases e24021
           replace p24021 := eq_true p24021
           replace q24021 := eq_true q24021
           go_wp2
           go_loopg [12] k2 (fun kq v12 w' => ∃ (x12_3 : Int), v12 = .int .i64 x12_3 ∧ Aside0 (spec_AugmentingPath.l2 kq a2 t24007 x9_2 x11_2 x12_3 a0_0 l0_1 a1_0 l1_1 = some (r1, r2)) ∧ Aside0 (kq ≤ k2) ∧ Aside0 (Kd.R (Kd.int .i64) 3 w' w.heap.size (fun k_ => some k_ ≠ (u11 : Value).ownBlock) (.slice (some ad24021) t24007.length co24008) t24007) ∧ Aside0 (Kd.R (Kd.int .i64) 3 w' w.heap.size (fun k_ => some k_ ≠ ((.slice (some ad24021) t24007.length co24008) : Value).ownBlock) u11 x11_2) ∧ Aside0 (w'.heap[gb24001]? = some (.cells #[.int .i64 a0_0, (.slice A0_1 l0_1.length c0_1)] 26 (0, 0))) ∧ Aside0 (w'.heap[gb24002]? = some (.cells #[.int .i64 a1_0, (.slice A1_1 l1_1.length c1_1)] 26 (0, 0))) ∧ Aside0 (Below w.heap.size w w'))
           case atStart => exact ⟨(0), rs_, H', ⟨Nat.le_refl _⟩, ⟨pR HO_8.out⟩, ⟨pR HO_11.out⟩, ⟨pk BK24001.out⟩, ⟨pk BK24002.out⟩, ⟨pB2 HB.out GE24001.out GE24002.out⟩⟩
           case round =>
            clear H'
            try clear c1
            try clear c2
            try clear p2
            try clear q2
            try clear hx2
            try clear c5
            try clear c6
            try clear p6
            try clear c16
            try clear c16b0
            try clear c23
            try clear p24
            try clear q24
            try clear hx24
            try clear c26
            try clear c27
            try clear c28
            try clear c54
            try clear c58
            try clear c58b0
            try clear c59
            try clear c63
            try clear p64
            try clear c67
            try clear c67b0
            try clear c68
            try clear c68b0
            try clear c69
            try clear c69b0
            try clear hcz55_0
            try clear hcz55_1
            try clear hcz60_0
            try clear hcz60_1
            try clear hcz64_0
            try clear hcz64_1
            try clear hfz55_0
            try clear hfz55_1
            try clear hfz60_0
            try clear hfz60_1
            try clear hfz64_0
            try clear hfz64_1
            try clear hx24012_0
            try clear hx24021_0
            try clear p2
            try clear p24
            try clear p24012
            try clear p24021
            try clear p6
            try clear p64
            try clear q2
            try clear q24
            try clear q24012
            try clear q24021
            obtain ⟨x12_3, rfl, HA, HK3, HO_8, HO_11, BK24001, BK24002, HB⟩ := hrel
            cases gk with
            | zero => exact absurd HA.out (by simp [spec_AugmentingPath.l2])
            | succ k3 =>
             have H := HA.out
             clear HA
             simp only [spec_AugmentingPath.l2] at H
             by_cases c71 : 0 ≤ x12_3
             ·rw [if_pos c71] at H
              have c71b0 : decide (0 ≤ x12_3) = true := decide_eq_true c71
              clear c71
              by_cases c72 : x12_3 < (t24007.length : Int)
              ·rw [if_pos c72] at H
               have c72b0 : decide (x12_3 < (t24007.length : Int)) = true := decide_eq_true c72
               clear c72
               by_cases c73 : 0 ≤ x9_2
               ·rw [if_pos c73] at H
                have c73b0 : decide (0 ≤ x9_2) = true := decide_eq_true c73
                clear c73
                by_cases c74 : x9_2 < (t24007.length : Int)
                ·rw [if_pos c74] at H
                 have c74b0 : decide (x9_2 < (t24007.length : Int)) = true := decide_eq_true c74
                 clear c74
                 by_cases c75 : (rd t24007 x12_3) = (wrap64 ((rd t24007 x9_2) - 1))
                 ·rw [if_pos c75] at H
                  have c75b0 : ((rd t24007 x12_3) == (wrap64 ((rd t24007 x9_2) - 1))) = true := beq_iff_eq.mpr c75
                  have c75b1 : ((rd t24007 x12_3) != (wrap64 ((rd t24007 x9_2) - 1))) = false := bne_eq_false_iff_eq.mpr c75
                  clear c75
                  replace H := Option.bind_eq_some_iff.mp H
                  obtain ⟨t24024, A760, H⟩ := H
                  replace H : (if t24024 = true then (if x11_2.length < 17592186044416 then (spec_AugmentingPath.l1 k3 a2 t24007 x12_3 (x11_2 ++ [x12_3]) a0_0 l0_1 a1_0 l1_1) else (none)) else (spec_AugmentingPath.l2 k3 a2 t24007 x9_2 x11_2 (wrap64 (x12_3 + 1)) a0_0 l0_1 a1_0 l1_1)) = some (r1, r2) := H
                  have A76 := aQ A760
                  clear A760
                  by_cases c77 : t24024 = true
                  ·subst c77
                   have H1 : (if x11_2.length < 17592186044416 then (spec_AugmentingPath.l1 k3 a2 t24007 x12_3 (x11_2 ++ [x12_3]) a0_0 l0_1 a1_0 l1_1) else (none)) = some (r1, r2) := by rw [if_pos rfl] at H; exact H
                   clear H
                   have H := H1
                   clear H1
                   by_cases c78 : x11_2.length < 17592186044416
                   ·rw [if_pos c78] at H
                    have LMc78 := aQ c78
                    clear c78
                    obtain ⟨y24025, hy24025⟩ : ∃ y_ : List Int, y_ = (x11_2 ++ [x12_3]) := ⟨_, rfl⟩
                    replace H : (spec_AugmentingPath.l1 k3 a2 t24007 x12_3 y24025 a0_0 l0_1 a1_0 l1_1) = some (r1, r2) := by first | (rw [hy24025]; with_reducible exact H) | (have H2_ := (Option.bind_some _ _).symm.trans H; rw [hy24025]; with_reducible exact H2_) | (have H2_ := (Option.bind_some _ _).symm.trans H; with_reducible exact H2_) | with_reducible exact H | (rw [hy24025]; exact H) | exact H
                    have Ny24025 := aQ hy24025
                    clear hy24025
                    have H' := aQ H
                    clear H
                    try go_wp2
                    have n0_ := aQ (Kd.R_drew HO_8.out)
                    have n1_ := aQ (Kd.R_drew HO_11.out)
                    have n2_ := aQ (blk_drew BK24001.out)
                    have n3_ := aQ (blk_drew BK24002.out)
                    have n4_ := aQ (below_drew1 HB.out)
                    clear HO_8
                    clear HO_11
                    clear BK24001
                    clear BK24002
                    clear HB
                    have HO_8 := n0_
                    have HO_11 := n1_
                    have BK24001 := n2_
                    have BK24002 := n3_
                    have HB := n4_
                    clear n0_ n1_ n2_ n3_ n4_
                    have p24022 : 0 ≤ (x12_3 : Int) := of_decide_eq_true as_
                    have q24022 : x12_3 < (t24007.length : Int) := of_decide_eq_true as_
                    obtain ⟨ad24022, e24022, hx24022_0⟩ := Kd.at_int (Kd.R_reads' HO_8.out).2.2 x12_3 p24022 q24022
                    obtain rfl : ad24021 = ad24022 := (by injection e24022)
                    replace p24022 := eq_true p24022
                    replace q24022 := eq_true q24022
                    have p24023 : 0 ≤ (x9_2 : Int) := of_decide_eq_true as_
                    have q24023 : x9_2 < (t24007.length : Int) := of_decide_eq_true as_
                    obtain ⟨ad24023, e24023, hx24023_0⟩ := Kd.at_int (Kd.R_reads' HO_8.out).2.2 x9_2 p24023 q24023
                    obtain rfl : ad24021 = ad24023 := (by injection e24023)
                    replace p24023 := eq_true p24023
                    replace q24023 := eq_true q24023
                    refine start_ (n := 19) (S := fun w' => w'.cell? ⟨gb24001, 0, none⟩ = some (.int .i64 a0_0) ∧ w'.cell? ⟨gb24001, 1, none⟩ = some (.slice A0_1 l0_1.length c0_1) ∧ w'.cell? ⟨gb24002, 0, none⟩ = some (.int .i64 a1_0) ∧ w'.cell? ⟨gb24002, 1, none⟩ = some (.slice A1_1 l1_1.length c1_1) ∧ w'.cell? (ad24021.add (x12_3).toNat) = some (.int .i64 (rd t24007 x12_3)) ∧ w'.cell? (ad24021.add (x9_2).toNat) = some (.int .i64 (rd t24007 x9_2))) (ds := []) #[false, false, false, false, false, false, false, false, false, false, false, false, false, false, false, false, false, false, false] (by kernel_rfl) rfl rfl ⟨(blk_cell BK24001.out 0).trans rfl, (blk_cell BK24001.out 1).trans rfl, (blk_cell BK24002.out 0).trans rfl, (blk_cell BK24002.out 1).trans rfl, hx24022_0, hx24023_0⟩ (fun hHeld => ?_); refine with_tabW spec_AugmentingPath.tab15 spec_AugmentingPath.bits15 (fun HT_ HW_ => ?_)
                    generalize wr.drew = w79 at HO_8 HO_11 BK24001 BK24002 HB hx24022_0 hx24023_0 hHeld ⊢
                    refine puA (i := 0) (N := some 75) HT_ (h := ?_)
                    refine puA (i := 1) (N := some 76) HT_ (h := ?_)
                    refine puA (i := 2) (N := some 77) HT_ (h := ?_)
                    refine puA (i := 4) (N := some 79) HT_ (h := ?_)
                    refine puA (i := 5) (N := some 80) HT_ (h := ?_)
                    refine puA (i := 6) (N := some 81) HT_ (h := ?_)
                    refine taA6 (i := 3) (N := some 78) HT_ HW_ hHeld (h := ?_)
                    refine taA6 (i := 7) (N := some 82) HT_ HW_ hHeld (h := ?_)
                    refine puA (i := 8) (N := some 83) HT_ (h := ?_)
                    refine puA (i := 9) (N := some 84) HT_ (h := ?_)
                    refine puA (i := 10) (N := some 85) HT_ (h := ?_)
                    refine puA (i := 13) (N := some 88) HT_ (h := ?_)
                    refine puA (i := 14) (N := some 89) HT_ (h := ?_)
                    refine puA (i := 15) (N := some 90) HT_ (h := ?_)
                    refine taA6 (i := 11) (N := some 86) HT_ HW_ hHeld (h := ?_)
                    refine taA6 (i := 12) (N := some 87) HT_ HW_ hHeld (h := ?_)
                    refine onA (i := 16) (N := some 91) HT_ (h := fun K hK => ?_)
                    refine goes_ Try.func70 (by kernel_rfl) rfl #[.agg #[.int .i64 a0_0, .slice A0_1 l0_1.length c0_1], .agg #[.int .i64 a1_0, .slice A1_1 l1_1.length c1_1], .int .i64 a2, .int .i64 x9_2, .int .i64 x12_3] (by rfl) rfl rfl lm ?_
                    with_reducible refine (spec_l20Step.calls k3 a0_0 _ _ l0_1 a1_0 _ _ l1_1 a2 x9_2 x12_3 true _ ?side1 ?side2 ?side3 ?side4 A76.out).mono ?_
                    (case side1 => exact pC (Kd.C_below HR0_1.out HB.out))
                    (case side2 => exact HC0_1.out)
                    (case side3 => exact pC (Kd.C_below HR1_1.out HB.out))
                    (case side4 => exact HC1_1.out)
                    rintro e w80 ⟨rfl, hb⟩
                    have HS4_ := (hb.cell (World.block_lt_of_cell? _ _ (hHeld.2.2.2.2.1))).trans (hHeld.2.2.2.2.1)
                    have HS5_ := (hb.cell (World.block_lt_of_cell? _ _ (hHeld.2.2.2.2.2))).trans (hHeld.2.2.2.2.2)
                    refine ⟨_, rfl, ?_⟩
                    have n0_ := aQ (Kd.R_below (pR HO_8.out) hb)
                    have n1_ := aQ (Kd.R_below (pR HO_11.out) hb)
                    have n2_ := aQ (blk_below (g := gb24001) (o := .cells #[.int .i64 a0_0, .slice A0_1 l0_1.length c0_1] 26 (0, 0)) (pk BK24001.out) hb)
                    have n3_ := aQ (blk_below (g := gb24002) (o := .cells #[.int .i64 a1_0, .slice A1_1 l1_1.length c1_1] 26 (0, 0)) (pk BK24002.out) hb)
                    have n4_ := aQ (below_step (pB2 HB.out GE24001.out GE24002.out) hb)
                    clear HO_8
                    clear HO_11
                    clear BK24001
                    clear BK24002
                    clear HB
                    have HO_8 := n0_
                    have HO_11 := n1_
                    have BK24001 := n2_
                    have BK24002 := n3_
                    have HB := n4_
                    clear n0_ n1_ n2_ n3_ n4_
                    (try clear hb)
                    (try clear hb2)
                    (try clear hk)
                    (try clear hi)
                    refine hK.out _ _ ⟨(blk_cell BK24001.out 0).trans rfl, (blk_cell BK24001.out 1).trans rfl, (blk_cell BK24002.out 0).trans rfl, (blk_cell BK24002.out 1).trans rfl, HS4_, HS5_⟩ (fun hHeld => ?_)
                    clear hK K
                    refine noA (h := ?_)
                    refine puA (i := 17) (N := some 92) HT_ (h := ?_)
                    refine puA (i := 18) (N := some 93) HT_ (h := ?_)
                    refine done_ (done_of HT_.out (by kernel_rfl)) ?_
                    try go_wp2_with (first | ((with_reducible refine gate_builtin (b := .append) (xs := #[.tmp 97, .tmp 99]) rfl ?_); at_builtin; refine Kd.R_append (Kd.int .i64) (w0 := w) w.heap.size rfl (.tmp 97) (.tmp 99) 22 3 (.int .i64 0) 8 rfl Try.underlying22 info3 rfl (by decide) (by omega) u11 x11_2 x12_3 [.int .i64 x12_3] (fun k_ => some k_ ≠ (.slice (some ad24021) t24007.length co24008 : Value).ownBlock) (fun _ => False) rfl rfl ?aP (fun _ hk => hk.elim) ?aF ?aO ?aB ?aS ?aL ?_; (case aP => exact rfl); (case aB => exact (pB2 HB.out GE24001.out GE24002.out)); (case aF => exact (fun k_ hk => Kd.fresh' (Kd.R_lt (pR HO_8.out)) k_ hk)); (case aO => exact (pR HO_11.out)); (case aS => exact (below_size (pB2 HB.out GE24001.out GE24002.out))); (case aL => have := LMc78.out; omega); intro v24026 w81 ho hb hg hat; rw [← Ny24025.out] at ho; replace HO_8 := aQ (Kd.R_after (ok := (fun _ => True)) (by (with_reducible repeat (first | apply Kd.R_alloc | apply Kd.R_drewN | apply Kd.R_drew)); exact Kd.R_mono HO_8.out (fun _ hk => ⟨trivial, hk⟩)) hg hat); replace BK24001 := aQ (blk_grown (g := gb24001) (o := .cells #[.int .i64 a0_0, .slice A0_1 l0_1.length c0_1] 26 (0, 0)) (pk BK24001.out) hg (Kd.R_ne HO_11.out BK24001.out (by decide))); replace BK24002 := aQ (blk_grown (g := gb24002) (o := .cells #[.int .i64 a1_0, .slice A1_1 l1_1.length c1_1] 26 (0, 0)) (pk BK24002.out) hg (Kd.R_ne HO_11.out BK24002.out (by decide))); replace HB := aQ (hb); have HO24027 := aQ (ho); clear HO_11; clear ho hb hg hat))
                    go_roundg k3
                    case measure => have := HK1.out; have := HK2.out; have := HK3.out; omega
                    case rel => exact ⟨(x12_3), (y24025), rs_, H', ⟨by have := HK1.out; have := HK2.out; have := HK3.out; omega⟩, ⟨by (with_reducible repeat (first | apply Kd.R_alloc | apply Kd.R_drewN | apply Kd.R_drew)); exact Kd.R_mono HO_8.out (fun _ hk => hk.2)⟩, ⟨pR HO24027.out⟩, ⟨pk BK24001.out⟩, ⟨pk BK24002.out⟩, ⟨pB2 HB.out GE24001.out GE24002.out⟩⟩
                   ·rw [if_neg c78] at H
                    exact absurd H (by simp)
                  ·replace c77 := Bool.eq_false_iff.mpr c77
                   subst c77
                   have H1 : (spec_AugmentingPath.l2 k3 a2 t24007 x9_2 x11_2 (wrap64 (x12_3 + 1)) a0_0 l0_1 a1_0 l1_1) = some (r1, r2) := by rw [if_neg (show ¬ (false = true) by decide)] at H; exact H
                   clear H
                   have H := H1
                   clear H1
                   have H' := aQ H
                   clear H
                   try go_wp2
                   have n0_ := aQ (Kd.R_drew HO_8.out)
                   have n1_ := aQ (Kd.R_drew HO_11.out)
                   have n2_ := aQ (blk_drew BK24001.out)
                   have n3_ := aQ (blk_drew BK24002.out)
                   have n4_ := aQ (below_drew1 HB.out)
                   clear HO_8
                   clear HO_11
                   clear BK24001
                   clear BK24002
                   clear HB
                   have HO_8 := n0_
                   have HO_11 := n1_
                   have BK24001 := n2_
                   have BK24002 := n3_
                   have HB := n4_
                   clear n0_ n1_ n2_ n3_ n4_
                   have p24022 : 0 ≤ (x12_3 : Int) := of_decide_eq_true as_
                   have q24022 : x12_3 < (t24007.length : Int) := of_decide_eq_true as_
                   obtain ⟨ad24022, e24022, hx24022_0⟩ := Kd.at_int (Kd.R_reads' HO_8.out).2.2 x12_3 p24022 q24022
                   obtain rfl : ad24021 = ad24022 := (by injection e24022)
                   replace p24022 := eq_true p24022
                   replace q24022 := eq_true q24022
                   have p24023 : 0 ≤ (x9_2 : Int) := of_decide_eq_true as_
                   have q24023 : x9_2 < (t24007.length : Int) := of_decide_eq_true as_
                   obtain ⟨ad24023, e24023, hx24023_0⟩ := Kd.at_int (Kd.R_reads' HO_8.out).2.2 x9_2 p24023 q24023
                   obtain rfl : ad24021 = ad24023 := (by injection e24023)
                   replace p24023 := eq_true p24023
                   replace q24023 := eq_true q24023
                   refine start_ (n := 19) (S := fun w' => w'.cell? ⟨gb24001, 0, none⟩ = some (.int .i64 a0_0) ∧ w'.cell? ⟨gb24001, 1, none⟩ = some (.slice A0_1 l0_1.length c0_1) ∧ w'.cell? ⟨gb24002, 0, none⟩ = some (.int .i64 a1_0) ∧ w'.cell? ⟨gb24002, 1, none⟩ = some (.slice A1_1 l1_1.length c1_1) ∧ w'.cell? (ad24021.add (x12_3).toNat) = some (.int .i64 (rd t24007 x12_3)) ∧ w'.cell? (ad24021.add (x9_2).toNat) = some (.int .i64 (rd t24007 x9_2))) (ds := []) #[false, false, false, false, false, false, false, false, false, false, false, false, false, false, false, false, false, false, false] (by kernel_rfl) rfl rfl ⟨(blk_cell BK24001.out 0).trans rfl, (blk_cell BK24001.out 1).trans rfl, (blk_cell BK24002.out 0).trans rfl, (blk_cell BK24002.out 1).trans rfl, hx24022_0, hx24023_0⟩ (fun hHeld => ?_); refine with_tabW spec_AugmentingPath.tab15 spec_AugmentingPath.bits15 (fun HT_ HW_ => ?_)
                   generalize wr.drew = w82 at HO_8 HO_11 BK24001 BK24002 HB hx24022_0 hx24023_0 hHeld ⊢
                   refine puA (i := 0) (N := some 75) HT_ (h := ?_)
                   refine puA (i := 1) (N := some 76) HT_ (h := ?_)
                   refine puA (i := 2) (N := some 77) HT_ (h := ?_)
                   refine puA (i := 4) (N := some 79) HT_ (h := ?_)
                   refine puA (i := 5) (N := some 80) HT_ (h := ?_)
                   refine puA (i := 6) (N := some 81) HT_ (h := ?_)
                   refine taA6 (i := 3) (N := some 78) HT_ HW_ hHeld (h := ?_)
                   refine taA6 (i := 7) (N := some 82) HT_ HW_ hHeld (h := ?_)
                   refine puA (i := 8) (N := some 83) HT_ (h := ?_)
                   refine puA (i := 9) (N := some 84) HT_ (h := ?_)
                   refine puA (i := 10) (N := some 85) HT_ (h := ?_)
                   refine puA (i := 13) (N := some 88) HT_ (h := ?_)
                   refine puA (i := 14) (N := some 89) HT_ (h := ?_)
                   refine puA (i := 15) (N := some 90) HT_ (h := ?_)
                   refine taA6 (i := 11) (N := some 86) HT_ HW_ hHeld (h := ?_)
                   refine taA6 (i := 12) (N := some 87) HT_ HW_ hHeld (h := ?_)
                   refine onA (i := 16) (N := some 91) HT_ (h := fun K hK => ?_)
                   refine goes_ Try.func70 (by kernel_rfl) rfl #[.agg #[.int .i64 a0_0, .slice A0_1 l0_1.length c0_1], .agg #[.int .i64 a1_0, .slice A1_1 l1_1.length c1_1], .int .i64 a2, .int .i64 x9_2, .int .i64 x12_3] (by rfl) rfl rfl lm ?_
                   with_reducible refine (spec_l20Step.calls k3 a0_0 _ _ l0_1 a1_0 _ _ l1_1 a2 x9_2 x12_3 false _ ?side1 ?side2 ?side3 ?side4 A76.out).mono ?_
                   (case side1 => exact pC (Kd.C_below HR0_1.out HB.out))
                   (case side2 => exact HC0_1.out)
                   (case side3 => exact pC (Kd.C_below HR1_1.out HB.out))
                   (case side4 => exact HC1_1.out)
                   rintro e w83 ⟨rfl, hb⟩
                   have HS4_ := (hb.cell (World.block_lt_of_cell? _ _ (hHeld.2.2.2.2.1))).trans (hHeld.2.2.2.2.1)
                   have HS5_ := (hb.cell (World.block_lt_of_cell? _ _ (hHeld.2.2.2.2.2))).trans (hHeld.2.2.2.2.2)
                   refine ⟨_, rfl, ?_⟩
                   have n0_ := aQ (Kd.R_below (pR HO_8.out) hb)
                   have n1_ := aQ (Kd.R_below (pR HO_11.out) hb)
                   have n2_ := aQ (blk_below (g := gb24001) (o := .cells #[.int .i64 a0_0, .slice A0_1 l0_1.length c0_1] 26 (0, 0)) (pk BK24001.out) hb)
                   have n3_ := aQ (blk_below (g := gb24002) (o := .cells #[.int .i64 a1_0, .slice A1_1 l1_1.length c1_1] 26 (0, 0)) (pk BK24002.out) hb)
                   have n4_ := aQ (below_step (pB2 HB.out GE24001.out GE24002.out) hb)
                   clear HO_8
                   clear HO_11
                   clear BK24001
                   clear BK24002
                   clear HB
                   have HO_8 := n0_
                   have HO_11 := n1_
                   have BK24001 := n2_
                   have BK24002 := n3_
                   have HB := n4_
                   clear n0_ n1_ n2_ n3_ n4_
                   (try clear hb)
                   (try clear hb2)
                   (try clear hk)
                   (try clear hi)
                   refine hK.out _ _ ⟨(blk_cell BK24001.out 0).trans rfl, (blk_cell BK24001.out 1).trans rfl, (blk_cell BK24002.out 0).trans rfl, (blk_cell BK24002.out 1).trans rfl, HS4_, HS5_⟩ (fun hHeld => ?_)
                   clear hK K
                   refine noA (h := ?_)
                   refine puA (i := 17) (N := some 92) HT_ (h := ?_)
                   refine puA (i := 18) (N := some 93) HT_ (h := ?_)
                   refine done_ (done_of HT_.out (by kernel_rfl)) ?_
                   try go_wp2
                   go_roundg k3
                   case measure => have := HK1.out; have := HK2.out; have := HK3.out; omega
                   case rel => exact ⟨(wrap64 (x12_3 + 1)), rs_, H', ⟨by have := HK1.out; have := HK2.out; have := HK3.out; omega⟩, ⟨pR HO_8.out⟩, ⟨pR HO_11.out⟩, ⟨pk BK24001.out⟩, ⟨pk BK24002.out⟩, ⟨pB2 HB.out GE24001.out GE24002.out⟩⟩
                 ·rw [if_neg c75] at H
                  have c75b0 : ((rd t24007 x12_3) == (wrap64 ((rd t24007 x9_2) - 1))) = false := beq_eq_false_iff_ne.mpr c75
                  have c75b1 : ((rd t24007 x12_3) != (wrap64 ((rd t24007 x9_2) - 1))) = true := bne_iff_ne.mpr c75
                  have H' := aQ H
                  clear H
                  try go_wp2
                  have n0_ := aQ (Kd.R_drew HO_8.out)
                  have n1_ := aQ (Kd.R_drew HO_11.out)
                  have n2_ := aQ (blk_drew BK24001.out)
                  have n3_ := aQ (blk_drew BK24002.out)
                  have n4_ := aQ (below_drew1 HB.out)
                  clear HO_8
                  clear HO_11
                  clear BK24001
                  clear BK24002
                  clear HB
                  have HO_8 := n0_
                  have HO_11 := n1_
                  have BK24001 := n2_
                  have BK24002 := n3_
                  have HB := n4_
                  clear n0_ n1_ n2_ n3_ n4_
                  have p24022 : 0 ≤ (x12_3 : Int) := of_decide_eq_true as_
                  have q24022 : x12_3 < (t24007.length : Int) := of_decide_eq_true as_
                  obtain ⟨ad24022, e24022, hx24022_0⟩ := Kd.at_int (Kd.R_reads' HO_8.out).2.2 x12_3 p24022 q24022
                  obtain rfl : ad24021 = ad24022 := (by injection e24022)
                  replace p24022 := eq_true p24022
                  replace q24022 := eq_true q24022
                  have p24023 : 0 ≤ (x9_2 : Int) := of_decide_eq_true as_
                  have q24023 : x9_2 < (t24007.length : Int) := of_decide_eq_true as_
                  obtain ⟨ad24023, e24023, hx24023_0⟩ := Kd.at_int (Kd.R_reads' HO_8.out).2.2 x9_2 p24023 q24023
                  obtain rfl : ad24021 = ad24023 := (by injection e24023)
                  replace p24023 := eq_true p24023
                  replace q24023 := eq_true q24023
                  refine start_ (n := 19) (S := fun w' => w'.cell? (ad24021.add (x12_3).toNat) = some (.int .i64 (rd t24007 x12_3)) ∧ w'.cell? (ad24021.add (x9_2).toNat) = some (.int .i64 (rd t24007 x9_2))) (ds := []) #[false, false, false, false, false, false, false, false, false, false, false, false, false, false, false, false, false, false, false] (by kernel_rfl) rfl rfl ⟨hx24022_0, hx24023_0⟩ (fun hHeld => ?_); refine with_tabW spec_AugmentingPath.tab15 spec_AugmentingPath.bits15 (fun HT_ HW_ => ?_)
                  generalize wr.drew = w84 at HO_8 HO_11 BK24001 BK24002 HB hx24022_0 hx24023_0 hHeld ⊢
                  refine puA (i := 0) (N := some 75) HT_ (h := ?_)
                  refine puA (i := 1) (N := some 76) HT_ (h := ?_)
                  refine puA (i := 2) (N := some 77) HT_ (h := ?_)
                  refine puA (i := 4) (N := some 79) HT_ (h := ?_)
                  refine puA (i := 5) (N := some 80) HT_ (h := ?_)
                  refine puA (i := 6) (N := some 81) HT_ (h := ?_)
                  refine taA2 (i := 3) (N := some 78) HT_ HW_ hHeld (h := ?_)
                  refine taA2 (i := 7) (N := some 82) HT_ HW_ hHeld (h := ?_)
                  refine puA (i := 8) (N := some 83) HT_ (h := ?_)
                  refine puA (i := 9) (N := some 84) HT_ (h := ?_)
                  refine puA (i := 10) (N := some 85) HT_ (h := ?_)
                  refine puU (i := 11) (N := some 86) HT_ (h := ?_)
                  refine puU (i := 12) (N := some 87) HT_ (h := ?_)
                  refine puU (i := 13) (N := some 88) HT_ (h := ?_)
                  refine puU (i := 14) (N := some 89) HT_ (h := ?_)
                  refine puU (i := 15) (N := some 90) HT_ (h := ?_)
                  refine puU (i := 16) (N := some 91) HT_ (h := ?_)
                  refine puU (i := 17) (N := some 92) HT_ (h := ?_)
                  refine puA (i := 18) (N := some 93) HT_ (h := ?_)
                  refine done_ (done_of HT_.out (by kernel_rfl)) ?_
                  try go_wp2
                  go_roundg k3
                  case measure => have := HK1.out; have := HK2.out; have := HK3.out; omega
                  case rel => exact ⟨(wrap64 (x12_3 + 1)), rs_, H', ⟨by have := HK1.out; have := HK2.out; have := HK3.out; omega⟩, ⟨pR HO_8.out⟩, ⟨pR HO_11.out⟩, ⟨pk BK24001.out⟩, ⟨pk BK24002.out⟩, ⟨pB2 HB.out GE24001.out GE24002.out⟩⟩
                ·rw [if_neg c74] at H
                 exact absurd H (by simp)
               ·rw [if_neg c73] at H
                exact absurd H (by simp)
              ·rw [if_neg c72] at H
               exact absurd H (by simp)
             ·rw [if_neg c71] at H
              exact absurd H (by simp)
          ·rw [if_neg c69] at H
           have c69b0 : decide (1 < (rd t24007 x9_2)) = false := decide_eq_false c69
           clear c69
           simp only [Option.some.injEq, Prod.mk.injEq] at H
           obtain ⟨rfl, rfl⟩ := H
           have p24021 : 0 ≤ (x9_2 : Int) := of_decide_eq_true as_
           have q24021 : x9_2 < (t24007.length : Int) := of_decide_eq_true as_
           obtain ⟨ad24021, e24021, hx24021_0⟩ := Kd.at_int (Kd.R_reads' HO_8.out).2.2 x9_2 p24021 q24021
           cases e24021
           replace p24021 := eq_true p24021
           replace q24021 := eq_true q24021
           go_wp2
           go_ret2
           exact ⟨_, by first | rfl | (simp [errW_none, errW_some] <;> rfl) | (simp [*, errW_none, errW_some] <;> rfl), by (with_reducible repeat (first | apply Kd.R_alloc | apply Kd.R_drewN | apply Kd.R_drew)); exact Kd.R_mono HO_11.out (fun _ hk => trivial), pB2 HB.out GE24001.out GE24002.out⟩
         ·rw [if_neg c68] at H
          exact absurd H (by simp)
        ·rw [if_neg c67] at H
         exact absurd H (by simp)
 ·replace c5 := Bool.eq_false_iff.mpr c5
  subst c5
  have H1 : (some ((([] : List Int)), false)) = some (r1, r2) := by rw [if_neg (show ¬ (false = true) by decide)] at H; exact H
  clear H
  have H := H1
  clear H1
  obtain ⟨y24004, hy24004⟩ : ∃ y_ : List Int, y_ = (([] : List Int)) := ⟨_, rfl⟩
  replace H : (some (y24004, false)) = some (r1, r2) := by first | (rw [hy24004]; with_reducible exact H) | (have H2_ := (Option.bind_some _ _).symm.trans H; rw [hy24004]; with_reducible exact H2_) | (have H2_ := (Option.bind_some _ _).symm.trans H; with_reducible exact H2_) | with_reducible exact H | (rw [hy24004]; exact H) | exact H
  have Ny24004 := aQ hy24004
  clear hy24004
  simp only [Option.some.injEq, Prod.mk.injEq] at H
  obtain ⟨rfl, rfl⟩ := H
  go_enter Try.func23, Try.ntmps23
  go_wp2_with (first | ((with_reducible refine gate_dst (N := 3) rfl ?_); refine box_event ?hg (N := 3) ?hd (cs := #[.int .i64 a0_0, .slice A0_1 l0_1.length c0_1]) (t := 26) ?hr ?_; (case hd => rfl); (case hg => rfl); (case hr => first | (go_simp; done) | (go_simp; rfl)); intro gb24001 hg w86 hbox hb; have BK24001 := aQ (hbox); have GW24001 := aQ ((by rw [hg]; exact (below_size (pB HB.out)) : w.heap.size ≤ gb24001)); have GE24001 := aQ ((by rw [hg]; exact (below_size (pB HB.out)) : w.heap.size ≤ gb24001)); replace HB := aQ (below_step (pB HB.out) hb); clear hb hbox hg) | ((with_reducible refine gate_dst (N := 4) rfl ?_); refine box_event ?hg (N := 4) ?hd (cs := #[.int .i64 a1_0, .slice A1_1 l1_1.length c1_1]) (t := 26) ?hr ?_; (case hd => rfl); (case hg => rfl); (case hr => first | (go_simp; done) | (go_simp; rfl)); intro gb24002 hg w87 hbox hb; have BK24002 := aQ (hbox); have GW24002 := aQ ((by rw [hg]; exact (below_size (pB1 HB.out GE24001.out)) : w.heap.size ≤ gb24002)); have GE24002 := aQ ((by rw [hg]; exact (below_size (pB1 HB.out GE24001.out)) : w.heap.size ≤ gb24002)); replace HB := aQ (below_step (pB1 HB.out GE24001.out) hb); have NB24001_24002 := aQ ((by rw [hg]; exact Nat.ne_of_lt (blk_lt (g := gb24001) (o := .cells #[.int .i64 a0_0, .slice A0_1 l0_1.length c0_1] 26 (0, 0)) (pk BK24001.out)) : gb24001 ≠ gb24002)); have NB24002_24001 := aQ ((by rw [hg]; exact Nat.ne_of_gt (blk_lt (g := gb24001) (o := .cells #[.int .i64 a0_0, .slice A0_1 l0_1.length c0_1] 26 (0, 0)) (pk BK24001.out)) : gb24002 ≠ gb24001)); replace BK24001 := aQ (blk_below (g := gb24001) (o := .cells #[.int .i64 a0_0, .slice A0_1 l0_1.length c0_1] 26 (0, 0)) (pk BK24001.out) hb); clear hb hbox hg; have hnb88 := NB24001_24002.out; have hnc88 := NB24002_24001.out; have hcz89_0 := bc (v := (.int .i64 a0_0)) BK24001.out 0; have hcz89_1 := bc (v := (.slice A0_1 l0_1.length c0_1)) BK24001.out 1; have hfz89_0 := blk_frozen BK24001.out 0; have hfz89_1 := blk_frozen BK24001.out 1; have hcz90_0 := bc (v := (.int .i64 a1_0)) BK24002.out 0; have hcz90_1 := bc (v := (.slice A1_1 l1_1.length c1_1)) BK24002.out 1; have hfz90_0 := blk_frozen BK24002.out 0; have hfz90_1 := blk_frozen BK24002.out 1) | ((with_reducible refine gate_callee (f := 66) rfl ?_); refine goesL_ (some 16) rfl rfl Try.func66 (by kernel_rfl) rfl #[.agg #[.int .i64 a0_0, .slice A0_1 l0_1.length c0_1], .agg #[.int .i64 a1_0, .slice A1_1 l1_1.length c1_1], .int .i64 a2] rfl lm ?_; (with_reducible refine (spec_IsCommon.calls k a0_0 _ _ l0_1 a1_0 _ _ l1_1 a2 false _ ?side1 ?side2 ?side3 ?side4 A4.out).mono ?_); (case side1 => exact pC (Kd.C_below HR0_1.out HB.out)); (case side2 => exact HC0_1.out); (case side3 => exact pC (Kd.C_below HR1_1.out HB.out)); (case side4 => exact HC1_1.out); rintro e w91 ⟨rfl, hb⟩; refine ⟨_, rfl, ?_⟩; replace BK24001 := aQ (blk_below (g := gb24001) (o := .cells #[.int .i64 a0_0, .slice A0_1 l0_1.length c0_1] 26 (0, 0)) (pk BK24001.out) hb); replace BK24002 := aQ (blk_below (g := gb24002) (o := .cells #[.int .i64 a1_0, .slice A1_1 l1_1.length c1_1] 26 (0, 0)) (pk BK24002.out) hb); replace HB := aQ (below_step (pB2 HB.out GE24001.out GE24002.out) hb); (try clear hb)) | ((with_reducible refine gate_dst (N := 18) rfl ?_); refine Kd.R_lit (Kd.int .i64) _ 3 ?hg (N := 18) ?hd (xs := ([] : List Int)) (inner := []) (ok := fun _ => True) (okp := fun _ => True) ?hr ?hp (fun _ hk => hk) trivial (Below.refl _ _) (Nat.le_refl _) (by simp) ?_; (case hd => rfl); (case hg => rfl); (case hr => first | (go_simp; done) | (go_simp; rfl)); (case hp => exact (Reps.none _ _)); intro v24005 w92 ho93 hb hg_ hnew_; clear hg_ hnew_; (first | rw [← Ny24004.out] at ho93 | (simp only [Int.reduceToNat] at ho93; rw [← Ny24004.out] at ho93)); have HO24006 := aQ (Kd.R_lower ho93 (below_size (pB2 HB.out GE24001.out GE24002.out))); replace BK24001 := aQ (blk_below (g := gb24001) (o := .cells #[.int .i64 a0_0, .slice A0_1 l0_1.length c0_1] 26 (0, 0)) (pk BK24001.out) hb); replace BK24002 := aQ (blk_below (g := gb24002) (o := .cells #[.int .i64 a1_0, .slice A1_1 l1_1.length c1_1] 26 (0, 0)) (pk BK24002.out) hb); replace HB := aQ (below_step (pB2 HB.out GE24001.out GE24002.out) hb); clear hb ho93))
  go_ret2
  exact ⟨_, by first | rfl | (simp [errW_none, errW_some] <;> rfl) | (simp [*, errW_none, errW_some] <;> rfl), by (with_reducible repeat (first | apply Kd.R_alloc | apply Kd.R_drewN | apply Kd.R_drew)); exact HO24006.out, pB2 HB.out GE24001.out GE24002.out⟩
end Go.Proofs.Ytagncnjllpebjaa.A
