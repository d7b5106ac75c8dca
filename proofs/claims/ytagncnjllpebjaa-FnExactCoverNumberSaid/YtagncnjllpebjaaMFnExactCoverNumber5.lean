/- The machine side of the law FnExactCoverNumber, laid by a program of this work over the kit's print and contracts by hand: Go functions as Lean functions, and proofs that calls come to what these tell. Conditions: those in each theorem. -/
import Derived.Test.YtagncnjllpebjaaMFnExactCoverNumber0
import Derived.Test.YtagncnjllpebjaaMFnExactCoverNumberq0
import Derived.Test.YtagncnjllpebjaaMFnExactCoverNumber1
import Derived.Test.YtagncnjllpebjaaMFnExactCoverNumber2
import Derived.Test.YtagncnjllpebjaaMFnExactCoverNumber3
import Derived.Test.YtagncnjllpebjaaMFnExactCoverNumber4
namespace Go.Proofs.Ytagncnjllpebjaa.A
open Go.RowKit Go.Proofs.YtagncnjllpebjaaW.PrintWords Go.Proofs.YtagncnjllpebjaaW.PrintLast Go.Proofs.YtagncnjllpebjaaW.PrintMore
attribute [local go_sem] max2_int min2_int max_two min_two max_three min_three max_four min_four   -- for this text's walks alone
set_option linter.unusedVariables false
set_option linter.unusedSimpArgs false

/-! ### spec_UnionOf: function 140 -/
mutual
def spec_UnionOf.l0 : Nat → List Int → Int → Int → List Int → Int → List Int → Option (Int × List Int × Bool)
 | 0, _, _, _, _, _, _ => none
 | k + 1, x6, x7, x141002000, x141002001, x141003000, x141003001 => if x7 < (x141002001.length : Int) then (spec_UnionOf.l1 k x6 x7 0 x141002000 x141002001 x141003000 x141003001) else (spec_UnionOf.l2 k x6 0 0 x141002000 x141002001)
def spec_UnionOf.l1 : Nat → List Int → Int → Int → Int → List Int → Int → List Int → Option (Int × List Int × Bool)
 | 0, _, _, _, _, _, _, _ => none
 | k + 1, x6, x7, x8, x141002000, x141002001, x141003000, x141003001 => if x8 < (x141003001.length : Int) then (if 0 ≤ x7 then (if x7 < (x141002001.length : Int) then (if 0 ≤ x8 then (if x6.length < 17592186044416 then (spec_UnionOf.l1 k (x6 ++ [Go.bits .or .i64 (rd x141002001 x7) (rd x141003001 x8)]) x7 (wrap64 (x8 + 1)) x141002000 x141002001 x141003000 x141003001) else (none)) else (none)) else (none)) else (none)) else (spec_UnionOf.l0 k x6 (wrap64 (x7 + 1)) x141002000 x141002001 x141003000 x141003001)
def spec_UnionOf.l2 : Nat → List Int → Int → Int → Int → List Int → Option (Int × List Int × Bool)
 | 0, _, _, _, _, _ => none
 | k + 1, x6, x9, x10, x141002000, x141002001 => if x10 < (x6.length : Int) then (if 0 ≤ x10 then ((spec_CountOf.f k (rd x6 x10)).bind fun t141014 => ((spec_l1Max.f x9 t141014).bind fun t141015 => (spec_UnionOf.l2 k x6 t141015 (wrap64 (x10 + 1)) x141002000 x141002001))) else (none)) else ((spec_SortSets.f k x6).bind fun t141017 => (spec_UnionOf.l3 k x9 t141017 0 x141002000 ([] : List Int)))
def spec_UnionOf.l3 : Nat → Int → List Int → Int → Int → List Int → Option (Int × List Int × Bool)
 | 0, _, _, _, _, _ => none
 | k + 1, x9, x12, x13, x141017000, x141017001 => if x13 < (x12.length : Int) then (if 0 ≤ x13 then ((spec_CountOf.f k (rd x12 x13)).bind fun t141021 => (if t141021 = x9 then (if x141017001.length < 17592186044416 then (spec_UnionOf.l3 k x9 x12 (wrap64 (x13 + 1)) x141017000 (x141017001 ++ [rd x12 x13])) else (none)) else (spec_UnionOf.l3 k x9 x12 (wrap64 (x13 + 1)) x141017000 x141017001))) else (none)) else (some (x141017000, x141017001, true))
end
def spec_UnionOf.f (k : Nat) (a0_0 : Int) (l0_1 : List Int) (a1_0 : Int) (l1_1 : List Int) : Option (Int × List Int × Bool) := (spec_IsCommon.f k a0_0 l0_1 a1_0 l1_1 0).bind fun t141004 => (if t141004 = true then (spec_UnionOf.l0 k (([] : List Int)) 0 a0_0 l0_1 a1_0 l1_1) else (some (0, ([] : List Int), false)))
theorem spec_UnionOf.mono_l : ∀ k, (∀ y0 y1 y2 y3 y4 y5, LeO (spec_UnionOf.l0 k y0 y1 y2 y3 y4 y5) (spec_UnionOf.l0 (k + 1) y0 y1 y2 y3 y4 y5)) ∧ (∀ y0 y1 y2 y3 y4 y5 y6, LeO (spec_UnionOf.l1 k y0 y1 y2 y3 y4 y5 y6) (spec_UnionOf.l1 (k + 1) y0 y1 y2 y3 y4 y5 y6)) ∧ (∀ y0 y1 y2 y3 y4, LeO (spec_UnionOf.l2 k y0 y1 y2 y3 y4) (spec_UnionOf.l2 (k + 1) y0 y1 y2 y3 y4)) ∧ (∀ y0 y1 y2 y3 y4, LeO (spec_UnionOf.l3 k y0 y1 y2 y3 y4) (spec_UnionOf.l3 (k + 1) y0 y1 y2 y3 y4))
 | 0 => ⟨fun _ _ _ _ _ _ r h => by simp [spec_UnionOf.l0] at h, fun _ _ _ _ _ _ _ r h => by simp [spec_UnionOf.l1] at h, fun _ _ _ _ _ r h => by simp [spec_UnionOf.l2] at h, fun _ _ _ _ _ r h => by simp [spec_UnionOf.l3] at h⟩
 | k + 1 => by
  obtain ⟨ih0, ih1, ih2, ih3⟩ := spec_UnionOf.mono_l k
  refine ⟨?_, ?_, ?_, ?_⟩
  ·intro y0 y1 y2 y3 y4 y5
   unfold spec_UnionOf.l0
   repeat' first
   | (with_reducible exact ih0 _ _ _ _ _ _)
   | (with_reducible exact ih1 _ _ _ _ _ _ _)
   | (with_reducible exact ih2 _ _ _ _ _)
   | (with_reducible exact ih3 _ _ _ _ _)
   | (with_reducible exact spec_CountOf.mono _ _)
   | (with_reducible exact spec_IsCommon.mono _ _ _ _ _ _)
   | (with_reducible exact spec_SortSets.mono _ _)
   | (with_reducible exact LeO.refl _)
   | (with_reducible exact LeO.none _)
   | (with_reducible refine LeO.ite ?_ ?_)
   | (with_reducible refine LeO.bind ?_ (fun _ => ?_))
   | exact ih0 _ _ _ _ _ _
   | exact ih1 _ _ _ _ _ _ _
   | exact ih2 _ _ _ _ _
   | exact ih3 _ _ _ _ _
   | exact spec_CountOf.mono _ _
   | exact spec_IsCommon.mono _ _ _ _ _ _
   | exact spec_SortSets.mono _ _
   | exact LeO.none _
   | refine LeO.ite ?_ ?_
   | refine LeO.bind ?_ (fun _ => ?_)
  ·intro y0 y1 y2 y3 y4 y5 y6
   unfold spec_UnionOf.l1
   repeat' first
   | (with_reducible exact ih0 _ _ _ _ _ _)
   | (with_reducible exact ih1 _ _ _ _ _ _ _)
   | (with_reducible exact ih2 _ _ _ _ _)
   | (with_reducible exact ih3 _ _ _ _ _)
   | (with_reducible exact spec_CountOf.mono _ _)
   | (with_reducible exact spec_IsCommon.mono _ _ _ _ _ _)
   | (with_reducible exact spec_SortSets.mono _ _)
   | (with_reducible exact LeO.refl _)
   | (with_reducible exact LeO.none _)
   | (with_reducible refine LeO.ite ?_ ?_)
   | (with_reducible refine LeO.bind ?_ (fun _ => ?_))
   | exact ih0 _ _ _ _ _ _
   | exact ih1 _ _ _ _ _ _ _
   | exact ih2 _ _ _ _ _
   | exact ih3 _ _ _ _ _
   | exact spec_CountOf.mono _ _
   | exact spec_IsCommon.mono _ _ _ _ _ _
   | exact spec_SortSets.mono _ _
   | exact LeO.none _
   | refine LeO.ite ?_ ?_
   | refine LeO.bind ?_ (fun _ => ?_)
  ·intro y0 y1 y2 y3 y4
   unfold spec_UnionOf.l2
   repeat' first
   | (with_reducible exact ih0 _ _ _ _ _ _)
   | (with_reducible exact ih1 _ _ _ _ _ _ _)
   | (with_reducible exact ih2 _ _ _ _ _)
   | (with_reducible exact ih3 _ _ _ _ _)
   | (with_reducible exact spec_CountOf.mono _ _)
   | (with_reducible exact spec_IsCommon.mono _ _ _ _ _ _)
   | (with_reducible exact spec_SortSets.mono _ _)
   | (with_reducible exact LeO.refl _)
   | (with_reducible exact LeO.none _)
   | (with_reducible refine LeO.ite ?_ ?_)
   | (with_reducible refine LeO.bind ?_ (fun _ => ?_))
   | exact ih0 _ _ _ _ _ _
   | exact ih1 _ _ _ _ _ _ _
   | exact ih2 _ _ _ _ _
   | exact ih3 _ _ _ _ _
   | exact spec_CountOf.mono _ _
   | exact spec_IsCommon.mono _ _ _ _ _ _
   | exact spec_SortSets.mono _ _
   | exact LeO.none _
   | refine LeO.ite ?_ ?_
   | refine LeO.bind ?_ (fun _ => ?_)
  ·intro y0 y1 y2 y3 y4
   unfold spec_UnionOf.l3
   repeat' first
   | (with_reducible exact ih0 _ _ _ _ _ _)
   | (with_reducible exact ih1 _ _ _ _ _ _ _)
   | (with_reducible exact ih2 _ _ _ _ _)
   | (with_reducible exact ih3 _ _ _ _ _)
   | (with_reducible exact spec_CountOf.mono _ _)
   | (with_reducible exact spec_IsCommon.mono _ _ _ _ _ _)
   | (with_reducible exact spec_SortSets.mono _ _)
   | (with_reducible exact LeO.refl _)
   | (with_reducible exact LeO.none _)
   | (with_reducible refine LeO.ite ?_ ?_)
   | (with_reducible refine LeO.bind ?_ (fun _ => ?_))
   | exact ih0 _ _ _ _ _ _
   | exact ih1 _ _ _ _ _ _ _
   | exact ih2 _ _ _ _ _
   | exact ih3 _ _ _ _ _
   | exact spec_CountOf.mono _ _
   | exact spec_IsCommon.mono _ _ _ _ _ _
   | exact spec_SortSets.mono _ _
   | exact LeO.none _
   | refine LeO.ite ?_ ?_
   | refine LeO.bind ?_ (fun _ => ?_)
theorem spec_UnionOf.mono : ∀ a0 a1 a2 a3 k, LeO (spec_UnionOf.f k a0 a1 a2 a3) (spec_UnionOf.f (k + 1) a0 a1 a2 a3) := by
 intro a0 a1 a2 a3 k
 obtain ⟨ih0, ih1, ih2, ih3⟩ := spec_UnionOf.mono_l k
 unfold spec_UnionOf.f
 repeat' first
   | (with_reducible exact ih0 _ _ _ _ _ _)
   | (with_reducible exact ih1 _ _ _ _ _ _ _)
   | (with_reducible exact ih2 _ _ _ _ _)
   | (with_reducible exact ih3 _ _ _ _ _)
   | (with_reducible exact spec_CountOf.mono _ _)
   | (with_reducible exact spec_IsCommon.mono _ _ _ _ _ _)
   | (with_reducible exact spec_SortSets.mono _ _)
   | (with_reducible exact LeO.refl _)
   | (with_reducible exact LeO.none _)
   | (with_reducible refine LeO.ite ?_ ?_)
   | (with_reducible refine LeO.bind ?_ (fun _ => ?_))
   | exact ih0 _ _ _ _ _ _
   | exact ih1 _ _ _ _ _ _ _
   | exact ih2 _ _ _ _ _
   | exact ih3 _ _ _ _ _
   | exact spec_CountOf.mono _ _
   | exact spec_IsCommon.mono _ _ _ _ _ _
   | exact spec_SortSets.mono _ _
   | exact LeO.none _
   | refine LeO.ite ?_ ?_
   | refine LeO.bind ?_ (fun _ => ?_)
def spec_UnionOf.T10 : Bool × List (List Nat × List Nat) := (true, [([], []), ([], []), ([1], [1]), ([], []), ([2, 3], [2, 3]), ([4], [4]), ([], []), ([6], [6]), ([], []), ([7, 8], [7, 8]), ([9], [9]), ([5, 10], [5, 10]), ([11], [11]), ([0, 12], [0, 12]), ([13, 13, 0, 1, 2, 3, 4, 5, 6, 7, 8, 9, 10, 11, 12, 13], [0, 13])])
def spec_UnionOf.B10 : List Nat := [0, 0, 2, 0, 14, 30, 0, 64, 0, 448, 960, 2046, 4094, 8191, 16383]
theorem spec_UnionOf.tab10 : rtab .any (opsOf Try.f140 10) = spec_UnionOf.T10 := by kernel_rfl
theorem spec_UnionOf.bits10 : waitsOk spec_UnionOf.T10.2 spec_UnionOf.B10 = true := by kernel_rfl
def spec_UnionOf.T22 : Bool × List (List Nat × List Nat) := (true, [([], []), ([0], [0]), ([], []), ([], []), ([2, 3], [2, 3]), ([4], [4]), ([5], [5]), ([1, 6], [1, 6]), ([0, 1, 2, 3, 4, 5, 6, 7], []), ([8, 7, 7, 0, 1, 2, 3, 4, 5, 6, 7], [7, 8])])
def spec_UnionOf.B22 : List Nat := [0, 1, 0, 0, 12, 28, 60, 127, 255, 511]
theorem spec_UnionOf.tab22 : rtab .any (opsOf Try.f140 22) = spec_UnionOf.T22 := by kernel_rfl
theorem spec_UnionOf.bits22 : waitsOk spec_UnionOf.T22.2 spec_UnionOf.B22 = true := by kernel_rfl
set_option maxHeartbeats 8000000 in
set_option maxRecDepth 100000 in
theorem spec_UnionOf.calls (k : Nat) (a0_0 : Int) (A0_1 : Option Addr) (c0_1 : Nat) (l0_1 : List Int) (a1_0 : Int) (A1_1 : Option Addr) (c1_1 : Nat) (l1_1 : List Int) (r1 : Int) (r2 : List Int) (r3 : Bool) (w : World) (hr0_1 : Kd.C (Kd.int .i64) w A0_1 l0_1.length l0_1) (hc0_1 : l0_1.length ≤ c0_1) (hr1_1 : Kd.C (Kd.int .i64) w A1_1 l1_1.length l1_1) (hc1_1 : l1_1.length ≤ c1_1) (h : spec_UnionOf.f k a0_0 l0_1 a1_0 l1_1 = some (r1, r2, r3)) :
  Calls Try.prog 140 #[.agg #[.int .i64 a0_0, .slice A0_1 l0_1.length c0_1], .agg #[.int .i64 a1_0, .slice A1_1 l1_1.length c1_1]] w fun e w' => ∃ v1_ : Value, e = .returned (.tuple #[.agg #[.int .i64 r1, v1_], .bool r3]) ∧ Kd.R (Kd.int .i64) 3 w' w.heap.size (fun _ => True) v1_ r2 ∧ Below w.heap.size w w' := by
 have hu26 := Try.underlying26
 have HR0_1 := aQ hr0_1
 have HC0_1 := aQ hc0_1
 clear hr0_1 hc0_1
 have HR1_1 := aQ hr1_1
 have HC1_1 := aQ hc1_1
 clear hr1_1 hc1_1
 have HB := aQ (Below.refl w.heap.size w)
 have H : ((spec_IsCommon.f k a0_0 l0_1 a1_0 l1_1 0).bind fun t141004 => (if t141004 = true then (spec_UnionOf.l0 k (([] : List Int)) 0 a0_0 l0_1 a1_0 l1_1) else (some (0, ([] : List Int), false)))) = some (r1, r2, r3) := h
 clear h
 replace H := Option.bind_eq_some_iff.mp H
 obtain ⟨t141004, A30, H⟩ := H
 replace H : (if t141004 = true then (spec_UnionOf.l0 k (([] : List Int)) 0 a0_0 l0_1 a1_0 l1_1) else (some (0, ([] : List Int), false))) = some (r1, r2, r3) := H
 have A3 := aQ A30
 clear A30
 by_cases c4 : t141004 = true
 ·subst c4
  have H1 : (spec_UnionOf.l0 k (([] : List Int)) 0 a0_0 l0_1 a1_0 l1_1) = some (r1, r2, r3) := by rw [if_pos rfl] at H; exact H
  clear H
  have H := H1
  clear H1
  obtain ⟨y141005, hy141005⟩ : ∃ y_ : List Int, y_ = (([] : List Int)) := ⟨_, rfl⟩
  replace H : (spec_UnionOf.l0 k y141005 0 a0_0 l0_1 a1_0 l1_1) = some (r1, r2, r3) := by first | (rw [hy141005]; with_reducible exact H) | (have H2_ := (Option.bind_some _ _).symm.trans H; rw [hy141005]; with_reducible exact H2_) | (have H2_ := (Option.bind_some _ _).symm.trans H; with_reducible exact H2_) | with_reducible exact H | (rw [hy141005]; exact H) | exact H
  have Ny141005 := aQ hy141005
  clear hy141005
  have H' := aQ H
  clear H
  go_enter Try.func140, Try.ntmps140
  go_wp2_with (first | ((with_reducible refine gate_dst (N := 2) rfl ?_); refine box_event ?hg (N := 2) ?hd (cs := #[.int .i64 a0_0, .slice A0_1 l0_1.length c0_1]) (t := 26) ?hr ?_; (case hd => rfl); (case hg => rfl); (case hr => first | (go_simp; done) | (go_simp; rfl)); intro gb141001 hg w5 hbox hb; have BK141001 := aQ (hbox); have GW141001 := aQ ((by rw [hg]; exact (below_size (by repeat (first | (with_reducible first | exact HB.out | apply below_alloc | apply pw_below_drewN | apply below_drew1) | exact HB.out))) : w.heap.size ≤ gb141001)); have GE141001 := aQ ((by rw [hg]; exact (below_size (by repeat (first | (with_reducible first | exact HB.out | apply below_alloc | apply pw_below_drewN | apply below_drew1) | exact HB.out))) : w.heap.size ≤ gb141001)); replace HB := aQ (below_step (by repeat (first | (with_reducible first | exact HB.out | apply below_alloc | apply pw_below_drewN | apply below_drew1) | exact HB.out)) hb); clear hb hbox hg) | ((with_reducible refine gate_dst (N := 3) rfl ?_); refine box_event ?hg (N := 3) ?hd (cs := #[.int .i64 a1_0, .slice A1_1 l1_1.length c1_1]) (t := 26) ?hr ?_; (case hd => rfl); (case hg => rfl); (case hr => first | (go_simp; done) | (go_simp; rfl)); intro gb141002 hg w6 hbox hb; have BK141002 := aQ (hbox); have GW141002 := aQ ((by rw [hg]; exact (below_size (by repeat (first | (with_reducible first | exact HB.out | apply below_alloc | apply pw_below_drewN | apply below_drew1 | refine below_set ?_ GE141001.out) | exact HB.out))) : w.heap.size ≤ gb141002)); have GE141002 := aQ ((by rw [hg]; exact (below_size (by repeat (first | (with_reducible first | exact HB.out | apply below_alloc | apply pw_below_drewN | apply below_drew1 | refine below_set ?_ GE141001.out) | exact HB.out))) : w.heap.size ≤ gb141002)); replace HB := aQ (below_step (by repeat (first | (with_reducible first | exact HB.out | apply below_alloc | apply pw_below_drewN | apply below_drew1 | refine below_set ?_ GE141001.out) | exact HB.out)) hb); have NB141001_141002 := aQ ((by rw [hg]; exact Nat.ne_of_lt (blk_lt (g := gb141001) (o := .cells #[.int .i64 a0_0, .slice A0_1 l0_1.length c0_1] 26 (0, 0)) (by (with_reducible repeat (first | refine blk_drewN ?_ _ | refine blk_drew ?_ | refine blk_alloc ?_ _)); exact BK141001.out)) : gb141001 ≠ gb141002)); have NB141002_141001 := aQ ((by rw [hg]; exact Nat.ne_of_gt (blk_lt (g := gb141001) (o := .cells #[.int .i64 a0_0, .slice A0_1 l0_1.length c0_1] 26 (0, 0)) (by (with_reducible repeat (first | refine blk_drewN ?_ _ | refine blk_drew ?_ | refine blk_alloc ?_ _)); exact BK141001.out)) : gb141002 ≠ gb141001)); replace BK141001 := aQ (blk_below (g := gb141001) (o := .cells #[.int .i64 a0_0, .slice A0_1 l0_1.length c0_1] 26 (0, 0)) (by (with_reducible repeat (first | refine blk_drewN ?_ _ | refine blk_drew ?_ | refine blk_alloc ?_ _)); exact BK141001.out) hb); clear hb hbox hg) | ((with_reducible refine gate_dst (N := 4) rfl ?_); refine box_event ?hg (N := 4) ?hd (cs := #[.int .i64 0, .slice none 0 0]) (t := 26) ?hr ?_; (case hd => rfl); (case hg => rfl); (case hr => first | (go_simp; done) | (go_simp; rfl)); intro gb141003 hg w7 hbox hb; have BK141003 := aQ (hbox); have GW141003 := aQ ((by rw [hg]; exact (below_size (by repeat (first | (with_reducible first | exact HB.out | apply below_alloc | apply pw_below_drewN | apply below_drew1 | refine below_set ?_ GE141001.out | refine below_set ?_ GE141002.out) | exact HB.out))) : w.heap.size ≤ gb141003)); have GE141003 := aQ ((by rw [hg]; exact (below_size (by repeat (first | (with_reducible first | exact HB.out | apply below_alloc | apply pw_below_drewN | apply below_drew1 | refine below_set ?_ GE141001.out | refine below_set ?_ GE141002.out) | exact HB.out))) : w.heap.size ≤ gb141003)); replace HB := aQ (below_step (by repeat (first | (with_reducible first | exact HB.out | apply below_alloc | apply pw_below_drewN | apply below_drew1 | refine below_set ?_ GE141001.out | refine below_set ?_ GE141002.out) | exact HB.out)) hb); have NB141001_141003 := aQ ((by rw [hg]; exact Nat.ne_of_lt (blk_lt (g := gb141001) (o := .cells #[.int .i64 a0_0, .slice A0_1 l0_1.length c0_1] 26 (0, 0)) (by (with_reducible repeat (first | refine blk_drewN ?_ _ | refine blk_drew ?_ | refine blk_alloc ?_ _)); exact BK141001.out)) : gb141001 ≠ gb141003)); have NB141003_141001 := aQ ((by rw [hg]; exact Nat.ne_of_gt (blk_lt (g := gb141001) (o := .cells #[.int .i64 a0_0, .slice A0_1 l0_1.length c0_1] 26 (0, 0)) (by (with_reducible repeat (first | refine blk_drewN ?_ _ | refine blk_drew ?_ | refine blk_alloc ?_ _)); exact BK141001.out)) : gb141003 ≠ gb141001)); replace BK141001 := aQ (blk_below (g := gb141001) (o := .cells #[.int .i64 a0_0, .slice A0_1 l0_1.length c0_1] 26 (0, 0)) (by (with_reducible repeat (first | refine blk_drewN ?_ _ | refine blk_drew ?_ | refine blk_alloc ?_ _)); exact BK141001.out) hb); have NB141002_141003 := aQ ((by rw [hg]; exact Nat.ne_of_lt (blk_lt (g := gb141002) (o := .cells #[.int .i64 a1_0, .slice A1_1 l1_1.length c1_1] 26 (0, 0)) (by (with_reducible repeat (first | refine blk_drewN ?_ _ | refine blk_drew ?_ | refine blk_alloc ?_ _)); exact BK141002.out)) : gb141002 ≠ gb141003)); have NB141003_141002 := aQ ((by rw [hg]; exact Nat.ne_of_gt (blk_lt (g := gb141002) (o := .cells #[.int .i64 a1_0, .slice A1_1 l1_1.length c1_1] 26 (0, 0)) (by (with_reducible repeat (first | refine blk_drewN ?_ _ | refine blk_drew ?_ | refine blk_alloc ?_ _)); exact BK141002.out)) : gb141003 ≠ gb141002)); replace BK141002 := aQ (blk_below (g := gb141002) (o := .cells #[.int .i64 a1_0, .slice A1_1 l1_1.length c1_1] 26 (0, 0)) (by (with_reducible repeat (first | refine blk_drewN ?_ _ | refine blk_drew ?_ | refine blk_alloc ?_ _)); exact BK141002.out) hb); clear hb hbox hg; have hnb8 := NB141001_141002.out; have hnc8 := NB141002_141001.out; have hnb9 := NB141001_141003.out; have hnc9 := NB141003_141001.out; have hcz10_0 : w7.cell? ⟨gb141001, 0, none⟩ = some (.int .i64 a0_0) := (blk_cell BK141001.out 0).trans rfl; have hcz10_1 : w7.cell? ⟨gb141001, 1, none⟩ = some (.slice A0_1 l0_1.length c0_1) := (blk_cell BK141001.out 1).trans rfl; have hfz10_0 := blk_frozen BK141001.out 0; have hfz10_1 := blk_frozen BK141001.out 1; have hnb11 := NB141002_141003.out; have hnc11 := NB141003_141002.out; have hcz12_0 : w7.cell? ⟨gb141002, 0, none⟩ = some (.int .i64 a1_0) := (blk_cell BK141002.out 0).trans rfl; have hcz12_1 : w7.cell? ⟨gb141002, 1, none⟩ = some (.slice A1_1 l1_1.length c1_1) := (blk_cell BK141002.out 1).trans rfl; have hfz12_0 := blk_frozen BK141002.out 0; have hfz12_1 := blk_frozen BK141002.out 1) | ((with_reducible refine gate_callee (f := 66) rfl ?_); refine goesL_ (some 16) rfl rfl Try.func66 (by kernel_rfl) rfl #[.agg #[.int .i64 a0_0, .slice A0_1 l0_1.length c0_1], .agg #[.int .i64 a1_0, .slice A1_1 l1_1.length c1_1], .int .i64 0] rfl (by (try simp only [List.map_toArray, List.map_cons, List.map_nil]); first | done | rfl | (simp only [List.length_drop, List.length_take]; rfl)) ?_; (with_reducible refine (spec_IsCommon.calls k a0_0 _ _ l0_1 a1_0 _ _ l1_1 0 true _ ?side1 ?side2 ?side3 ?side4 A3.out).mono ?_); (case side1 => repeat (first | exact (Kd.C_below HR0_1.out HB.out) | (with_reducible refine Kd.C_alloc ?_ _) | (with_reducible refine Kd.C_drewN ?_ _) | (with_reducible refine Kd.C_drew ?_))); (case side2 => exact HC0_1.out); (case side3 => repeat (first | exact (Kd.C_below HR1_1.out HB.out) | (with_reducible refine Kd.C_alloc ?_ _) | (with_reducible refine Kd.C_drewN ?_ _) | (with_reducible refine Kd.C_drew ?_))); (case side4 => exact HC1_1.out); rintro e w13 ⟨rfl, hb⟩; refine ⟨_, rfl, ?_⟩; replace BK141001 := aQ (blk_below (g := gb141001) (o := .cells #[.int .i64 a0_0, .slice A0_1 l0_1.length c0_1] 26 (0, 0)) (by (with_reducible repeat (first | refine blk_drewN ?_ _ | refine blk_drew ?_ | refine blk_alloc ?_ _)); exact BK141001.out) hb); replace BK141002 := aQ (blk_below (g := gb141002) (o := .cells #[.int .i64 a1_0, .slice A1_1 l1_1.length c1_1] 26 (0, 0)) (by (with_reducible repeat (first | refine blk_drewN ?_ _ | refine blk_drew ?_ | refine blk_alloc ?_ _)); exact BK141002.out) hb); replace BK141003 := aQ (blk_below (g := gb141003) (o := .cells #[.int .i64 0, .slice none 0 0] 26 (0, 0)) (by (with_reducible repeat (first | refine blk_drewN ?_ _ | refine blk_drew ?_ | refine blk_alloc ?_ _)); exact BK141003.out) hb); replace HB := aQ (below_step (by repeat (first | (with_reducible first | exact HB.out | apply below_alloc | apply pw_below_drewN | apply below_drew1 | refine below_set ?_ GE141001.out | refine below_set ?_ GE141002.out | refine below_set ?_ GE141003.out) | exact HB.out)) hb); (try clear hb); (try clear hb2); (try clear hk); (try clear hi)) | ((with_reducible refine gate_dst (N := 19) rfl ?_); refine Kd.R_lit (Kd.int .i64) _ 3 ?hg (N := 19) ?hd (xs := ([] : List Int)) (inner := []) (ok := fun _ => True) (okp := fun _ => True) ?hr ?hp (fun _ hk => hk) trivial (Below.refl _ _) (Nat.le_refl _) (by simp) ?_; (case hd => rfl); (case hg => rfl); (case hr => first | (go_simp; done) | (go_simp; rfl)); (case hp => exact (Reps.none _ _)); intro v141006 w14 ho15 hb hg_ hnew_; clear hg_ hnew_; (first | rw [← Ny141005.out] at ho15 | (simp only [Int.reduceToNat] at ho15; rw [← Ny141005.out] at ho15)); have HO141007 := aQ (Kd.R_lower ho15 (below_size (by repeat (first | (with_reducible first | exact HB.out | apply below_alloc | apply pw_below_drewN | apply below_drew1 | refine below_set ?_ GE141001.out | refine below_set ?_ GE141002.out | refine below_set ?_ GE141003.out) | exact HB.out)))); replace BK141001 := aQ (blk_below (g := gb141001) (o := .cells #[.int .i64 a0_0, .slice A0_1 l0_1.length c0_1] 26 (0, 0)) (by (with_reducible repeat (first | refine blk_drewN ?_ _ | refine blk_drew ?_ | refine blk_alloc ?_ _)); exact BK141001.out) hb); replace BK141002 := aQ (blk_below (g := gb141002) (o := .cells #[.int .i64 a1_0, .slice A1_1 l1_1.length c1_1] 26 (0, 0)) (by (with_reducible repeat (first | refine blk_drewN ?_ _ | refine blk_drew ?_ | refine blk_alloc ?_ _)); exact BK141002.out) hb); replace BK141003 := aQ (blk_below (g := gb141003) (o := .cells #[.int .i64 0, .slice none 0 0] 26 (0, 0)) (by (with_reducible repeat (first | refine blk_drewN ?_ _ | refine blk_drew ?_ | refine blk_alloc ?_ _)); exact BK141003.out) hb); replace HB := aQ (below_step (by repeat (first | (with_reducible first | exact HB.out | apply below_alloc | apply pw_below_drewN | apply below_drew1 | refine below_set ?_ GE141001.out | refine below_set ?_ GE141002.out | refine below_set ?_ GE141003.out) | exact HB.out)) hb); clear hb ho15))
  go_loopg [6, 7] k (fun kq v6 v7 w' => ∃ (x6_1 : List Int) (x7_1 : Int), v7 = .int .i64 x7_1 ∧ Aside0 (spec_UnionOf.l0 kq x6_1 x7_1 a0_0 l0_1 a1_0 l1_1 = some (r1, r2, r3)) ∧ Aside0 (kq ≤ k) ∧ Aside0 (Kd.R (Kd.int .i64) 3 w' w.heap.size (fun _ => True) v6 x6_1) ∧ Aside0 (w'.heap[gb141001]? = some (.cells #[.int .i64 a0_0, (.slice A0_1 l0_1.length c0_1)] 26 (0, 0))) ∧ Aside0 (w'.heap[gb141002]? = some (.cells #[.int .i64 a1_0, (.slice A1_1 l1_1.length c1_1)] 26 (0, 0))) ∧ Aside0 (w'.heap[gb141003]? = some (.cells #[.int .i64 0, (.slice none 0 0)] 26 (0, 0))) ∧ Aside0 (Below w.heap.size w w'))
  case atStart => exact ⟨(y141005), (0), (by first | rfl | (simp; done) | (simp [*]; done)), H', ⟨Nat.le_refl _⟩, ⟨by (with_reducible repeat (first | apply Kd.R_alloc | apply Kd.R_drewN | apply Kd.R_drew)); exact HO141007.out⟩, ⟨by (with_reducible repeat (first | refine blk_drewN ?_ _ | refine blk_drew ?_ | refine blk_alloc ?_ _)); exact BK141001.out⟩, ⟨by (with_reducible repeat (first | refine blk_drewN ?_ _ | refine blk_drew ?_ | refine blk_alloc ?_ _)); exact BK141002.out⟩, ⟨by (with_reducible repeat (first | refine blk_drewN ?_ _ | refine blk_drew ?_ | refine blk_alloc ?_ _)); exact BK141003.out⟩, ⟨by repeat (first | (with_reducible first | exact HB.out | apply below_alloc | apply pw_below_drewN | apply below_drew1 | refine below_set ?_ GE141001.out | refine below_set ?_ GE141002.out | refine below_set ?_ GE141003.out) | exact HB.out)⟩⟩
  case round =>
   clear H'
   try clear c1
   try clear p2
   try clear c4
   try clear c6
   try clear c8
   try clear c9
   try clear c11
   try clear c14
   try clear hcz10_0
   try clear hcz10_1
   try clear hcz12_0
   try clear hcz12_1
   try clear hfz10_0
   try clear hfz10_1
   try clear hfz12_0
   try clear hfz12_1
   obtain ⟨x6_1, x7_1, rfl, HA, HK1, HO_6, BK141001, BK141002, BK141003, HB⟩ := hrel
   cases gk with
   | zero => exact absurd HA.out (by simp [spec_UnionOf.l0])
   | succ k1 =>
    have H := HA.out
    clear HA
    simp only [spec_UnionOf.l0] at H
    by_cases c16 : x7_1 < (l0_1.length : Int)
    ·rw [if_pos c16] at H
     have c16b0 : decide (x7_1 < (l0_1.length : Int)) = true := decide_eq_true c16
     clear c16
     have H' := aQ H
     clear H
     have hnb17 := NB141001_141002.out
     have hnc17 := NB141002_141001.out
     have hnb18 := NB141001_141003.out
     have hnc18 := NB141003_141001.out
     have hcz19_0 : wr.cell? ⟨gb141001, 0, none⟩ = some (.int .i64 a0_0) := (blk_cell BK141001.out 0).trans rfl
     have hcz19_1 : wr.cell? ⟨gb141001, 1, none⟩ = some (.slice A0_1 l0_1.length c0_1) := (blk_cell BK141001.out 1).trans rfl
     have hfz19_0 := blk_frozen BK141001.out 0
     have hfz19_1 := blk_frozen BK141001.out 1
     go_wp2
     go_loopg [6, 8] k1 (fun kq v6 v8 w' => ∃ (x6_2 : List Int) (x8_2 : Int), v8 = .int .i64 x8_2 ∧ Aside0 (spec_UnionOf.l1 kq x6_2 x7_1 x8_2 a0_0 l0_1 a1_0 l1_1 = some (r1, r2, r3)) ∧ Aside0 (kq ≤ k1) ∧ Aside0 (Kd.R (Kd.int .i64) 3 w' w.heap.size (fun _ => True) v6 x6_2) ∧ Aside0 (w'.heap[gb141001]? = some (.cells #[.int .i64 a0_0, (.slice A0_1 l0_1.length c0_1)] 26 (0, 0))) ∧ Aside0 (w'.heap[gb141002]? = some (.cells #[.int .i64 a1_0, (.slice A1_1 l1_1.length c1_1)] 26 (0, 0))) ∧ Aside0 (w'.heap[gb141003]? = some (.cells #[.int .i64 0, (.slice none 0 0)] 26 (0, 0))) ∧ Aside0 (Below w.heap.size w w'))
     case atStart => exact ⟨(x6_1), (0), (by first | rfl | (simp; done) | (simp [*]; done)), H', ⟨Nat.le_refl _⟩, ⟨by (with_reducible repeat (first | apply Kd.R_alloc | apply Kd.R_drewN | apply Kd.R_drew)); exact HO_6.out⟩, ⟨by (with_reducible repeat (first | refine blk_drewN ?_ _ | refine blk_drew ?_ | refine blk_alloc ?_ _)); exact BK141001.out⟩, ⟨by (with_reducible repeat (first | refine blk_drewN ?_ _ | refine blk_drew ?_ | refine blk_alloc ?_ _)); exact BK141002.out⟩, ⟨by (with_reducible repeat (first | refine blk_drewN ?_ _ | refine blk_drew ?_ | refine blk_alloc ?_ _)); exact BK141003.out⟩, ⟨by repeat (first | (with_reducible first | exact HB.out | apply below_alloc | apply pw_below_drewN | apply below_drew1 | refine below_set ?_ GE141001.out | refine below_set ?_ GE141002.out | refine below_set ?_ GE141003.out) | exact HB.out)⟩⟩
     case round =>
      clear H'
      try clear c1
      try clear p2
      try clear c4
      try clear c6
      try clear c8
      try clear c9
      try clear c11
      try clear c14
      try clear c16
      try clear c16b0
      try clear c17
      try clear c18
      try clear hcz10_0
      try clear hcz10_1
      try clear hcz12_0
      try clear hcz12_1
      try clear hcz19_0
      try clear hcz19_1
      try clear hfz10_0
      try clear hfz10_1
      try clear hfz12_0
      try clear hfz12_1
      try clear hfz19_0
      try clear hfz19_1
      try clear p2
      obtain ⟨x6_2, x8_2, rfl, HA, HK2, HO_6, BK141001, BK141002, BK141003, HB⟩ := hrel
      cases gk with
      | zero => exact absurd HA.out (by simp [spec_UnionOf.l1])
      | succ k2 =>
       have H := HA.out
       clear HA
       simp only [spec_UnionOf.l1] at H
       by_cases c20 : x8_2 < (l1_1.length : Int)
       ·rw [if_pos c20] at H
        have c20b0 : decide (x8_2 < (l1_1.length : Int)) = true := decide_eq_true c20
        clear c20
        by_cases c21 : 0 ≤ x7_1
        ·rw [if_pos c21] at H
         have c21b0 : decide (0 ≤ x7_1) = true := decide_eq_true c21
         clear c21
         by_cases c22 : x7_1 < (l0_1.length : Int)
         ·rw [if_pos c22] at H
          have c22b0 : decide (x7_1 < (l0_1.length : Int)) = true := decide_eq_true c22
          clear c22
          by_cases c23 : 0 ≤ x8_2
          ·rw [if_pos c23] at H
           have c23b0 : decide (0 ≤ x8_2) = true := decide_eq_true c23
           clear c23
           by_cases c24 : x6_2.length < 17592186044416
           ·rw [if_pos c24] at H
            have LMc24 := aQ c24
            clear c24
            obtain ⟨y141010, hy141010⟩ : ∃ y_ : List Int, y_ = (x6_2 ++ [Go.bits .or .i64 (rd l0_1 x7_1) (rd l1_1 x8_2)]) := ⟨_, rfl⟩
            replace H : (spec_UnionOf.l1 k2 y141010 x7_1 (wrap64 (x8_2 + 1)) a0_0 l0_1 a1_0 l1_1) = some (r1, r2, r3) := by first | (rw [hy141010]; with_reducible exact H) | (have H2_ := (Option.bind_some _ _).symm.trans H; rw [hy141010]; with_reducible exact H2_) | (have H2_ := (Option.bind_some _ _).symm.trans H; with_reducible exact H2_) | with_reducible exact H | (rw [hy141010]; exact H) | exact H
            have Ny141010 := aQ hy141010
            clear hy141010
            have H' := aQ H
            clear H
            have hnb25 := NB141002_141001.out
            have hnc25 := NB141001_141002.out
            have hnb26 := NB141002_141003.out
            have hnc26 := NB141003_141002.out
            have hcz27_0 : wr.cell? ⟨gb141002, 0, none⟩ = some (.int .i64 a1_0) := (blk_cell BK141002.out 0).trans rfl
            have hcz27_1 : wr.cell? ⟨gb141002, 1, none⟩ = some (.slice A1_1 l1_1.length c1_1) := (blk_cell BK141002.out 1).trans rfl
            have hfz27_0 := blk_frozen BK141002.out 0
            have hfz27_1 := blk_frozen BK141002.out 1
            try go_wp2
            have n0_ := aQ (Kd.R_drew HO_6.out)
            have n1_ := aQ (blk_drew BK141001.out)
            have n2_ := aQ (blk_drew BK141002.out)
            have n3_ := aQ (blk_drew BK141003.out)
            have n4_ := aQ (below_drew1 HB.out)
            clear HO_6
            clear BK141001
            clear BK141002
            clear BK141003
            clear HB
            have HO_6 := n0_
            have BK141001 := n1_
            have BK141002 := n2_
            have BK141003 := n3_
            have HB := n4_
            clear n0_ n1_ n2_ n3_ n4_
            have p141008 : 0 ≤ (x7_1 : Int) := of_decide_eq_true (by first | (with_reducible assumption) | assumption)
            have q141008 : x7_1 < (l0_1.length : Int) := of_decide_eq_true (by first | (with_reducible assumption) | assumption)
            obtain ⟨ad141008, e141008, hx141008_0⟩ := Kd.at_int HR0_1.out x7_1 p141008 q141008
            have hw141008_0 := hx141008_0
            cases e141008
            replace hx141008_0 := (HB.out.cell (World.block_lt_of_cell? w _ hx141008_0)).trans hx141008_0
            replace p141008 := eq_true p141008
            replace q141008 := eq_true q141008
            have p141009 : 0 ≤ (x8_2 : Int) := of_decide_eq_true (by first | (with_reducible assumption) | assumption)
            have q141009 : x8_2 < (l1_1.length : Int) := of_decide_eq_true (by first | (with_reducible assumption) | assumption)
            obtain ⟨ad141009, e141009, hx141009_0⟩ := Kd.at_int HR1_1.out x8_2 p141009 q141009
            have hw141009_0 := hx141009_0
            cases e141009
            replace hx141009_0 := (HB.out.cell (World.block_lt_of_cell? w _ hx141009_0)).trans hx141009_0
            replace p141009 := eq_true p141009
            replace q141009 := eq_true q141009
            refine start_ (n := 15) (S := fun w' => w'.cell? ⟨gb141001, 0, none⟩ = some (.int .i64 a0_0) ∧ w'.cell? ⟨gb141001, 1, none⟩ = some (.slice (some ad141008) l0_1.length c0_1) ∧ w'.cell? ⟨gb141002, 0, none⟩ = some (.int .i64 a1_0) ∧ w'.cell? ⟨gb141002, 1, none⟩ = some (.slice (some ad141009) l1_1.length c1_1) ∧ w'.cell? (ad141008.add (x7_1).toNat) = some (.int .i64 (rd l0_1 x7_1)) ∧ w'.cell? (ad141009.add (x8_2).toNat) = some (.int .i64 (rd l1_1 x8_2))) (ds := []) #[false, false, false, false, false, false, false, false, false, false, false, false, false, false, false] (by kernel_rfl) rfl rfl ⟨(blk_cell BK141001.out 0).trans rfl, (blk_cell BK141001.out 1).trans rfl, (blk_cell BK141002.out 0).trans rfl, (blk_cell BK141002.out 1).trans rfl, ((HB.out.cell (World.block_lt_of_cell? w _ hw141008_0)).trans hw141008_0), ((HB.out.cell (World.block_lt_of_cell? w _ hw141009_0)).trans hw141009_0)⟩ (fun hHeld => ?_); refine with_tabW spec_UnionOf.tab10 spec_UnionOf.bits10 (fun HT_ HW_ => ?_)
            generalize wr.drew = w28 at HO_6 BK141001 BK141002 BK141003 HB hx141008_0 hx141009_0 hHeld ⊢
            refine pure_ (i := 0) (N := some 34) (v := ?_) (a' := ?_) #[true, false, false, false, false, false, false, false, false, false, false, false, false, false, false] rfl rfl (any_of HT_.out (by kernel_rfl)) (fun _ _ _ h => h) (Or.inl ⟨by rfl, ?_⟩) ?_ ?_
            rotate_left
            ·intro w'
             go_simp
             with_reducible rfl
            rotate_left
            ·simp only [Act.put, List.setIfInBounds_toArray, List.set_cons_zero, List.set_cons_succ, i64_w, i32_w]
             rfl
            refine pure_ (i := 1) (N := some 35) (v := ?_) (a' := ?_) #[true, true, false, false, false, false, false, false, false, false, false, false, false, false, false] rfl rfl (any_of HT_.out (by kernel_rfl)) (fun _ _ _ h => h) (Or.inl ⟨by rfl, ?_⟩) ?_ ?_
            rotate_left
            ·intro w'
             go_simp
             with_reducible rfl
            rotate_left
            ·simp only [Act.put, List.setIfInBounds_toArray, List.set_cons_zero, List.set_cons_succ, i64_w, i32_w]
             rfl
            refine pure_ (i := 3) (N := some 37) (v := ?_) (a' := ?_) #[true, true, false, true, false, false, false, false, false, false, false, false, false, false, false] rfl rfl (any_of HT_.out (by kernel_rfl)) (fun _ _ _ h => h) (Or.inl ⟨by rfl, ?_⟩) ?_ ?_
            rotate_left
            ·intro w'
             go_simp
             with_reducible rfl
            rotate_left
            ·simp only [Act.put, List.setIfInBounds_toArray, List.set_cons_zero, List.set_cons_succ, i64_w, i32_w]
             rfl
            refine pure_ (i := 6) (N := some 40) (v := ?_) (a' := ?_) #[true, true, false, true, false, false, true, false, false, false, false, false, false, false, false] rfl rfl (any_of HT_.out (by kernel_rfl)) (fun _ _ _ h => h) (Or.inl ⟨by rfl, ?_⟩) ?_ ?_
            rotate_left
            ·intro w'
             go_simp
             with_reducible rfl
            rotate_left
            ·simp only [Act.put, List.setIfInBounds_toArray, List.set_cons_zero, List.set_cons_succ, i64_w, i32_w]
             rfl
            refine pure_ (i := 8) (N := some 42) (v := ?_) (a' := ?_) #[true, true, false, true, false, false, true, false, true, false, false, false, false, false, false] rfl rfl (any_of HT_.out (by kernel_rfl)) (fun _ _ _ h => h) (Or.inl ⟨by rfl, ?_⟩) ?_ ?_
            rotate_left
            ·intro w'
             go_simp
             with_reducible rfl
            rotate_left
            ·simp only [Act.put, List.setIfInBounds_toArray, List.set_cons_zero, List.set_cons_succ, i64_w, i32_w]
             rfl
            refine take_ (i := 2) (N := some 36) (v := ?_) (a' := ?_) #[true, true, true, true, false, false, true, false, true, false, false, false, false, false, false] rfl rfl (take_ofW HT_.out HW_.out (by kernel_rfl)) (fun _ _ _ h => h) (Or.inl ⟨by rfl, ?_⟩) hHeld ?_ ?_
            rotate_left
            ·rintro w' ⟨s0, s1, s2, s3, s4, s5⟩
             go_simp
             with_reducible rfl
            rotate_left
            ·simp only [Act.put, List.setIfInBounds_toArray, List.set_cons_zero, List.set_cons_succ, i64_w, i32_w]
             rfl
            refine pure_ (i := 4) (N := some 38) (v := ?_) (a' := ?_) #[true, true, true, true, true, false, true, false, true, false, false, false, false, false, false] rfl rfl (any_of HT_.out (by kernel_rfl)) (fun _ _ _ h => h) (Or.inl ⟨by rfl, ?_⟩) ?_ ?_
            rotate_left
            ·intro w'
             go_simp
             with_reducible rfl
            rotate_left
            ·simp only [Act.put, List.setIfInBounds_toArray, List.set_cons_zero, List.set_cons_succ, i64_w, i32_w]
             rfl
            refine take_ (i := 5) (N := some 39) (v := ?_) (a' := ?_) #[true, true, true, true, true, true, true, false, true, false, false, false, false, false, false] rfl rfl (take_ofW HT_.out HW_.out (by kernel_rfl)) (fun _ _ _ h => h) (Or.inl ⟨by rfl, ?_⟩) hHeld ?_ ?_
            rotate_left
            ·rintro w' ⟨s0, s1, s2, s3, s4, s5⟩
             go_simp
             with_reducible rfl
            rotate_left
            ·simp only [Act.put, List.setIfInBounds_toArray, List.set_cons_zero, List.set_cons_succ, i64_w, i32_w]
             rfl
            refine take_ (i := 7) (N := some 41) (v := ?_) (a' := ?_) #[true, true, true, true, true, true, true, true, true, false, false, false, false, false, false] rfl rfl (take_ofW HT_.out HW_.out (by kernel_rfl)) (fun _ _ _ h => h) (Or.inl ⟨by rfl, ?_⟩) hHeld ?_ ?_
            rotate_left
            ·rintro w' ⟨s0, s1, s2, s3, s4, s5⟩
             go_simp
             with_reducible rfl
            rotate_left
            ·simp only [Act.put, List.setIfInBounds_toArray, List.set_cons_zero, List.set_cons_succ, i64_w, i32_w]
             rfl
            refine pure_ (i := 9) (N := some 43) (v := ?_) (a' := ?_) #[true, true, true, true, true, true, true, true, true, true, false, false, false, false, false] rfl rfl (any_of HT_.out (by kernel_rfl)) (fun _ _ _ h => h) (Or.inl ⟨by rfl, ?_⟩) ?_ ?_
            rotate_left
            ·intro w'
             go_simp
             with_reducible rfl
            rotate_left
            ·simp only [Act.put, List.setIfInBounds_toArray, List.set_cons_zero, List.set_cons_succ, i64_w, i32_w]
             rfl
            refine take_ (i := 10) (N := some 44) (v := ?_) (a' := ?_) #[true, true, true, true, true, true, true, true, true, true, true, false, false, false, false] rfl rfl (take_ofW HT_.out HW_.out (by kernel_rfl)) (fun _ _ _ h => h) (Or.inl ⟨by rfl, ?_⟩) hHeld ?_ ?_
            rotate_left
            ·rintro w' ⟨s0, s1, s2, s3, s4, s5⟩
             go_simp
             with_reducible rfl
            rotate_left
            ·simp only [Act.put, List.setIfInBounds_toArray, List.set_cons_zero, List.set_cons_succ, i64_w, i32_w]
             rfl
            refine pure_ (i := 11) (N := some 45) (v := ?_) (a' := ?_) #[true, true, true, true, true, true, true, true, true, true, true, true, false, false, false] rfl rfl (any_of HT_.out (by kernel_rfl)) (fun _ _ _ h => h) (Or.inl ⟨by rfl, ?_⟩) ?_ ?_
            rotate_left
            ·intro w'
             go_simp
             with_reducible rfl
            rotate_left
            ·simp only [Act.put, List.setIfInBounds_toArray, List.set_cons_zero, List.set_cons_succ, i64_w, i32_w]
             rfl
            refine one_ (i := 12) (N := some 46) #[true, true, true, true, true, true, true, true, true, true, true, true, true, false, false] rfl rfl (one_of HT_.out (by kernel_rfl)) (by decide) (fun K hK => ?_)
            refine value_ (w1 := ?_) (v := ?_) (by rfl) rfl ?_ ?_
            rotate_left 2
            ·go_simp
             constructor
             ·rfl
             ·rfl
            refine hK.out _ _ ⟨(blk_cell (blk_alloc BK141001.out _) 0).trans rfl, (blk_cell (blk_alloc BK141001.out _) 1).trans rfl, (blk_cell (blk_alloc BK141002.out _) 0).trans rfl, (blk_cell (blk_alloc BK141002.out _) 1).trans rfl, (World.cell?_alloc_lt _ _ _ (World.block_lt_of_cell? _ _ (((HB.out.cell (World.block_lt_of_cell? w _ hw141008_0)).trans hw141008_0)))).trans (((HB.out.cell (World.block_lt_of_cell? w _ hw141008_0)).trans hw141008_0)), (World.cell?_alloc_lt _ _ _ (World.block_lt_of_cell? _ _ (((HB.out.cell (World.block_lt_of_cell? w _ hw141009_0)).trans hw141009_0)))).trans (((HB.out.cell (World.block_lt_of_cell? w _ hw141009_0)).trans hw141009_0))⟩ (fun hHeld => ?_)
            clear hK K
            refine norm_ (a' := ?_) ?_ ?_
            rotate_left
            ·show Act.put _ (some 46) _ = _
             simp only [Act.put, List.setIfInBounds_toArray, List.set_cons_zero, List.set_cons_succ, i64_w, i32_w]
             rfl
            refine one_ (i := 13) (N := some 47) #[true, true, true, true, true, true, true, true, true, true, true, true, true, true, false] rfl rfl (one_of HT_.out (by kernel_rfl)) (by decide) (fun K hK => ?_)
            refine Kd.R_append_step (Kd.int .i64) (w0 := w) w.heap.size (by rfl) (.tmp 34) (.tmp 46) 22 3 (.int .i64 0) 8 rfl Try.underlying22 info3 rfl (by decide) (by omega) u6 x6_2 (Go.bits .or .i64 (rd l0_1 x7_1) (rd l1_1 x8_2)) [.int .i64 (Go.bits .or .i64 (rd l0_1 x7_1) (rd l1_1 x8_2))] (fun _ => True) (fun _ => False) rfl rfl ?aP (fun _ hk => hk.elim) ?aF ?aO ?aB ?aS ?aL ?_
            (case aP => exact rfl)
            (case aB => exact (by repeat (first | (with_reducible first | exact HB.out | apply below_alloc | apply pw_below_drewN | apply below_drew1 | refine below_set ?_ GE141001.out | refine below_set ?_ GE141002.out | refine below_set ?_ GE141003.out) | exact HB.out)))
            (case aF => exact (fun _ _ => trivial))
            (case aO => exact (by (with_reducible repeat (first | apply Kd.R_alloc | apply Kd.R_drewN | apply Kd.R_drew)); exact HO_6.out))
            (case aS => exact (below_size (by repeat (first | (with_reducible first | exact HB.out | apply below_alloc | apply pw_below_drewN | apply below_drew1 | refine below_set ?_ GE141001.out | refine below_set ?_ GE141002.out | refine below_set ?_ GE141003.out) | exact HB.out))))
            (case aL => have := LMc24.out; omega)
            intro v141011 w29 ho hb hg hat
            rw [← Ny141010.out] at ho
            have n0_ := aQ (blk_grown (g := gb141001) (o := .cells #[.int .i64 a0_0, .slice (some ad141008) l0_1.length c0_1] 26 (0, 0)) (by (with_reducible repeat (first | refine blk_drewN ?_ _ | refine blk_drew ?_ | refine blk_alloc ?_ _)); exact BK141001.out) hg (Kd.R_ne HO_6.out BK141001.out (by decide)))
            have n1_ := aQ (blk_grown (g := gb141002) (o := .cells #[.int .i64 a1_0, .slice (some ad141009) l1_1.length c1_1] 26 (0, 0)) (by (with_reducible repeat (first | refine blk_drewN ?_ _ | refine blk_drew ?_ | refine blk_alloc ?_ _)); exact BK141002.out) hg (Kd.R_ne HO_6.out BK141002.out (by decide)))
            have n2_ := aQ (blk_grown (g := gb141003) (o := .cells #[.int .i64 0, .slice none 0 0] 26 (0, 0)) (by (with_reducible repeat (first | refine blk_drewN ?_ _ | refine blk_drew ?_ | refine blk_alloc ?_ _)); exact BK141003.out) hg (Kd.R_ne HO_6.out BK141003.out (by decide)))
            have n3_ := aQ (hb)
            have n4_ := aQ (ho)
            clear BK141001
            clear BK141002
            clear BK141003
            clear HB
            clear HO_6
            have BK141001 := n0_
            have BK141002 := n1_
            have BK141003 := n2_
            have HB := n3_
            have HO141012 := n4_
            clear n0_ n1_ n2_ n3_ n4_
            clear ho hb hg hat
            refine hK.out _ _ ⟨(blk_cell BK141001.out 0).trans rfl, (blk_cell BK141001.out 1).trans rfl, (blk_cell BK141002.out 0).trans rfl, (blk_cell BK141002.out 1).trans rfl, ((HB.out.cell (World.block_lt_of_cell? w _ hw141008_0)).trans hw141008_0), ((HB.out.cell (World.block_lt_of_cell? w _ hw141009_0)).trans hw141009_0)⟩ (fun hHeld => ?_)
            clear hK K
            refine norm_ (a' := ?_) ?_ ?_
            rotate_left
            ·show Act.put _ (some 47) _ = _
             simp only [Act.put, List.setIfInBounds_toArray, List.set_cons_zero, List.set_cons_succ, i64_w, i32_w]
             rfl
            refine pure_ (i := 14) (N := some 6) (v := ?_) (a' := ?_) #[true, true, true, true, true, true, true, true, true, true, true, true, true, true, true] rfl rfl (any_of HT_.out (by kernel_rfl)) (fun _ _ _ h => h) (Or.inl ⟨by rfl, ?_⟩) ?_ ?_
            rotate_left
            ·intro w'
             go_simp
             with_reducible rfl
            rotate_left
            ·simp only [Act.put, List.setIfInBounds_toArray, List.set_cons_zero, List.set_cons_succ, i64_w, i32_w]
             rfl
            refine done_ (done_of HT_.out (by kernel_rfl)) ?_
            try go_wp2
            go_roundg k2
            case measure => have := HK1.out; have := HK2.out; omega
            case rel => exact ⟨(y141010), (wrap64 (x8_2 + 1)), (by first | rfl | (simp; done) | (simp [*]; done)), H', ⟨by have := HK1.out; have := HK2.out; omega⟩, ⟨by (with_reducible repeat (first | apply Kd.R_alloc | apply Kd.R_drewN | apply Kd.R_drew)); exact HO141012.out⟩, ⟨by (with_reducible repeat (first | refine blk_drewN ?_ _ | refine blk_drew ?_ | refine blk_alloc ?_ _)); exact BK141001.out⟩, ⟨by (with_reducible repeat (first | refine blk_drewN ?_ _ | refine blk_drew ?_ | refine blk_alloc ?_ _)); exact BK141002.out⟩, ⟨by (with_reducible repeat (first | refine blk_drewN ?_ _ | refine blk_drew ?_ | refine blk_alloc ?_ _)); exact BK141003.out⟩, ⟨by repeat (first | (with_reducible first | exact HB.out | apply below_alloc | apply pw_below_drewN | apply below_drew1 | refine below_set ?_ GE141001.out | refine below_set ?_ GE141002.out | refine below_set ?_ GE141003.out) | exact HB.out)⟩⟩
           ·rw [if_neg c24] at H
            exact absurd H (by simp)
          ·rw [if_neg c23] at H
           exact absurd H (by simp)
         ·rw [if_neg c22] at H
          exact absurd H (by simp)
        ·rw [if_neg c21] at H
         exact absurd H (by simp)
       ·rw [if_neg c20] at H
        have c20b0 : decide (x8_2 < (l1_1.length : Int)) = false := decide_eq_false c20
        clear c20
        have H' := aQ H
        clear H
        have hnb30 := NB141002_141001.out
        have hnc30 := NB141001_141002.out
        have hnb31 := NB141002_141003.out
        have hnc31 := NB141003_141002.out
        have hcz32_0 : wr.cell? ⟨gb141002, 0, none⟩ = some (.int .i64 a1_0) := (blk_cell BK141002.out 0).trans rfl
        have hcz32_1 : wr.cell? ⟨gb141002, 1, none⟩ = some (.slice A1_1 l1_1.length c1_1) := (blk_cell BK141002.out 1).trans rfl
        have hfz32_0 := blk_frozen BK141002.out 0
        have hfz32_1 := blk_frozen BK141002.out 1
        go_wp2
        go_roundg k2
        case measure => have := HK1.out; have := HK2.out; omega
        case rel => exact ⟨(x6_2), (wrap64 (x7_1 + 1)), (by first | rfl | (simp; done) | (simp [*]; done)), H', ⟨by have := HK1.out; have := HK2.out; omega⟩, ⟨by (with_reducible repeat (first | apply Kd.R_alloc | apply Kd.R_drewN | apply Kd.R_drew)); exact HO_6.out⟩, ⟨by (with_reducible repeat (first | refine blk_drewN ?_ _ | refine blk_drew ?_ | refine blk_alloc ?_ _)); exact BK141001.out⟩, ⟨by (with_reducible repeat (first | refine blk_drewN ?_ _ | refine blk_drew ?_ | refine blk_alloc ?_ _)); exact BK141002.out⟩, ⟨by (with_reducible repeat (first | refine blk_drewN ?_ _ | refine blk_drew ?_ | refine blk_alloc ?_ _)); exact BK141003.out⟩, ⟨by repeat (first | (with_reducible first | exact HB.out | apply below_alloc | apply pw_below_drewN | apply below_drew1 | refine below_set ?_ GE141001.out | refine below_set ?_ GE141002.out | refine below_set ?_ GE141003.out) | exact HB.out)⟩⟩
    ·rw [if_neg c16] at H
     have c16b0 : decide (x7_1 < (l0_1.length : Int)) = false := decide_eq_false c16
     clear c16
     have H' := aQ H
     clear H
     have hnb33 := NB141001_141002.out
     have hnc33 := NB141002_141001.out
     have hnb34 := NB141001_141003.out
     have hnc34 := NB141003_141001.out
     have hcz35_0 : wr.cell? ⟨gb141001, 0, none⟩ = some (.int .i64 a0_0) := (blk_cell BK141001.out 0).trans rfl
     have hcz35_1 : wr.cell? ⟨gb141001, 1, none⟩ = some (.slice A0_1 l0_1.length c0_1) := (blk_cell BK141001.out 1).trans rfl
     have hfz35_0 := blk_frozen BK141001.out 0
     have hfz35_1 := blk_frozen BK141001.out 1
     go_wp2
     go_loopg [9, 10] k1 (fun kq v9 v10 w' => ∃ (x9_2 : Int) (x10_2 : Int), v9 = .int .i64 x9_2 ∧ v10 = .int .i64 x10_2 ∧ Aside0 (spec_UnionOf.l2 kq x6_1 x9_2 x10_2 a0_0 l0_1 = some (r1, r2, r3)) ∧ Aside0 (kq ≤ k1) ∧ Aside0 (Kd.R (Kd.int .i64) 3 w' w.heap.size (fun _ => True) u6 x6_1) ∧ Aside0 (w'.heap[gb141001]? = some (.cells #[.int .i64 a0_0, (.slice A0_1 l0_1.length c0_1)] 26 (0, 0))) ∧ Aside0 (w'.heap[gb141002]? = some (.cells #[.int .i64 a1_0, (.slice A1_1 l1_1.length c1_1)] 26 (0, 0))) ∧ Aside0 (w'.heap[gb141003]? = some (.cells #[.int .i64 0, (.slice none 0 0)] 26 (0, 0))) ∧ Aside0 (Below w.heap.size w w'))
     case atStart => exact ⟨(0), (0), (by first | rfl | (simp; done) | (simp [*]; done)), (by first | rfl | (simp; done) | (simp [*]; done)), H', ⟨Nat.le_refl _⟩, ⟨by (with_reducible repeat (first | apply Kd.R_alloc | apply Kd.R_drewN | apply Kd.R_drew)); exact HO_6.out⟩, ⟨by (with_reducible repeat (first | refine blk_drewN ?_ _ | refine blk_drew ?_ | refine blk_alloc ?_ _)); exact BK141001.out⟩, ⟨by (with_reducible repeat (first | refine blk_drewN ?_ _ | refine blk_drew ?_ | refine blk_alloc ?_ _)); exact BK141002.out⟩, ⟨by (with_reducible repeat (first | refine blk_drewN ?_ _ | refine blk_drew ?_ | refine blk_alloc ?_ _)); exact BK141003.out⟩, ⟨by repeat (first | (with_reducible first | exact HB.out | apply below_alloc | apply pw_below_drewN | apply below_drew1 | refine below_set ?_ GE141001.out | refine below_set ?_ GE141002.out | refine below_set ?_ GE141003.out) | exact HB.out)⟩⟩
     case round =>
      clear H'
      try clear c1
      try clear p1
      try clear q1
      try clear hx1
      try clear c2
      try clear p2
      try clear c3
      try clear c4
      try clear c6
      try clear p6
      try clear c8
      try clear c9
      try clear c11
      try clear c14
      try clear p14
      try clear q14
      try clear hx14
      try clear c16
      try clear c16b0
      try clear c17
      try clear c18
      try clear c20
      try clear c20b0
      try clear c21
      try clear c21b0
      try clear c22
      try clear c22b0
      try clear c23
      try clear c23b0
      try clear c24
      try clear c25
      try clear c26
      try clear c30
      try clear c31
      try clear c33
      try clear c34
      try clear hcz10_0
      try clear hcz10_1
      try clear hcz12_0
      try clear hcz12_1
      try clear hcz19_0
      try clear hcz19_1
      try clear hcz27_0
      try clear hcz27_1
      try clear hcz32_0
      try clear hcz32_1
      try clear hcz35_0
      try clear hcz35_1
      try clear hfz10_0
      try clear hfz10_1
      try clear hfz12_0
      try clear hfz12_1
      try clear hfz19_0
      try clear hfz19_1
      try clear hfz27_0
      try clear hfz27_1
      try clear hfz32_0
      try clear hfz32_1
      try clear hfz35_0
      try clear hfz35_1
      try clear hx141008_0
      try clear hx141009_0
      try clear p141008
      try clear p141009
      try clear p2
      try clear q141008
      try clear q141009
      obtain ⟨x9_2, x10_2, rfl, rfl, HA, HK2, HO_6, BK141001, BK141002, BK141003, HB⟩ := hrel
      cases gk with
      | zero => exact absurd HA.out (by simp [spec_UnionOf.l2])
      | succ k2 =>
       have H := HA.out
       clear HA
       simp only [spec_UnionOf.l2] at H
       by_cases c36 : x10_2 < (x6_1.length : Int)
       ·rw [if_pos c36] at H
        have c36b0 : decide (x10_2 < (x6_1.length : Int)) = true := decide_eq_true c36
        clear c36
        by_cases c37 : 0 ≤ x10_2
        ·rw [if_pos c37] at H
         have c37b0 : decide (0 ≤ x10_2) = true := decide_eq_true c37
         clear c37
         replace H := Option.bind_eq_some_iff.mp H
         obtain ⟨t141014, A380, H⟩ := H
         replace H : ((spec_l1Max.f x9_2 t141014).bind fun t141015 => (spec_UnionOf.l2 k2 x6_1 t141015 (wrap64 (x10_2 + 1)) a0_0 l0_1)) = some (r1, r2, r3) := H
         have A38 := aQ A380
         clear A380
         replace H := Option.bind_eq_some_iff.mp H
         obtain ⟨t141015, A390, H⟩ := H
         replace H : (spec_UnionOf.l2 k2 x6_1 t141015 (wrap64 (x10_2 + 1)) a0_0 l0_1) = some (r1, r2, r3) := H
         have A39 := aQ A390
         clear A390
         have H' := aQ H
         clear H
         obtain ⟨Ao40, co40, eo40⟩ := Kd.R_slice HO_6.out
         subst eo40
         have p141013 : 0 ≤ (x10_2 : Int) := of_decide_eq_true (by first | (with_reducible assumption) | assumption)
         have q141013 : x10_2 < (x6_1.length : Int) := of_decide_eq_true (by first | (with_reducible assumption) | assumption)
         obtain ⟨ad141013, e141013, hx141013_0⟩ := Kd.at_int (Kd.R_reads' HO_6.out).2.2 x10_2 p141013 q141013
         cases e141013
         replace p141013 := eq_true p141013
         replace q141013 := eq_true q141013
         go_wp2_with (first | ((with_reducible refine gate_callee (f := 58) rfl ?_); refine goesL_ (some 59) rfl rfl Try.func58 (by kernel_rfl) rfl #[.int .i64 (rd x6_1 x10_2)] rfl (by (try simp only [List.map_toArray, List.map_cons, List.map_nil]); first | done | rfl | (simp only [List.length_drop, List.length_take]; rfl)) ?_; (with_reducible refine (spec_CountOf.calls k2 (rd x6_1 x10_2) t141014 _ A38.out).mono ?_); rintro e w' ⟨rfl, ⟨nd, rfl⟩⟩; refine ⟨_, rfl, ?_⟩) | ((with_reducible refine gate_callee (f := 130) rfl ?_); refine goesL_ (some 60) rfl rfl Try.func130 (by kernel_rfl) rfl #[.int .i64 x9_2, .int .i64 t141014] rfl (by (try simp only [List.map_toArray, List.map_cons, List.map_nil]); first | done | rfl | (simp only [List.length_drop, List.length_take]; rfl)) ?_; (with_reducible refine (spec_l1Max.calls x9_2 t141014 t141015 _ A39.out).mono ?_); rintro e w' ⟨rfl, ⟨nd, rfl⟩⟩; refine ⟨_, rfl, ?_⟩))
         go_roundg k2
         case measure => have := HK1.out; have := HK2.out; omega
         case rel => exact ⟨(t141015), (wrap64 (x10_2 + 1)), (by first | rfl | (simp; done) | (simp [*]; done)), (by first | rfl | (simp; done) | (simp [*]; done)), H', ⟨by have := HK1.out; have := HK2.out; omega⟩, ⟨by (with_reducible repeat (first | apply Kd.R_alloc | apply Kd.R_drewN | apply Kd.R_drew)); exact HO_6.out⟩, ⟨by (with_reducible repeat (first | refine blk_drewN ?_ _ | refine blk_drew ?_ | refine blk_alloc ?_ _)); exact BK141001.out⟩, ⟨by (with_reducible repeat (first | refine blk_drewN ?_ _ | refine blk_drew ?_ | refine blk_alloc ?_ _)); exact BK141002.out⟩, ⟨by (with_reducible repeat (first | refine blk_drewN ?_ _ | refine blk_drew ?_ | refine blk_alloc ?_ _)); exact BK141003.out⟩, ⟨by repeat (first | (with_reducible first | exact HB.out | apply below_alloc | apply pw_below_drewN | apply below_drew1 | refine below_set ?_ GE141001.out | refine below_set ?_ GE141002.out | refine below_set ?_ GE141003.out) | exact HB.out)⟩⟩
        ·rw [if_neg c37] at H
         exact absurd H (by simp)
       ·rw [if_neg c36] at H
        have c36b0 : decide (x10_2 < (x6_1.length : Int)) = false := decide_eq_false c36
        clear c36
        replace H := Option.bind_eq_some_iff.mp H
        obtain ⟨t141017, A410, H⟩ := H
        replace H : (spec_UnionOf.l3 k2 x9_2 t141017 0 a0_0 ([] : List Int)) = some (r1, r2, r3) := H
        have A41 := aQ A410
        clear A410
        have H' := aQ H
        clear H
        obtain ⟨Ao42, co42, eo42⟩ := Kd.R_slice HO_6.out
        subst eo42
        have hnb43 := NB141001_141002.out
        have hnc43 := NB141002_141001.out
        have hnb44 := NB141001_141003.out
        have hnc44 := NB141003_141001.out
        have hcz45_0 : wr.cell? ⟨gb141001, 0, none⟩ = some (.int .i64 a0_0) := (blk_cell BK141001.out 0).trans rfl
        have hcz45_1 : wr.cell? ⟨gb141001, 1, none⟩ = some (.slice A0_1 l0_1.length c0_1) := (blk_cell BK141001.out 1).trans rfl
        have hfz45_0 := blk_frozen BK141001.out 0
        have hfz45_1 := blk_frozen BK141001.out 1
        go_wp2_with (first | ((with_reducible refine gate_dst (N := 11) rfl ?_); refine box_event ?hg (N := 11) ?hd (cs := #[.int .i64 0, .slice none 0 0]) (t := 26) ?hr ?_; (case hd => rfl); (case hg => rfl); (case hr => first | (go_simp; done) | (go_simp; rfl)); intro gb141016 hg w46 hbox hb; replace HO_6 := aQ (Kd.R_below (by (with_reducible repeat (first | apply Kd.R_alloc | apply Kd.R_drewN | apply Kd.R_drew)); exact HO_6.out) hb); have BK141016 := aQ (hbox); have GW141016 := aQ ((by rw [hg]; exact (below_size (by repeat (first | (with_reducible first | exact HB.out | apply below_alloc | apply pw_below_drewN | apply below_drew1 | refine below_set ?_ GE141001.out | refine below_set ?_ GE141002.out | refine below_set ?_ GE141003.out) | exact HB.out))) : w.heap.size ≤ gb141016)); have GE141016 := aQ ((by rw [hg]; exact (below_size (by repeat (first | (with_reducible first | exact HB.out | apply below_alloc | apply pw_below_drewN | apply below_drew1 | refine below_set ?_ GE141001.out | refine below_set ?_ GE141002.out | refine below_set ?_ GE141003.out) | exact HB.out))) : w.heap.size ≤ gb141016)); replace HB := aQ (below_step (by repeat (first | (with_reducible first | exact HB.out | apply below_alloc | apply pw_below_drewN | apply below_drew1 | refine below_set ?_ GE141001.out | refine below_set ?_ GE141002.out | refine below_set ?_ GE141003.out) | exact HB.out)) hb); have NB141001_141016 := aQ ((by rw [hg]; exact Nat.ne_of_lt (blk_lt (g := gb141001) (o := .cells #[.int .i64 a0_0, .slice A0_1 l0_1.length c0_1] 26 (0, 0)) (by (with_reducible repeat (first | refine blk_drewN ?_ _ | refine blk_drew ?_ | refine blk_alloc ?_ _)); exact BK141001.out)) : gb141001 ≠ gb141016)); have NB141016_141001 := aQ ((by rw [hg]; exact Nat.ne_of_gt (blk_lt (g := gb141001) (o := .cells #[.int .i64 a0_0, .slice A0_1 l0_1.length c0_1] 26 (0, 0)) (by (with_reducible repeat (first | refine blk_drewN ?_ _ | refine blk_drew ?_ | refine blk_alloc ?_ _)); exact BK141001.out)) : gb141016 ≠ gb141001)); replace BK141001 := aQ (blk_below (g := gb141001) (o := .cells #[.int .i64 a0_0, .slice A0_1 l0_1.length c0_1] 26 (0, 0)) (by (with_reducible repeat (first | refine blk_drewN ?_ _ | refine blk_drew ?_ | refine blk_alloc ?_ _)); exact BK141001.out) hb); have NB141002_141016 := aQ ((by rw [hg]; exact Nat.ne_of_lt (blk_lt (g := gb141002) (o := .cells #[.int .i64 a1_0, .slice A1_1 l1_1.length c1_1] 26 (0, 0)) (by (with_reducible repeat (first | refine blk_drewN ?_ _ | refine blk_drew ?_ | refine blk_alloc ?_ _)); exact BK141002.out)) : gb141002 ≠ gb141016)); have NB141016_141002 := aQ ((by rw [hg]; exact Nat.ne_of_gt (blk_lt (g := gb141002) (o := .cells #[.int .i64 a1_0, .slice A1_1 l1_1.length c1_1] 26 (0, 0)) (by (with_reducible repeat (first | refine blk_drewN ?_ _ | refine blk_drew ?_ | refine blk_alloc ?_ _)); exact BK141002.out)) : gb141016 ≠ gb141002)); replace BK141002 := aQ (blk_below (g := gb141002) (o := .cells #[.int .i64 a1_0, .slice A1_1 l1_1.length c1_1] 26 (0, 0)) (by (with_reducible repeat (first | refine blk_drewN ?_ _ | refine blk_drew ?_ | refine blk_alloc ?_ _)); exact BK141002.out) hb); have NB141003_141016 := aQ ((by rw [hg]; exact Nat.ne_of_lt (blk_lt (g := gb141003) (o := .cells #[.int .i64 0, .slice none 0 0] 26 (0, 0)) (by (with_reducible repeat (first | refine blk_drewN ?_ _ | refine blk_drew ?_ | refine blk_alloc ?_ _)); exact BK141003.out)) : gb141003 ≠ gb141016)); have NB141016_141003 := aQ ((by rw [hg]; exact Nat.ne_of_gt (blk_lt (g := gb141003) (o := .cells #[.int .i64 0, .slice none 0 0] 26 (0, 0)) (by (with_reducible repeat (first | refine blk_drewN ?_ _ | refine blk_drew ?_ | refine blk_alloc ?_ _)); exact BK141003.out)) : gb141016 ≠ gb141003)); replace BK141003 := aQ (blk_below (g := gb141003) (o := .cells #[.int .i64 0, .slice none 0 0] 26 (0, 0)) (by (with_reducible repeat (first | refine blk_drewN ?_ _ | refine blk_drew ?_ | refine blk_alloc ?_ _)); exact BK141003.out) hb); clear hb hbox hg; have hnb47 := NB141016_141001.out; have hnc47 := NB141001_141016.out; have hnb48 := NB141016_141002.out; have hnc48 := NB141002_141016.out; have hnb49 := NB141016_141003.out; have hnc49 := NB141003_141016.out; have hcz50_0 : w46.cell? ⟨gb141016, 0, none⟩ = some (.int .i64 0) := (blk_cell BK141016.out 0).trans rfl; have hcz50_1 : w46.cell? ⟨gb141016, 1, none⟩ = some (.slice none 0 0) := (blk_cell BK141016.out 1).trans rfl; have hfz50_0 := blk_frozen BK141016.out 0; have hfz50_1 := blk_frozen BK141016.out 1) | ((with_reducible refine gate_callee (f := 92) rfl ?_); refine goesL_ (some 65) rfl rfl Try.func92 (by kernel_rfl) rfl #[.slice Ao42 x6_1.length co42] rfl (by (try simp only [List.map_toArray, List.map_cons, List.map_nil]); first | done | rfl | (simp only [List.length_drop, List.length_take]; rfl)) ?_; (with_reducible refine (spec_SortSets.calls k2 _ _ x6_1 t141017 _ ?side1 ?side2 A41.out).mono ?_); (case side1 => refine (Kd.R_reads' (e := 3) (base := w.heap.size) (ok := fun k_ => True) (n := x6_1.length) (c := co42) ?_).2.2; exact (by (with_reducible repeat (first | apply Kd.R_alloc | apply Kd.R_drewN | apply Kd.R_drew)); exact (Kd.R_mono (Kd.R_far (p := ⟨gb141016, 1, none⟩) (Kd.R_far (p := ⟨gb141016, 0, none⟩) (Kd.R_types HO_6.out BK141016.out (by decide)) (fun _ hk => hk.2) (.int .i64 a0_0)) (fun _ hk => hk.2) (.slice none 0 0)) (fun _ h_ => h_.1)))); (case side2 => exact (Kd.R_reads' HO_6.out).2.1); rintro e w51 ⟨v141018, rfl, ho0, hb⟩; refine ⟨_, rfl, ?_⟩; have HO141019 := aQ (Kd.R_lower (Kd.R_new' ho0 (Kd.R_lt (by (with_reducible repeat (first | apply Kd.R_alloc | apply Kd.R_drewN | apply Kd.R_drew)); exact (Kd.R_mono (Kd.R_far (p := ⟨gb141016, 1, none⟩) (Kd.R_far (p := ⟨gb141016, 0, none⟩) (Kd.R_types HO_6.out BK141016.out (by decide)) (fun _ hk => hk.2) (.int .i64 a0_0)) (fun _ hk => hk.2) (.slice none 0 0)) (fun _ h_ => h_.1))))) (below_size (by repeat (first | (with_reducible first | exact HB.out | apply below_alloc | apply pw_below_drewN | apply below_drew1 | refine below_set ?_ GE141001.out | refine below_set ?_ GE141002.out | refine below_set ?_ GE141003.out | refine below_set ?_ GE141016.out) | exact HB.out)))); replace HO_6 := aQ (Kd.R_elder' (by (with_reducible repeat (first | apply Kd.R_alloc | apply Kd.R_drewN | apply Kd.R_drew)); exact (Kd.R_mono (Kd.R_far (p := ⟨gb141016, 1, none⟩) (Kd.R_far (p := ⟨gb141016, 0, none⟩) (Kd.R_types HO_6.out BK141016.out (by decide)) (fun _ hk => hk.2) (.int .i64 a0_0)) (fun _ hk => hk.2) (.slice none 0 0)) (fun _ h_ => h_.1))) (Kd.R_base ho0) hb); replace BK141001 := aQ (blk_below (g := gb141001) (o := .cells #[.int .i64 a0_0, .slice A0_1 l0_1.length c0_1] 26 (0, 0)) (by (with_reducible repeat (first | refine blk_drewN ?_ _ | refine blk_drew ?_ | refine blk_alloc ?_ _)); refine blk_far ?_ NB141001_141016.out _; (with_reducible repeat (first | refine blk_drewN ?_ _ | refine blk_drew ?_ | refine blk_alloc ?_ _)); refine blk_far ?_ NB141001_141016.out _; (with_reducible repeat (first | refine blk_drewN ?_ _ | refine blk_drew ?_ | refine blk_alloc ?_ _)); exact BK141001.out) hb); replace BK141002 := aQ (blk_below (g := gb141002) (o := .cells #[.int .i64 a1_0, .slice A1_1 l1_1.length c1_1] 26 (0, 0)) (by (with_reducible repeat (first | refine blk_drewN ?_ _ | refine blk_drew ?_ | refine blk_alloc ?_ _)); refine blk_far ?_ NB141002_141016.out _; (with_reducible repeat (first | refine blk_drewN ?_ _ | refine blk_drew ?_ | refine blk_alloc ?_ _)); refine blk_far ?_ NB141002_141016.out _; (with_reducible repeat (first | refine blk_drewN ?_ _ | refine blk_drew ?_ | refine blk_alloc ?_ _)); exact BK141002.out) hb); replace BK141003 := aQ (blk_below (g := gb141003) (o := .cells #[.int .i64 0, .slice none 0 0] 26 (0, 0)) (by (with_reducible repeat (first | refine blk_drewN ?_ _ | refine blk_drew ?_ | refine blk_alloc ?_ _)); refine blk_far ?_ NB141003_141016.out _; (with_reducible repeat (first | refine blk_drewN ?_ _ | refine blk_drew ?_ | refine blk_alloc ?_ _)); refine blk_far ?_ NB141003_141016.out _; (with_reducible repeat (first | refine blk_drewN ?_ _ | refine blk_drew ?_ | refine blk_alloc ?_ _)); exact BK141003.out) hb); replace BK141016 := aQ (blk_below (g := gb141016) (o := .cells #[.int .i64 a0_0, .slice none 0 0] 26 (0, 0)) (by (with_reducible repeat (first | refine blk_drewN ?_ _ | refine blk_drew ?_ | refine blk_alloc ?_ _)); refine blk_put (cs := #[.int .i64 a0_0, .slice none 0 0]) ?_ 1 _ rfl; (with_reducible repeat (first | refine blk_drewN ?_ _ | refine blk_drew ?_ | refine blk_alloc ?_ _)); refine blk_put (cs := #[.int .i64 0, .slice none 0 0]) ?_ 0 _ rfl; (with_reducible repeat (first | refine blk_drewN ?_ _ | refine blk_drew ?_ | refine blk_alloc ?_ _)); exact BK141016.out) hb); replace HB := aQ (below_step (by repeat (first | (with_reducible first | exact HB.out | apply below_alloc | apply pw_below_drewN | apply below_drew1 | refine below_set ?_ GE141001.out | refine below_set ?_ GE141002.out | refine below_set ?_ GE141003.out | refine below_set ?_ GE141016.out) | exact HB.out)) hb); (try clear hb); (try clear hb2); (try clear hk); (try clear hi); (try clear ho0)))
        go_loopg [13] k2 (fun kq v13 w' => ∃ (x13_3 : Int) (x141017001_3 : List Int) (u141017001 : Value), v13 = .int .i64 x13_3 ∧ Aside0 (spec_UnionOf.l3 kq x9_2 t141017 x13_3 a0_0 x141017001_3 = some (r1, r2, r3)) ∧ Aside0 (kq ≤ k2) ∧ Aside0 (Kd.R (Kd.int .i64) 3 w' w.heap.size (fun k_ => some k_ ≠ (u141017001 : Value).ownBlock) v141018 t141017) ∧ Aside0 (Kd.R (Kd.int .i64) 3 w' w.heap.size (fun k_ => some k_ ≠ (v141018 : Value).ownBlock) u141017001 x141017001_3) ∧ Aside0 (w'.heap[gb141001]? = some (.cells #[.int .i64 a0_0, (.slice A0_1 l0_1.length c0_1)] 26 (0, 0))) ∧ Aside0 (w'.heap[gb141002]? = some (.cells #[.int .i64 a1_0, (.slice A1_1 l1_1.length c1_1)] 26 (0, 0))) ∧ Aside0 (w'.heap[gb141003]? = some (.cells #[.int .i64 0, (.slice none 0 0)] 26 (0, 0))) ∧ Aside0 (w'.heap[gb141016]? = some (.cells #[.int .i64 a0_0, u141017001] 26 (0, 0))) ∧ Aside0 (Below w.heap.size w w'))
        case atStart => exact ⟨(0), (([] : List Int)), (.slice none 0 0), (by first | rfl | (simp; done) | (simp [*]; done)), H', ⟨Nat.le_refl _⟩, ⟨by (with_reducible repeat (first | apply Kd.R_alloc | apply Kd.R_drewN | apply Kd.R_drew)); exact Kd.R_mono HO141019.out (fun _ hk => (by simp [Value.ownBlock]))⟩, ⟨by first | exact Kd.R_nil _ _ _ _ _ | exact Kd.N_nil _ _ _ _ _ | exact Kd.V_nil _ _ _ _ _ | exact Kd.Q_nil _ _ _ _ _ | exact Kd.S_nil _ _ _ _ _⟩, ⟨by (with_reducible repeat (first | refine blk_drewN ?_ _ | refine blk_drew ?_ | refine blk_alloc ?_ _)); exact BK141001.out⟩, ⟨by (with_reducible repeat (first | refine blk_drewN ?_ _ | refine blk_drew ?_ | refine blk_alloc ?_ _)); exact BK141002.out⟩, ⟨by (with_reducible repeat (first | refine blk_drewN ?_ _ | refine blk_drew ?_ | refine blk_alloc ?_ _)); exact BK141003.out⟩, ⟨by (with_reducible repeat (first | refine blk_drewN ?_ _ | refine blk_drew ?_ | refine blk_alloc ?_ _)); exact BK141016.out⟩, ⟨by repeat (first | (with_reducible first | exact HB.out | apply below_alloc | apply pw_below_drewN | apply below_drew1 | refine below_set ?_ GE141001.out | refine below_set ?_ GE141002.out | refine below_set ?_ GE141003.out | refine below_set ?_ GE141016.out) | exact HB.out)⟩⟩
        case round =>
         clear H'
         try clear c1
         try clear p1
         try clear q1
         try clear hx1
         try clear c2
         try clear p2
         try clear c3
         try clear c4
         try clear c5
         try clear c6
         try clear p6
         try clear c8
         try clear c9
         try clear c11
         try clear c13
         try clear c14
         try clear p14
         try clear q14
         try clear hx14
         try clear c16
         try clear c16b0
         try clear c17
         try clear c18
         try clear c20
         try clear c20b0
         try clear c21
         try clear c21b0
         try clear c22
         try clear c22b0
         try clear c23
         try clear c23b0
         try clear c24
         try clear c25
         try clear c26
         try clear c30
         try clear c31
         try clear c33
         try clear c34
         try clear c36
         try clear c36b0
         try clear c37
         try clear c37b0
         try clear c43
         try clear c44
         try clear c47
         try clear c48
         try clear c49
         try clear hcz10_0
         try clear hcz10_1
         try clear hcz12_0
         try clear hcz12_1
         try clear hcz19_0
         try clear hcz19_1
         try clear hcz27_0
         try clear hcz27_1
         try clear hcz32_0
         try clear hcz32_1
         try clear hcz35_0
         try clear hcz35_1
         try clear hcz45_0
         try clear hcz45_1
         try clear hcz50_0
         try clear hcz50_1
         try clear hfz10_0
         try clear hfz10_1
         try clear hfz12_0
         try clear hfz12_1
         try clear hfz19_0
         try clear hfz19_1
         try clear hfz27_0
         try clear hfz27_1
         try clear hfz32_0
         try clear hfz32_1
         try clear hfz35_0
         try clear hfz35_1
         try clear hfz45_0
         try clear hfz45_1
         try clear hfz50_0
         try clear hfz50_1
         try clear hx141008_0
         try clear hx141009_0
         try clear hx141013_0
         try clear p1
         try clear p14
         try clear p141008
         try clear p141009
         try clear p141013
         try clear p2
         try clear p6
         try clear q1
         try clear q14
         try clear q141008
         try clear q141009
         try clear q141013
         obtain ⟨x13_3, x141017001_3, u141017001, rfl, HA, HK3, HO_12, HO_141017001, BK141001, BK141002, BK141003, BK141016, HB⟩ := hrel
         cases gk with
         | zero => exact absurd HA.out (by simp [spec_UnionOf.l3])
         | succ k3 =>
          have H := HA.out
          clear HA
          simp only [spec_UnionOf.l3] at H
          by_cases c52 : x13_3 < (t141017.length : Int)
          ·rw [if_pos c52] at H
           have c52b0 : decide (x13_3 < (t141017.length : Int)) = true := decide_eq_true c52
           clear c52
           by_cases c53 : 0 ≤ x13_3
           ·rw [if_pos c53] at H
            have c53b0 : decide (0 ≤ x13_3) = true := decide_eq_true c53
            clear c53
            replace H := Option.bind_eq_some_iff.mp H
            obtain ⟨t141021, A540, H⟩ := H
            replace H : (if t141021 = x9_2 then (if x141017001_3.length < 17592186044416 then (spec_UnionOf.l3 k3 x9_2 t141017 (wrap64 (x13_3 + 1)) a0_0 (x141017001_3 ++ [rd t141017 x13_3])) else (none)) else (spec_UnionOf.l3 k3 x9_2 t141017 (wrap64 (x13_3 + 1)) a0_0 x141017001_3)) = some (r1, r2, r3) := H
            have A54 := aQ A540
            clear A540
            by_cases c55 : t141021 = x9_2
            ·rw [if_pos c55] at H
             have c55b0 : (t141021 == x9_2) = true := beq_iff_eq.mpr c55
             have c55b1 : (t141021 != x9_2) = false := bne_eq_false_iff_eq.mpr c55
             clear c55
             by_cases c56 : x141017001_3.length < 17592186044416
             ·rw [if_pos c56] at H
              have LMc56 := aQ c56
              clear c56
              obtain ⟨y141023, hy141023⟩ : ∃ y_ : List Int, y_ = (x141017001_3 ++ [rd t141017 x13_3]) := ⟨_, rfl⟩
              replace H : (spec_UnionOf.l3 k3 x9_2 t141017 (wrap64 (x13_3 + 1)) a0_0 y141023) = some (r1, r2, r3) := by first | (rw [hy141023]; with_reducible exact H) | (have H2_ := (Option.bind_some _ _).symm.trans H; rw [hy141023]; with_reducible exact H2_) | (have H2_ := (Option.bind_some _ _).symm.trans H; with_reducible exact H2_) | with_reducible exact H | (rw [hy141023]; exact H) | exact H
              have Ny141023 := aQ hy141023
              clear hy141023
              have H' := aQ H
              clear H
              obtain ⟨Ao57, co57, eo57⟩ := Kd.R_slice HO_12.out
              subst eo57
              have p141020 : 0 ≤ (x13_3 : Int) := of_decide_eq_true (by first | (with_reducible assumption) | assumption)
              have q141020 : x13_3 < (t141017.length : Int) := of_decide_eq_true (by first | (with_reducible assumption) | assumption)
              obtain ⟨ad141020, e141020, hx141020_0⟩ := Kd.at_int (Kd.R_reads' HO_12.out).2.2 x13_3 p141020 q141020
              cases e141020
              replace p141020 := eq_true p141020
              replace q141020 := eq_true q141020
              try go_wp2_with (first | ((with_reducible refine gate_callee (f := 58) rfl ?_); refine goesL_ (some 76) rfl rfl Try.func58 (by kernel_rfl) rfl #[.int .i64 (rd t141017 x13_3)] rfl (by (try simp only [List.map_toArray, List.map_cons, List.map_nil]); first | done | rfl | (simp only [List.length_drop, List.length_take]; rfl)) ?_; (with_reducible refine (spec_CountOf.calls k3 (rd t141017 x13_3) t141021 _ A54.out).mono ?_); rintro e w' ⟨rfl, ⟨nd, rfl⟩⟩; refine ⟨_, rfl, ?_⟩; (try (rw [drewN_self wr]; generalize hq_ : World.drewN wr _ = wr; have n0_ : Aside0 (Kd.R (Kd.int .i64) 3 wr w.heap.size (fun k_ => some k_ ≠ (u141017001 : Value).ownBlock) (.slice (some ad141020) t141017.length co57) t141017) := ⟨by rw [← hq_]; exact (by (with_reducible repeat (first | apply Kd.R_alloc | apply Kd.R_drewN | apply Kd.R_drew)); exact HO_12.out)⟩; have n1_ : Aside0 (Kd.R (Kd.int .i64) 3 wr w.heap.size (fun k_ => some k_ ≠ (.slice (some ad141020) t141017.length co57 : Value).ownBlock) u141017001 x141017001_3) := ⟨by rw [← hq_]; exact (by (with_reducible repeat (first | apply Kd.R_alloc | apply Kd.R_drewN | apply Kd.R_drew)); exact HO_141017001.out)⟩; have n2_ : Aside0 (wr.heap[gb141001]? = some (.cells #[.int .i64 a0_0, .slice A0_1 l0_1.length c0_1] 26 (0, 0))) := ⟨by rw [← hq_]; exact (by (with_reducible repeat (first | refine blk_drewN ?_ _ | refine blk_drew ?_ | refine blk_alloc ?_ _)); exact BK141001.out)⟩; have n3_ : Aside0 (wr.heap[gb141002]? = some (.cells #[.int .i64 a1_0, .slice A1_1 l1_1.length c1_1] 26 (0, 0))) := ⟨by rw [← hq_]; exact (by (with_reducible repeat (first | refine blk_drewN ?_ _ | refine blk_drew ?_ | refine blk_alloc ?_ _)); exact BK141002.out)⟩; have n4_ : Aside0 (wr.heap[gb141003]? = some (.cells #[.int .i64 0, .slice none 0 0] 26 (0, 0))) := ⟨by rw [← hq_]; exact (by (with_reducible repeat (first | refine blk_drewN ?_ _ | refine blk_drew ?_ | refine blk_alloc ?_ _)); exact BK141003.out)⟩; have n5_ : Aside0 (wr.heap[gb141016]? = some (.cells #[.int .i64 a0_0, u141017001] 26 (0, 0))) := ⟨by rw [← hq_]; exact (by (with_reducible repeat (first | refine blk_drewN ?_ _ | refine blk_drew ?_ | refine blk_alloc ?_ _)); exact BK141016.out)⟩; have n6_ : Aside0 (Below w.heap.size w wr) := ⟨by rw [← hq_]; exact (by repeat (first | (with_reducible first | exact HB.out | apply below_alloc | apply pw_below_drewN | apply below_drew1 | refine below_set ?_ GE141001.out | refine below_set ?_ GE141002.out | refine below_set ?_ GE141003.out | refine below_set ?_ GE141016.out) | exact HB.out))⟩; clear HO_12 HO_141017001 BK141001 BK141002 BK141003 BK141016 HB hq_; have HO_12 := n0_; have HO_141017001 := n1_; have BK141001 := n2_; have BK141002 := n3_; have BK141003 := n4_; have BK141016 := n5_; have HB := n6_; clear n0_ n1_ n2_ n3_ n4_ n5_ n6_))))
              have n0_ := aQ (Kd.R_drew HO_12.out)
              have n1_ := aQ (Kd.R_drew HO_141017001.out)
              have n2_ := aQ (blk_drew BK141001.out)
              have n3_ := aQ (blk_drew BK141002.out)
              have n4_ := aQ (blk_drew BK141003.out)
              have n5_ := aQ (blk_drew BK141016.out)
              have n6_ := aQ (below_drew1 HB.out)
              clear HO_12
              clear HO_141017001
              clear BK141001
              clear BK141002
              clear BK141003
              clear BK141016
              clear HB
              have HO_12 := n0_
              have HO_141017001 := n1_
              have BK141001 := n2_
              have BK141002 := n3_
              have BK141003 := n4_
              have BK141016 := n5_
              have HB := n6_
              clear n0_ n1_ n2_ n3_ n4_ n5_ n6_
              have p141022 : 0 ≤ (x13_3 : Int) := of_decide_eq_true (by first | (with_reducible assumption) | assumption)
              have q141022 : x13_3 < (t141017.length : Int) := of_decide_eq_true (by first | (with_reducible assumption) | assumption)
              obtain ⟨ad141022, e141022, hx141022_0⟩ := Kd.at_int (Kd.R_reads' HO_12.out).2.2 x13_3 p141022 q141022
              obtain rfl : ad141020 = ad141022 := (by injection e141022)
              replace p141022 := eq_true p141022
              replace q141022 := eq_true q141022
              refine start_ (n := 10) (S := fun w' => w'.cell? ⟨gb141016, 0, none⟩ = some (.int .i64 a0_0) ∧ w'.cell? ⟨gb141016, 1, none⟩ = some (u141017001) ∧ w'.cell? (ad141020.add (x13_3).toNat) = some (.int .i64 (rd t141017 x13_3))) (ds := [7, 9]) #[false, false, false, false, false, false, false, false, false, false] (by kernel_rfl) rfl rfl ⟨(blk_cell BK141016.out 0).trans rfl, (blk_cell BK141016.out 1).trans rfl, hx141022_0⟩ (fun hHeld => ?_); refine with_tabW spec_UnionOf.tab22 spec_UnionOf.bits22 (fun HT_ HW_ => ?_)
              generalize wr.drew = w58 at HO_12 HO_141017001 BK141001 BK141002 BK141003 BK141016 HB hx141022_0 hHeld ⊢
              refine pure_ (i := 0) (N := some 79) (v := ?_) (a' := ?_) #[true, false, false, false, false, false, false, false, false, false] rfl rfl (any_of HT_.out (by kernel_rfl)) (fun _ _ _ h => h) (Or.inl ⟨by rfl, ?_⟩) ?_ ?_
              rotate_left
              ·intro w'
               go_simp
               with_reducible rfl
              rotate_left
              ·simp only [Act.put, List.setIfInBounds_toArray, List.set_cons_zero, List.set_cons_succ, i64_w, i32_w]
               rfl
              refine pure_ (i := 2) (N := some 81) (v := ?_) (a' := ?_) #[true, false, true, false, false, false, false, false, false, false] rfl rfl (any_of HT_.out (by kernel_rfl)) (fun _ _ _ h => h) (Or.inl ⟨by rfl, ?_⟩) ?_ ?_
              rotate_left
              ·intro w'
               go_simp
               with_reducible rfl
              rotate_left
              ·simp only [Act.put, List.setIfInBounds_toArray, List.set_cons_zero, List.set_cons_succ, i64_w, i32_w]
               rfl
              refine pure_ (i := 3) (N := some 82) (v := ?_) (a' := ?_) #[true, false, true, true, false, false, false, false, false, false] rfl rfl (any_of HT_.out (by kernel_rfl)) (fun _ _ _ h => h) (Or.inl ⟨by rfl, ?_⟩) ?_ ?_
              rotate_left
              ·intro w'
               go_simp
               with_reducible rfl
              rotate_left
              ·simp only [Act.put, List.setIfInBounds_toArray, List.set_cons_zero, List.set_cons_succ, i64_w, i32_w]
               rfl
              refine pure_ (i := 4) (N := some 83) (v := ?_) (a' := ?_) #[true, false, true, true, true, false, false, false, false, false] rfl rfl (any_of HT_.out (by kernel_rfl)) (fun _ _ _ h => h) (Or.inl ⟨by rfl, ?_⟩) ?_ ?_
              rotate_left
              ·intro w'
               go_simp
               with_reducible rfl
              rotate_left
              ·simp only [Act.put, List.setIfInBounds_toArray, List.set_cons_zero, List.set_cons_succ, i64_w, i32_w]
               rfl
              refine take_ (i := 1) (N := some 80) (v := ?_) (a' := ?_) #[true, true, true, true, true, false, false, false, false, false] rfl rfl (take_ofW HT_.out HW_.out (by kernel_rfl)) (fun _ _ _ h => h) (Or.inl ⟨by rfl, ?_⟩) hHeld ?_ ?_
              rotate_left
              ·rintro w' ⟨s0, s1, s2⟩
               go_simp
               with_reducible rfl
              rotate_left
              ·simp only [Act.put, List.setIfInBounds_toArray, List.set_cons_zero, List.set_cons_succ, i64_w, i32_w]
               rfl
              refine take_ (i := 5) (N := some 84) (v := ?_) (a' := ?_) #[true, true, true, true, true, true, false, false, false, false] rfl rfl (take_ofW HT_.out HW_.out (by kernel_rfl)) (fun _ _ _ h => h) (Or.inl ⟨by rfl, ?_⟩) hHeld ?_ ?_
              rotate_left
              ·rintro w' ⟨s0, s1, s2⟩
               go_simp
               with_reducible rfl
              rotate_left
              ·simp only [Act.put, List.setIfInBounds_toArray, List.set_cons_zero, List.set_cons_succ, i64_w, i32_w]
               rfl
              refine one_ (i := 6) (N := some 85) #[true, true, true, true, true, true, true, false, false, false] rfl rfl (one_of HT_.out (by kernel_rfl)) (by decide) (fun K hK => ?_)
              refine value_ (w1 := ?_) (v := ?_) (by rfl) rfl ?_ ?_
              rotate_left 2
              ·go_simp
               constructor
               ·rfl
               ·rfl
              refine hK.out _ _ ⟨(blk_cell (blk_alloc BK141016.out _) 0).trans rfl, (blk_cell (blk_alloc BK141016.out _) 1).trans rfl, (World.cell?_alloc_lt _ _ _ (World.block_lt_of_cell? _ _ (hHeld.2.2))).trans (hHeld.2.2)⟩ (fun hHeld => ?_)
              clear hK K
              refine norm_ (a' := ?_) ?_ ?_
              rotate_left
              ·show Act.put _ (some 85) _ = _
               simp only [Act.put, List.setIfInBounds_toArray, List.set_cons_zero, List.set_cons_succ, i64_w, i32_w]
               rfl
              refine last_ (i := 7) (N := some 86) #[true, true, true, true, true, true, true, true, false, false] rfl rfl (one_of HT_.out (by kernel_rfl)) (by decide) (fun K hK => ?_)
              refine Kd.R_append_step (Kd.int .i64) (w0 := w) w.heap.size (by rfl) (.tmp 80) (.tmp 85) 22 3 (.int .i64 0) 8 rfl Try.underlying22 info3 rfl (by decide) (by omega) u141017001 x141017001_3 (rd t141017 x13_3) [.int .i64 (rd t141017 x13_3)] (fun k_ => some k_ ≠ (.slice (some ad141020) t141017.length co57 : Value).ownBlock) (fun _ => False) rfl rfl ?aP (fun _ hk => hk.elim) ?aF ?aO ?aB ?aS ?aL ?_
              (case aP => exact rfl)
              (case aB => exact (by repeat (first | (with_reducible first | exact HB.out | apply below_alloc | apply pw_below_drewN | apply below_drew1 | refine below_set ?_ GE141001.out | refine below_set ?_ GE141002.out | refine below_set ?_ GE141003.out | refine below_set ?_ GE141016.out) | exact HB.out)))
              (case aF => exact (fun k_ hk => Kd.fresh' (Kd.R_lt (by (with_reducible repeat (first | apply Kd.R_alloc | apply Kd.R_drewN | apply Kd.R_drew)); exact HO_12.out)) k_ hk))
              (case aO => exact (by (with_reducible repeat (first | apply Kd.R_alloc | apply Kd.R_drewN | apply Kd.R_drew)); exact HO_141017001.out))
              (case aS => exact (below_size (by repeat (first | (with_reducible first | exact HB.out | apply below_alloc | apply pw_below_drewN | apply below_drew1 | refine below_set ?_ GE141001.out | refine below_set ?_ GE141002.out | refine below_set ?_ GE141003.out | refine below_set ?_ GE141016.out) | exact HB.out))))
              (case aL => have := LMc56.out; omega)
              intro v141024 w59 ho hb hg hat
              rw [← Ny141023.out] at ho
              have n0_ := aQ (Kd.R_after (ok := (fun _ => True)) (by (with_reducible repeat (first | apply Kd.R_alloc | apply Kd.R_drewN | apply Kd.R_drew)); exact Kd.R_mono HO_12.out (fun _ hk => ⟨trivial, hk⟩)) hg hat)
              have n1_ := aQ (blk_grown (g := gb141001) (o := .cells #[.int .i64 a0_0, .slice A0_1 l0_1.length c0_1] 26 (0, 0)) (by (with_reducible repeat (first | refine blk_drewN ?_ _ | refine blk_drew ?_ | refine blk_alloc ?_ _)); exact BK141001.out) hg (Kd.R_ne HO_141017001.out BK141001.out (by decide)))
              have n2_ := aQ (blk_grown (g := gb141002) (o := .cells #[.int .i64 a1_0, .slice A1_1 l1_1.length c1_1] 26 (0, 0)) (by (with_reducible repeat (first | refine blk_drewN ?_ _ | refine blk_drew ?_ | refine blk_alloc ?_ _)); exact BK141002.out) hg (Kd.R_ne HO_141017001.out BK141002.out (by decide)))
              have n3_ := aQ (blk_grown (g := gb141003) (o := .cells #[.int .i64 0, .slice none 0 0] 26 (0, 0)) (by (with_reducible repeat (first | refine blk_drewN ?_ _ | refine blk_drew ?_ | refine blk_alloc ?_ _)); exact BK141003.out) hg (Kd.R_ne HO_141017001.out BK141003.out (by decide)))
              have n4_ := aQ (blk_grown (g := gb141016) (o := .cells #[.int .i64 a0_0, u141017001] 26 (0, 0)) (by (with_reducible repeat (first | refine blk_drewN ?_ _ | refine blk_drew ?_ | refine blk_alloc ?_ _)); exact BK141016.out) hg (Kd.R_ne HO_141017001.out BK141016.out (by decide)))
              have n5_ := aQ (hb)
              have n6_ := aQ (ho)
              clear HO_12
              clear BK141001
              clear BK141002
              clear BK141003
              clear BK141016
              clear HB
              clear HO_141017001
              have HO_12 := n0_
              have BK141001 := n1_
              have BK141002 := n2_
              have BK141003 := n3_
              have BK141016 := n4_
              have HB := n5_
              have HO141025 := n6_
              clear n0_ n1_ n2_ n3_ n4_ n5_ n6_
              clear ho hb hg hat
              obtain ⟨Ao60, co60, eo60⟩ := Kd.R_slice HO141025.out
              (first | subst eo60 | (injection eo60 with f1_ f2_ f3_; have f4_ := f1_.symm; have f5_ := f3_.symm; clear f1_ f2_ f3_; subst f4_; subst f5_))
              refine hK.out _ _ ?_
              clear hK K
              refine norm_ (a' := ?_) ?_ ?_
              rotate_left
              ·show Act.put _ (some 86) _ = _
               simp only [Act.put, List.setIfInBounds_toArray, List.set_cons_zero, List.set_cons_succ, i64_w, i32_w]
               rfl
              refine pure_ (i := 8) (N := some 87) (v := ?_) (a' := ?_) #[true, true, true, true, true, true, true, true, true, false] rfl rfl (any_of HT_.out (by kernel_rfl)) (fun _ _ _ h => h) (Or.inl ⟨by rfl, ?_⟩) ?_ ?_
              rotate_left
              ·intro w'
               go_simp
               with_reducible rfl
              rotate_left
              ·simp only [Act.put, List.setIfInBounds_toArray, List.set_cons_zero, List.set_cons_succ, i64_w, i32_w]
               rfl
              refine last_ (i := 9) (N := none) #[true, true, true, true, true, true, true, true, true, true] rfl rfl (one_of HT_.out (by kernel_rfl)) (by decide) (fun K hK => ?_)
              have hs61 : w59.cell? ⟨gb141016, 1, none⟩ = some (u141017001) := (blk_cell BK141016.out 1).trans rfl
              have hfs61 := blk_frozen BK141016.out 1
              have hns61_0 := NB141001_141016.out
              have hns61_1 := NB141002_141016.out
              have hns61_2 := NB141003_141016.out
              have hms61_0 := NB141016_141001.out
              have hms61_1 := NB141016_141002.out
              have hms61_2 := NB141016_141003.out
              refine skip_ (w1 := ?_) (by rfl) rfl ?_ ?_
              rotate_left
              ·go_simp
               rfl
              refine hK.out _ _ ?_
              clear hK K
              refine done_ (done_of HT_.out (by kernel_rfl)) ?_
              try go_wp2
              go_roundg k3
              case measure => have := HK1.out; have := HK2.out; have := HK3.out; omega
              case rel => exact ⟨(wrap64 (x13_3 + 1)), (y141023), (.slice Ao60 y141023.length co60), (by first | rfl | (simp; done) | (simp [*]; done)), H', ⟨by have := HK1.out; have := HK2.out; have := HK3.out; omega⟩, ⟨by (with_reducible repeat (first | apply Kd.R_alloc | apply Kd.R_drewN | apply Kd.R_drew)); exact Kd.R_mono (Kd.R_far (p := ⟨gb141016, 1, none⟩) (Kd.R_types HO_12.out BK141016.out (by decide)) (fun _ hk => hk.2) (.slice Ao60 y141023.length co60)) (fun _ hk => hk.1.2)⟩, ⟨by (with_reducible repeat (first | apply Kd.R_alloc | apply Kd.R_drewN | apply Kd.R_drew)); exact Kd.R_mono (Kd.R_far (p := ⟨gb141016, 1, none⟩) (Kd.R_types HO141025.out BK141016.out (by decide)) (fun _ hk => hk.2) (.slice Ao60 y141023.length co60)) (fun _ hk => hk.1)⟩, ⟨by (with_reducible repeat (first | refine blk_drewN ?_ _ | refine blk_drew ?_ | refine blk_alloc ?_ _)); refine blk_far ?_ NB141001_141016.out _; (with_reducible repeat (first | refine blk_drewN ?_ _ | refine blk_drew ?_ | refine blk_alloc ?_ _)); exact BK141001.out⟩, ⟨by (with_reducible repeat (first | refine blk_drewN ?_ _ | refine blk_drew ?_ | refine blk_alloc ?_ _)); refine blk_far ?_ NB141002_141016.out _; (with_reducible repeat (first | refine blk_drewN ?_ _ | refine blk_drew ?_ | refine blk_alloc ?_ _)); exact BK141002.out⟩, ⟨by (with_reducible repeat (first | refine blk_drewN ?_ _ | refine blk_drew ?_ | refine blk_alloc ?_ _)); refine blk_far ?_ NB141003_141016.out _; (with_reducible repeat (first | refine blk_drewN ?_ _ | refine blk_drew ?_ | refine blk_alloc ?_ _)); exact BK141003.out⟩, ⟨by (with_reducible repeat (first | refine blk_drewN ?_ _ | refine blk_drew ?_ | refine blk_alloc ?_ _)); refine blk_put (cs := #[.int .i64 a0_0, u141017001]) ?_ 1 _ rfl; (with_reducible repeat (first | refine blk_drewN ?_ _ | refine blk_drew ?_ | refine blk_alloc ?_ _)); exact BK141016.out⟩, ⟨by repeat (first | (with_reducible first | exact HB.out | apply below_alloc | apply pw_below_drewN | apply below_drew1 | refine below_set ?_ GE141001.out | refine below_set ?_ GE141002.out | refine below_set ?_ GE141003.out | refine below_set ?_ GE141016.out) | exact HB.out)⟩⟩
             ·rw [if_neg c56] at H
              exact absurd H (by simp)
            ·rw [if_neg c55] at H
             have c55b0 : (t141021 == x9_2) = false := beq_eq_false_iff_ne.mpr c55
             have c55b1 : (t141021 != x9_2) = true := bne_iff_ne.mpr c55
             have H' := aQ H
             clear H
             obtain ⟨Ao62, co62, eo62⟩ := Kd.R_slice HO_12.out
             subst eo62
             have p141020 : 0 ≤ (x13_3 : Int) := of_decide_eq_true (by first | (with_reducible assumption) | assumption)
             have q141020 : x13_3 < (t141017.length : Int) := of_decide_eq_true (by first | (with_reducible assumption) | assumption)
             obtain ⟨ad141020, e141020, hx141020_0⟩ := Kd.at_int (Kd.R_reads' HO_12.out).2.2 x13_3 p141020 q141020
             cases e141020
             replace p141020 := eq_true p141020
             replace q141020 := eq_true q141020
             go_wp2_with (first | ((with_reducible refine gate_callee (f := 58) rfl ?_); refine goesL_ (some 76) rfl rfl Try.func58 (by kernel_rfl) rfl #[.int .i64 (rd t141017 x13_3)] rfl (by (try simp only [List.map_toArray, List.map_cons, List.map_nil]); first | done | rfl | (simp only [List.length_drop, List.length_take]; rfl)) ?_; (with_reducible refine (spec_CountOf.calls k3 (rd t141017 x13_3) t141021 _ A54.out).mono ?_); rintro e w' ⟨rfl, ⟨nd, rfl⟩⟩; refine ⟨_, rfl, ?_⟩))
             go_roundg k3
             case measure => have := HK1.out; have := HK2.out; have := HK3.out; omega
             case rel => exact ⟨(wrap64 (x13_3 + 1)), (x141017001_3), (u141017001), (by first | rfl | (simp; done) | (simp [*]; done)), H', ⟨by have := HK1.out; have := HK2.out; have := HK3.out; omega⟩, ⟨by (with_reducible repeat (first | apply Kd.R_alloc | apply Kd.R_drewN | apply Kd.R_drew)); exact HO_12.out⟩, ⟨by (with_reducible repeat (first | apply Kd.R_alloc | apply Kd.R_drewN | apply Kd.R_drew)); exact HO_141017001.out⟩, ⟨by (with_reducible repeat (first | refine blk_drewN ?_ _ | refine blk_drew ?_ | refine blk_alloc ?_ _)); exact BK141001.out⟩, ⟨by (with_reducible repeat (first | refine blk_drewN ?_ _ | refine blk_drew ?_ | refine blk_alloc ?_ _)); exact BK141002.out⟩, ⟨by (with_reducible repeat (first | refine blk_drewN ?_ _ | refine blk_drew ?_ | refine blk_alloc ?_ _)); exact BK141003.out⟩, ⟨by (with_reducible repeat (first | refine blk_drewN ?_ _ | refine blk_drew ?_ | refine blk_alloc ?_ _)); exact BK141016.out⟩, ⟨by repeat (first | (with_reducible first | exact HB.out | apply below_alloc | apply pw_below_drewN | apply below_drew1 | refine below_set ?_ GE141001.out | refine below_set ?_ GE141002.out | refine below_set ?_ GE141003.out | refine below_set ?_ GE141016.out) | exact HB.out)⟩⟩
           ·rw [if_neg c53] at H
            exact absurd H (by simp)
          ·rw [if_neg c52] at H
           have c52b0 : decide (x13_3 < (t141017.length : Int)) = false := decide_eq_false c52
           clear c52
           simp only [Option.some.injEq, Prod.mk.injEq] at H
           obtain ⟨rfl, rfl, rfl⟩ := H
           obtain ⟨Ao63, co63, eo63⟩ := Kd.R_slice HO_12.out
           subst eo63
           have hnb64 := NB141016_141001.out
           have hnc64 := NB141001_141016.out
           have hnb65 := NB141016_141002.out
           have hnc65 := NB141002_141016.out
           have hnb66 := NB141016_141003.out
           have hnc66 := NB141003_141016.out
           have hcz67_0 : wr.cell? ⟨gb141016, 0, none⟩ = some (.int .i64 a0_0) := (blk_cell BK141016.out 0).trans rfl
           have hcz67_1 : wr.cell? ⟨gb141016, 1, none⟩ = some (u141017001) := (blk_cell BK141016.out 1).trans rfl
           have hfz67_0 := blk_frozen BK141016.out 0
           have hfz67_1 := blk_frozen BK141016.out 1
           have hnb68 := NB141003_141001.out
           have hnc68 := NB141001_141003.out
           have hnb69 := NB141003_141002.out
           have hnc69 := NB141002_141003.out
           have hcz70_0 : wr.cell? ⟨gb141003, 0, none⟩ = some (.int .i64 0) := (blk_cell BK141003.out 0).trans rfl
           have hcz70_1 : wr.cell? ⟨gb141003, 1, none⟩ = some (.slice none 0 0) := (blk_cell BK141003.out 1).trans rfl
           have hfz70_0 := blk_frozen BK141003.out 0
           have hfz70_1 := blk_frozen BK141003.out 1
           obtain ⟨Ao71, co71, eo71⟩ := Kd.R_slice HO_141017001.out
           subst eo71
           go_wp2
           refine bodyPost_ret (results_ct rfl _ _ gb141003 26 #[.int .i64 a0_0, .slice Ao71 x141017001_3.length co71] (0, 0) _ rfl (by (with_reducible repeat (first | refine blk_drewN ?_ _ | refine blk_drew ?_ | refine blk_alloc ?_ _)); refine blk_put (cs := #[.int .i64 a0_0, .slice none 0 0]) ?_ 1 _ rfl; (with_reducible repeat (first | refine blk_drewN ?_ _ | refine blk_drew ?_ | refine blk_alloc ?_ _)); refine blk_put (cs := #[.int .i64 0, .slice none 0 0]) ?_ 0 _ rfl; (with_reducible repeat (first | refine blk_drewN ?_ _ | refine blk_drew ?_ | refine blk_alloc ?_ _)); exact BK141003.out) Try.underlying26 rfl (by kernel_rfl)) rfl ?_
           exact ⟨_, by first | rfl | (simp [errW_none, errW_some] <;> rfl) | (simp [*, errW_none, errW_some] <;> rfl), by (with_reducible repeat (first | apply Kd.R_alloc | apply Kd.R_drewN | apply Kd.R_drew)); exact Kd.R_mono (Kd.R_far (p := ⟨gb141003, 1, none⟩) (Kd.R_far (p := ⟨gb141003, 0, none⟩) (Kd.R_types HO_141017001.out BK141003.out (by decide)) (fun _ hk => hk.2) (.int .i64 a0_0)) (fun _ hk => hk.2) (.slice Ao71 x141017001_3.length co71)) (fun _ hk => trivial), by repeat (first | (with_reducible first | exact HB.out | apply below_alloc | apply pw_below_drewN | apply below_drew1 | refine below_set ?_ GE141001.out | refine below_set ?_ GE141002.out | refine below_set ?_ GE141003.out | refine below_set ?_ GE141016.out) | exact HB.out)⟩
 ·replace c4 := Bool.eq_false_iff.mpr c4
  subst c4
  have H1 : (some (0, ([] : List Int), false)) = some (r1, r2, r3) := by rw [if_neg (show ¬ (false = true) by decide)] at H; exact H
  clear H
  have H := H1
  clear H1
  simp only [Option.some.injEq, Prod.mk.injEq] at H
  obtain ⟨rfl, rfl, rfl⟩ := H
  go_enter Try.func140, Try.ntmps140
  go_wp2_with (first | ((with_reducible refine gate_dst (N := 2) rfl ?_); refine box_event ?hg (N := 2) ?hd (cs := #[.int .i64 a0_0, .slice A0_1 l0_1.length c0_1]) (t := 26) ?hr ?_; (case hd => rfl); (case hg => rfl); (case hr => first | (go_simp; done) | (go_simp; rfl)); intro gb141001 hg w72 hbox hb; have BK141001 := aQ (hbox); have GW141001 := aQ ((by rw [hg]; exact (below_size (by repeat (first | (with_reducible first | exact HB.out | apply below_alloc | apply pw_below_drewN | apply below_drew1) | exact HB.out))) : w.heap.size ≤ gb141001)); have GE141001 := aQ ((by rw [hg]; exact (below_size (by repeat (first | (with_reducible first | exact HB.out | apply below_alloc | apply pw_below_drewN | apply below_drew1) | exact HB.out))) : w.heap.size ≤ gb141001)); replace HB := aQ (below_step (by repeat (first | (with_reducible first | exact HB.out | apply below_alloc | apply pw_below_drewN | apply below_drew1) | exact HB.out)) hb); clear hb hbox hg) | ((with_reducible refine gate_dst (N := 3) rfl ?_); refine box_event ?hg (N := 3) ?hd (cs := #[.int .i64 a1_0, .slice A1_1 l1_1.length c1_1]) (t := 26) ?hr ?_; (case hd => rfl); (case hg => rfl); (case hr => first | (go_simp; done) | (go_simp; rfl)); intro gb141002 hg w73 hbox hb; have BK141002 := aQ (hbox); have GW141002 := aQ ((by rw [hg]; exact (below_size (by repeat (first | (with_reducible first | exact HB.out | apply below_alloc | apply pw_below_drewN | apply below_drew1 | refine below_set ?_ GE141001.out) | exact HB.out))) : w.heap.size ≤ gb141002)); have GE141002 := aQ ((by rw [hg]; exact (below_size (by repeat (first | (with_reducible first | exact HB.out | apply below_alloc | apply pw_below_drewN | apply below_drew1 | refine below_set ?_ GE141001.out) | exact HB.out))) : w.heap.size ≤ gb141002)); replace HB := aQ (below_step (by repeat (first | (with_reducible first | exact HB.out | apply below_alloc | apply pw_below_drewN | apply below_drew1 | refine below_set ?_ GE141001.out) | exact HB.out)) hb); have NB141001_141002 := aQ ((by rw [hg]; exact Nat.ne_of_lt (blk_lt (g := gb141001) (o := .cells #[.int .i64 a0_0, .slice A0_1 l0_1.length c0_1] 26 (0, 0)) (by (with_reducible repeat (first | refine blk_drewN ?_ _ | refine blk_drew ?_ | refine blk_alloc ?_ _)); exact BK141001.out)) : gb141001 ≠ gb141002)); have NB141002_141001 := aQ ((by rw [hg]; exact Nat.ne_of_gt (blk_lt (g := gb141001) (o := .cells #[.int .i64 a0_0, .slice A0_1 l0_1.length c0_1] 26 (0, 0)) (by (with_reducible repeat (first | refine blk_drewN ?_ _ | refine blk_drew ?_ | refine blk_alloc ?_ _)); exact BK141001.out)) : gb141002 ≠ gb141001)); replace BK141001 := aQ (blk_below (g := gb141001) (o := .cells #[.int .i64 a0_0, .slice A0_1 l0_1.length c0_1] 26 (0, 0)) (by (with_reducible repeat (first | refine blk_drewN ?_ _ | refine blk_drew ?_ | refine blk_alloc ?_ _)); exact BK141001.out) hb); clear hb hbox hg) | ((with_reducible refine gate_dst (N := 4) rfl ?_); refine box_event ?hg (N := 4) ?hd (cs := #[.int .i64 0, .slice none 0 0]) (t := 26) ?hr ?_; (case hd => rfl); (case hg => rfl); (case hr => first | (go_simp; done) | (go_simp; rfl)); intro gb141003 hg w74 hbox hb; have BK141003 := aQ (hbox); have GW141003 := aQ ((by rw [hg]; exact (below_size (by repeat (first | (with_reducible first | exact HB.out | apply below_alloc | apply pw_below_drewN | apply below_drew1 | refine below_set ?_ GE141001.out | refine below_set ?_ GE141002.out) | exact HB.out))) : w.heap.size ≤ gb141003)); have GE141003 := aQ ((by rw [hg]; exact (below_size (by repeat (first | (with_reducible first | exact HB.out | apply below_alloc | apply pw_below_drewN | apply below_drew1 | refine below_set ?_ GE141001.out | refine below_set ?_ GE141002.out) | exact HB.out))) : w.heap.size ≤ gb141003)); replace HB := aQ (below_step (by repeat (first | (with_reducible first | exact HB.out | apply below_alloc | apply pw_below_drewN | apply below_drew1 | refine below_set ?_ GE141001.out | refine below_set ?_ GE141002.out) | exact HB.out)) hb); have NB141001_141003 := aQ ((by rw [hg]; exact Nat.ne_of_lt (blk_lt (g := gb141001) (o := .cells #[.int .i64 a0_0, .slice A0_1 l0_1.length c0_1] 26 (0, 0)) (by (with_reducible repeat (first | refine blk_drewN ?_ _ | refine blk_drew ?_ | refine blk_alloc ?_ _)); exact BK141001.out)) : gb141001 ≠ gb141003)); have NB141003_141001 := aQ ((by rw [hg]; exact Nat.ne_of_gt (blk_lt (g := gb141001) (o := .cells #[.int .i64 a0_0, .slice A0_1 l0_1.length c0_1] 26 (0, 0)) (by (with_reducible repeat (first | refine blk_drewN ?_ _ | refine blk_drew ?_ | refine blk_alloc ?_ _)); exact BK141001.out)) : gb141003 ≠ gb141001)); replace BK141001 := aQ (blk_below (g := gb141001) (o := .cells #[.int .i64 a0_0, .slice A0_1 l0_1.length c0_1] 26 (0, 0)) (by (with_reducible repeat (first | refine blk_drewN ?_ _ | refine blk_drew ?_ | refine blk_alloc ?_ _)); exact BK141001.out) hb); have NB141002_141003 := aQ ((by rw [hg]; exact Nat.ne_of_lt (blk_lt (g := gb141002) (o := .cells #[.int .i64 a1_0, .slice A1_1 l1_1.length c1_1] 26 (0, 0)) (by (with_reducible repeat (first | refine blk_drewN ?_ _ | refine blk_drew ?_ | refine blk_alloc ?_ _)); exact BK141002.out)) : gb141002 ≠ gb141003)); have NB141003_141002 := aQ ((by rw [hg]; exact Nat.ne_of_gt (blk_lt (g := gb141002) (o := .cells #[.int .i64 a1_0, .slice A1_1 l1_1.length c1_1] 26 (0, 0)) (by (with_reducible repeat (first | refine blk_drewN ?_ _ | refine blk_drew ?_ | refine blk_alloc ?_ _)); exact BK141002.out)) : gb141003 ≠ gb141002)); replace BK141002 := aQ (blk_below (g := gb141002) (o := .cells #[.int .i64 a1_0, .slice A1_1 l1_1.length c1_1] 26 (0, 0)) (by (with_reducible repeat (first | refine blk_drewN ?_ _ | refine blk_drew ?_ | refine blk_alloc ?_ _)); exact BK141002.out) hb); clear hb hbox hg; have hnb75 := NB141001_141002.out; have hnc75 := NB141002_141001.out; have hnb76 := NB141001_141003.out; have hnc76 := NB141003_141001.out; have hcz77_0 : w74.cell? ⟨gb141001, 0, none⟩ = some (.int .i64 a0_0) := (blk_cell BK141001.out 0).trans rfl; have hcz77_1 : w74.cell? ⟨gb141001, 1, none⟩ = some (.slice A0_1 l0_1.length c0_1) := (blk_cell BK141001.out 1).trans rfl; have hfz77_0 := blk_frozen BK141001.out 0; have hfz77_1 := blk_frozen BK141001.out 1; have hnb78 := NB141002_141003.out; have hnc78 := NB141003_141002.out; have hcz79_0 : w74.cell? ⟨gb141002, 0, none⟩ = some (.int .i64 a1_0) := (blk_cell BK141002.out 0).trans rfl; have hcz79_1 : w74.cell? ⟨gb141002, 1, none⟩ = some (.slice A1_1 l1_1.length c1_1) := (blk_cell BK141002.out 1).trans rfl; have hfz79_0 := blk_frozen BK141002.out 0; have hfz79_1 := blk_frozen BK141002.out 1) | ((with_reducible refine gate_callee (f := 66) rfl ?_); refine goesL_ (some 16) rfl rfl Try.func66 (by kernel_rfl) rfl #[.agg #[.int .i64 a0_0, .slice A0_1 l0_1.length c0_1], .agg #[.int .i64 a1_0, .slice A1_1 l1_1.length c1_1], .int .i64 0] rfl (by (try simp only [List.map_toArray, List.map_cons, List.map_nil]); first | done | rfl | (simp only [List.length_drop, List.length_take]; rfl)) ?_; (with_reducible refine (spec_IsCommon.calls k a0_0 _ _ l0_1 a1_0 _ _ l1_1 0 false _ ?side1 ?side2 ?side3 ?side4 A3.out).mono ?_); (case side1 => repeat (first | exact (Kd.C_below HR0_1.out HB.out) | (with_reducible refine Kd.C_alloc ?_ _) | (with_reducible refine Kd.C_drewN ?_ _) | (with_reducible refine Kd.C_drew ?_))); (case side2 => exact HC0_1.out); (case side3 => repeat (first | exact (Kd.C_below HR1_1.out HB.out) | (with_reducible refine Kd.C_alloc ?_ _) | (with_reducible refine Kd.C_drewN ?_ _) | (with_reducible refine Kd.C_drew ?_))); (case side4 => exact HC1_1.out); rintro e w80 ⟨rfl, hb⟩; refine ⟨_, rfl, ?_⟩; replace BK141001 := aQ (blk_below (g := gb141001) (o := .cells #[.int .i64 a0_0, .slice A0_1 l0_1.length c0_1] 26 (0, 0)) (by (with_reducible repeat (first | refine blk_drewN ?_ _ | refine blk_drew ?_ | refine blk_alloc ?_ _)); exact BK141001.out) hb); replace BK141002 := aQ (blk_below (g := gb141002) (o := .cells #[.int .i64 a1_0, .slice A1_1 l1_1.length c1_1] 26 (0, 0)) (by (with_reducible repeat (first | refine blk_drewN ?_ _ | refine blk_drew ?_ | refine blk_alloc ?_ _)); exact BK141002.out) hb); replace BK141003 := aQ (blk_below (g := gb141003) (o := .cells #[.int .i64 0, .slice none 0 0] 26 (0, 0)) (by (with_reducible repeat (first | refine blk_drewN ?_ _ | refine blk_drew ?_ | refine blk_alloc ?_ _)); exact BK141003.out) hb); replace HB := aQ (below_step (by repeat (first | (with_reducible first | exact HB.out | apply below_alloc | apply pw_below_drewN | apply below_drew1 | refine below_set ?_ GE141001.out | refine below_set ?_ GE141002.out | refine below_set ?_ GE141003.out) | exact HB.out)) hb); (try clear hb); (try clear hb2); (try clear hk); (try clear hi); have hcz81_0 : w80.cell? ⟨gb141003, 0, none⟩ = some (.int .i64 0) := (blk_cell BK141003.out 0).trans rfl; have hcz81_1 : w80.cell? ⟨gb141003, 1, none⟩ = some (.slice none 0 0) := (blk_cell BK141003.out 1).trans rfl; have hfz81_0 := blk_frozen BK141003.out 0; have hfz81_1 := blk_frozen BK141003.out 1))
  refine bodyPost_ret (results_ct rfl _ _ gb141003 26 #[.int .i64 0, .slice none 0 0] (0, 0) _ rfl (by (with_reducible repeat (first | refine blk_drewN ?_ _ | refine blk_drew ?_ | refine blk_alloc ?_ _)); refine blk_put (cs := #[.int .i64 0, .slice none 0 0]) ?_ 1 _ rfl; (with_reducible repeat (first | refine blk_drewN ?_ _ | refine blk_drew ?_ | refine blk_alloc ?_ _)); refine blk_put (cs := #[.int .i64 0, .slice none 0 0]) ?_ 0 _ rfl; (with_reducible repeat (first | refine blk_drewN ?_ _ | refine blk_drew ?_ | refine blk_alloc ?_ _)); exact BK141003.out) Try.underlying26 rfl (by kernel_rfl)) rfl ?_
  exact ⟨_, by first | rfl | (simp [errW_none, errW_some] <;> rfl) | (simp [*, errW_none, errW_some] <;> rfl), by first | exact Kd.R_nil _ _ _ _ _ | exact Kd.N_nil _ _ _ _ _ | exact Kd.V_nil _ _ _ _ _ | exact Kd.Q_nil _ _ _ _ _ | exact Kd.S_nil _ _ _ _ _, by repeat (first | (with_reducible first | exact HB.out | apply below_alloc | apply pw_below_drewN | apply below_drew1 | refine below_set ?_ GE141001.out | refine below_set ?_ GE141002.out | refine below_set ?_ GE141003.out) | exact HB.out)⟩
/-! ### spec_l22Times: function 75 -/
def spec_l22Times.l0 : Nat → Int → Int → Int → List Int → Int → List Int → Option (Int × List Int)
 | 0, _, _, _, _, _, _ => none
 | k + 1, x1, x6, x76002000, x76002001, x76008000, x76008001 => if x6 < x1 then ((spec_UnionOf.f k x76008000 x76008001 x76002000 x76002001).bind fun bt76008 => (spec_l22Times.l0 k x1 (wrap64 (x6 + 1)) x76002000 x76002001 bt76008.1 bt76008.2.1)) else (some (x76008000, x76008001))
def spec_l22Times.f (k : Nat) (a0_0 : Int) (l0_1 : List Int) (a1 : Int) : Option (Int × List Int) := (spec_Uniform.f k 0 a0_0).bind fun bt76003 => (spec_l22Times.l0 k a1 0 a0_0 l0_1 bt76003.1 bt76003.2)
theorem spec_l22Times.mono_l : ∀ k, (∀ y0 y1 y2 y3 y4 y5, LeO (spec_l22Times.l0 k y0 y1 y2 y3 y4 y5) (spec_l22Times.l0 (k + 1) y0 y1 y2 y3 y4 y5))
 | 0 => fun _ _ _ _ _ _ r h => by simp [spec_l22Times.l0] at h
 | k + 1 => by
  have ih0 := spec_l22Times.mono_l k
  ·intro y0 y1 y2 y3 y4 y5
   unfold spec_l22Times.l0
   repeat' first
   | (with_reducible exact ih0 _ _ _ _ _ _)
   | (with_reducible exact spec_Uniform.mono _ _ _)
   | (with_reducible exact spec_UnionOf.mono _ _ _ _ _)
   | (with_reducible exact LeO.refl _)
   | (with_reducible exact LeO.none _)
   | (with_reducible refine LeO.ite ?_ ?_)
   | (with_reducible refine LeO.bind ?_ (fun _ => ?_))
   | exact ih0 _ _ _ _ _ _
   | exact spec_Uniform.mono _ _ _
   | exact spec_UnionOf.mono _ _ _ _ _
   | exact LeO.none _
   | refine LeO.ite ?_ ?_
   | refine LeO.bind ?_ (fun _ => ?_)
theorem spec_l22Times.mono : ∀ a0 a1 a2 k, LeO (spec_l22Times.f k a0 a1 a2) (spec_l22Times.f (k + 1) a0 a1 a2) := by
 intro a0 a1 a2 k
 have ih0 := spec_l22Times.mono_l k
 unfold spec_l22Times.f
 repeat' first
   | (with_reducible exact ih0 _ _ _ _ _ _)
   | (with_reducible exact spec_Uniform.mono _ _ _)
   | (with_reducible exact spec_UnionOf.mono _ _ _ _ _)
   | (with_reducible exact LeO.refl _)
   | (with_reducible exact LeO.none _)
   | (with_reducible refine LeO.ite ?_ ?_)
   | (with_reducible refine LeO.bind ?_ (fun _ => ?_))
   | exact ih0 _ _ _ _ _ _
   | exact spec_Uniform.mono _ _ _
   | exact spec_UnionOf.mono _ _ _ _ _
   | exact LeO.none _
   | refine LeO.ite ?_ ?_
   | refine LeO.bind ?_ (fun _ => ?_)
set_option maxHeartbeats 8000000 in
set_option maxRecDepth 100000 in
theorem spec_l22Times.calls (k : Nat) (a0_0 : Int) (A0_1 : Option Addr) (c0_1 : Nat) (l0_1 : List Int) (a1 : Int) (r1 : Int) (r2 : List Int) (w : World) (hr0_1 : Kd.C (Kd.int .i64) w A0_1 l0_1.length l0_1) (hc0_1 : l0_1.length ≤ c0_1) (h : spec_l22Times.f k a0_0 l0_1 a1 = some (r1, r2)) :
  Calls Try.prog 75 #[.agg #[.int .i64 a0_0, .slice A0_1 l0_1.length c0_1], .int .i64 a1] w fun e w' => ∃ v1_ : Value, e = .returned (.agg #[.int .i64 r1, v1_]) ∧ Kd.R (Kd.int .i64) 3 w' w.heap.size (fun _ => True) v1_ r2 ∧ Below w.heap.size w w' := by
 have hu26 := Try.underlying26
 have HR0_1 := aQ hr0_1
 have HC0_1 := aQ hc0_1
 clear hr0_1 hc0_1
 have HB := aQ (Below.refl w.heap.size w)
 have H : ((spec_Uniform.f k 0 a0_0).bind fun bt76003 => (spec_l22Times.l0 k a1 0 a0_0 l0_1 bt76003.1 bt76003.2)) = some (r1, r2) := h
 clear h
 replace H := Option.bind_eq_some_iff.mp H
 obtain ⟨⟨t76003, t76004⟩, A30, H⟩ := H
 replace H : (spec_l22Times.l0 k a1 0 a0_0 l0_1 t76003 t76004) = some (r1, r2) := H
 have A3 := aQ A30
 clear A30
 have H' := aQ H
 clear H
 go_enter Try.func75, Try.ntmps75
 go_wp2_with (first | ((with_reducible refine gate_dst (N := 2) rfl ?_); refine box_event ?hg (N := 2) ?hd (cs := #[.int .i64 a0_0, .slice A0_1 l0_1.length c0_1]) (t := 26) ?hr ?_; (case hd => rfl); (case hg => rfl); (case hr => first | (go_simp; done) | (go_simp; rfl)); intro gb76001 hg w4 hbox hb; have BK76001 := aQ (hbox); have GW76001 := aQ ((by rw [hg]; exact (below_size (by repeat (first | (with_reducible first | exact HB.out | apply below_alloc | apply pw_below_drewN | apply below_drew1) | exact HB.out))) : w.heap.size ≤ gb76001)); have GE76001 := aQ ((by rw [hg]; exact (below_size (by repeat (first | (with_reducible first | exact HB.out | apply below_alloc | apply pw_below_drewN | apply below_drew1) | exact HB.out))) : w.heap.size ≤ gb76001)); replace HB := aQ (below_step (by repeat (first | (with_reducible first | exact HB.out | apply below_alloc | apply pw_below_drewN | apply below_drew1) | exact HB.out)) hb); clear hb hbox hg) | ((with_reducible refine gate_dst (N := 4) rfl ?_); refine box_event ?hg (N := 4) ?hd (cs := #[.int .i64 0, .slice none 0 0]) (t := 26) ?hr ?_; (case hd => rfl); (case hg => rfl); (case hr => first | (go_simp; done) | (go_simp; rfl)); intro gb76002 hg w5 hbox hb; have BK76002 := aQ (hbox); have GW76002 := aQ ((by rw [hg]; exact (below_size (by repeat (first | (with_reducible first | exact HB.out | apply below_alloc | apply pw_below_drewN | apply below_drew1 | refine below_set ?_ GE76001.out) | exact HB.out))) : w.heap.size ≤ gb76002)); have GE76002 := aQ ((by rw [hg]; exact (below_size (by repeat (first | (with_reducible first | exact HB.out | apply below_alloc | apply pw_below_drewN | apply below_drew1 | refine below_set ?_ GE76001.out) | exact HB.out))) : w.heap.size ≤ gb76002)); replace HB := aQ (below_step (by repeat (first | (with_reducible first | exact HB.out | apply below_alloc | apply pw_below_drewN | apply below_drew1 | refine below_set ?_ GE76001.out) | exact HB.out)) hb); have NB76001_76002 := aQ ((by rw [hg]; exact Nat.ne_of_lt (blk_lt (g := gb76001) (o := .cells #[.int .i64 a0_0, .slice A0_1 l0_1.length c0_1] 26 (0, 0)) (by (with_reducible repeat (first | refine blk_drewN ?_ _ | refine blk_drew ?_ | refine blk_alloc ?_ _)); exact BK76001.out)) : gb76001 ≠ gb76002)); have NB76002_76001 := aQ ((by rw [hg]; exact Nat.ne_of_gt (blk_lt (g := gb76001) (o := .cells #[.int .i64 a0_0, .slice A0_1 l0_1.length c0_1] 26 (0, 0)) (by (with_reducible repeat (first | refine blk_drewN ?_ _ | refine blk_drew ?_ | refine blk_alloc ?_ _)); exact BK76001.out)) : gb76002 ≠ gb76001)); replace BK76001 := aQ (blk_below (g := gb76001) (o := .cells #[.int .i64 a0_0, .slice A0_1 l0_1.length c0_1] 26 (0, 0)) (by (with_reducible repeat (first | refine blk_drewN ?_ _ | refine blk_drew ?_ | refine blk_alloc ?_ _)); exact BK76001.out) hb); clear hb hbox hg; have hnb6 := NB76001_76002.out; have hnc6 := NB76002_76001.out; have hcz7_0 : w5.cell? ⟨gb76001, 0, none⟩ = some (.int .i64 a0_0) := (blk_cell BK76001.out 0).trans rfl; have hcz7_1 : w5.cell? ⟨gb76001, 1, none⟩ = some (.slice A0_1 l0_1.length c0_1) := (blk_cell BK76001.out 1).trans rfl; have hfz7_0 := blk_frozen BK76001.out 0; have hfz7_1 := blk_frozen BK76001.out 1) | ((with_reducible refine gate_callee (f := 139) rfl ?_); refine goesL_ (some 9) rfl rfl Try.func139 (by kernel_rfl) rfl #[.int .i64 0, .int .i64 a0_0] rfl (by (try simp only [List.map_toArray, List.map_cons, List.map_nil]); first | done | rfl | (simp only [List.length_drop, List.length_take]; rfl)) ?_; (with_reducible refine (spec_Uniform.calls k 0 a0_0 t76003 t76004 _ A3.out).mono ?_); rintro e w8 ⟨v76005, rfl, ho0, hb⟩; refine ⟨_, rfl, ?_⟩; have HO76006 := aQ (Kd.R_lower ho0 (below_size (by repeat (first | (with_reducible first | exact HB.out | apply below_alloc | apply pw_below_drewN | apply below_drew1 | refine below_set ?_ GE76001.out | refine below_set ?_ GE76002.out) | exact HB.out)))); replace BK76001 := aQ (blk_below (g := gb76001) (o := .cells #[.int .i64 a0_0, .slice A0_1 l0_1.length c0_1] 26 (0, 0)) (by (with_reducible repeat (first | refine blk_drewN ?_ _ | refine blk_drew ?_ | refine blk_alloc ?_ _)); exact BK76001.out) hb); replace BK76002 := aQ (blk_below (g := gb76002) (o := .cells #[.int .i64 0, .slice none 0 0] 26 (0, 0)) (by (with_reducible repeat (first | refine blk_drewN ?_ _ | refine blk_drew ?_ | refine blk_alloc ?_ _)); exact BK76002.out) hb); replace HB := aQ (below_step (by repeat (first | (with_reducible first | exact HB.out | apply below_alloc | apply pw_below_drewN | apply below_drew1 | refine below_set ?_ GE76001.out | refine below_set ?_ GE76002.out) | exact HB.out)) hb); (try clear hb); (try clear hb2); (try clear hk); (try clear hi); (try clear ho0)) | ((with_reducible refine gate_dst (N := 5) rfl ?_); refine box_event ?hg (N := 5) ?hd (cs := #[.int .i64 0, .slice none 0 0]) (t := 26) ?hr ?_; (case hd => rfl); (case hg => rfl); (case hr => first | (go_simp; done) | (go_simp; rfl)); intro gb76007 hg w9 hbox hb; replace HO76006 := aQ (Kd.R_below (by (with_reducible repeat (first | apply Kd.R_alloc | apply Kd.R_drewN | apply Kd.R_drew)); exact HO76006.out) hb); have BK76007 := aQ (hbox); have GW76007 := aQ ((by rw [hg]; exact (below_size (by repeat (first | (with_reducible first | exact HB.out | apply below_alloc | apply pw_below_drewN | apply below_drew1 | refine below_set ?_ GE76001.out | refine below_set ?_ GE76002.out) | exact HB.out))) : w.heap.size ≤ gb76007)); have GE76007 := aQ ((by rw [hg]; exact (below_size (by repeat (first | (with_reducible first | exact HB.out | apply below_alloc | apply pw_below_drewN | apply below_drew1 | refine below_set ?_ GE76001.out | refine below_set ?_ GE76002.out) | exact HB.out))) : w.heap.size ≤ gb76007)); replace HB := aQ (below_step (by repeat (first | (with_reducible first | exact HB.out | apply below_alloc | apply pw_below_drewN | apply below_drew1 | refine below_set ?_ GE76001.out | refine below_set ?_ GE76002.out) | exact HB.out)) hb); have NB76001_76007 := aQ ((by rw [hg]; exact Nat.ne_of_lt (blk_lt (g := gb76001) (o := .cells #[.int .i64 a0_0, .slice A0_1 l0_1.length c0_1] 26 (0, 0)) (by (with_reducible repeat (first | refine blk_drewN ?_ _ | refine blk_drew ?_ | refine blk_alloc ?_ _)); exact BK76001.out)) : gb76001 ≠ gb76007)); have NB76007_76001 := aQ ((by rw [hg]; exact Nat.ne_of_gt (blk_lt (g := gb76001) (o := .cells #[.int .i64 a0_0, .slice A0_1 l0_1.length c0_1] 26 (0, 0)) (by (with_reducible repeat (first | refine blk_drewN ?_ _ | refine blk_drew ?_ | refine blk_alloc ?_ _)); exact BK76001.out)) : gb76007 ≠ gb76001)); replace BK76001 := aQ (blk_below (g := gb76001) (o := .cells #[.int .i64 a0_0, .slice A0_1 l0_1.length c0_1] 26 (0, 0)) (by (with_reducible repeat (first | refine blk_drewN ?_ _ | refine blk_drew ?_ | refine blk_alloc ?_ _)); exact BK76001.out) hb); have NB76002_76007 := aQ ((by rw [hg]; exact Nat.ne_of_lt (blk_lt (g := gb76002) (o := .cells #[.int .i64 0, .slice none 0 0] 26 (0, 0)) (by (with_reducible repeat (first | refine blk_drewN ?_ _ | refine blk_drew ?_ | refine blk_alloc ?_ _)); exact BK76002.out)) : gb76002 ≠ gb76007)); have NB76007_76002 := aQ ((by rw [hg]; exact Nat.ne_of_gt (blk_lt (g := gb76002) (o := .cells #[.int .i64 0, .slice none 0 0] 26 (0, 0)) (by (with_reducible repeat (first | refine blk_drewN ?_ _ | refine blk_drew ?_ | refine blk_alloc ?_ _)); exact BK76002.out)) : gb76007 ≠ gb76002)); replace BK76002 := aQ (blk_below (g := gb76002) (o := .cells #[.int .i64 0, .slice none 0 0] 26 (0, 0)) (by (with_reducible repeat (first | refine blk_drewN ?_ _ | refine blk_drew ?_ | refine blk_alloc ?_ _)); exact BK76002.out) hb); clear hb hbox hg; have hnb10 := NB76007_76001.out; have hnc10 := NB76001_76007.out; have hnb11 := NB76007_76002.out; have hnc11 := NB76002_76007.out; have hcz12_0 : w9.cell? ⟨gb76007, 0, none⟩ = some (.int .i64 0) := (blk_cell BK76007.out 0).trans rfl; have hcz12_1 : w9.cell? ⟨gb76007, 1, none⟩ = some (.slice none 0 0) := (blk_cell BK76007.out 1).trans rfl; have hfz12_0 := blk_frozen BK76007.out 0; have hfz12_1 := blk_frozen BK76007.out 1; obtain ⟨Ao13, co13, eo13⟩ := Kd.R_slice HO76006.out; subst eo13))
 go_loopg [6] k (fun kq v6 w' => ∃ (x6_1 : Int) (x76008000_1 : Int) (x76008001_1 : List Int) (u76008001 : Value), v6 = .int .i64 x6_1 ∧ Aside0 (spec_l22Times.l0 kq a1 x6_1 a0_0 l0_1 x76008000_1 x76008001_1 = some (r1, r2)) ∧ Aside0 (kq ≤ k) ∧ Aside0 (Kd.R (Kd.int .i64) 3 w' w.heap.size (fun _ => True) u76008001 x76008001_1) ∧ Aside0 (w'.heap[gb76001]? = some (.cells #[.int .i64 a0_0, (.slice A0_1 l0_1.length c0_1)] 26 (0, 0))) ∧ Aside0 (w'.heap[gb76002]? = some (.cells #[.int .i64 0, (.slice none 0 0)] 26 (0, 0))) ∧ Aside0 (w'.heap[gb76007]? = some (.cells #[.int .i64 x76008000_1, u76008001] 26 (0, 0))) ∧ Aside0 (Below w.heap.size w w'))
 case atStart => exact ⟨(0), (t76003), (t76004), (.slice Ao13 t76004.length co13), (by first | rfl | (simp; done) | (simp [*]; done)), H', ⟨Nat.le_refl _⟩, ⟨by (with_reducible repeat (first | apply Kd.R_alloc | apply Kd.R_drewN | apply Kd.R_drew)); exact Kd.R_mono (Kd.R_far (p := ⟨gb76007, 1, none⟩) (Kd.R_far (p := ⟨gb76007, 0, none⟩) (Kd.R_types HO76006.out BK76007.out (by decide)) (fun _ hk => hk.2) (.int .i64 t76003)) (fun _ hk => hk.2) (.slice Ao13 t76004.length co13)) (fun _ hk => trivial)⟩, ⟨by (with_reducible repeat (first | refine blk_drewN ?_ _ | refine blk_drew ?_ | refine blk_alloc ?_ _)); refine blk_far ?_ NB76001_76007.out _; (with_reducible repeat (first | refine blk_drewN ?_ _ | refine blk_drew ?_ | refine blk_alloc ?_ _)); refine blk_far ?_ NB76001_76007.out _; (with_reducible repeat (first | refine blk_drewN ?_ _ | refine blk_drew ?_ | refine blk_alloc ?_ _)); exact BK76001.out⟩, ⟨by (with_reducible repeat (first | refine blk_drewN ?_ _ | refine blk_drew ?_ | refine blk_alloc ?_ _)); refine blk_far ?_ NB76002_76007.out _; (with_reducible repeat (first | refine blk_drewN ?_ _ | refine blk_drew ?_ | refine blk_alloc ?_ _)); refine blk_far ?_ NB76002_76007.out _; (with_reducible repeat (first | refine blk_drewN ?_ _ | refine blk_drew ?_ | refine blk_alloc ?_ _)); exact BK76002.out⟩, ⟨by (with_reducible repeat (first | refine blk_drewN ?_ _ | refine blk_drew ?_ | refine blk_alloc ?_ _)); refine blk_put (cs := #[.int .i64 t76003, .slice none 0 0]) ?_ 1 _ rfl; (with_reducible repeat (first | refine blk_drewN ?_ _ | refine blk_drew ?_ | refine blk_alloc ?_ _)); refine blk_put (cs := #[.int .i64 0, .slice none 0 0]) ?_ 0 _ rfl; (with_reducible repeat (first | refine blk_drewN ?_ _ | refine blk_drew ?_ | refine blk_alloc ?_ _)); exact BK76007.out⟩, ⟨by repeat (first | (with_reducible first | exact HB.out | apply below_alloc | apply pw_below_drewN | apply below_drew1 | refine below_set ?_ GE76001.out | refine below_set ?_ GE76002.out | refine below_set ?_ GE76007.out) | exact HB.out)⟩⟩
 case round =>
  clear H'
  try clear c1
  try clear p2
  try clear c6
  try clear c7
  try clear c10
  try clear c11
  try clear c13
  try clear hcz12_0
  try clear hcz12_1
  try clear hcz7_0
  try clear hcz7_1
  try clear hfz12_0
  try clear hfz12_1
  try clear hfz7_0
  try clear hfz7_1
  obtain ⟨x6_1, x76008000_1, x76008001_1, u76008001, rfl, HA, HK1, HO_76008001, BK76001, BK76002, BK76007, HB⟩ := hrel
  cases gk with
  | zero => exact absurd HA.out (by simp [spec_l22Times.l0])
  | succ k1 =>
   have H := HA.out
   clear HA
   simp only [spec_l22Times.l0] at H
   by_cases c14 : x6_1 < a1
   ·rw [if_pos c14] at H
    have c14b0 : decide (x6_1 < a1) = true := decide_eq_true c14
    clear c14
    replace H := Option.bind_eq_some_iff.mp H
    obtain ⟨⟨t76008, t76009, t76012⟩, A150, H⟩ := H
    replace H : (spec_l22Times.l0 k1 a1 (wrap64 (x6_1 + 1)) a0_0 l0_1 t76008 t76009) = some (r1, r2) := H
    have A15 := aQ A150
    clear A150
    have H' := aQ H
    clear H
    have hnb16 := NB76007_76001.out
    have hnc16 := NB76001_76007.out
    have hnb17 := NB76007_76002.out
    have hnc17 := NB76002_76007.out
    have hcz18_0 : wr.cell? ⟨gb76007, 0, none⟩ = some (.int .i64 x76008000_1) := (blk_cell BK76007.out 0).trans rfl
    have hcz18_1 : wr.cell? ⟨gb76007, 1, none⟩ = some (u76008001) := (blk_cell BK76007.out 1).trans rfl
    have hfz18_0 := blk_frozen BK76007.out 0
    have hfz18_1 := blk_frozen BK76007.out 1
    have hnb19 := NB76001_76002.out
    have hnc19 := NB76002_76001.out
    have hcz20_0 : wr.cell? ⟨gb76001, 0, none⟩ = some (.int .i64 a0_0) := (blk_cell BK76001.out 0).trans rfl
    have hcz20_1 : wr.cell? ⟨gb76001, 1, none⟩ = some (.slice A0_1 l0_1.length c0_1) := (blk_cell BK76001.out 1).trans rfl
    have hfz20_0 := blk_frozen BK76001.out 0
    have hfz20_1 := blk_frozen BK76001.out 1
    obtain ⟨Ao21, co21, eo21⟩ := Kd.R_slice HO_76008001.out
    subst eo21
    go_wp2_with (first | ((with_reducible refine gate_callee (f := 140) rfl ?_); refine goesL_ (some 18) rfl rfl Try.func140 (by kernel_rfl) rfl #[.agg #[.int .i64 x76008000_1, .slice Ao21 x76008001_1.length co21], .agg #[.int .i64 a0_0, .slice A0_1 l0_1.length c0_1]] rfl (by (try simp only [List.map_toArray, List.map_cons, List.map_nil]); first | done | rfl | (simp only [List.length_drop, List.length_take]; rfl)) ?_; (with_reducible refine (spec_UnionOf.calls k1 x76008000_1 _ _ x76008001_1 a0_0 _ _ l0_1 t76008 t76009 t76012 _ ?side1 ?side2 ?side3 ?side4 A15.out).mono ?_); (case side1 => repeat (first | exact (Kd.R_reads' HO_76008001.out).2.2 | (with_reducible refine Kd.C_alloc ?_ _) | (with_reducible refine Kd.C_drewN ?_ _) | (with_reducible refine Kd.C_drew ?_))); (case side2 => exact (Kd.R_reads' HO_76008001.out).2.1); (case side3 => repeat (first | exact (Kd.C_below HR0_1.out HB.out) | (with_reducible refine Kd.C_alloc ?_ _) | (with_reducible refine Kd.C_drewN ?_ _) | (with_reducible refine Kd.C_drew ?_))); (case side4 => exact HC0_1.out); rintro e w22 ⟨v76010, rfl, ho0, hb⟩; refine ⟨_, rfl, ?_⟩; have HO76011 := aQ (Kd.R_lower (Kd.R_new' ho0 (Kd.R_lt (by (with_reducible repeat (first | apply Kd.R_alloc | apply Kd.R_drewN | apply Kd.R_drew)); exact HO_76008001.out))) (below_size (by repeat (first | (with_reducible first | exact HB.out | apply below_alloc | apply pw_below_drewN | apply below_drew1 | refine below_set ?_ GE76001.out | refine below_set ?_ GE76002.out | refine below_set ?_ GE76007.out) | exact HB.out)))); replace HO_76008001 := aQ (Kd.R_elder' (by (with_reducible repeat (first | apply Kd.R_alloc | apply Kd.R_drewN | apply Kd.R_drew)); exact HO_76008001.out) (Kd.R_base ho0) hb); replace BK76001 := aQ (blk_below (g := gb76001) (o := .cells #[.int .i64 a0_0, .slice A0_1 l0_1.length c0_1] 26 (0, 0)) (by (with_reducible repeat (first | refine blk_drewN ?_ _ | refine blk_drew ?_ | refine blk_alloc ?_ _)); exact BK76001.out) hb); replace BK76002 := aQ (blk_below (g := gb76002) (o := .cells #[.int .i64 0, .slice none 0 0] 26 (0, 0)) (by (with_reducible repeat (first | refine blk_drewN ?_ _ | refine blk_drew ?_ | refine blk_alloc ?_ _)); exact BK76002.out) hb); replace BK76007 := aQ (blk_below (g := gb76007) (o := .cells #[.int .i64 x76008000_1, .slice Ao21 x76008001_1.length co21] 26 (0, 0)) (by (with_reducible repeat (first | refine blk_drewN ?_ _ | refine blk_drew ?_ | refine blk_alloc ?_ _)); exact BK76007.out) hb); replace HB := aQ (below_step (by repeat (first | (with_reducible first | exact HB.out | apply below_alloc | apply pw_below_drewN | apply below_drew1 | refine below_set ?_ GE76001.out | refine below_set ?_ GE76002.out | refine below_set ?_ GE76007.out) | exact HB.out)) hb); (try clear hb); (try clear hb2); (try clear hk); (try clear hi); (try clear ho0); have hcz23_0 : w22.cell? ⟨gb76007, 0, none⟩ = some (.int .i64 x76008000_1) := (blk_cell BK76007.out 0).trans rfl; have hcz23_1 : w22.cell? ⟨gb76007, 1, none⟩ = some (.slice Ao21 x76008001_1.length co21) := (blk_cell BK76007.out 1).trans rfl; have hfz23_0 := blk_frozen BK76007.out 0; have hfz23_1 := blk_frozen BK76007.out 1; obtain ⟨Ao24, co24, eo24⟩ := Kd.R_slice HO76011.out; subst eo24))
    go_roundg k1
    case measure => have := HK1.out; omega
    case rel => exact ⟨(wrap64 (x6_1 + 1)), (t76008), (t76009), (.slice Ao24 t76009.length co24), (by first | rfl | (simp; done) | (simp [*]; done)), H', ⟨by have := HK1.out; omega⟩, ⟨by (with_reducible repeat (first | apply Kd.R_alloc | apply Kd.R_drewN | apply Kd.R_drew)); exact Kd.R_mono (Kd.R_far (p := ⟨gb76007, 1, none⟩) (Kd.R_far (p := ⟨gb76007, 0, none⟩) (Kd.R_types HO76011.out BK76007.out (by decide)) (fun _ hk => hk.2) (.int .i64 t76008)) (fun _ hk => hk.2) (.slice Ao24 t76009.length co24)) (fun _ hk => trivial)⟩, ⟨by (with_reducible repeat (first | refine blk_drewN ?_ _ | refine blk_drew ?_ | refine blk_alloc ?_ _)); refine blk_far ?_ NB76001_76007.out _; (with_reducible repeat (first | refine blk_drewN ?_ _ | refine blk_drew ?_ | refine blk_alloc ?_ _)); refine blk_far ?_ NB76001_76007.out _; (with_reducible repeat (first | refine blk_drewN ?_ _ | refine blk_drew ?_ | refine blk_alloc ?_ _)); exact BK76001.out⟩, ⟨by (with_reducible repeat (first | refine blk_drewN ?_ _ | refine blk_drew ?_ | refine blk_alloc ?_ _)); refine blk_far ?_ NB76002_76007.out _; (with_reducible repeat (first | refine blk_drewN ?_ _ | refine blk_drew ?_ | refine blk_alloc ?_ _)); refine blk_far ?_ NB76002_76007.out _; (with_reducible repeat (first | refine blk_drewN ?_ _ | refine blk_drew ?_ | refine blk_alloc ?_ _)); exact BK76002.out⟩, ⟨by (with_reducible repeat (first | refine blk_drewN ?_ _ | refine blk_drew ?_ | refine blk_alloc ?_ _)); refine blk_put (cs := #[.int .i64 t76008, .slice Ao21 x76008001_1.length co21]) ?_ 1 _ rfl; (with_reducible repeat (first | refine blk_drewN ?_ _ | refine blk_drew ?_ | refine blk_alloc ?_ _)); refine blk_put (cs := #[.int .i64 x76008000_1, .slice Ao21 x76008001_1.length co21]) ?_ 0 _ rfl; (with_reducible repeat (first | refine blk_drewN ?_ _ | refine blk_drew ?_ | refine blk_alloc ?_ _)); exact BK76007.out⟩, ⟨by repeat (first | (with_reducible first | exact HB.out | apply below_alloc | apply pw_below_drewN | apply below_drew1 | refine below_set ?_ GE76001.out | refine below_set ?_ GE76002.out | refine below_set ?_ GE76007.out) | exact HB.out)⟩⟩
   ·rw [if_neg c14] at H
    have c14b0 : decide (x6_1 < a1) = false := decide_eq_false c14
    clear c14
    simp only [Option.some.injEq, Prod.mk.injEq] at H
    obtain ⟨rfl, rfl⟩ := H
    have hnb25 := NB76007_76001.out
    have hnc25 := NB76001_76007.out
    have hnb26 := NB76007_76002.out
    have hnc26 := NB76002_76007.out
    have hcz27_0 : wr.cell? ⟨gb76007, 0, none⟩ = some (.int .i64 x76008000_1) := (blk_cell BK76007.out 0).trans rfl
    have hcz27_1 : wr.cell? ⟨gb76007, 1, none⟩ = some (u76008001) := (blk_cell BK76007.out 1).trans rfl
    have hfz27_0 := blk_frozen BK76007.out 0
    have hfz27_1 := blk_frozen BK76007.out 1
    have hnb28 := NB76002_76001.out
    have hnc28 := NB76001_76002.out
    have hcz29_0 : wr.cell? ⟨gb76002, 0, none⟩ = some (.int .i64 0) := (blk_cell BK76002.out 0).trans rfl
    have hcz29_1 : wr.cell? ⟨gb76002, 1, none⟩ = some (.slice none 0 0) := (blk_cell BK76002.out 1).trans rfl
    have hfz29_0 := blk_frozen BK76002.out 0
    have hfz29_1 := blk_frozen BK76002.out 1
    obtain ⟨Ao30, co30, eo30⟩ := Kd.R_slice HO_76008001.out
    subst eo30
    go_wp2
    refine bodyPost_ret (results_cell_row rfl _ _ gb76002 26 #[.int .i64 x76008000_1, .slice Ao30 x76008001_1.length co30] (0, 0) _ rfl (by (with_reducible repeat (first | refine blk_drewN ?_ _ | refine blk_drew ?_ | refine blk_alloc ?_ _)); refine blk_put (cs := #[.int .i64 x76008000_1, .slice none 0 0]) ?_ 1 _ rfl; (with_reducible repeat (first | refine blk_drewN ?_ _ | refine blk_drew ?_ | refine blk_alloc ?_ _)); refine blk_put (cs := #[.int .i64 0, .slice none 0 0]) ?_ 0 _ rfl; (with_reducible repeat (first | refine blk_drewN ?_ _ | refine blk_drew ?_ | refine blk_alloc ?_ _)); exact BK76002.out) Try.underlying26 rfl (by kernel_rfl)) rfl ?_
    exact ⟨_, by first | rfl | (simp [errW_none, errW_some] <;> rfl) | (simp [*, errW_none, errW_some] <;> rfl), by (with_reducible repeat (first | apply Kd.R_alloc | apply Kd.R_drewN | apply Kd.R_drew)); exact Kd.R_mono (Kd.R_far (p := ⟨gb76002, 1, none⟩) (Kd.R_far (p := ⟨gb76002, 0, none⟩) (Kd.R_types HO_76008001.out BK76002.out (by decide)) (fun _ hk => hk.2) (.int .i64 x76008000_1)) (fun _ hk => hk.2) (.slice Ao30 x76008001_1.length co30)) (fun _ hk => trivial), by repeat (first | (with_reducible first | exact HB.out | apply below_alloc | apply pw_below_drewN | apply below_drew1 | refine below_set ?_ GE76001.out | refine below_set ?_ GE76002.out | refine below_set ?_ GE76007.out) | exact HB.out)⟩
/-! ### spec_UnionRank: function 28 -/
def spec_UnionRank.j0 : Nat → Int → Bool → Int → List Int → Option (Int)
 | 0, _, _, _, _ => none
 | k + 1, x1, x12, x29002000, x29002001 => if x12 = true then (some (-1)) else ((spec_l22Times.f k x29002000 x29002001 x1).bind fun bt29004 => (if 0 < (bt29004.2.length : Int) then ((spec_CountOf.f k (rd bt29004.2 0)).bind fun t29009 => (some t29009)) else (none)))
def spec_UnionRank.f (k : Nat) (a0_0 : Int) (l0_1 : List Int) (a1 : Int) : Option (Int) := (spec_IsMatroid.f k a0_0 l0_1).bind fun t29002 => (if t29002 = true then ((spec_l1In.f a1 0 8).bind fun t29003 => (spec_UnionRank.j0 k a1 (!t29003) a0_0 l0_1)) else (spec_UnionRank.j0 k a1 true a0_0 l0_1))
theorem spec_UnionRank.mono_l : ∀ k, (∀ y0 y1 y2 y3, LeO (spec_UnionRank.j0 k y0 y1 y2 y3) (spec_UnionRank.j0 (k + 1) y0 y1 y2 y3))
 | 0 => fun _ _ _ _ r h => by simp [spec_UnionRank.j0] at h
 | k + 1 => by
  have ih0 := spec_UnionRank.mono_l k
  ·intro y0 y1 y2 y3
   unfold spec_UnionRank.j0
   repeat' first
   | (with_reducible exact ih0 _ _ _ _)
   | (with_reducible exact spec_CountOf.mono _ _)
   | (with_reducible exact spec_IsMatroid.mono _ _ _)
   | (with_reducible exact spec_l22Times.mono _ _ _ _)
   | (with_reducible exact LeO.refl _)
   | (with_reducible exact LeO.none _)
   | (with_reducible refine LeO.ite ?_ ?_)
   | (with_reducible refine LeO.bind ?_ (fun _ => ?_))
   | exact ih0 _ _ _ _
   | exact spec_CountOf.mono _ _
   | exact spec_IsMatroid.mono _ _ _
   | exact spec_l22Times.mono _ _ _ _
   | exact LeO.none _
   | refine LeO.ite ?_ ?_
   | refine LeO.bind ?_ (fun _ => ?_)
theorem spec_UnionRank.mono : ∀ a0 a1 a2 k, LeO (spec_UnionRank.f k a0 a1 a2) (spec_UnionRank.f (k + 1) a0 a1 a2) := by
 intro a0 a1 a2 k
 have ih0 := spec_UnionRank.mono_l k
 unfold spec_UnionRank.f
 repeat' first
   | (with_reducible exact ih0 _ _ _ _)
   | (with_reducible exact spec_CountOf.mono _ _)
   | (with_reducible exact spec_IsMatroid.mono _ _ _)
   | (with_reducible exact spec_l22Times.mono _ _ _ _)
   | (with_reducible exact LeO.refl _)
   | (with_reducible exact LeO.none _)
   | (with_reducible refine LeO.ite ?_ ?_)
   | (with_reducible refine LeO.bind ?_ (fun _ => ?_))
   | exact ih0 _ _ _ _
   | exact spec_CountOf.mono _ _
   | exact spec_IsMatroid.mono _ _ _
   | exact spec_l22Times.mono _ _ _ _
   | exact LeO.none _
   | refine LeO.ite ?_ ?_
   | refine LeO.bind ?_ (fun _ => ?_)
set_option maxHeartbeats 8000000 in
set_option maxRecDepth 100000 in
theorem spec_UnionRank.calls (k : Nat) (a0_0 : Int) (A0_1 : Option Addr) (c0_1 : Nat) (l0_1 : List Int) (a1 : Int) (r : Int) (w : World) (hr0_1 : Kd.C (Kd.int .i64) w A0_1 l0_1.length l0_1) (hc0_1 : l0_1.length ≤ c0_1) (h : spec_UnionRank.f k a0_0 l0_1 a1 = some r) :
  Calls Try.prog 28 #[.agg #[.int .i64 a0_0, .slice A0_1 l0_1.length c0_1], .int .i64 a1] w fun e w' => e = .returned (.int .i64 r) ∧ Below w.heap.size w w' := by
 have hu26 := Try.underlying26
 have hfd_ : ∀ (a_ : Int) (A_ : Option Addr) (n_ c_ : Nat) (w_ : World), (Instr.field 26 (.agg #[.int .i64 a_, .slice A_ n_ c_]) 1).run Try.prog w_ = .ok (.slice A_ n_ c_) w_ := fun _ _ _ _ _ => by kernel_rfl
 have HR0_1 := aQ hr0_1
 have HC0_1 := aQ hc0_1
 clear hr0_1 hc0_1
 have HB := aQ (Below.refl w.heap.size w)
 have H : ((spec_IsMatroid.f k a0_0 l0_1).bind fun t29002 => (if t29002 = true then ((spec_l1In.f a1 0 8).bind fun t29003 => (spec_UnionRank.j0 k a1 (!t29003) a0_0 l0_1)) else (spec_UnionRank.j0 k a1 true a0_0 l0_1))) = some r := h
 clear h
 have HC3 := aQ H
 clear H
 go_enter Try.func28, Try.ntmps28
 go_upto_region 1 with (first | ((with_reducible refine gate_dst (N := 2) rfl ?_); refine box_event ?hg (N := 2) ?hd (cs := #[.int .i64 a0_0, .slice A0_1 l0_1.length c0_1]) (t := 26) ?hr ?_; (case hd => rfl); (case hg => rfl); (case hr => first | (go_simp; done) | (go_simp; rfl)); intro gb29001 hg w4 hbox hb; have BK29001 := aQ (hbox); have GW29001 := aQ ((by rw [hg]; exact (below_size (by repeat (first | (with_reducible first | exact HB.out | apply below_alloc | apply pw_below_drewN | apply below_drew1) | exact HB.out))) : w.heap.size ≤ gb29001)); have GE29001 := aQ ((by rw [hg]; exact (below_size (by repeat (first | (with_reducible first | exact HB.out | apply below_alloc | apply pw_below_drewN | apply below_drew1) | exact HB.out))) : w.heap.size ≤ gb29001)); replace HB := aQ (below_step (by repeat (first | (with_reducible first | exact HB.out | apply below_alloc | apply pw_below_drewN | apply below_drew1) | exact HB.out)) hb); clear hb hbox hg))
 (try simp only [Act.put, List.setIfInBounds_toArray, List.set_cons_zero, List.set_cons_succ])
 go_cut [12] (fun v12 wc => ∃ (kq : Nat) (x12_2 : Bool), v12 = .bool x12_2 ∧ Aside0 (spec_UnionRank.j0 kq a1 x12_2 a0_0 l0_1 = some r) ∧ Aside0 (kq ≤ k) ∧ Aside0 (wc.heap[gb29001]? = some (.cells #[.int .i64 a0_0, (.slice A0_1 l0_1.length c0_1)] 26 (0, 0))) ∧ Aside0 (Below w.heap.size w wc))
 case first =>
  have H := HC3.out
  clear HC3
  replace H := Option.bind_eq_some_iff.mp H
  obtain ⟨t29002, A50, H⟩ := H
  replace H : (if t29002 = true then ((spec_l1In.f a1 0 8).bind fun t29003 => (spec_UnionRank.j0 k a1 (!t29003) a0_0 l0_1)) else (spec_UnionRank.j0 k a1 true a0_0 l0_1)) = some r := H
  have A5 := aQ A50
  clear A50
  by_cases c6 : t29002 = true
  ·subst c6
   have H1 : ((spec_l1In.f a1 0 8).bind fun t29003 => (spec_UnionRank.j0 k a1 (!t29003) a0_0 l0_1)) = some r := by rw [if_pos rfl] at H; exact H
   clear H
   have H := H1
   clear H1
   replace H := Option.bind_eq_some_iff.mp H
   obtain ⟨t29003, A70, H⟩ := H
   replace H : (spec_UnionRank.j0 k a1 (!t29003) a0_0 l0_1) = some r := H
   have A7 := aQ A70
   clear A70
   have H' := aQ H
   clear H
   have hcz8_0 : w4.cell? ⟨gb29001, 0, none⟩ = some (.int .i64 a0_0) := (blk_cell BK29001.out 0).trans rfl
   have hcz8_1 : w4.cell? ⟨gb29001, 1, none⟩ = some (.slice A0_1 l0_1.length c0_1) := (blk_cell BK29001.out 1).trans rfl
   have hfz8_0 := blk_frozen BK29001.out 0
   have hfz8_1 := blk_frozen BK29001.out 1
   go_wp2_with (first | ((with_reducible refine gate_callee (f := 74) rfl ?_); refine goesL_ (some 6) rfl rfl Try.func74 (by kernel_rfl) rfl #[.agg #[.int .i64 a0_0, .slice A0_1 l0_1.length c0_1]] rfl (by (try simp only [List.map_toArray, List.map_cons, List.map_nil]); first | done | rfl | (simp only [List.length_drop, List.length_take]; rfl)) ?_; (with_reducible refine (spec_IsMatroid.calls k a0_0 _ _ l0_1 true _ ?side1 ?side2 A5.out).mono ?_); (case side1 => repeat (first | exact (Kd.C_below HR0_1.out HB.out) | (with_reducible refine Kd.C_alloc ?_ _) | (with_reducible refine Kd.C_drewN ?_ _) | (with_reducible refine Kd.C_drew ?_))); (case side2 => exact HC0_1.out); rintro e w9 ⟨rfl, hb⟩; refine ⟨_, rfl, ?_⟩; replace BK29001 := aQ (blk_below (g := gb29001) (o := .cells #[.int .i64 a0_0, .slice A0_1 l0_1.length c0_1] 26 (0, 0)) (by (with_reducible repeat (first | refine blk_drewN ?_ _ | refine blk_drew ?_ | refine blk_alloc ?_ _)); exact BK29001.out) hb); replace HB := aQ (below_step (by repeat (first | (with_reducible first | exact HB.out | apply below_alloc | apply pw_below_drewN | apply below_drew1 | refine below_set ?_ GE29001.out) | exact HB.out)) hb); (try clear hb); (try clear hb2); (try clear hk); (try clear hi)) | (go_at_call 55; (with_reducible refine (spec_l1In.calls a1 0 8 t29003 _ A7.out).mono ?_); rintro e w' ⟨rfl, ⟨nd, rfl⟩⟩))
   go_meet
   case rel => exact ⟨_, (!t29003), (by first | rfl | (simp; done) | (simp [*]; done)), H', ⟨by first | omega | exact Nat.le_refl _⟩, ⟨by (with_reducible repeat (first | refine blk_drewN ?_ _ | refine blk_drew ?_ | refine blk_alloc ?_ _)); exact BK29001.out⟩, ⟨by repeat (first | (with_reducible first | exact HB.out | apply below_alloc | apply pw_below_drewN | apply below_drew1 | refine below_set ?_ GE29001.out) | exact HB.out)⟩⟩
  ·replace c6 := Bool.eq_false_iff.mpr c6
   subst c6
   have H1 : (spec_UnionRank.j0 k a1 true a0_0 l0_1) = some r := by rw [if_neg (show ¬ (false = true) by decide)] at H; exact H
   clear H
   have H := H1
   clear H1
   have H' := aQ H
   clear H
   have hcz10_0 : w4.cell? ⟨gb29001, 0, none⟩ = some (.int .i64 a0_0) := (blk_cell BK29001.out 0).trans rfl
   have hcz10_1 : w4.cell? ⟨gb29001, 1, none⟩ = some (.slice A0_1 l0_1.length c0_1) := (blk_cell BK29001.out 1).trans rfl
   have hfz10_0 := blk_frozen BK29001.out 0
   have hfz10_1 := blk_frozen BK29001.out 1
   go_wp2_with (first | ((with_reducible refine gate_callee (f := 74) rfl ?_); refine goesL_ (some 6) rfl rfl Try.func74 (by kernel_rfl) rfl #[.agg #[.int .i64 a0_0, .slice A0_1 l0_1.length c0_1]] rfl (by (try simp only [List.map_toArray, List.map_cons, List.map_nil]); first | done | rfl | (simp only [List.length_drop, List.length_take]; rfl)) ?_; (with_reducible refine (spec_IsMatroid.calls k a0_0 _ _ l0_1 false _ ?side1 ?side2 A5.out).mono ?_); (case side1 => repeat (first | exact (Kd.C_below HR0_1.out HB.out) | (with_reducible refine Kd.C_alloc ?_ _) | (with_reducible refine Kd.C_drewN ?_ _) | (with_reducible refine Kd.C_drew ?_))); (case side2 => exact HC0_1.out); rintro e w11 ⟨rfl, hb⟩; refine ⟨_, rfl, ?_⟩; replace BK29001 := aQ (blk_below (g := gb29001) (o := .cells #[.int .i64 a0_0, .slice A0_1 l0_1.length c0_1] 26 (0, 0)) (by (with_reducible repeat (first | refine blk_drewN ?_ _ | refine blk_drew ?_ | refine blk_alloc ?_ _)); exact BK29001.out) hb); replace HB := aQ (below_step (by repeat (first | (with_reducible first | exact HB.out | apply below_alloc | apply pw_below_drewN | apply below_drew1 | refine below_set ?_ GE29001.out) | exact HB.out)) hb); (try clear hb); (try clear hb2); (try clear hk); (try clear hi)))
   go_meet
   case rel => exact ⟨_, (true), (by first | rfl | (simp; done) | (simp [*]; done)), H', ⟨by first | omega | exact Nat.le_refl _⟩, ⟨by (with_reducible repeat (first | refine blk_drewN ?_ _ | refine blk_drew ?_ | refine blk_alloc ?_ _)); exact BK29001.out⟩, ⟨by repeat (first | (with_reducible first | exact HB.out | apply below_alloc | apply pw_below_drewN | apply below_drew1 | refine below_set ?_ GE29001.out) | exact HB.out)⟩⟩
 case rest =>
  clear HC3
  try clear c2
  try clear p2
  try clear c6
  try clear c7
  try clear hcz10_0
  try clear hcz10_1
  try clear hcz8_0
  try clear hcz8_1
  try clear hfz10_0
  try clear hfz10_1
  try clear hfz8_0
  try clear hfz8_1
  obtain ⟨kq, x12_2, rfl, HA, HJ2, BK29001, HB⟩ := hcut
  cases kq with
  | zero => exact absurd HA.out (by simp [spec_UnionRank.j0])
  | succ kj2 =>
   have H := HA.out
   clear HA
   simp only [spec_UnionRank.j0] at H
   by_cases c12 : x12_2 = true
   ·subst c12
    have H1 : (some (-1)) = some r := by rw [if_pos rfl] at H; exact H
    clear H
    have H := H1
    clear H1
    obtain rfl := Option.some.inj H
    go_wp2
    go_ret
    exact ⟨by first | rfl | (simp [errW_none, errW_some] <;> rfl) | (simp [*, errW_none, errW_some] <;> rfl), by repeat (first | (with_reducible first | exact HB.out | apply below_alloc | apply pw_below_drewN | apply below_drew1 | refine below_set ?_ GE29001.out) | exact HB.out)⟩
   ·replace c12 := Bool.eq_false_iff.mpr c12
    subst c12
    have H1 : ((spec_l22Times.f kj2 a0_0 l0_1 a1).bind fun bt29004 => (if 0 < (bt29004.2.length : Int) then ((spec_CountOf.f kj2 (rd bt29004.2 0)).bind fun t29009 => (some t29009)) else (none))) = some r := by rw [if_neg (show ¬ (false = true) by decide)] at H; exact H
    clear H
    have H := H1
    clear H1
    replace H := Option.bind_eq_some_iff.mp H
    obtain ⟨⟨t29004, t29005⟩, A130, H⟩ := H
    replace H : (if 0 < (t29005.length : Int) then ((spec_CountOf.f kj2 (rd t29005 0)).bind fun t29009 => (some t29009)) else (none)) = some r := H
    have A13 := aQ A130
    clear A130
    by_cases c14 : 0 < (t29005.length : Int)
    ·rw [if_pos c14] at H
     have c14b0 : decide (0 < (t29005.length : Int)) = true := decide_eq_true c14
     have c14b1 : decide (0 < t29005.length) = true := decide_eq_true (by omega)
     clear c14
     replace H := Option.bind_eq_some_iff.mp H
     obtain ⟨t29009, A150, H⟩ := H
     replace H : (some t29009) = some r := H
     have A15 := aQ A150
     clear A150
     obtain rfl := Option.some.inj H
     have hcz16_0 : wc.cell? ⟨gb29001, 0, none⟩ = some (.int .i64 a0_0) := (blk_cell BK29001.out 0).trans rfl
     have hcz16_1 : wc.cell? ⟨gb29001, 1, none⟩ = some (.slice A0_1 l0_1.length c0_1) := (blk_cell BK29001.out 1).trans rfl
     have hfz16_0 := blk_frozen BK29001.out 0
     have hfz16_1 := blk_frozen BK29001.out 1
     go_wp2_with (first | ((with_reducible refine gate_callee (f := 75) rfl ?_); refine goesL_ (some 15) rfl rfl Try.func75 (by kernel_rfl) rfl #[.agg #[.int .i64 a0_0, .slice A0_1 l0_1.length c0_1], .int .i64 a1] rfl (by (try simp only [List.map_toArray, List.map_cons, List.map_nil]); first | done | rfl | (simp only [List.length_drop, List.length_take]; rfl)) ?_; (with_reducible refine (spec_l22Times.calls kj2 a0_0 _ _ l0_1 a1 t29004 t29005 _ ?side1 ?side2 A13.out).mono ?_); (case side1 => repeat (first | exact (Kd.C_below HR0_1.out HB.out) | (with_reducible refine Kd.C_alloc ?_ _) | (with_reducible refine Kd.C_drewN ?_ _) | (with_reducible refine Kd.C_drew ?_))); (case side2 => exact HC0_1.out); rintro e w17 ⟨v29006, rfl, ho0, hb⟩; refine ⟨_, rfl, ?_⟩; have HO29007 := aQ (Kd.R_lower ho0 (below_size (by repeat (first | (with_reducible first | exact HB.out | apply below_alloc | apply pw_below_drewN | apply below_drew1 | refine below_set ?_ GE29001.out) | exact HB.out)))); replace BK29001 := aQ (blk_below (g := gb29001) (o := .cells #[.int .i64 a0_0, .slice A0_1 l0_1.length c0_1] 26 (0, 0)) (by (with_reducible repeat (first | refine blk_drewN ?_ _ | refine blk_drew ?_ | refine blk_alloc ?_ _)); exact BK29001.out) hb); replace HB := aQ (below_step (by repeat (first | (with_reducible first | exact HB.out | apply below_alloc | apply pw_below_drewN | apply below_drew1 | refine below_set ?_ GE29001.out) | exact HB.out)) hb); (try clear hb); (try clear hb2); (try clear hk); (try clear hi); (try clear ho0); obtain ⟨Ao18, co18, eo18⟩ := Kd.R_slice HO29007.out; subst eo18; have p29008 : 0 ≤ (0 : Int) := (by omega); have q29008 : 0 < (t29005.length : Int) := of_decide_eq_true (by first | (with_reducible assumption) | assumption); obtain ⟨ad29008, e29008, hx29008_0⟩ := Kd.at_int (Kd.R_reads' HO29007.out).2.2 0 p29008 q29008; cases e29008; have qi29008 : (0 < t29005.length) = True := eq_true (by omega); (try rw [show ((0 : Int)).toNat = 0 from rfl] at hx29008_0); (try rw [Addr.add_zero'] at hx29008_0); replace p29008 := eq_true p29008; replace q29008 := eq_true q29008) | ((with_reducible refine gate_callee (f := 58) rfl ?_); refine goesL_ (some 19) rfl rfl Try.func58 (by kernel_rfl) rfl #[.int .i64 (rd t29005 0)] rfl (by (try simp only [List.map_toArray, List.map_cons, List.map_nil]); first | done | rfl | (simp only [List.length_drop, List.length_take]; rfl)) ?_; (with_reducible refine (spec_CountOf.calls kj2 (rd t29005 0) t29009 _ A15.out).mono ?_); rintro e w' ⟨rfl, ⟨nd, rfl⟩⟩; refine ⟨_, rfl, ?_⟩))
     go_ret
     exact ⟨by first | rfl | (simp [errW_none, errW_some] <;> rfl) | (simp [*, errW_none, errW_some] <;> rfl), by repeat (first | (with_reducible first | exact HB.out | apply below_alloc | apply pw_below_drewN | apply below_drew1 | refine below_set ?_ GE29001.out) | exact HB.out)⟩
    ·rw [if_neg c14] at H
     exact absurd H (by simp)
end Go.Proofs.Ytagncnjllpebjaa.A
namespace Go.Proofs.Ytagncnjllpebjaa.A
open Go.RowKit Go.Proofs.YtagncnjllpebjaaW.PrintWords Go.Proofs.YtagncnjllpebjaaW.PrintLast Go.Proofs.YtagncnjllpebjaaW.PrintMore Go.Proofs.Ytagncnjllpebjaa.Z
attribute [local go_sem] max2_int min2_int max_two min_two max_three min_three max_four min_four   -- for this text's walks alone
set_option linter.unusedVariables false
set_option linter.unusedSimpArgs false

/-! ### impl_unions: function 76 (by hand) -/
def fillB (x : Int) : List Bool → List Int → Option (List Bool)
 | has, [] => some has
 | has, y :: ys => if 0 ≤ Go.bits .or .i64 x y ∧ Go.bits .or .i64 x y < (has.length : Int) then fillB x (has.set (Go.bits .or .i64 x y).toNat true) ys else none
/-- What the two loops make of a row of marks. -/
def fillA : List Bool → List Int → List Int → Option (List Bool)
 | has, [], _ => some has
 | has, x :: xs, b => (fillB x has b).bind fun h => fillA h xs b
def impl_unions.f (a0 : Int) (l1 : List Int) (l2 : List Int) : Option (List Int) := if 0 ≤ a0 ∧ a0 ≤ 8 then (fillA (List.replicate (2 ^ a0.toNat) false) l1 l2).bind fun h => (impl_FullSet.f a0).bind fun m => if 0 ≤ m ∧ m ≤ 1000 then setsO (fun s => if 0 ≤ s ∧ s < (h.length : Int) then some (rdOf false h s) else none) m else none else none
theorem shl_small8 : ∀ y : Nat, y ≤ 8 → shl .i64 1 (y : Int) = ((2 ^ y : Nat) : Int) := by
 have h : ∀ y < 9, shl .i64 1 ((y : Nat) : Int) = ((2 ^ y : Nat) : Int) := by decide +kernel
 exact fun y hy => h y (by omega)
set_option maxHeartbeats 4000000 in
set_option maxRecDepth 100000 in
theorem unions1_walk (A : Option Addr) (n c : Nat) (l : List Bool) (s : Int) (b : Bool) (gx : Nat) (w : World)
  (hr : Kd.C Kd.bool w A l.length l) (hn : n = l.length) (hx : w.heap[gx]? = some (.cells #[.slice A n c] 103 (0, 0))) (h : (if 0 ≤ s ∧ s < (l.length : Int) then some (rdOf false l s) else none) = some b) :
  Calls Try.prog 141 #[.int .i64 s, .pointer (some ⟨gx, 0, none⟩)] w fun e w' => e = .returned (.bool b) ∧ Below w.heap.size w w' := by
 subst hn
 by_cases hs : 0 ≤ s ∧ s < (l.length : Int)
 ·rw [if_pos hs] at h
  simp only [Option.some.injEq] at h
  subst h
  obtain ⟨p1, q1⟩ := hs
  obtain ⟨ad, ea, hz⟩ := Kd.at_bool hr s p1 q1
  cases ea
  have zx : w.cell? ⟨gx, 0, none⟩ = some (.slice (some ad) l.length c) := (blk_cell hx 0).trans rfl
  have HB := aQ (Below.refl w.heap.size w)
  replace p1 := eq_true p1
  replace q1 := eq_true q1
  clear hr hx
  go_enter Try.func141, Try.ntmps141
  go_wp2
  go_ret
  exact ⟨by first | rfl | (simp; done) | (simp [*]; done), (by repeat (first | (with_reducible first | exact HB.out | apply below_alloc | apply pw_below_drewN | apply below_drew1) | exact HB.out))⟩
 ·rw [if_neg hs] at h; cases h
set_option maxHeartbeats 4000000 in
set_option maxRecDepth 100000 in
theorem impl_unions.calls (a0 : Int) (A1 : Option Addr) (c1 : Nat) (l1 : List Int) (A2 : Option Addr) (c2 : Nat) (l2 : List Int) (r : List Int) (w : World) (hr1 : Kd.C (Kd.int .i64) w A1 l1.length l1) (hc1 : l1.length ≤ c1) (hr2 : Kd.C (Kd.int .i64) w A2 l2.length l2) (hc2 : l2.length ≤ c2) (h : impl_unions.f a0 l1 l2 = some r) :
  Calls Try.prog 76 #[.int .i64 a0, .slice A1 l1.length c1, .slice A2 l2.length c2] w fun e w' => ∃ v0_ : Value, e = .returned v0_ ∧ Kd.R (Kd.int .i64) 3 w' w.heap.size (fun _ => True) v0_ r ∧ Below w.heap.size w w' := by
 have HR := aQ hr1
 have HR2 := aQ hr2
 have HL1 := aQ (show l1.length ≤ 9223372036854775807 from hr1.2.1)
 have HL2 := aQ (show l2.length ≤ 9223372036854775807 from hr2.2.1)
 have HB := aQ (Below.refl w.heap.size w)
 clear hr1 hc1 hr2 hc2
 have EG := aQ (show ∀ args w, (callFunc 141 args).run Try.prog w = .ok (.enter 141 args) w from runs_of Try.func141 (by kernel_rfl) rfl)
 unfold impl_unions.f at h
 by_cases h8 : 0 ≤ a0 ∧ a0 ≤ 8
 ·rw [if_pos h8] at h
  obtain ⟨hh, hA, h⟩ := Option.bind_eq_some_iff.1 h
  obtain ⟨m, hF, h⟩ := Option.bind_eq_some_iff.1 h
  by_cases hm : 0 ≤ m ∧ m ≤ 1000
  ·rw [if_pos hm] at h
   have HF := aQ hF
   have HM := aQ hm
   have HS := Lib.hid h
   clear hF hm h
   obtain ⟨ji28, hji28⟩ : ∃ j_ : Int, shl .i64 1 a0 = j_ := ⟨_, rfl⟩
   have hjv : ji28 = ((2 ^ a0.toNat : Nat) : Int) := by rw [← hji28]; obtain ⟨y, rfl⟩ := Int.eq_ofNat_of_zero_le h8.1; rw [Int.toNat_natCast]; exact shl_small8 y (by omega)
   have hpow : 0 < 2 ^ a0.toNat ∧ 2 ^ a0.toNat ≤ 256 := ⟨Nat.two_pow_pos _, Nat.le_trans (Nat.pow_le_pow_right (by decide) (show a0.toNat ≤ 8 by omega)) (by decide)⟩
   generalize hK : 2 ^ a0.toNat = K at hA hjv hpow
   have HA := aQ hA
   have HKP := aQ hpow.1
   have p0 : (0 ≤ a0) = True := eq_true h8.1
   have hji28_ : (IntKind.i64.wrap (1 * 2 ^ min a0.toNat 64)) = ji28 := hji28
   have hji28z : a0 ≤ 64 → (IntKind.i64.wrap (1 * 2 ^ a0.toNat)) = ji28 := shl_small hji28
   have hji28u : (IntKind.i64.wrap (2 ^ min a0.toNat 64)) = ji28 := by have h_ := hji28_; rw [Int.one_mul] at h_; exact h_
   have hji28v : a0 ≤ 64 → (IntKind.i64.wrap (2 ^ a0.toNat)) = ji28 := fun hle_ => by have h_ := hji28z hle_; rw [Int.one_mul] at h_; exact h_
   have hji28y : (wrap64 (1 * 2 ^ min a0.toNat 64)) = ji28 := (i64_w _).symm.trans hji28_
   have hji28x : a0 ≤ 64 → (wrap64 (1 * 2 ^ a0.toNat)) = ji28 := fun h_ => (i64_w _).symm.trans (hji28z h_)
   have hle64 : (a0 ≤ 64) = True := eq_true (by omega)
   have HJ0 := aQ (show 0 ≤ ji28 by omega)
   have HJ1 := aQ (show ji28.toNat ≤ 256 by omega)
   have HJ2 := aQ (show ji28.toNat = K by omega)
   clear hA hK hjv hpow h8
   go_enter Try.func76, Try.ntmps76
   go_wp2_with (first | ((with_reducible refine gate_dst (N := 14) rfl ?_); refine Kd.R_make Kd.bool _ 4 rfl (N := 14) rfl 103 _ _ rfl ji28 rfl rfl Try.underlying103 (.bool false) 1 info4 rfl (by decide) (by omega) false (ok := fun _ => True) (okp := fun _ => True) rfl (fun _ hk => hk) trivial HJ0.out ?aS (Below.refl _ _) (Nat.le_refl _) ?_; (case aS => have := HJ1.out; omega); intro v_ w1_ ho_ hb hg_ hnew_; clear hg_ hnew_; rw [HJ2.out] at ho_; have n_HO := aQ (Kd.R_lower ho_ (below_size (by repeat (first | (with_reducible first | exact HB.out | apply below_alloc | apply pw_below_drewN | apply below_drew1) | exact HB.out)))); have n_HB := aQ (below_step (by repeat (first | (with_reducible first | exact HB.out | apply below_alloc | apply pw_below_drewN | apply below_drew1) | exact HB.out)) hb); clear HB; have HB := n_HB; have HO := n_HO; clear n_HB n_HO hb ho_; obtain ⟨gh, cH, eH, gb_, gl_, cl_, HG_⟩ := Kd.R_form HO.out (by rw [List.length_replicate]; have := HKP.out; omega); subst eH; replace HO := aQ (show Kd.R Kd.bool 4 _ w.heap.size (fun _ => True) (.slice (some ⟨gh, 0, none⟩) K cH) (List.replicate K false) from by have h_ := HO.out; rwa [List.length_replicate] at h_); have GH := aQ gb_; clear gb_ gl_ HG_ cl_) | ((with_reducible refine gate_dst (N := 7) rfl ?_); refine box_event ?hg (N := 7) ?hd (cs := #[(.slice none 0 0)]) (t := 103) ?hr ?_; (case hd => rfl); (case hg => rfl); (case hr => first | (go_simp; done) | (go_simp; rfl)); intro gx hg w1_ hbox hb; have GBX := aQ ((by rw [hg]; exact below_size (by repeat (first | (with_reducible first | exact HB.out | apply below_alloc | apply pw_below_drewN | apply below_drew1) | exact HB.out))) : w.heap.size ≤ gx); have n_HB := aQ (below_step (by repeat (first | (with_reducible first | exact HB.out | apply below_alloc | apply pw_below_drewN | apply below_drew1) | exact HB.out)) hb); replace HO := aQ (Kd.R_below (by (with_reducible repeat (first | apply Kd.R_alloc | apply Kd.R_drewN | apply Kd.R_drew)); exact HO.out) hb); clear HB; have HB := n_HB; clear n_HB; have BX := aQ hbox; clear hb hbox hg; have zBX0 : w1_.cell? ⟨gx, 0, none⟩ = some (.slice none 0 0) := (blk_cell BX.out 0).trans rfl; have hf0BX := blk_frozen BX.out 0))
   go_loopg [17] l1.length (fun gg s17 wr => ∃ (x : Int) (has : List Bool), s17 = .int .i64 x ∧ Aside0 (0 ≤ x ∧ x ≤ (l1.length : Int)) ∧ Aside0 (l1.length - x.toNat ≤ gg) ∧ Aside0 (fillA has (l1.drop x.toNat) l2 = some hh) ∧ Aside0 (Kd.R Kd.bool 4 wr w.heap.size (fun _ => True) (.slice (some ⟨gh, 0, none⟩) K cH) has) ∧ Aside0 (wr.heap[gx]? = some (.cells #[(.slice (some ⟨gh, 0, none⟩) K cH)] 103 (0, 0))) ∧ Aside0 (Below w.heap.size w wr))
   case atStart => exact ⟨0, List.replicate K false, rfl, ⟨by omega⟩, ⟨by omega⟩, ⟨HA.out⟩, ⟨by (with_reducible repeat (first | apply Kd.R_alloc | apply Kd.R_drewN | apply Kd.R_drew)); exact Kd.R_mono (Kd.R_far (p := ⟨gx, 0, none⟩) (Kd.R_types HO.out BX.out (by decide)) (fun _ hk => hk.2) _) (fun _ hk => trivial)⟩, ⟨by (with_reducible repeat (first | refine blk_drewN ?_ _ | refine blk_drew ?_ | refine blk_alloc ?_ _)); refine blk_put (cs := #[.slice none 0 0]) ?_ 0 _ rfl; (with_reducible repeat (first | refine blk_drewN ?_ _ | refine blk_drew ?_ | refine blk_alloc ?_ _)); exact BX.out⟩, ⟨(by repeat (first | (with_reducible first | exact HB.out | apply below_alloc | apply pw_below_drewN | apply below_drew1 | refine below_set ?_ GBX.out) | exact HB.out))⟩⟩
   case round =>
    clear HA
    try clear zBX0
    try clear hf0BX
    try clear HO
    try clear BX
    try clear HB
    obtain ⟨x, has, rfl, HX, HG, HI, HO, BX, HB⟩ := hrel
    by_cases hlt : x < (l1.length : Int)
    ·have p1 : 0 ≤ x := HX.out.1
     have l1_ : decide (x < (l1.length : Int)) = true := decide_eq_true hlt
     obtain ⟨ad, ea, hx⟩ := Kd.at_int HR.out x p1 hlt
     cases ea
     replace hx := (HB.out.cell (World.block_lt_of_cell? w _ hx)).trans hx
     have hI := HI.out
     rw [int_drop l1 x p1 hlt] at hI
     simp only [fillA] at hI
     obtain ⟨h1, hB, hI⟩ := Option.bind_eq_some_iff.1 hI
     have HJ := Lib.hid hB
     have HI2 := Lib.hid hI
     have E1 := Lib.hid (wrap64_of (n := x + 1) (by have := HL1.out; omega) (by have := HL1.out; omega))
     have Q1 := aQ hlt
     replace p1 := eq_true p1
     replace hlt := eq_true hlt
     clear HI hI hB
     go_wp2
     go_loopg [23] l2.length (fun gg s23 wr => ∃ (y : Int) (has : List Bool), s23 = .int .i64 y ∧ Aside0 (0 ≤ y ∧ y ≤ (l2.length : Int)) ∧ Aside0 (l2.length - y.toNat ≤ gg) ∧ Aside0 (fillB (rd l1 x) has (l2.drop y.toNat) = some h1) ∧ Aside0 (Kd.R Kd.bool 4 wr w.heap.size (fun _ => True) (.slice (some ⟨gh, 0, none⟩) K cH) has) ∧ Aside0 (wr.heap[gx]? = some (.cells #[(.slice (some ⟨gh, 0, none⟩) K cH)] 103 (0, 0))) ∧ Aside0 (Below w.heap.size w wr))
     case atStart => exact ⟨0, has, rfl, ⟨by omega⟩, ⟨by omega⟩, ⟨HJ.out⟩, ⟨by (with_reducible repeat (first | apply Kd.R_alloc | apply Kd.R_drewN | apply Kd.R_drew)); exact HO.out⟩, ⟨by (with_reducible repeat (first | refine blk_drewN ?_ _ | refine blk_drew ?_ | refine blk_alloc ?_ _)); exact BX.out⟩, ⟨(by repeat (first | (with_reducible first | exact HB.out | apply below_alloc | apply pw_below_drewN | apply below_drew1 | refine below_set ?_ GBX.out) | exact HB.out))⟩⟩
     case round =>
      clear HJ
      try clear hx
      try clear HO
      try clear BX
      try clear HB
      obtain ⟨y, hs2, rfl, HY, HG2, HJ, HO, BX, HB⟩ := hrel
      by_cases hlt2 : y < (l2.length : Int)
      ·have p2 : 0 ≤ y := HY.out.1
       have l2_ : decide (y < (l2.length : Int)) = true := decide_eq_true hlt2
       obtain ⟨ad2, ea2, hy⟩ := Kd.at_int HR2.out y p2 hlt2
       cases ea2
       replace hy := (HB.out.cell (World.block_lt_of_cell? w _ hy)).trans hy
       have hJ := HJ.out
       rw [int_drop l2 y p2 hlt2] at hJ
       simp only [fillB] at hJ
       have E2 := Lib.hid (wrap64_of (n := y + 1) (by have := HL2.out; omega) (by have := HL2.out; omega))
       have Q2 := aQ hlt2
       replace p2 := eq_true p2
       replace hlt2 := eq_true hlt2
       clear HJ
       by_cases hz : 0 ≤ Go.bits .or .i64 (rd l1 x) (rd l2 y) ∧ Go.bits .or .i64 (rd l1 x) (rd l2 y) < (hs2.length : Int)
       ·rw [if_pos hz] at hJ
        have HJ2 := Lib.hid hJ
        clear hJ
        have hlen := (Kd.R_reads' HO.out).1
        obtain ⟨p3, q3⟩ := hz
        have q4 : Go.bits .or .i64 (rd l1 x) (rd l2 y) < (K : Int) := by rw [hlen]; exact q3
        have q5 := q4
        obtain ⟨hx3, hf3⟩ := Kd.R_celln false HO.out _ p3 q4
        have HP := Kd.R_putg HO.out (Go.bits .or .i64 (rd l1 x) (rd l2 y)) true
        replace p3 := eq_true p3
        replace q4 := eq_true q4
        replace q5 := eq_true q5
        have zx := (blk_cell BX.out 0).trans (rfl : _ = some (Value.slice (some ⟨gh, 0, none⟩) K cH))
        go_wp2_with (first | ((with_reducible refine gate_store (t := 4) (p := 31) rfl ?_); refine store_event (t := 4) (p := 31) (v := ?vo_) (w1 := (wr.setCell ⟨gh, (Go.bits .or .i64 (rd l1 x) (rd l2 y)).toNat, none⟩ (.bool true))) ?hg ?ho ?hn ?hr ?_; (case ho => rfl); (case hg => rfl); (case hn => rfl); (case hr => first | (go_simp; done) | (go_simp; rfl)); intro w5_ hw; replace BX := aQ (blk_grown (g := gx) (o := .cells #[(.slice (some ⟨gh, 0, none⟩) K cH)] 103 (0, 0)) (by (with_reducible repeat (first | refine blk_drewN ?_ _ | refine blk_drew ?_ | refine blk_alloc ?_ _)); exact BX.out) (by rw [hw]; exact HP.2 : wr.grownBy w5_ (some gh)) (Kd.R_ne HO.out BX.out (by decide))); replace HO := aQ ((by rw [hw]; exact HP.1) : Kd.R Kd.bool 4 w5_ w.heap.size (fun _ => True) (.slice (some ⟨gh, 0, none⟩) K cH) (hs2.set (Go.bits .or .i64 (rd l1 x) (rd l2 y)).toNat true)); replace HB := aQ ((by rw [hw]; exact below_set (HB.out) GH.out : Below w.heap.size w w5_)); clear HP hw hx3 hf3))
        go_roundg (l2.length - (y + 1).toNat)
        case measure => have := HG2.out; have := HY.out; have := Q2.out; omega
        case rel => exact ⟨y + 1, _, by rw [E2.out], ⟨by have := HY.out; have := Q2.out; omega⟩, ⟨Nat.le_refl _⟩, ⟨HJ2.out⟩, ⟨by (with_reducible repeat (first | apply Kd.R_alloc | apply Kd.R_drewN | apply Kd.R_drew)); exact HO.out⟩, ⟨by (with_reducible repeat (first | refine blk_drewN ?_ _ | refine blk_drew ?_ | refine blk_alloc ?_ _)); exact BX.out⟩, ⟨(by repeat (first | (with_reducible first | exact HB.out | apply below_alloc | apply pw_below_drewN | apply below_drew1 | refine below_set ?_ GBX.out) | exact HB.out))⟩⟩
       ·rw [if_neg hz] at hJ; cases hJ
      ·have l2_ : decide (y < (l2.length : Int)) = false := decide_eq_false hlt2
       have hJ := HJ.out
       rw [int_drop_end l2 y hlt2] at hJ
       simp only [fillB, Option.some.injEq] at hJ
       subst hJ
       clear HJ hlt2
       go_wp2
       go_roundg (l1.length - (x + 1).toNat)
       case measure => have := HG.out; have := HX.out; have := Q1.out; omega
       case rel => exact ⟨x + 1, _, by rw [E1.out], ⟨by have := HX.out; have := Q1.out; omega⟩, ⟨Nat.le_refl _⟩, ⟨HI2.out⟩, ⟨by (with_reducible repeat (first | apply Kd.R_alloc | apply Kd.R_drewN | apply Kd.R_drew)); exact HO.out⟩, ⟨by (with_reducible repeat (first | refine blk_drewN ?_ _ | refine blk_drew ?_ | refine blk_alloc ?_ _)); exact BX.out⟩, ⟨(by repeat (first | (with_reducible first | exact HB.out | apply below_alloc | apply pw_below_drewN | apply below_drew1 | refine below_set ?_ GBX.out) | exact HB.out))⟩⟩
    ·have l1_ : decide (x < (l1.length : Int)) = false := decide_eq_false hlt
     have hI := HI.out
     rw [int_drop_end l1 x hlt] at hI
     simp only [fillA, Option.some.injEq] at hI
     subst hI
     clear HI hlt
     go_wp2_with (first | (go_at_call 62; (with_reducible refine (setsOf_walk (fun s => if 0 ≤ s ∧ s < (has.length : Int) then some (rdOf false has s) else none) 141 _ EG.out a0 m r _ HF.out HM.out.1 HM.out.2 HS.out (fun W x b hb hg => calls_of_args (by simp) (unions1_walk _ K cH has x b gx W (Kd.C_below (Kd.R_reads' HO.out).2.2 hb) (Kd.R_reads' HO.out).1 (blk_below (g := gx) (o := .cells #[(.slice (some ⟨gh, 0, none⟩) K cH)] 103 (0, 0)) (by (with_reducible repeat (first | refine blk_drewN ?_ _ | refine blk_drew ?_ | refine blk_alloc ?_ _)); exact BX.out) hb) hg))).mono ?_); rintro e w5_ ⟨v_, rfl, ho_, hb⟩; have HP := aQ (Kd.R_lower ho_ (below_size (by repeat (first | (with_reducible first | exact HB.out | apply below_alloc | apply pw_below_drewN | apply below_drew1 | refine below_set ?_ GBX.out) | exact HB.out)))); replace HB := aQ (below_step (by repeat (first | (with_reducible first | exact HB.out | apply below_alloc | apply pw_below_drewN | apply below_drew1 | refine below_set ?_ GBX.out) | exact HB.out)) hb); clear ho_ hb))
     go_ret
     exact ⟨_, by first | rfl | (simp; done) | (simp [*]; done), by (with_reducible repeat (first | apply Kd.R_alloc | apply Kd.R_drewN | apply Kd.R_drew)); exact HP.out, (by repeat (first | (with_reducible first | exact HB.out | apply below_alloc | apply pw_below_drewN | apply below_drew1 | refine below_set ?_ GBX.out) | exact HB.out))⟩
  ·rw [if_neg hm] at h; cases h
 ·rw [if_neg h8] at h; cases h
/-! ### impl_IndependentSets: function 77 (by hand) -/
def impl_IndependentSets.c (k : Nat) (n : Int) (l : List Int) (s : Int) : Option Bool := (impl_independent.f k n l s).bind fun t => some (t)
theorem impl_IndependentSets.c_mono (n : Int) (l : List Int) (s : Int) (k : Nat) : LeO (impl_IndependentSets.c k n l s) (impl_IndependentSets.c (k + 1) n l s) := by
 unfold impl_IndependentSets.c
 exact LeO.bind (impl_independent.mono _ _ _ _) (fun _ => LeO.refl _)
set_option maxHeartbeats 4000000 in
set_option maxRecDepth 100000 in
theorem IndependentSets1_walk (k : Nat) (n : Int) (A : Option Addr) (c : Nat) (l : List Int) (s : Int) (b : Bool) (gm : Nat) (w : World)
  (hr : Kd.C (Kd.int .i64) w A l.length l) (hc : l.length ≤ c)
  (hm : w.heap[gm]? = some (.cells #[.int .i64 n, .slice A l.length c] 26 (0, 0))) (h : impl_IndependentSets.c k n l s = some b) :
  Calls Try.prog 142 #[.int .i64 s, .pointer (some ⟨gm, 0, none⟩)] w fun e w' => e = .returned (.bool b) ∧ Below w.heap.size w w' := by
 unfold impl_IndependentSets.c at h
 obtain ⟨t, hT, h⟩ := Option.bind_eq_some_iff.1 h
 simp only [Option.some.injEq] at h
 subst h
 have hu := Try.underlying26
 have hcm0 : w.cell? ⟨gm, 0, none⟩ = some (.int .i64 n) := (blk_cell hm 0).trans rfl
 have hcm1 : w.cell? ⟨gm, 1, none⟩ = some (.slice A l.length c) := (blk_cell hm 1).trans rfl
 have HT := Lib.hid hT
 have HR := Lib.hid hr
 have HC := Lib.hid hc
 clear hm hr hc hT
 go_enter Try.func142, Try.ntmps142
 go_wp2_with (first | (go_at_call 65; (with_reducible refine (impl_independent.calls k n _ _ l s t _ ?side1 ?side2 HT.out).mono ?_); (case side1 => exact HR.out); (case side2 => exact HC.out); rintro e w1_ ⟨rfl, hb⟩; have HB := aQ hb; clear hb))
 go_ret
 exact ⟨by first | rfl | (simp; done) | (simp [*]; done), HB.out⟩
def impl_IndependentSets.f (k : Nat) (a0_0 : Int) (l0_1 : List Int) : Option (List Int) := (impl_IsMatroid.f k a0_0 l0_1).bind fun t => if t = true then ((impl_FullSet.f a0_0).bind fun m => if 0 ≤ m ∧ m ≤ 1000 then setsO (fun s => impl_IndependentSets.c k a0_0 l0_1 s) m else none) else some []
theorem impl_IndependentSets.mono : ∀ a0 a1 k, LeO (impl_IndependentSets.f k a0 a1) (impl_IndependentSets.f (k + 1) a0 a1) := by
 intro a0 a1 k
 unfold impl_IndependentSets.f
 exact LeO.bind (impl_IsMatroid.mono _ _ _) (fun t => LeO.ite (LeO.bind (LeO.refl _) (fun m => LeO.ite (LeO_setsO (fun s => impl_IndependentSets.c_mono a0 a1 s k) m) (LeO.none _))) (LeO.refl _))
set_option maxHeartbeats 4000000 in
set_option maxRecDepth 100000 in
theorem impl_IndependentSets.calls (k : Nat) (a0_0 : Int) (A0_1 : Option Addr) (c0_1 : Nat) (l0_1 : List Int) (r : List Int) (w : World) (hr0_1 : Kd.C (Kd.int .i64) w A0_1 l0_1.length l0_1) (hc0_1 : l0_1.length ≤ c0_1) (h : impl_IndependentSets.f k a0_0 l0_1 = some r) :
  Calls Try.prog 77 #[.agg #[.int .i64 a0_0, .slice A0_1 l0_1.length c0_1]] w fun e w' => ∃ v0_ : Value, e = .returned (v0_) ∧ Kd.R (Kd.int .i64) 3 w' w.heap.size (fun _ => True) v0_ r ∧ Below w.heap.size w w' := by
 have hu := Try.underlying26
 have HR := aQ hr0_1
 have HC := aQ hc0_1
 have HB := aQ (Below.refl w.heap.size w)
 clear hr0_1 hc0_1
 have EG := aQ (show ∀ args w, (callFunc 142 args).run Try.prog w = .ok (.enter 142 args) w from runs_of Try.func142 (by kernel_rfl) rfl)
 unfold impl_IndependentSets.f at h
 obtain ⟨t, hT, h⟩ := Option.bind_eq_some_iff.1 h
 have HT := aQ hT
 clear hT
 by_cases c3 : t = true
 ·subst c3
  rw [if_pos rfl] at h
  obtain ⟨m, hF, h⟩ := Option.bind_eq_some_iff.1 h
  by_cases hm : 0 ≤ m ∧ m ≤ 1000
  ·rw [if_pos hm] at h
   have HF := aQ hF
   have HM := aQ hm
   have HS := Lib.hid h
   clear hF hm h
   go_enter Try.func77, Try.ntmps77
   go_wp2_with (first | ((with_reducible refine gate_dst (N := 1) rfl ?_); refine box_event ?hg (N := 1) ?hd (cs := #[.int .i64 a0_0, .slice A0_1 l0_1.length c0_1]) (t := 26) ?hr ?_; (case hd => rfl); (case hg => rfl); (case hr => first | (go_simp; done) | (go_simp; rfl)); intro gm hg w1_ hbox hb; have n_HB := aQ (below_step (by repeat (first | (with_reducible first | exact HB.out | apply below_alloc | apply pw_below_drewN | apply below_drew1) | exact HB.out)) hb); have n_GBM := aQ ((by rw [hg]; exact below_size (by repeat (first | (with_reducible first | exact HB.out | apply below_alloc | apply pw_below_drewN | apply below_drew1) | exact HB.out))) : w.heap.size ≤ gm); clear HB; have HB := n_HB; have GBM := n_GBM; have BM := aQ hbox; clear n_HB n_GBM; clear hb hbox hg; have zBM0 : w1_.cell? ⟨gm, 0, none⟩ = some (.int .i64 a0_0) := (blk_cell BM.out 0).trans rfl; have zBM1 : w1_.cell? ⟨gm, 1, none⟩ = some (.slice A0_1 l0_1.length c0_1) := (blk_cell BM.out 1).trans rfl) | (go_at_call 60; (with_reducible refine (impl_IsMatroid.calls k a0_0 _ _ l0_1 true _ ?side1 ?side2 HT.out).mono ?_); (case side1 => repeat (first | exact HR.out | exact (Kd.C_below HR.out HB.out) | (with_reducible refine Kd.C_alloc ?_ _) | (with_reducible refine Kd.C_drewN ?_ _) | (with_reducible refine Kd.C_drew ?_))); (case side2 => exact HC.out); rintro e w9_ ⟨rfl, hb⟩; have n_BM := aQ (blk_below (g := gm) (o := .cells #[.int .i64 a0_0, .slice A0_1 l0_1.length c0_1] 26 (0, 0)) (by (with_reducible repeat (first | refine blk_drewN ?_ _ | refine blk_drew ?_ | refine blk_alloc ?_ _)); exact BM.out) hb); have n_HB := aQ (below_step (by repeat (first | (with_reducible first | exact HB.out | apply below_alloc | apply pw_below_drewN | apply below_drew1) | exact HB.out)) hb); clear HB; clear BM; have BM := n_BM; clear n_BM; have HB := n_HB; clear n_HB hb; have zBM0 : w9_.cell? ⟨gm, 0, none⟩ = some (.int .i64 a0_0) := (blk_cell BM.out 0).trans rfl; have zBM1 : w9_.cell? ⟨gm, 1, none⟩ = some (.slice A0_1 l0_1.length c0_1) := (blk_cell BM.out 1).trans rfl))
   refine (setsOf_walk (fun s => impl_IndependentSets.c k a0_0 l0_1 s) 142 _ EG.out a0_0 m r _ HF.out HM.out.1 HM.out.2 HS.out (fun W x b hb hg => calls_of_args (by simp) (IndependentSets1_walk k a0_0 A0_1 c0_1 l0_1 x b gm W (Kd.C_below (Kd.C_below HR.out HB.out) hb) HC.out (blk_below BM.out hb) hg))).mono ?_
   rintro e w9_ ⟨v_, rfl, ho_, hb⟩
   have HO := aQ (Kd.R_lower ho_ (below_size (by repeat (first | (with_reducible first | exact HB.out | apply below_alloc | apply pw_below_drewN | apply below_drew1) | exact HB.out))))
   have n_HB := aQ (below_step (by repeat (first | (with_reducible first | exact HB.out | apply below_alloc | apply pw_below_drewN | apply below_drew1) | exact HB.out)) hb)
   clear HB ho_ hb
   have HB := n_HB
   clear n_HB
   obtain ⟨AO, cO, eO⟩ := Kd.R_slice HO.out
   subst eO
   go_wp2
   go_ret
   exact ⟨_, by first | rfl | (simp; done) | (simp [*]; done), by (with_reducible repeat (first | apply Kd.R_alloc | apply Kd.R_drewN | apply Kd.R_drew)); exact HO.out, (by repeat (first | (with_reducible first | exact HB.out | apply below_alloc | apply pw_below_drewN | apply below_drew1) | exact HB.out))⟩
  ·rw [if_neg hm] at h; cases h
 ·have c4 := Bool.eq_false_iff.mpr c3
  subst c4
  clear c3
  rw [if_neg (by decide)] at h
  simp only [Option.some.injEq] at h
  subst h
  go_enter Try.func77, Try.ntmps77
  go_wp2_with (first | ((with_reducible refine gate_dst (N := 1) rfl ?_); refine box_event ?hg (N := 1) ?hd (cs := #[.int .i64 a0_0, .slice A0_1 l0_1.length c0_1]) (t := 26) ?hr ?_; (case hd => rfl); (case hg => rfl); (case hr => first | (go_simp; done) | (go_simp; rfl)); intro gm hg w1_ hbox hb; have n_HB := aQ (below_step (by repeat (first | (with_reducible first | exact HB.out | apply below_alloc | apply pw_below_drewN | apply below_drew1) | exact HB.out)) hb); have n_GBM := aQ ((by rw [hg]; exact below_size (by repeat (first | (with_reducible first | exact HB.out | apply below_alloc | apply pw_below_drewN | apply below_drew1) | exact HB.out))) : w.heap.size ≤ gm); clear HB; have HB := n_HB; have GBM := n_GBM; have BM := aQ hbox; clear n_HB n_GBM; clear hb hbox hg; have zBM0 : w1_.cell? ⟨gm, 0, none⟩ = some (.int .i64 a0_0) := (blk_cell BM.out 0).trans rfl; have zBM1 : w1_.cell? ⟨gm, 1, none⟩ = some (.slice A0_1 l0_1.length c0_1) := (blk_cell BM.out 1).trans rfl) | (go_at_call 60; (with_reducible refine (impl_IsMatroid.calls k a0_0 _ _ l0_1 false _ ?side1 ?side2 HT.out).mono ?_); (case side1 => repeat (first | exact HR.out | exact (Kd.C_below HR.out HB.out) | (with_reducible refine Kd.C_alloc ?_ _) | (with_reducible refine Kd.C_drewN ?_ _) | (with_reducible refine Kd.C_drew ?_))); (case side2 => exact HC.out); rintro e w9_ ⟨rfl, hb⟩; have n_BM := aQ (blk_below (g := gm) (o := .cells #[.int .i64 a0_0, .slice A0_1 l0_1.length c0_1] 26 (0, 0)) (by (with_reducible repeat (first | refine blk_drewN ?_ _ | refine blk_drew ?_ | refine blk_alloc ?_ _)); exact BM.out) hb); have n_HB := aQ (below_step (by repeat (first | (with_reducible first | exact HB.out | apply below_alloc | apply pw_below_drewN | apply below_drew1) | exact HB.out)) hb); clear HB; clear BM; have BM := n_BM; clear n_BM; have HB := n_HB; clear n_HB hb; have zBM0 : w9_.cell? ⟨gm, 0, none⟩ = some (.int .i64 a0_0) := (blk_cell BM.out 0).trans rfl; have zBM1 : w9_.cell? ⟨gm, 1, none⟩ = some (.slice A0_1 l0_1.length c0_1) := (blk_cell BM.out 1).trans rfl))
  go_ret
  exact ⟨_, by first | rfl | (simp; done) | (simp [*]; done), Kd.R_nil _ _ _ _ _, (by repeat (first | (with_reducible first | exact HB.out | apply below_alloc | apply pw_below_drewN | apply below_drew1) | exact HB.out))⟩
end Go.Proofs.Ytagncnjllpebjaa.A
