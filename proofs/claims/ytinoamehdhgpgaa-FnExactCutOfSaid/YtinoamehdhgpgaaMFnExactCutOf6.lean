/- The machine side of the law FnExactCutOf, laid by a program of this work over the kit's print and contracts by hand: Go functions as Lean functions, and proofs that calls come to what these tell. Conditions: those in each theorem. -/
import Derived.Test.YtinoamehdhgpgaaMFnExactCutOf0
import Derived.Test.YtinoamehdhgpgaaMFnExactCutOf1
import Derived.Test.YtinoamehdhgpgaaMFnExactCutOf2
import Derived.Test.YtinoamehdhgpgaaMFnExactCutOf3
import Derived.Test.YtinoamehdhgpgaaMFnExactCutOf5
namespace Go.Proofs.Ytinoamehdhgpgaa.A
open Go.RowKit Go.Proofs.YtinoamehdhgpgaaW.PrintWords Go.Proofs.YtinoamehdhgpgaaW.PrintLast Go.Proofs.YtinoamehdhgpgaaW.PrintMore
attribute [local go_sem] max2_int min2_int max_two min_two max_three min_three max_four min_four   -- for this text's walks alone
set_option linter.unusedVariables false
set_option linter.unusedSimpArgs false

/-! ### impl_minor: function 240 -/
def impl_minor.l0 : Nat → Int → Int → Int → Int → Int → Int → List Int → Int → List Int → Option (Int × List Int)
 | 0, _, _, _, _, _, _, _, _, _ => none
 | k + 1, x1, x2, x7, x8, x10, x241002000, x241002001, x241007000, x241007001 => (impl_FullSet.f x241007000).bind fun t241007 => (if x10 ≤ t241007 then ((impl_CountOf.f x10).bind fun t241008 => (if t241008 = x8 then ((impl_UnpackSet.f k x10 x1).bind fun t241009 => ((impl_rankIn.f k x241002000 x241002001 (Go.bits .or .i64 t241009 x2)).bind fun t241010 => (if (wrap64 (t241010 - x7)) = x8 then (if x241007001.length < 17592186044416 then (impl_minor.l0 k x1 x2 x7 x8 (wrap64 (x10 + 1)) x241002000 x241002001 x241007000 (x241007001 ++ [x10])) else (none)) else (impl_minor.l0 k x1 x2 x7 x8 (wrap64 (x10 + 1)) x241002000 x241002001 x241007000 x241007001)))) else (impl_minor.l0 k x1 x2 x7 x8 (wrap64 (x10 + 1)) x241002000 x241002001 x241007000 x241007001))) else (some (x241007000, x241007001)))
def impl_minor.f (k : Nat) (a0_0 : Int) (l0_1 : List Int) (a1 : Int) (a2 : Int) : Option (Int × List Int) := (impl_rankIn.f k a0_0 l0_1 a2).bind fun t241003 => ((impl_rankIn.f k a0_0 l0_1 (Go.bits .or .i64 a1 a2)).bind fun t241004 => ((impl_CountOf.f a1).bind fun t241005 => (impl_minor.l0 k a1 a2 t241003 (wrap64 (t241004 - t241003)) 0 a0_0 l0_1 t241005 ([] : List Int))))
theorem impl_minor.mono_l : ∀ k, (∀ y0 y1 y2 y3 y4 y5 y6 y7 y8, LeO (impl_minor.l0 k y0 y1 y2 y3 y4 y5 y6 y7 y8) (impl_minor.l0 (k + 1) y0 y1 y2 y3 y4 y5 y6 y7 y8))
 | 0 => fun _ _ _ _ _ _ _ _ _ r h => by simp [impl_minor.l0] at h
 | k + 1 => by
  have ih0 := impl_minor.mono_l k
  ·intro y0 y1 y2 y3 y4 y5 y6 y7 y8
   unfold impl_minor.l0
   repeat' first
   | (with_reducible exact ih0 _ _ _ _ _ _ _ _ _)
   | (with_reducible exact impl_UnpackSet.mono _ _ _)
   | (with_reducible exact impl_rankIn.mono _ _ _ _)
   | (with_reducible exact LeO.refl _)
   | (with_reducible exact LeO.none _)
   | (with_reducible refine LeO.ite ?_ ?_)
   | (with_reducible refine LeO.bind ?_ (fun _ => ?_))
   | exact ih0 _ _ _ _ _ _ _ _ _
   | exact impl_UnpackSet.mono _ _ _
   | exact impl_rankIn.mono _ _ _ _
   | exact LeO.none _
   | refine LeO.ite ?_ ?_
   | refine LeO.bind ?_ (fun _ => ?_)
theorem impl_minor.mono : ∀ a0 a1 a2 a3 k, LeO (impl_minor.f k a0 a1 a2 a3) (impl_minor.f (k + 1) a0 a1 a2 a3) := by
 intro a0 a1 a2 a3 k
 have ih0 := impl_minor.mono_l k
 unfold impl_minor.f
 repeat' first
   | (with_reducible exact ih0 _ _ _ _ _ _ _ _ _)
   | (with_reducible exact impl_UnpackSet.mono _ _ _)
   | (with_reducible exact impl_rankIn.mono _ _ _ _)
   | (with_reducible exact LeO.refl _)
   | (with_reducible exact LeO.none _)
   | (with_reducible refine LeO.ite ?_ ?_)
   | (with_reducible refine LeO.bind ?_ (fun _ => ?_))
   | exact ih0 _ _ _ _ _ _ _ _ _
   | exact impl_UnpackSet.mono _ _ _
   | exact impl_rankIn.mono _ _ _ _
   | exact LeO.none _
   | refine LeO.ite ?_ ?_
   | refine LeO.bind ?_ (fun _ => ?_)
def impl_minor.T7 : Bool × List (List Nat × List Nat) := (true, [([], []), ([0], [0]), ([], []), ([1, 2], [1, 2]), ([3, 1], [3]), ([4], [4]), ([4], [4]), ([4], [4]), ([6, 7, 4, 4], [4, 6, 7]), ([4], [4]), ([8, 9, 4], [4, 8, 9]), ([5, 10, 8, 4], [4, 5, 10]), ([4], [4]), ([11, 12, 4], [4, 11, 12]), ([4], [4]), ([13, 14, 4], [4, 13, 14]), ([4, 15], [4, 15])])
def impl_minor.B7 : List Nat := [0, 1, 0, 7, 15, 31, 31, 31, 223, 31, 991, 2047, 31, 8191, 31, 32767, 65535]
theorem impl_minor.tab7 : rtab .any (opsOf Try.f240 7) = impl_minor.T7 := by kernel_rfl
theorem impl_minor.bits7 : waitsOk impl_minor.T7.2 impl_minor.B7 = true := by kernel_rfl
set_option maxHeartbeats 8000000 in
set_option maxRecDepth 100000 in
theorem impl_minor.calls (k : Nat) (a0_0 : Int) (A0_1 : Option Addr) (c0_1 : Nat) (l0_1 : List Int) (a1 : Int) (a2 : Int) (r1 : Int) (r2 : List Int) (w : World) (hr0_1 : Kd.C (Kd.int .i64) w A0_1 l0_1.length l0_1) (hc0_1 : l0_1.length ≤ c0_1) (h : impl_minor.f k a0_0 l0_1 a1 a2 = some (r1, r2)) :
  Calls Try.prog 240 #[.agg #[.int .i64 a0_0, .slice A0_1 l0_1.length c0_1], .int .i64 a1, .int .i64 a2] w fun e w' => ∃ v1_ : Value, e = .returned (.agg #[.int .i64 r1, v1_]) ∧ Kd.R (Kd.int .i64) 3 w' w.heap.size (fun _ => True) v1_ r2 ∧ Below w.heap.size w w' := by
 have hu28 := Try.underlying28
 have HR0_1 := aQ hr0_1
 have HC0_1 := aQ hc0_1
 clear hr0_1 hc0_1
 have HB := aQ (Below.refl w.heap.size w)
 have H : ((impl_rankIn.f k a0_0 l0_1 a2).bind fun t241003 => ((impl_rankIn.f k a0_0 l0_1 (Go.bits .or .i64 a1 a2)).bind fun t241004 => ((impl_CountOf.f a1).bind fun t241005 => (impl_minor.l0 k a1 a2 t241003 (wrap64 (t241004 - t241003)) 0 a0_0 l0_1 t241005 ([] : List Int))))) = some (r1, r2) := h
 clear h
 replace H := Option.bind_eq_some_iff.mp H
 obtain ⟨t241003, A40, H⟩ := H
 replace H : ((impl_rankIn.f k a0_0 l0_1 (Go.bits .or .i64 a1 a2)).bind fun t241004 => ((impl_CountOf.f a1).bind fun t241005 => (impl_minor.l0 k a1 a2 t241003 (wrap64 (t241004 - t241003)) 0 a0_0 l0_1 t241005 ([] : List Int)))) = some (r1, r2) := H
 have A4 := aQ A40
 clear A40
 replace H := Option.bind_eq_some_iff.mp H
 obtain ⟨t241004, A50, H⟩ := H
 replace H : ((impl_CountOf.f a1).bind fun t241005 => (impl_minor.l0 k a1 a2 t241003 (wrap64 (t241004 - t241003)) 0 a0_0 l0_1 t241005 ([] : List Int))) = some (r1, r2) := H
 have A5 := aQ A50
 clear A50
 replace H := Option.bind_eq_some_iff.mp H
 obtain ⟨t241005, A60, H⟩ := H
 replace H : (impl_minor.l0 k a1 a2 t241003 (wrap64 (t241004 - t241003)) 0 a0_0 l0_1 t241005 ([] : List Int)) = some (r1, r2) := H
 have A6 := aQ A60
 clear A60
 have H' := aQ H
 clear H
 go_enter Try.func240, Try.ntmps240
 go_wp2_with (first | ((with_reducible refine gate_dst (N := 3) rfl ?_); refine box_event ?hg (N := 3) ?hd (cs := #[.int .i64 a0_0, .slice A0_1 l0_1.length c0_1]) (t := 28) ?hr ?_; (case hd => rfl); (case hg => rfl); (case hr => first | (go_simp; done) | (go_simp; rfl)); intro gb241001 hg w7 hbox hb; have BK241001 := aQ (hbox); have GW241001 := aQ ((by rw [hg]; exact (below_size (by repeat (first | (with_reducible first | exact HB.out | apply below_alloc | apply pw_below_drewN | apply below_drew1) | exact HB.out))) : w.heap.size ≤ gb241001)); have GE241001 := aQ ((by rw [hg]; exact (below_size (by repeat (first | (with_reducible first | exact HB.out | apply below_alloc | apply pw_below_drewN | apply below_drew1) | exact HB.out))) : w.heap.size ≤ gb241001)); replace HB := aQ (below_step (by repeat (first | (with_reducible first | exact HB.out | apply below_alloc | apply pw_below_drewN | apply below_drew1) | exact HB.out)) hb); clear hb hbox hg) | ((with_reducible refine gate_dst (N := 6) rfl ?_); refine box_event ?hg (N := 6) ?hd (cs := #[.int .i64 0, .slice none 0 0]) (t := 28) ?hr ?_; (case hd => rfl); (case hg => rfl); (case hr => first | (go_simp; done) | (go_simp; rfl)); intro gb241002 hg w8 hbox hb; have BK241002 := aQ (hbox); have GW241002 := aQ ((by rw [hg]; exact (below_size (by repeat (first | (with_reducible first | exact HB.out | apply below_alloc | apply pw_below_drewN | apply below_drew1 | refine below_set ?_ GE241001.out) | exact HB.out))) : w.heap.size ≤ gb241002)); have GE241002 := aQ ((by rw [hg]; exact (below_size (by repeat (first | (with_reducible first | exact HB.out | apply below_alloc | apply pw_below_drewN | apply below_drew1 | refine below_set ?_ GE241001.out) | exact HB.out))) : w.heap.size ≤ gb241002)); replace HB := aQ (below_step (by repeat (first | (with_reducible first | exact HB.out | apply below_alloc | apply pw_below_drewN | apply below_drew1 | refine below_set ?_ GE241001.out) | exact HB.out)) hb); have NB241001_241002 := aQ ((by rw [hg]; exact Nat.ne_of_lt (blk_lt (g := gb241001) (o := .cells #[.int .i64 a0_0, .slice A0_1 l0_1.length c0_1] 28 (0, 0)) (by (with_reducible repeat (first | refine blk_drewN ?_ _ | refine blk_drew ?_ | refine blk_alloc ?_ _)); exact BK241001.out)) : gb241001 ≠ gb241002)); have NB241002_241001 := aQ ((by rw [hg]; exact Nat.ne_of_gt (blk_lt (g := gb241001) (o := .cells #[.int .i64 a0_0, .slice A0_1 l0_1.length c0_1] 28 (0, 0)) (by (with_reducible repeat (first | refine blk_drewN ?_ _ | refine blk_drew ?_ | refine blk_alloc ?_ _)); exact BK241001.out)) : gb241002 ≠ gb241001)); replace BK241001 := aQ (blk_below (g := gb241001) (o := .cells #[.int .i64 a0_0, .slice A0_1 l0_1.length c0_1] 28 (0, 0)) (by (with_reducible repeat (first | refine blk_drewN ?_ _ | refine blk_drew ?_ | refine blk_alloc ?_ _)); exact BK241001.out) hb); clear hb hbox hg; have hnb9 := NB241001_241002.out; have hnc9 := NB241002_241001.out; have hcz10_0 : w8.cell? ⟨gb241001, 0, none⟩ = some (.int .i64 a0_0) := (blk_cell BK241001.out 0).trans rfl; have hcz10_1 : w8.cell? ⟨gb241001, 1, none⟩ = some (.slice A0_1 l0_1.length c0_1) := (blk_cell BK241001.out 1).trans rfl; have hfz10_0 := blk_frozen BK241001.out 0; have hfz10_1 := blk_frozen BK241001.out 1) | ((with_reducible refine gate_callee (f := 123) rfl ?_); refine goesL_ (some 13) rfl rfl Try.func123 (by kernel_rfl) rfl #[.agg #[.int .i64 a0_0, .slice A0_1 l0_1.length c0_1], .int .i64 a2] rfl (by (try simp only [List.map_toArray, List.map_cons, List.map_nil]); first | done | rfl | (simp only [List.length_drop, List.length_take]; rfl)) ?_; (with_reducible refine (impl_rankIn.calls k a0_0 _ _ l0_1 a2 t241003 _ ?side1 ?side2 A4.out).mono ?_); (case side1 => repeat (first | exact (Kd.C_below HR0_1.out HB.out) | (with_reducible refine Kd.C_alloc ?_ _) | (with_reducible refine Kd.C_drewN ?_ _) | (with_reducible refine Kd.C_drew ?_))); (case side2 => exact HC0_1.out); rintro e w11 ⟨rfl, hb⟩; refine ⟨_, rfl, ?_⟩; replace BK241001 := aQ (blk_below (g := gb241001) (o := .cells #[.int .i64 a0_0, .slice A0_1 l0_1.length c0_1] 28 (0, 0)) (by (with_reducible repeat (first | refine blk_drewN ?_ _ | refine blk_drew ?_ | refine blk_alloc ?_ _)); exact BK241001.out) hb); replace BK241002 := aQ (blk_below (g := gb241002) (o := .cells #[.int .i64 0, .slice none 0 0] 28 (0, 0)) (by (with_reducible repeat (first | refine blk_drewN ?_ _ | refine blk_drew ?_ | refine blk_alloc ?_ _)); exact BK241002.out) hb); replace HB := aQ (below_step (by repeat (first | (with_reducible first | exact HB.out | apply below_alloc | apply pw_below_drewN | apply below_drew1 | refine below_set ?_ GE241001.out | refine below_set ?_ GE241002.out) | exact HB.out)) hb); (try clear hb); (try clear hb2); (try clear hk); (try clear hi); have hcz12_0 : w11.cell? ⟨gb241001, 0, none⟩ = some (.int .i64 a0_0) := (blk_cell BK241001.out 0).trans rfl; have hcz12_1 : w11.cell? ⟨gb241001, 1, none⟩ = some (.slice A0_1 l0_1.length c0_1) := (blk_cell BK241001.out 1).trans rfl; have hfz12_0 := blk_frozen BK241001.out 0; have hfz12_1 := blk_frozen BK241001.out 1) | ((with_reducible refine gate_callee (f := 123) rfl ?_); refine goesL_ (some 18) rfl rfl Try.func123 (by kernel_rfl) rfl #[.agg #[.int .i64 a0_0, .slice A0_1 l0_1.length c0_1], .int .i64 (Go.bits .or .i64 a1 a2)] rfl (by (try simp only [List.map_toArray, List.map_cons, List.map_nil]); first | done | rfl | (simp only [List.length_drop, List.length_take]; rfl)) ?_; (with_reducible refine (impl_rankIn.calls k a0_0 _ _ l0_1 (Go.bits .or .i64 a1 a2) t241004 _ ?side1 ?side2 A5.out).mono ?_); (case side1 => repeat (first | exact (Kd.C_below HR0_1.out HB.out) | (with_reducible refine Kd.C_alloc ?_ _) | (with_reducible refine Kd.C_drewN ?_ _) | (with_reducible refine Kd.C_drew ?_))); (case side2 => exact HC0_1.out); rintro e w13 ⟨rfl, hb⟩; refine ⟨_, rfl, ?_⟩; replace BK241001 := aQ (blk_below (g := gb241001) (o := .cells #[.int .i64 a0_0, .slice A0_1 l0_1.length c0_1] 28 (0, 0)) (by (with_reducible repeat (first | refine blk_drewN ?_ _ | refine blk_drew ?_ | refine blk_alloc ?_ _)); exact BK241001.out) hb); replace BK241002 := aQ (blk_below (g := gb241002) (o := .cells #[.int .i64 0, .slice none 0 0] 28 (0, 0)) (by (with_reducible repeat (first | refine blk_drewN ?_ _ | refine blk_drew ?_ | refine blk_alloc ?_ _)); exact BK241002.out) hb); replace HB := aQ (below_step (by repeat (first | (with_reducible first | exact HB.out | apply below_alloc | apply pw_below_drewN | apply below_drew1 | refine below_set ?_ GE241001.out | refine below_set ?_ GE241002.out) | exact HB.out)) hb); (try clear hb); (try clear hb2); (try clear hk); (try clear hi)) | ((with_reducible refine gate_callee (f := 120) rfl ?_); refine goesL_ (some 22) rfl rfl Try.func120 (by kernel_rfl) rfl #[.int .i64 a1] rfl (by (try simp only [List.map_toArray, List.map_cons, List.map_nil]); first | done | rfl | (simp only [List.length_drop, List.length_take]; rfl)) ?_; (with_reducible refine (impl_CountOf.calls a1 t241005 _ A6.out).mono ?_); rintro e w' ⟨rfl, ⟨nd, rfl⟩⟩; refine ⟨_, rfl, ?_⟩; (try (rw [drewN_self w13]; generalize hq_ : World.drewN w13 _ = w13; have n0_ : Aside0 (w13.heap[gb241001]? = some (.cells #[.int .i64 a0_0, .slice A0_1 l0_1.length c0_1] 28 (0, 0))) := ⟨by rw [← hq_]; exact (by (with_reducible repeat (first | refine blk_drewN ?_ _ | refine blk_drew ?_ | refine blk_alloc ?_ _)); exact BK241001.out)⟩; have n1_ : Aside0 (w13.heap[gb241002]? = some (.cells #[.int .i64 0, .slice none 0 0] 28 (0, 0))) := ⟨by rw [← hq_]; exact (by (with_reducible repeat (first | refine blk_drewN ?_ _ | refine blk_drew ?_ | refine blk_alloc ?_ _)); exact BK241002.out)⟩; have n2_ : Aside0 (Below w.heap.size w w13) := ⟨by rw [← hq_]; exact (by repeat (first | (with_reducible first | exact HB.out | apply below_alloc | apply pw_below_drewN | apply below_drew1 | refine below_set ?_ GE241001.out | refine below_set ?_ GE241002.out) | exact HB.out))⟩; clear BK241001 BK241002 HB hq_; have BK241001 := n0_; have BK241002 := n1_; have HB := n2_; clear n0_ n1_ n2_; have hcqgb241001_0 : w13.cell? ⟨gb241001, 0, none⟩ = some (.int .i64 a0_0) := (blk_cell BK241001.out 0).trans rfl; have hfqgb241001_0 := blk_frozen BK241001.out 0; have hcqgb241001_1 : w13.cell? ⟨gb241001, 1, none⟩ = some (.slice A0_1 l0_1.length c0_1) := (blk_cell BK241001.out 1).trans rfl; have hfqgb241001_1 := blk_frozen BK241001.out 1; have hcqgb241002_0 : w13.cell? ⟨gb241002, 0, none⟩ = some (.int .i64 0) := (blk_cell BK241002.out 0).trans rfl; have hfqgb241002_0 := blk_frozen BK241002.out 0; have hcqgb241002_1 : w13.cell? ⟨gb241002, 1, none⟩ = some (.slice none 0 0) := (blk_cell BK241002.out 1).trans rfl; have hfqgb241002_1 := blk_frozen BK241002.out 1))) | ((with_reducible refine gate_dst (N := 9) rfl ?_); refine box_event ?hg (N := 9) ?hd (cs := #[.int .i64 0, .slice none 0 0]) (t := 28) ?hr ?_; (case hd => rfl); (case hg => rfl); (case hr => first | (go_simp; done) | (go_simp; rfl)); intro gb241006 hg w14 hbox hb; have BK241006 := aQ (hbox); have GW241006 := aQ ((by rw [hg]; exact (below_size (by repeat (first | (with_reducible first | exact HB.out | apply below_alloc | apply pw_below_drewN | apply below_drew1 | refine below_set ?_ GE241001.out | refine below_set ?_ GE241002.out) | exact HB.out))) : w.heap.size ≤ gb241006)); have GE241006 := aQ ((by rw [hg]; exact (below_size (by repeat (first | (with_reducible first | exact HB.out | apply below_alloc | apply pw_below_drewN | apply below_drew1 | refine below_set ?_ GE241001.out | refine below_set ?_ GE241002.out) | exact HB.out))) : w.heap.size ≤ gb241006)); replace HB := aQ (below_step (by repeat (first | (with_reducible first | exact HB.out | apply below_alloc | apply pw_below_drewN | apply below_drew1 | refine below_set ?_ GE241001.out | refine below_set ?_ GE241002.out) | exact HB.out)) hb); have NB241001_241006 := aQ ((by rw [hg]; exact Nat.ne_of_lt (blk_lt (g := gb241001) (o := .cells #[.int .i64 a0_0, .slice A0_1 l0_1.length c0_1] 28 (0, 0)) (by (with_reducible repeat (first | refine blk_drewN ?_ _ | refine blk_drew ?_ | refine blk_alloc ?_ _)); exact BK241001.out)) : gb241001 ≠ gb241006)); have NB241006_241001 := aQ ((by rw [hg]; exact Nat.ne_of_gt (blk_lt (g := gb241001) (o := .cells #[.int .i64 a0_0, .slice A0_1 l0_1.length c0_1] 28 (0, 0)) (by (with_reducible repeat (first | refine blk_drewN ?_ _ | refine blk_drew ?_ | refine blk_alloc ?_ _)); exact BK241001.out)) : gb241006 ≠ gb241001)); replace BK241001 := aQ (blk_below (g := gb241001) (o := .cells #[.int .i64 a0_0, .slice A0_1 l0_1.length c0_1] 28 (0, 0)) (by (with_reducible repeat (first | refine blk_drewN ?_ _ | refine blk_drew ?_ | refine blk_alloc ?_ _)); exact BK241001.out) hb); have NB241002_241006 := aQ ((by rw [hg]; exact Nat.ne_of_lt (blk_lt (g := gb241002) (o := .cells #[.int .i64 0, .slice none 0 0] 28 (0, 0)) (by (with_reducible repeat (first | refine blk_drewN ?_ _ | refine blk_drew ?_ | refine blk_alloc ?_ _)); exact BK241002.out)) : gb241002 ≠ gb241006)); have NB241006_241002 := aQ ((by rw [hg]; exact Nat.ne_of_gt (blk_lt (g := gb241002) (o := .cells #[.int .i64 0, .slice none 0 0] 28 (0, 0)) (by (with_reducible repeat (first | refine blk_drewN ?_ _ | refine blk_drew ?_ | refine blk_alloc ?_ _)); exact BK241002.out)) : gb241006 ≠ gb241002)); replace BK241002 := aQ (blk_below (g := gb241002) (o := .cells #[.int .i64 0, .slice none 0 0] 28 (0, 0)) (by (with_reducible repeat (first | refine blk_drewN ?_ _ | refine blk_drew ?_ | refine blk_alloc ?_ _)); exact BK241002.out) hb); clear hb hbox hg; have hnb15 := NB241006_241001.out; have hnc15 := NB241001_241006.out; have hnb16 := NB241006_241002.out; have hnc16 := NB241002_241006.out; have hcz17_0 : w14.cell? ⟨gb241006, 0, none⟩ = some (.int .i64 0) := (blk_cell BK241006.out 0).trans rfl; have hcz17_1 : w14.cell? ⟨gb241006, 1, none⟩ = some (.slice none 0 0) := (blk_cell BK241006.out 1).trans rfl; have hfz17_0 := blk_frozen BK241006.out 0; have hfz17_1 := blk_frozen BK241006.out 1))
 go_loopg [10] k (fun kq v10 w' => ∃ (x10_1 : Int) (x241007001_1 : List Int) (u241007001 : Value), v10 = .int .i64 x10_1 ∧ Aside0 (impl_minor.l0 kq a1 a2 t241003 (wrap64 (t241004 - t241003)) x10_1 a0_0 l0_1 t241005 x241007001_1 = some (r1, r2)) ∧ Aside0 (kq ≤ k) ∧ Aside0 (Kd.R (Kd.int .i64) 3 w' w.heap.size (fun _ => True) u241007001 x241007001_1) ∧ Aside0 (w'.heap[gb241001]? = some (.cells #[.int .i64 a0_0, (.slice A0_1 l0_1.length c0_1)] 28 (0, 0))) ∧ Aside0 (w'.heap[gb241002]? = some (.cells #[.int .i64 0, (.slice none 0 0)] 28 (0, 0))) ∧ Aside0 (w'.heap[gb241006]? = some (.cells #[.int .i64 t241005, u241007001] 28 (0, 0))) ∧ Aside0 (Below w.heap.size w w'))
 case atStart => exact ⟨(0), (([] : List Int)), (.slice none 0 0), (by first | rfl | (simp; done) | (simp [*]; done)), H', ⟨Nat.le_refl _⟩, ⟨by first | exact Kd.R_nil _ _ _ _ _ | exact Kd.N_nil _ _ _ _ _ | exact Kd.V_nil _ _ _ _ _ | exact Kd.Q_nil _ _ _ _ _ | exact Kd.S_nil _ _ _ _ _⟩, ⟨by (with_reducible repeat (first | refine blk_drewN ?_ _ | refine blk_drew ?_ | refine blk_alloc ?_ _)); refine blk_far ?_ NB241001_241006.out _; (with_reducible repeat (first | refine blk_drewN ?_ _ | refine blk_drew ?_ | refine blk_alloc ?_ _)); refine blk_far ?_ NB241001_241006.out _; (with_reducible repeat (first | refine blk_drewN ?_ _ | refine blk_drew ?_ | refine blk_alloc ?_ _)); exact BK241001.out⟩, ⟨by (with_reducible repeat (first | refine blk_drewN ?_ _ | refine blk_drew ?_ | refine blk_alloc ?_ _)); refine blk_far ?_ NB241002_241006.out _; (with_reducible repeat (first | refine blk_drewN ?_ _ | refine blk_drew ?_ | refine blk_alloc ?_ _)); refine blk_far ?_ NB241002_241006.out _; (with_reducible repeat (first | refine blk_drewN ?_ _ | refine blk_drew ?_ | refine blk_alloc ?_ _)); exact BK241002.out⟩, ⟨by (with_reducible repeat (first | refine blk_drewN ?_ _ | refine blk_drew ?_ | refine blk_alloc ?_ _)); refine blk_put (cs := #[.int .i64 t241005, .slice none 0 0]) ?_ 1 _ rfl; (with_reducible repeat (first | refine blk_drewN ?_ _ | refine blk_drew ?_ | refine blk_alloc ?_ _)); refine blk_put (cs := #[.int .i64 0, .slice none 0 0]) ?_ 0 _ rfl; (with_reducible repeat (first | refine blk_drewN ?_ _ | refine blk_drew ?_ | refine blk_alloc ?_ _)); exact BK241006.out⟩, ⟨by repeat (first | (with_reducible first | exact HB.out | apply below_alloc | apply pw_below_drewN | apply below_drew1 | refine below_set ?_ GE241001.out | refine below_set ?_ GE241002.out | refine below_set ?_ GE241006.out) | exact HB.out)⟩⟩
 case round =>
  clear H'
  try clear c1
  try clear c2
  try clear p2
  try clear p6
  try clear c9
  try clear c12
  try clear c15
  try clear c16
  try clear hcz10_0
  try clear hcz10_1
  try clear hcz12_0
  try clear hcz12_1
  try clear hcz17_0
  try clear hcz17_1
  try clear hfz10_0
  try clear hfz10_1
  try clear hfz12_0
  try clear hfz12_1
  try clear hfz17_0
  try clear hfz17_1
  obtain ⟨x10_1, x241007001_1, u241007001, rfl, HA, HK1, HO_241007001, BK241001, BK241002, BK241006, HB⟩ := hrel
  cases gk with
  | zero => exact absurd HA.out (by simp [impl_minor.l0])
  | succ k1 =>
   have H := HA.out
   clear HA
   simp only [impl_minor.l0] at H
   replace H := Option.bind_eq_some_iff.mp H
   obtain ⟨t241007, A180, H⟩ := H
   replace H : (if x10_1 ≤ t241007 then ((impl_CountOf.f x10_1).bind fun t241008 => (if t241008 = (wrap64 (t241004 - t241003)) then ((impl_UnpackSet.f k1 x10_1 a1).bind fun t241009 => ((impl_rankIn.f k1 a0_0 l0_1 (Go.bits .or .i64 t241009 a2)).bind fun t241010 => (if (wrap64 (t241010 - t241003)) = (wrap64 (t241004 - t241003)) then (if x241007001_1.length < 17592186044416 then (impl_minor.l0 k1 a1 a2 t241003 (wrap64 (t241004 - t241003)) (wrap64 (x10_1 + 1)) a0_0 l0_1 t241005 (x241007001_1 ++ [x10_1])) else (none)) else (impl_minor.l0 k1 a1 a2 t241003 (wrap64 (t241004 - t241003)) (wrap64 (x10_1 + 1)) a0_0 l0_1 t241005 x241007001_1)))) else (impl_minor.l0 k1 a1 a2 t241003 (wrap64 (t241004 - t241003)) (wrap64 (x10_1 + 1)) a0_0 l0_1 t241005 x241007001_1))) else (some (t241005, x241007001_1))) = some (r1, r2) := H
   have A18 := aQ A180
   clear A180
   by_cases c19 : x10_1 ≤ t241007
   ·rw [if_pos c19] at H
    have c19b0 : decide (x10_1 ≤ t241007) = true := decide_eq_true c19
    clear c19
    replace H := Option.bind_eq_some_iff.mp H
    obtain ⟨t241008, A200, H⟩ := H
    replace H : (if t241008 = (wrap64 (t241004 - t241003)) then ((impl_UnpackSet.f k1 x10_1 a1).bind fun t241009 => ((impl_rankIn.f k1 a0_0 l0_1 (Go.bits .or .i64 t241009 a2)).bind fun t241010 => (if (wrap64 (t241010 - t241003)) = (wrap64 (t241004 - t241003)) then (if x241007001_1.length < 17592186044416 then (impl_minor.l0 k1 a1 a2 t241003 (wrap64 (t241004 - t241003)) (wrap64 (x10_1 + 1)) a0_0 l0_1 t241005 (x241007001_1 ++ [x10_1])) else (none)) else (impl_minor.l0 k1 a1 a2 t241003 (wrap64 (t241004 - t241003)) (wrap64 (x10_1 + 1)) a0_0 l0_1 t241005 x241007001_1)))) else (impl_minor.l0 k1 a1 a2 t241003 (wrap64 (t241004 - t241003)) (wrap64 (x10_1 + 1)) a0_0 l0_1 t241005 x241007001_1)) = some (r1, r2) := H
    have A20 := aQ A200
    clear A200
    by_cases c21 : t241008 = (wrap64 (t241004 - t241003))
    ·rw [if_pos c21] at H
     have c21b0 : (t241008 == (wrap64 (t241004 - t241003))) = true := beq_iff_eq.mpr c21
     have c21b1 : (t241008 != (wrap64 (t241004 - t241003))) = false := bne_eq_false_iff_eq.mpr c21
     clear c21
     replace H := Option.bind_eq_some_iff.mp H
     obtain ⟨t241009, A220, H⟩ := H
     replace H : ((impl_rankIn.f k1 a0_0 l0_1 (Go.bits .or .i64 t241009 a2)).bind fun t241010 => (if (wrap64 (t241010 - t241003)) = (wrap64 (t241004 - t241003)) then (if x241007001_1.length < 17592186044416 then (impl_minor.l0 k1 a1 a2 t241003 (wrap64 (t241004 - t241003)) (wrap64 (x10_1 + 1)) a0_0 l0_1 t241005 (x241007001_1 ++ [x10_1])) else (none)) else (impl_minor.l0 k1 a1 a2 t241003 (wrap64 (t241004 - t241003)) (wrap64 (x10_1 + 1)) a0_0 l0_1 t241005 x241007001_1))) = some (r1, r2) := H
     have A22 := aQ A220
     clear A220
     replace H := Option.bind_eq_some_iff.mp H
     obtain ⟨t241010, A230, H⟩ := H
     replace H : (if (wrap64 (t241010 - t241003)) = (wrap64 (t241004 - t241003)) then (if x241007001_1.length < 17592186044416 then (impl_minor.l0 k1 a1 a2 t241003 (wrap64 (t241004 - t241003)) (wrap64 (x10_1 + 1)) a0_0 l0_1 t241005 (x241007001_1 ++ [x10_1])) else (none)) else (impl_minor.l0 k1 a1 a2 t241003 (wrap64 (t241004 - t241003)) (wrap64 (x10_1 + 1)) a0_0 l0_1 t241005 x241007001_1)) = some (r1, r2) := H
     have A23 := aQ A230
     clear A230
     by_cases c24 : (wrap64 (t241010 - t241003)) = (wrap64 (t241004 - t241003))
     ·rw [if_pos c24] at H
      have c24b0 : ((wrap64 (t241010 - t241003)) == (wrap64 (t241004 - t241003))) = true := beq_iff_eq.mpr c24
      have c24b1 : ((wrap64 (t241010 - t241003)) != (wrap64 (t241004 - t241003))) = false := bne_eq_false_iff_eq.mpr c24
      clear c24
      by_cases c25 : x241007001_1.length < 17592186044416
      ·rw [if_pos c25] at H
       have LMc25 := aQ c25
       clear c25
       obtain ⟨y241011, hy241011⟩ : ∃ y_ : List Int, y_ = (x241007001_1 ++ [x10_1]) := ⟨_, rfl⟩
       replace H : (impl_minor.l0 k1 a1 a2 t241003 (wrap64 (t241004 - t241003)) (wrap64 (x10_1 + 1)) a0_0 l0_1 t241005 y241011) = some (r1, r2) := by first | (rw [hy241011]; with_reducible exact H) | (have H2_ := (Option.bind_some _ _).symm.trans H; rw [hy241011]; with_reducible exact H2_) | (have H2_ := (Option.bind_some _ _).symm.trans H; with_reducible exact H2_) | with_reducible exact H | (rw [hy241011]; exact H) | exact H
       have Ny241011 := aQ hy241011
       clear hy241011
       have H' := aQ H
       clear H
       have hnb26 := NB241006_241001.out
       have hnc26 := NB241001_241006.out
       have hnb27 := NB241006_241002.out
       have hnc27 := NB241002_241006.out
       have hcz28_0 : wr.cell? ⟨gb241006, 0, none⟩ = some (.int .i64 t241005) := (blk_cell BK241006.out 0).trans rfl
       have hcz28_1 : wr.cell? ⟨gb241006, 1, none⟩ = some (u241007001) := (blk_cell BK241006.out 1).trans rfl
       have hfz28_0 := blk_frozen BK241006.out 0
       have hfz28_1 := blk_frozen BK241006.out 1
       try go_wp2_with (first | ((with_reducible refine gate_callee (f := 122) rfl ?_); refine goesL_ (some 27) rfl rfl Try.func122 (by kernel_rfl) rfl #[.int .i64 t241005] rfl (by (try simp only [List.map_toArray, List.map_cons, List.map_nil]); first | done | rfl | (simp only [List.length_drop, List.length_take]; rfl)) ?_; (with_reducible refine (impl_FullSet.calls t241005 t241007 _ A18.out).mono ?_); rintro e w' ⟨rfl, ⟨nd, rfl⟩⟩; refine ⟨_, rfl, ?_⟩; (try (rw [drewN_self wr]; generalize hq_ : World.drewN wr _ = wr; have n0_ : Aside0 (Kd.R (Kd.int .i64) 3 wr w.heap.size (fun _ => True) u241007001 x241007001_1) := ⟨by rw [← hq_]; exact (by (with_reducible repeat (first | apply Kd.R_alloc | apply Kd.R_drewN | apply Kd.R_drew)); exact HO_241007001.out)⟩; have n1_ : Aside0 (wr.heap[gb241001]? = some (.cells #[.int .i64 a0_0, .slice A0_1 l0_1.length c0_1] 28 (0, 0))) := ⟨by rw [← hq_]; exact (by (with_reducible repeat (first | refine blk_drewN ?_ _ | refine blk_drew ?_ | refine blk_alloc ?_ _)); exact BK241001.out)⟩; have n2_ : Aside0 (wr.heap[gb241002]? = some (.cells #[.int .i64 0, .slice none 0 0] 28 (0, 0))) := ⟨by rw [← hq_]; exact (by (with_reducible repeat (first | refine blk_drewN ?_ _ | refine blk_drew ?_ | refine blk_alloc ?_ _)); exact BK241002.out)⟩; have n3_ : Aside0 (wr.heap[gb241006]? = some (.cells #[.int .i64 t241005, u241007001] 28 (0, 0))) := ⟨by rw [← hq_]; exact (by (with_reducible repeat (first | refine blk_drewN ?_ _ | refine blk_drew ?_ | refine blk_alloc ?_ _)); exact BK241006.out)⟩; have n4_ : Aside0 (Below w.heap.size w wr) := ⟨by rw [← hq_]; exact (by repeat (first | (with_reducible first | exact HB.out | apply below_alloc | apply pw_below_drewN | apply below_drew1 | refine below_set ?_ GE241001.out | refine below_set ?_ GE241002.out | refine below_set ?_ GE241006.out) | exact HB.out))⟩; clear HO_241007001 BK241001 BK241002 BK241006 HB hq_; have HO_241007001 := n0_; have BK241001 := n1_; have BK241002 := n2_; have BK241006 := n3_; have HB := n4_; clear n0_ n1_ n2_ n3_ n4_; have hcqgb241001_0 : wr.cell? ⟨gb241001, 0, none⟩ = some (.int .i64 a0_0) := (blk_cell BK241001.out 0).trans rfl; have hfqgb241001_0 := blk_frozen BK241001.out 0; have hcqgb241001_1 : wr.cell? ⟨gb241001, 1, none⟩ = some (.slice A0_1 l0_1.length c0_1) := (blk_cell BK241001.out 1).trans rfl; have hfqgb241001_1 := blk_frozen BK241001.out 1; have hcqgb241002_0 : wr.cell? ⟨gb241002, 0, none⟩ = some (.int .i64 0) := (blk_cell BK241002.out 0).trans rfl; have hfqgb241002_0 := blk_frozen BK241002.out 0; have hcqgb241002_1 : wr.cell? ⟨gb241002, 1, none⟩ = some (.slice none 0 0) := (blk_cell BK241002.out 1).trans rfl; have hfqgb241002_1 := blk_frozen BK241002.out 1; have hcqgb241006_0 : wr.cell? ⟨gb241006, 0, none⟩ = some (.int .i64 t241005) := (blk_cell BK241006.out 0).trans rfl; have hfqgb241006_0 := blk_frozen BK241006.out 0; have hcqgb241006_1 : wr.cell? ⟨gb241006, 1, none⟩ = some (u241007001) := (blk_cell BK241006.out 1).trans rfl; have hfqgb241006_1 := blk_frozen BK241006.out 1))))
       have n0_ := aQ (Kd.R_drew HO_241007001.out)
       have n1_ := aQ (blk_drew BK241001.out)
       have n2_ := aQ (blk_drew BK241002.out)
       have n3_ := aQ (blk_drew BK241006.out)
       have n4_ := aQ (below_drew1 HB.out)
       clear HO_241007001
       clear BK241001
       clear BK241002
       clear BK241006
       clear HB
       have HO_241007001 := n0_
       have BK241001 := n1_
       have BK241002 := n2_
       have BK241006 := n3_
       have HB := n4_
       clear n0_ n1_ n2_ n3_ n4_
       refine start_ (n := 17) (S := fun w' => w'.cell? ⟨gb241001, 0, none⟩ = some (.int .i64 a0_0) ∧ w'.cell? ⟨gb241001, 1, none⟩ = some (.slice A0_1 l0_1.length c0_1)) (ds := []) #[false, false, false, false, false, false, false, false, false, false, false, false, false, false, false, false, false] (by kernel_rfl) rfl rfl ⟨(blk_cell BK241001.out 0).trans rfl, (blk_cell BK241001.out 1).trans rfl⟩ (fun hHeld => ?_); refine with_tabW impl_minor.tab7 impl_minor.bits7 (fun HT_ HW_ => ?_)
       generalize wr.drew = w29 at HO_241007001 BK241001 BK241002 BK241006 HB hHeld ⊢
       refine pure_ (i := 0) (N := some 31) (v := ?_) (a' := ?_) #[true, false, false, false, false, false, false, false, false, false, false, false, false, false, false, false, false] rfl rfl (any_of HT_.out (by kernel_rfl)) (fun _ _ _ h => h) (Or.inl ⟨by rfl, ?_⟩) ?_ ?_
       rotate_left
       ·intro w'
        go_simp
        with_reducible rfl
       rotate_left
       ·simp only [Act.put, List.setIfInBounds_toArray, List.set_cons_zero, List.set_cons_succ, i64_w, i32_w]
        rfl
       refine pure_ (i := 2) (N := some 33) (v := ?_) (a' := ?_) #[true, false, true, false, false, false, false, false, false, false, false, false, false, false, false, false, false] rfl rfl (any_of HT_.out (by kernel_rfl)) (fun _ _ _ h => h) (Or.inl ⟨by rfl, ?_⟩) ?_ ?_
       rotate_left
       ·intro w'
        go_simp
        with_reducible rfl
       rotate_left
       ·simp only [Act.put, List.setIfInBounds_toArray, List.set_cons_zero, List.set_cons_succ, i64_w, i32_w]
        rfl
       refine one_ (i := 1) (N := some 32) #[true, true, true, false, false, false, false, false, false, false, false, false, false, false, false, false, false] rfl rfl (one_of HT_.out (by kernel_rfl)) (by decide) (fun K hK => ?_)
       refine goes_ Try.func120 (by kernel_rfl) rfl #[.int .i64 x10_1] (by rfl) rfl rfl (by (try simp only [List.map_toArray, List.map_cons, List.map_nil]); first | done | rfl | (simp only [List.length_drop, List.length_take]; rfl)) ?_
       with_reducible refine (impl_CountOf.calls x10_1 t241008 _ A20.out).mono ?_
       rintro e w' ⟨rfl, ⟨nd, rfl⟩⟩
       refine ⟨_, rfl, ?_⟩
       refine hK.out _ _ ⟨(blk_cell BK241001.out 0).trans rfl, (blk_cell BK241001.out 1).trans rfl⟩ (fun hHeld => ?_)
       clear hK K
       refine norm_ (a' := ?_) ?_ ?_
       rotate_left
       ·show Act.put _ (some 32) _ = _
        simp only [Act.put, List.setIfInBounds_toArray, List.set_cons_zero, List.set_cons_succ, i64_w, i32_w]
        rfl
       refine pure_ (i := 3) (N := some 34) (v := ?_) (a' := ?_) #[true, true, true, true, false, false, false, false, false, false, false, false, false, false, false, false, false] rfl rfl (any_of HT_.out (by kernel_rfl)) (fun _ _ _ h => h) (Or.inl ⟨by rfl, ?_⟩) ?_ ?_
       rotate_left
       ·intro w'
        go_simp
        with_reducible rfl
       rotate_left
       ·simp only [Act.put, List.setIfInBounds_toArray, List.set_cons_zero, List.set_cons_succ, i64_w, i32_w]
        rfl
       refine pure_ (i := 4) (N := some 35) (v := ?_) (a' := ?_) #[true, true, true, true, true, false, false, false, false, false, false, false, false, false, false, false, false] rfl rfl (any_of HT_.out (by kernel_rfl)) (fun _ _ _ h => h) (Or.inl ⟨by rfl, ?_⟩) ?_ ?_
       rotate_left
       ·intro w'
        go_simp
        with_reducible rfl
       rotate_left
       ·simp only [Act.put, List.setIfInBounds_toArray, List.set_cons_zero, List.set_cons_succ, i64_w, i32_w]
        rfl
       refine pure_ (i := 6) (N := some 37) (v := ?_) (a' := ?_) #[true, true, true, true, true, false, true, false, false, false, false, false, false, false, false, false, false] rfl rfl (any_of HT_.out (by kernel_rfl)) (fun _ _ _ h => h) (Or.inl ⟨by rfl, ?_⟩) ?_ ?_
       rotate_left
       ·intro w'
        go_simp
        with_reducible rfl
       rotate_left
       ·simp only [Act.put, List.setIfInBounds_toArray, List.set_cons_zero, List.set_cons_succ, i64_w, i32_w]
        rfl
       refine pure_ (i := 7) (N := some 38) (v := ?_) (a' := ?_) #[true, true, true, true, true, false, true, true, false, false, false, false, false, false, false, false, false] rfl rfl (any_of HT_.out (by kernel_rfl)) (fun _ _ _ h => h) (Or.inl ⟨by rfl, ?_⟩) ?_ ?_
       rotate_left
       ·intro w'
        go_simp
        with_reducible rfl
       rotate_left
       ·simp only [Act.put, List.setIfInBounds_toArray, List.set_cons_zero, List.set_cons_succ, i64_w, i32_w]
        rfl
       refine pure_ (i := 9) (N := some 40) (v := ?_) (a' := ?_) #[true, true, true, true, true, false, true, true, false, true, false, false, false, false, false, false, false] rfl rfl (any_of HT_.out (by kernel_rfl)) (fun _ _ _ h => h) (Or.inl ⟨by rfl, ?_⟩) ?_ ?_
       rotate_left
       ·intro w'
        go_simp
        with_reducible rfl
       rotate_left
       ·simp only [Act.put, List.setIfInBounds_toArray, List.set_cons_zero, List.set_cons_succ, i64_w, i32_w]
        rfl
       refine pure_ (i := 12) (N := some 43) (v := ?_) (a' := ?_) #[true, true, true, true, true, false, true, true, false, true, false, false, true, false, false, false, false] rfl rfl (any_of HT_.out (by kernel_rfl)) (fun _ _ _ h => h) (Or.inl ⟨by rfl, ?_⟩) ?_ ?_
       rotate_left
       ·intro w'
        go_simp
        with_reducible rfl
       rotate_left
       ·simp only [Act.put, List.setIfInBounds_toArray, List.set_cons_zero, List.set_cons_succ, i64_w, i32_w]
        rfl
       refine pure_ (i := 14) (N := some 45) (v := ?_) (a' := ?_) #[true, true, true, true, true, false, true, true, false, true, false, false, true, false, true, false, false] rfl rfl (any_of HT_.out (by kernel_rfl)) (fun _ _ _ h => h) (Or.inl ⟨by rfl, ?_⟩) ?_ ?_
       rotate_left
       ·intro w'
        go_simp
        with_reducible rfl
       rotate_left
       ·simp only [Act.put, List.setIfInBounds_toArray, List.set_cons_zero, List.set_cons_succ, i64_w, i32_w]
        rfl
       refine take_ (i := 5) (N := some 36) (v := ?_) (a' := ?_) #[true, true, true, true, true, true, true, true, false, true, false, false, true, false, true, false, false] rfl rfl (take_ofW HT_.out HW_.out (by kernel_rfl)) (fun _ _ _ h => h) (Or.inl ⟨by rfl, ?_⟩) hHeld ?_ ?_
       rotate_left
       ·rintro w' ⟨s0, s1⟩
        go_simp
        with_reducible rfl
       rotate_left
       ·simp only [Act.put, List.setIfInBounds_toArray, List.set_cons_zero, List.set_cons_succ, i64_w, i32_w]
        rfl
       refine one_ (i := 8) (N := some 39) #[true, true, true, true, true, true, true, true, true, true, false, false, true, false, true, false, false] rfl rfl (one_of HT_.out (by kernel_rfl)) (by decide) (fun K hK => ?_)
       refine goes_ Try.func267 (by kernel_rfl) rfl #[.int .i64 x10_1, .int .i64 a1] (by rfl) rfl rfl (by (try simp only [List.map_toArray, List.map_cons, List.map_nil]); first | done | rfl | (simp only [List.length_drop, List.length_take]; rfl)) ?_
       with_reducible refine (impl_UnpackSet.calls k1 x10_1 a1 t241009 _ A22.out).mono ?_
       rintro e w30 ⟨rfl, hb⟩
       refine ⟨_, rfl, ?_⟩
       have n0_ := aQ (Kd.R_below (by (with_reducible repeat (first | apply Kd.R_alloc | apply Kd.R_drewN | apply Kd.R_drew)); exact HO_241007001.out) hb)
       have n1_ := aQ (blk_below (g := gb241001) (o := .cells #[.int .i64 a0_0, .slice A0_1 l0_1.length c0_1] 28 (0, 0)) (by (with_reducible repeat (first | refine blk_drewN ?_ _ | refine blk_drew ?_ | refine blk_alloc ?_ _)); exact BK241001.out) hb)
       have n2_ := aQ (blk_below (g := gb241002) (o := .cells #[.int .i64 0, .slice none 0 0] 28 (0, 0)) (by (with_reducible repeat (first | refine blk_drewN ?_ _ | refine blk_drew ?_ | refine blk_alloc ?_ _)); exact BK241002.out) hb)
       have n3_ := aQ (blk_below (g := gb241006) (o := .cells #[.int .i64 t241005, u241007001] 28 (0, 0)) (by (with_reducible repeat (first | refine blk_drewN ?_ _ | refine blk_drew ?_ | refine blk_alloc ?_ _)); exact BK241006.out) hb)
       have n4_ := aQ (below_step (by repeat (first | (with_reducible first | exact HB.out | apply below_alloc | apply pw_below_drewN | apply below_drew1 | refine below_set ?_ GE241001.out | refine below_set ?_ GE241002.out | refine below_set ?_ GE241006.out) | exact HB.out)) hb)
       clear HO_241007001
       clear BK241001
       clear BK241002
       clear BK241006
       clear HB
       have HO_241007001 := n0_
       have BK241001 := n1_
       have BK241002 := n2_
       have BK241006 := n3_
       have HB := n4_
       clear n0_ n1_ n2_ n3_ n4_
       (try clear hb)
       (try clear hb2)
       (try clear hk)
       (try clear hi)
       refine hK.out _ _ ⟨(blk_cell BK241001.out 0).trans rfl, (blk_cell BK241001.out 1).trans rfl⟩ (fun hHeld => ?_)
       clear hK K
       refine norm_ (a' := ?_) ?_ ?_
       rotate_left
       ·show Act.put _ (some 39) _ = _
        simp only [Act.put, List.setIfInBounds_toArray, List.set_cons_zero, List.set_cons_succ, i64_w, i32_w]
        rfl
       refine pure_ (i := 10) (N := some 41) (v := ?_) (a' := ?_) #[true, true, true, true, true, true, true, true, true, true, true, false, true, false, true, false, false] rfl rfl (any_of HT_.out (by kernel_rfl)) (fun _ _ _ h => h) (Or.inl ⟨by rfl, ?_⟩) ?_ ?_
       rotate_left
       ·intro w'
        go_simp
        with_reducible rfl
       rotate_left
       ·simp only [Act.put, List.setIfInBounds_toArray, List.set_cons_zero, List.set_cons_succ, i64_w, i32_w]
        rfl
       refine one_ (i := 11) (N := some 42) #[true, true, true, true, true, true, true, true, true, true, true, true, true, false, true, false, false] rfl rfl (one_of HT_.out (by kernel_rfl)) (by decide) (fun K hK => ?_)
       refine goes_ Try.func123 (by kernel_rfl) rfl #[.agg #[.int .i64 a0_0, .slice A0_1 l0_1.length c0_1], .int .i64 (Go.bits .or .i64 t241009 a2)] (by rfl) rfl rfl (by (try simp only [List.map_toArray, List.map_cons, List.map_nil]); first | done | rfl | (simp only [List.length_drop, List.length_take]; rfl)) ?_
       with_reducible refine (impl_rankIn.calls k1 a0_0 _ _ l0_1 (Go.bits .or .i64 t241009 a2) t241010 _ ?side1 ?side2 A23.out).mono ?_
       (case side1 => repeat (first | exact (Kd.C_below HR0_1.out HB.out) | (with_reducible refine Kd.C_alloc ?_ _) | (with_reducible refine Kd.C_drewN ?_ _) | (with_reducible refine Kd.C_drew ?_)))
       (case side2 => exact HC0_1.out)
       rintro e w31 ⟨rfl, hb⟩
       refine ⟨_, rfl, ?_⟩
       have n0_ := aQ (Kd.R_below (by (with_reducible repeat (first | apply Kd.R_alloc | apply Kd.R_drewN | apply Kd.R_drew)); exact HO_241007001.out) hb)
       have n1_ := aQ (blk_below (g := gb241001) (o := .cells #[.int .i64 a0_0, .slice A0_1 l0_1.length c0_1] 28 (0, 0)) (by (with_reducible repeat (first | refine blk_drewN ?_ _ | refine blk_drew ?_ | refine blk_alloc ?_ _)); exact BK241001.out) hb)
       have n2_ := aQ (blk_below (g := gb241002) (o := .cells #[.int .i64 0, .slice none 0 0] 28 (0, 0)) (by (with_reducible repeat (first | refine blk_drewN ?_ _ | refine blk_drew ?_ | refine blk_alloc ?_ _)); exact BK241002.out) hb)
       have n3_ := aQ (blk_below (g := gb241006) (o := .cells #[.int .i64 t241005, u241007001] 28 (0, 0)) (by (with_reducible repeat (first | refine blk_drewN ?_ _ | refine blk_drew ?_ | refine blk_alloc ?_ _)); exact BK241006.out) hb)
       have n4_ := aQ (below_step (by repeat (first | (with_reducible first | exact HB.out | apply below_alloc | apply pw_below_drewN | apply below_drew1 | refine below_set ?_ GE241001.out | refine below_set ?_ GE241002.out | refine below_set ?_ GE241006.out) | exact HB.out)) hb)
       clear HO_241007001
       clear BK241001
       clear BK241002
       clear BK241006
       clear HB
       have HO_241007001 := n0_
       have BK241001 := n1_
       have BK241002 := n2_
       have BK241006 := n3_
       have HB := n4_
       clear n0_ n1_ n2_ n3_ n4_
       (try clear hb)
       (try clear hb2)
       (try clear hk)
       (try clear hi)
       refine hK.out _ _ ⟨(blk_cell BK241001.out 0).trans rfl, (blk_cell BK241001.out 1).trans rfl⟩ (fun hHeld => ?_)
       clear hK K
       refine norm_ (a' := ?_) ?_ ?_
       rotate_left
       ·show Act.put _ (some 42) _ = _
        simp only [Act.put, List.setIfInBounds_toArray, List.set_cons_zero, List.set_cons_succ, i64_w, i32_w]
        rfl
       refine pure_ (i := 13) (N := some 44) (v := ?_) (a' := ?_) #[true, true, true, true, true, true, true, true, true, true, true, true, true, true, true, false, false] rfl rfl (any_of HT_.out (by kernel_rfl)) (fun _ _ _ h => h) (Or.inl ⟨by rfl, ?_⟩) ?_ ?_
       rotate_left
       ·intro w'
        go_simp
        with_reducible rfl
       rotate_left
       ·simp only [Act.put, List.setIfInBounds_toArray, List.set_cons_zero, List.set_cons_succ, i64_w, i32_w]
        rfl
       refine pure_ (i := 15) (N := some 46) (v := ?_) (a' := ?_) #[true, true, true, true, true, true, true, true, true, true, true, true, true, true, true, true, false] rfl rfl (any_of HT_.out (by kernel_rfl)) (fun _ _ _ h => h) (Or.inl ⟨by rfl, ?_⟩) ?_ ?_
       rotate_left
       ·intro w'
        go_simp
        with_reducible rfl
       rotate_left
       ·simp only [Act.put, List.setIfInBounds_toArray, List.set_cons_zero, List.set_cons_succ, i64_w, i32_w]
        rfl
       refine pure_ (i := 16) (N := some 47) (v := ?_) (a' := ?_) #[true, true, true, true, true, true, true, true, true, true, true, true, true, true, true, true, true] rfl rfl (any_of HT_.out (by kernel_rfl)) (fun _ _ _ h => h) (Or.inl ⟨by rfl, ?_⟩) ?_ ?_
       rotate_left
       ·intro w'
        go_simp
        with_reducible rfl
       rotate_left
       ·simp only [Act.put, List.setIfInBounds_toArray, List.set_cons_zero, List.set_cons_succ, i64_w, i32_w]
        rfl
       refine done_ (done_of HT_.out (by kernel_rfl)) ?_
       have hcz32_0 : w31.cell? ⟨gb241006, 0, none⟩ = some (.int .i64 t241005) := (blk_cell BK241006.out 0).trans rfl
       have hcz32_1 : w31.cell? ⟨gb241006, 1, none⟩ = some (u241007001) := (blk_cell BK241006.out 1).trans rfl
       have hfz32_0 := blk_frozen BK241006.out 0
       have hfz32_1 := blk_frozen BK241006.out 1
       try go_wp2_with (first | ((with_reducible refine gate_builtin (b := .append) (xs := #[.tmp 49, .tmp 51]) rfl ?_); at_builtin; refine Kd.R_append (Kd.int .i64) (w0 := w) w.heap.size rfl (.tmp 49) (.tmp 51) 22 3 (.int .i64 0) 8 rfl Try.underlying22 info3 rfl (by decide) (by omega) u241007001 x241007001_1 x10_1 [.int .i64 x10_1] (fun _ => True) (fun _ => False) rfl rfl ?aP (fun _ hk => hk.elim) ?aF ?aO ?aB ?aS ?aL ?_; (case aP => exact rfl); (case aB => exact (by repeat (first | (with_reducible first | exact HB.out | apply below_alloc | apply pw_below_drewN | apply below_drew1 | refine below_set ?_ GE241001.out | refine below_set ?_ GE241002.out | refine below_set ?_ GE241006.out) | exact HB.out))); (case aF => exact (fun _ _ => trivial)); (case aO => exact (by (with_reducible repeat (first | apply Kd.R_alloc | apply Kd.R_drewN | apply Kd.R_drew)); exact HO_241007001.out)); (case aS => exact (below_size (by repeat (first | (with_reducible first | exact HB.out | apply below_alloc | apply pw_below_drewN | apply below_drew1 | refine below_set ?_ GE241001.out | refine below_set ?_ GE241002.out | refine below_set ?_ GE241006.out) | exact HB.out)))); (case aL => have := LMc25.out; omega); intro v241012 w33 ho hb hg hat; rw [← Ny241011.out] at ho; replace BK241001 := aQ (blk_grown (g := gb241001) (o := .cells #[.int .i64 a0_0, .slice A0_1 l0_1.length c0_1] 28 (0, 0)) (by (with_reducible repeat (first | refine blk_drewN ?_ _ | refine blk_drew ?_ | refine blk_alloc ?_ _)); exact BK241001.out) hg (Kd.R_ne HO_241007001.out BK241001.out (by decide))); replace BK241002 := aQ (blk_grown (g := gb241002) (o := .cells #[.int .i64 0, .slice none 0 0] 28 (0, 0)) (by (with_reducible repeat (first | refine blk_drewN ?_ _ | refine blk_drew ?_ | refine blk_alloc ?_ _)); exact BK241002.out) hg (Kd.R_ne HO_241007001.out BK241002.out (by decide))); replace BK241006 := aQ (blk_grown (g := gb241006) (o := .cells #[.int .i64 t241005, u241007001] 28 (0, 0)) (by (with_reducible repeat (first | refine blk_drewN ?_ _ | refine blk_drew ?_ | refine blk_alloc ?_ _)); exact BK241006.out) hg (Kd.R_ne HO_241007001.out BK241006.out (by decide))); replace HB := aQ (hb); have HO241013 := aQ (ho); clear HO_241007001; clear ho hb hg hat; obtain ⟨Ao34, co34, eo34⟩ := Kd.R_slice HO241013.out; subst eo34; have hcz35_0 : w33.cell? ⟨gb241006, 0, none⟩ = some (.int .i64 t241005) := (blk_cell BK241006.out 0).trans rfl; have hcz35_1 : w33.cell? ⟨gb241006, 1, none⟩ = some (u241007001) := (blk_cell BK241006.out 1).trans rfl; have hfz35_0 := blk_frozen BK241006.out 0; have hfz35_1 := blk_frozen BK241006.out 1))
       go_roundg k1
       case measure => have := HK1.out; omega
       case rel => exact ⟨(wrap64 (x10_1 + 1)), (y241011), (.slice Ao34 y241011.length co34), (by first | rfl | (simp; done) | (simp [*]; done)), H', ⟨by have := HK1.out; omega⟩, ⟨by (with_reducible repeat (first | apply Kd.R_alloc | apply Kd.R_drewN | apply Kd.R_drew)); exact Kd.R_mono (Kd.R_far (p := ⟨gb241006, 1, none⟩) (Kd.R_types HO241013.out BK241006.out (by decide)) (fun _ hk => hk.2) (.slice Ao34 y241011.length co34)) (fun _ hk => trivial)⟩, ⟨by (with_reducible repeat (first | refine blk_drewN ?_ _ | refine blk_drew ?_ | refine blk_alloc ?_ _)); refine blk_far ?_ NB241001_241006.out _; (with_reducible repeat (first | refine blk_drewN ?_ _ | refine blk_drew ?_ | refine blk_alloc ?_ _)); exact BK241001.out⟩, ⟨by (with_reducible repeat (first | refine blk_drewN ?_ _ | refine blk_drew ?_ | refine blk_alloc ?_ _)); refine blk_far ?_ NB241002_241006.out _; (with_reducible repeat (first | refine blk_drewN ?_ _ | refine blk_drew ?_ | refine blk_alloc ?_ _)); exact BK241002.out⟩, ⟨by (with_reducible repeat (first | refine blk_drewN ?_ _ | refine blk_drew ?_ | refine blk_alloc ?_ _)); refine blk_put (cs := #[.int .i64 t241005, u241007001]) ?_ 1 _ rfl; (with_reducible repeat (first | refine blk_drewN ?_ _ | refine blk_drew ?_ | refine blk_alloc ?_ _)); exact BK241006.out⟩, ⟨by repeat (first | (with_reducible first | exact HB.out | apply below_alloc | apply pw_below_drewN | apply below_drew1 | refine below_set ?_ GE241001.out | refine below_set ?_ GE241002.out | refine below_set ?_ GE241006.out) | exact HB.out)⟩⟩
      ·rw [if_neg c25] at H
       exact absurd H (by simp)
     ·rw [if_neg c24] at H
      have c24b0 : ((wrap64 (t241010 - t241003)) == (wrap64 (t241004 - t241003))) = false := beq_eq_false_iff_ne.mpr c24
      have c24b1 : ((wrap64 (t241010 - t241003)) != (wrap64 (t241004 - t241003))) = true := bne_iff_ne.mpr c24
      have H' := aQ H
      clear H
      have hnb36 := NB241006_241001.out
      have hnc36 := NB241001_241006.out
      have hnb37 := NB241006_241002.out
      have hnc37 := NB241002_241006.out
      have hcz38_0 : wr.cell? ⟨gb241006, 0, none⟩ = some (.int .i64 t241005) := (blk_cell BK241006.out 0).trans rfl
      have hcz38_1 : wr.cell? ⟨gb241006, 1, none⟩ = some (u241007001) := (blk_cell BK241006.out 1).trans rfl
      have hfz38_0 := blk_frozen BK241006.out 0
      have hfz38_1 := blk_frozen BK241006.out 1
      try go_wp2_with (first | ((with_reducible refine gate_callee (f := 122) rfl ?_); refine goesL_ (some 27) rfl rfl Try.func122 (by kernel_rfl) rfl #[.int .i64 t241005] rfl (by (try simp only [List.map_toArray, List.map_cons, List.map_nil]); first | done | rfl | (simp only [List.length_drop, List.length_take]; rfl)) ?_; (with_reducible refine (impl_FullSet.calls t241005 t241007 _ A18.out).mono ?_); rintro e w' ⟨rfl, ⟨nd, rfl⟩⟩; refine ⟨_, rfl, ?_⟩))
      (try (rw [drewN_self wr]; generalize hq_ : World.drewN wr _ = wr; have n0_ : Aside0 (Kd.R (Kd.int .i64) 3 wr w.heap.size (fun _ => True) u241007001 x241007001_1) := ⟨by rw [← hq_]; exact (by (with_reducible repeat (first | apply Kd.R_alloc | apply Kd.R_drewN | apply Kd.R_drew)); exact HO_241007001.out)⟩; have n1_ : Aside0 (wr.heap[gb241001]? = some (.cells #[.int .i64 a0_0, .slice A0_1 l0_1.length c0_1] 28 (0, 0))) := ⟨by rw [← hq_]; exact (by (with_reducible repeat (first | refine blk_drewN ?_ _ | refine blk_drew ?_ | refine blk_alloc ?_ _)); exact BK241001.out)⟩; have n2_ : Aside0 (wr.heap[gb241002]? = some (.cells #[.int .i64 0, .slice none 0 0] 28 (0, 0))) := ⟨by rw [← hq_]; exact (by (with_reducible repeat (first | refine blk_drewN ?_ _ | refine blk_drew ?_ | refine blk_alloc ?_ _)); exact BK241002.out)⟩; have n3_ : Aside0 (wr.heap[gb241006]? = some (.cells #[.int .i64 t241005, u241007001] 28 (0, 0))) := ⟨by rw [← hq_]; exact (by (with_reducible repeat (first | refine blk_drewN ?_ _ | refine blk_drew ?_ | refine blk_alloc ?_ _)); exact BK241006.out)⟩; have n4_ : Aside0 (Below w.heap.size w wr) := ⟨by rw [← hq_]; exact (by repeat (first | (with_reducible first | exact HB.out | apply below_alloc | apply pw_below_drewN | apply below_drew1 | refine below_set ?_ GE241001.out | refine below_set ?_ GE241002.out | refine below_set ?_ GE241006.out) | exact HB.out))⟩; clear HO_241007001 BK241001 BK241002 BK241006 HB hq_; have HO_241007001 := n0_; have BK241001 := n1_; have BK241002 := n2_; have BK241006 := n3_; have HB := n4_; clear n0_ n1_ n2_ n3_ n4_; have hcqgb241001_0 : wr.cell? ⟨gb241001, 0, none⟩ = some (.int .i64 a0_0) := (blk_cell BK241001.out 0).trans rfl; have hfqgb241001_0 := blk_frozen BK241001.out 0; have hcqgb241001_1 : wr.cell? ⟨gb241001, 1, none⟩ = some (.slice A0_1 l0_1.length c0_1) := (blk_cell BK241001.out 1).trans rfl; have hfqgb241001_1 := blk_frozen BK241001.out 1; have hcqgb241002_0 : wr.cell? ⟨gb241002, 0, none⟩ = some (.int .i64 0) := (blk_cell BK241002.out 0).trans rfl; have hfqgb241002_0 := blk_frozen BK241002.out 0; have hcqgb241002_1 : wr.cell? ⟨gb241002, 1, none⟩ = some (.slice none 0 0) := (blk_cell BK241002.out 1).trans rfl; have hfqgb241002_1 := blk_frozen BK241002.out 1; have hcqgb241006_0 : wr.cell? ⟨gb241006, 0, none⟩ = some (.int .i64 t241005) := (blk_cell BK241006.out 0).trans rfl; have hfqgb241006_0 := blk_frozen BK241006.out 0; have hcqgb241006_1 : wr.cell? ⟨gb241006, 1, none⟩ = some (u241007001) := (blk_cell BK241006.out 1).trans rfl; have hfqgb241006_1 := blk_frozen BK241006.out 1))
      have n0_ := aQ (Kd.R_drew HO_241007001.out)
      have n1_ := aQ (blk_drew BK241001.out)
      have n2_ := aQ (blk_drew BK241002.out)
      have n3_ := aQ (blk_drew BK241006.out)
      have n4_ := aQ (below_drew1 HB.out)
      clear HO_241007001
      clear BK241001
      clear BK241002
      clear BK241006
      clear HB
      have HO_241007001 := n0_
      have BK241001 := n1_
      have BK241002 := n2_
      have BK241006 := n3_
      have HB := n4_
      clear n0_ n1_ n2_ n3_ n4_
      refine start_ (n := 17) (S := fun w' => w'.cell? ⟨gb241001, 0, none⟩ = some (.int .i64 a0_0) ∧ w'.cell? ⟨gb241001, 1, none⟩ = some (.slice A0_1 l0_1.length c0_1)) (ds := []) #[false, false, false, false, false, false, false, false, false, false, false, false, false, false, false, false, false] (by kernel_rfl) rfl rfl ⟨(blk_cell BK241001.out 0).trans rfl, (blk_cell BK241001.out 1).trans rfl⟩ (fun hHeld => ?_); refine with_tabW impl_minor.tab7 impl_minor.bits7 (fun HT_ HW_ => ?_)
      generalize wr.drew = w39 at HO_241007001 BK241001 BK241002 BK241006 HB hHeld ⊢
      refine pure_ (i := 0) (N := some 31) (v := ?_) (a' := ?_) #[true, false, false, false, false, false, false, false, false, false, false, false, false, false, false, false, false] rfl rfl (any_of HT_.out (by kernel_rfl)) (fun _ _ _ h => h) (Or.inl ⟨by rfl, ?_⟩) ?_ ?_
      rotate_left
      ·intro w'
       go_simp
       with_reducible rfl
      rotate_left
      ·simp only [Act.put, List.setIfInBounds_toArray, List.set_cons_zero, List.set_cons_succ, i64_w, i32_w]
       rfl
      refine pure_ (i := 2) (N := some 33) (v := ?_) (a' := ?_) #[true, false, true, false, false, false, false, false, false, false, false, false, false, false, false, false, false] rfl rfl (any_of HT_.out (by kernel_rfl)) (fun _ _ _ h => h) (Or.inl ⟨by rfl, ?_⟩) ?_ ?_
      rotate_left
      ·intro w'
       go_simp
       with_reducible rfl
      rotate_left
      ·simp only [Act.put, List.setIfInBounds_toArray, List.set_cons_zero, List.set_cons_succ, i64_w, i32_w]
       rfl
      refine one_ (i := 1) (N := some 32) #[true, true, true, false, false, false, false, false, false, false, false, false, false, false, false, false, false] rfl rfl (one_of HT_.out (by kernel_rfl)) (by decide) (fun K hK => ?_)
      refine goes_ Try.func120 (by kernel_rfl) rfl #[.int .i64 x10_1] (by rfl) rfl rfl (by (try simp only [List.map_toArray, List.map_cons, List.map_nil]); first | done | rfl | (simp only [List.length_drop, List.length_take]; rfl)) ?_
      with_reducible refine (impl_CountOf.calls x10_1 t241008 _ A20.out).mono ?_
      rintro e w' ⟨rfl, ⟨nd, rfl⟩⟩
      refine ⟨_, rfl, ?_⟩
      refine hK.out _ _ ⟨(blk_cell BK241001.out 0).trans rfl, (blk_cell BK241001.out 1).trans rfl⟩ (fun hHeld => ?_)
      clear hK K
      refine norm_ (a' := ?_) ?_ ?_
      rotate_left
      ·show Act.put _ (some 32) _ = _
       simp only [Act.put, List.setIfInBounds_toArray, List.set_cons_zero, List.set_cons_succ, i64_w, i32_w]
       rfl
      refine pure_ (i := 3) (N := some 34) (v := ?_) (a' := ?_) #[true, true, true, true, false, false, false, false, false, false, false, false, false, false, false, false, false] rfl rfl (any_of HT_.out (by kernel_rfl)) (fun _ _ _ h => h) (Or.inl ⟨by rfl, ?_⟩) ?_ ?_
      rotate_left
      ·intro w'
       go_simp
       with_reducible rfl
      rotate_left
      ·simp only [Act.put, List.setIfInBounds_toArray, List.set_cons_zero, List.set_cons_succ, i64_w, i32_w]
       rfl
      refine pure_ (i := 4) (N := some 35) (v := ?_) (a' := ?_) #[true, true, true, true, true, false, false, false, false, false, false, false, false, false, false, false, false] rfl rfl (any_of HT_.out (by kernel_rfl)) (fun _ _ _ h => h) (Or.inl ⟨by rfl, ?_⟩) ?_ ?_
      rotate_left
      ·intro w'
       go_simp
       with_reducible rfl
      rotate_left
      ·simp only [Act.put, List.setIfInBounds_toArray, List.set_cons_zero, List.set_cons_succ, i64_w, i32_w]
       rfl
      refine pure_ (i := 6) (N := some 37) (v := ?_) (a' := ?_) #[true, true, true, true, true, false, true, false, false, false, false, false, false, false, false, false, false] rfl rfl (any_of HT_.out (by kernel_rfl)) (fun _ _ _ h => h) (Or.inl ⟨by rfl, ?_⟩) ?_ ?_
      rotate_left
      ·intro w'
       go_simp
       with_reducible rfl
      rotate_left
      ·simp only [Act.put, List.setIfInBounds_toArray, List.set_cons_zero, List.set_cons_succ, i64_w, i32_w]
       rfl
      refine pure_ (i := 7) (N := some 38) (v := ?_) (a' := ?_) #[true, true, true, true, true, false, true, true, false, false, false, false, false, false, false, false, false] rfl rfl (any_of HT_.out (by kernel_rfl)) (fun _ _ _ h => h) (Or.inl ⟨by rfl, ?_⟩) ?_ ?_
      rotate_left
      ·intro w'
       go_simp
       with_reducible rfl
      rotate_left
      ·simp only [Act.put, List.setIfInBounds_toArray, List.set_cons_zero, List.set_cons_succ, i64_w, i32_w]
       rfl
      refine pure_ (i := 9) (N := some 40) (v := ?_) (a' := ?_) #[true, true, true, true, true, false, true, true, false, true, false, false, false, false, false, false, false] rfl rfl (any_of HT_.out (by kernel_rfl)) (fun _ _ _ h => h) (Or.inl ⟨by rfl, ?_⟩) ?_ ?_
      rotate_left
      ·intro w'
       go_simp
       with_reducible rfl
      rotate_left
      ·simp only [Act.put, List.setIfInBounds_toArray, List.set_cons_zero, List.set_cons_succ, i64_w, i32_w]
       rfl
      refine pure_ (i := 12) (N := some 43) (v := ?_) (a' := ?_) #[true, true, true, true, true, false, true, true, false, true, false, false, true, false, false, false, false] rfl rfl (any_of HT_.out (by kernel_rfl)) (fun _ _ _ h => h) (Or.inl ⟨by rfl, ?_⟩) ?_ ?_
      rotate_left
      ·intro w'
       go_simp
       with_reducible rfl
      rotate_left
      ·simp only [Act.put, List.setIfInBounds_toArray, List.set_cons_zero, List.set_cons_succ, i64_w, i32_w]
       rfl
      refine pure_ (i := 14) (N := some 45) (v := ?_) (a' := ?_) #[true, true, true, true, true, false, true, true, false, true, false, false, true, false, true, false, false] rfl rfl (any_of HT_.out (by kernel_rfl)) (fun _ _ _ h => h) (Or.inl ⟨by rfl, ?_⟩) ?_ ?_
      rotate_left
      ·intro w'
       go_simp
       with_reducible rfl
      rotate_left
      ·simp only [Act.put, List.setIfInBounds_toArray, List.set_cons_zero, List.set_cons_succ, i64_w, i32_w]
       rfl
      refine take_ (i := 5) (N := some 36) (v := ?_) (a' := ?_) #[true, true, true, true, true, true, true, true, false, true, false, false, true, false, true, false, false] rfl rfl (take_ofW HT_.out HW_.out (by kernel_rfl)) (fun _ _ _ h => h) (Or.inl ⟨by rfl, ?_⟩) hHeld ?_ ?_
      rotate_left
      ·rintro w' ⟨s0, s1⟩
       go_simp
       with_reducible rfl
      rotate_left
      ·simp only [Act.put, List.setIfInBounds_toArray, List.set_cons_zero, List.set_cons_succ, i64_w, i32_w]
       rfl
      refine one_ (i := 8) (N := some 39) #[true, true, true, true, true, true, true, true, true, true, false, false, true, false, true, false, false] rfl rfl (one_of HT_.out (by kernel_rfl)) (by decide) (fun K hK => ?_)
      refine goes_ Try.func267 (by kernel_rfl) rfl #[.int .i64 x10_1, .int .i64 a1] (by rfl) rfl rfl (by (try simp only [List.map_toArray, List.map_cons, List.map_nil]); first | done | rfl | (simp only [List.length_drop, List.length_take]; rfl)) ?_
      with_reducible refine (impl_UnpackSet.calls k1 x10_1 a1 t241009 _ A22.out).mono ?_
      rintro e w40 ⟨rfl, hb⟩
      refine ⟨_, rfl, ?_⟩
      have n0_ := aQ (Kd.R_below (by (with_reducible repeat (first | apply Kd.R_alloc | apply Kd.R_drewN | apply Kd.R_drew)); exact HO_241007001.out) hb)
      have n1_ := aQ (blk_below (g := gb241001) (o := .cells #[.int .i64 a0_0, .slice A0_1 l0_1.length c0_1] 28 (0, 0)) (by (with_reducible repeat (first | refine blk_drewN ?_ _ | refine blk_drew ?_ | refine blk_alloc ?_ _)); exact BK241001.out) hb)
      have n2_ := aQ (blk_below (g := gb241002) (o := .cells #[.int .i64 0, .slice none 0 0] 28 (0, 0)) (by (with_reducible repeat (first | refine blk_drewN ?_ _ | refine blk_drew ?_ | refine blk_alloc ?_ _)); exact BK241002.out) hb)
      have n3_ := aQ (blk_below (g := gb241006) (o := .cells #[.int .i64 t241005, u241007001] 28 (0, 0)) (by (with_reducible repeat (first | refine blk_drewN ?_ _ | refine blk_drew ?_ | refine blk_alloc ?_ _)); exact BK241006.out) hb)
      have n4_ := aQ (below_step (by repeat (first | (with_reducible first | exact HB.out | apply below_alloc | apply pw_below_drewN | apply below_drew1 | refine below_set ?_ GE241001.out | refine below_set ?_ GE241002.out | refine below_set ?_ GE241006.out) | exact HB.out)) hb)
      clear HO_241007001
      clear BK241001
      clear BK241002
      clear BK241006
      clear HB
      have HO_241007001 := n0_
      have BK241001 := n1_
      have BK241002 := n2_
      have BK241006 := n3_
      have HB := n4_
      clear n0_ n1_ n2_ n3_ n4_
      (try clear hb)
      (try clear hb2)
      (try clear hk)
      (try clear hi)
      refine hK.out _ _ ⟨(blk_cell BK241001.out 0).trans rfl, (blk_cell BK241001.out 1).trans rfl⟩ (fun hHeld => ?_)
      clear hK K
      refine norm_ (a' := ?_) ?_ ?_
      rotate_left
      ·show Act.put _ (some 39) _ = _
       simp only [Act.put, List.setIfInBounds_toArray, List.set_cons_zero, List.set_cons_succ, i64_w, i32_w]
       rfl
      refine pure_ (i := 10) (N := some 41) (v := ?_) (a' := ?_) #[true, true, true, true, true, true, true, true, true, true, true, false, true, false, true, false, false] rfl rfl (any_of HT_.out (by kernel_rfl)) (fun _ _ _ h => h) (Or.inl ⟨by rfl, ?_⟩) ?_ ?_
      rotate_left
      ·intro w'
       go_simp
       with_reducible rfl
      rotate_left
      ·simp only [Act.put, List.setIfInBounds_toArray, List.set_cons_zero, List.set_cons_succ, i64_w, i32_w]
       rfl
      refine one_ (i := 11) (N := some 42) #[true, true, true, true, true, true, true, true, true, true, true, true, true, false, true, false, false] rfl rfl (one_of HT_.out (by kernel_rfl)) (by decide) (fun K hK => ?_)
      refine goes_ Try.func123 (by kernel_rfl) rfl #[.agg #[.int .i64 a0_0, .slice A0_1 l0_1.length c0_1], .int .i64 (Go.bits .or .i64 t241009 a2)] (by rfl) rfl rfl (by (try simp only [List.map_toArray, List.map_cons, List.map_nil]); first | done | rfl | (simp only [List.length_drop, List.length_take]; rfl)) ?_
      with_reducible refine (impl_rankIn.calls k1 a0_0 _ _ l0_1 (Go.bits .or .i64 t241009 a2) t241010 _ ?side1 ?side2 A23.out).mono ?_
      (case side1 => repeat (first | exact (Kd.C_below HR0_1.out HB.out) | (with_reducible refine Kd.C_alloc ?_ _) | (with_reducible refine Kd.C_drewN ?_ _) | (with_reducible refine Kd.C_drew ?_)))
      (case side2 => exact HC0_1.out)
      rintro e w41 ⟨rfl, hb⟩
      refine ⟨_, rfl, ?_⟩
      have n0_ := aQ (Kd.R_below (by (with_reducible repeat (first | apply Kd.R_alloc | apply Kd.R_drewN | apply Kd.R_drew)); exact HO_241007001.out) hb)
      have n1_ := aQ (blk_below (g := gb241001) (o := .cells #[.int .i64 a0_0, .slice A0_1 l0_1.length c0_1] 28 (0, 0)) (by (with_reducible repeat (first | refine blk_drewN ?_ _ | refine blk_drew ?_ | refine blk_alloc ?_ _)); exact BK241001.out) hb)
      have n2_ := aQ (blk_below (g := gb241002) (o := .cells #[.int .i64 0, .slice none 0 0] 28 (0, 0)) (by (with_reducible repeat (first | refine blk_drewN ?_ _ | refine blk_drew ?_ | refine blk_alloc ?_ _)); exact BK241002.out) hb)
      have n3_ := aQ (blk_below (g := gb241006) (o := .cells #[.int .i64 t241005, u241007001] 28 (0, 0)) (by (with_reducible repeat (first | refine blk_drewN ?_ _ | refine blk_drew ?_ | refine blk_alloc ?_ _)); exact BK241006.out) hb)
      have n4_ := aQ (below_step (by repeat (first | (with_reducible first | exact HB.out | apply below_alloc | apply pw_below_drewN | apply below_drew1 | refine below_set ?_ GE241001.out | refine below_set ?_ GE241002.out | refine below_set ?_ GE241006.out) | exact HB.out)) hb)
      clear HO_241007001
      clear BK241001
      clear BK241002
      clear BK241006
      clear HB
      have HO_241007001 := n0_
      have BK241001 := n1_
      have BK241002 := n2_
      have BK241006 := n3_
      have HB := n4_
      clear n0_ n1_ n2_ n3_ n4_
      (try clear hb)
      (try clear hb2)
      (try clear hk)
      (try clear hi)
      refine hK.out _ _ ⟨(blk_cell BK241001.out 0).trans rfl, (blk_cell BK241001.out 1).trans rfl⟩ (fun hHeld => ?_)
      clear hK K
      refine norm_ (a' := ?_) ?_ ?_
      rotate_left
      ·show Act.put _ (some 42) _ = _
       simp only [Act.put, List.setIfInBounds_toArray, List.set_cons_zero, List.set_cons_succ, i64_w, i32_w]
       rfl
      refine pure_ (i := 13) (N := some 44) (v := ?_) (a' := ?_) #[true, true, true, true, true, true, true, true, true, true, true, true, true, true, true, false, false] rfl rfl (any_of HT_.out (by kernel_rfl)) (fun _ _ _ h => h) (Or.inl ⟨by rfl, ?_⟩) ?_ ?_
      rotate_left
      ·intro w'
       go_simp
       with_reducible rfl
      rotate_left
      ·simp only [Act.put, List.setIfInBounds_toArray, List.set_cons_zero, List.set_cons_succ, i64_w, i32_w]
       rfl
      refine pure_ (i := 15) (N := some 46) (v := ?_) (a' := ?_) #[true, true, true, true, true, true, true, true, true, true, true, true, true, true, true, true, false] rfl rfl (any_of HT_.out (by kernel_rfl)) (fun _ _ _ h => h) (Or.inl ⟨by rfl, ?_⟩) ?_ ?_
      rotate_left
      ·intro w'
       go_simp
       with_reducible rfl
      rotate_left
      ·simp only [Act.put, List.setIfInBounds_toArray, List.set_cons_zero, List.set_cons_succ, i64_w, i32_w]
       rfl
      refine pure_ (i := 16) (N := some 47) (v := ?_) (a' := ?_) #[true, true, true, true, true, true, true, true, true, true, true, true, true, true, true, true, true] rfl rfl (any_of HT_.out (by kernel_rfl)) (fun _ _ _ h => h) (Or.inl ⟨by rfl, ?_⟩) ?_ ?_
      rotate_left
      ·intro w'
       go_simp
       with_reducible rfl
      rotate_left
      ·simp only [Act.put, List.setIfInBounds_toArray, List.set_cons_zero, List.set_cons_succ, i64_w, i32_w]
       rfl
      refine done_ (done_of HT_.out (by kernel_rfl)) ?_
      try go_wp2
      go_roundg k1
      case measure => have := HK1.out; omega
      case rel => exact ⟨(wrap64 (x10_1 + 1)), (x241007001_1), (u241007001), (by first | rfl | (simp; done) | (simp [*]; done)), H', ⟨by have := HK1.out; omega⟩, ⟨by (with_reducible repeat (first | apply Kd.R_alloc | apply Kd.R_drewN | apply Kd.R_drew)); exact HO_241007001.out⟩, ⟨by (with_reducible repeat (first | refine blk_drewN ?_ _ | refine blk_drew ?_ | refine blk_alloc ?_ _)); exact BK241001.out⟩, ⟨by (with_reducible repeat (first | refine blk_drewN ?_ _ | refine blk_drew ?_ | refine blk_alloc ?_ _)); exact BK241002.out⟩, ⟨by (with_reducible repeat (first | refine blk_drewN ?_ _ | refine blk_drew ?_ | refine blk_alloc ?_ _)); exact BK241006.out⟩, ⟨by repeat (first | (with_reducible first | exact HB.out | apply below_alloc | apply pw_below_drewN | apply below_drew1 | refine below_set ?_ GE241001.out | refine below_set ?_ GE241002.out | refine below_set ?_ GE241006.out) | exact HB.out)⟩⟩
    ·rw [if_neg c21] at H
     have c21b0 : (t241008 == (wrap64 (t241004 - t241003))) = false := beq_eq_false_iff_ne.mpr c21
     have c21b1 : (t241008 != (wrap64 (t241004 - t241003))) = true := bne_iff_ne.mpr c21
     have H' := aQ H
     clear H
     have hnb42 := NB241006_241001.out
     have hnc42 := NB241001_241006.out
     have hnb43 := NB241006_241002.out
     have hnc43 := NB241002_241006.out
     have hcz44_0 : wr.cell? ⟨gb241006, 0, none⟩ = some (.int .i64 t241005) := (blk_cell BK241006.out 0).trans rfl
     have hcz44_1 : wr.cell? ⟨gb241006, 1, none⟩ = some (u241007001) := (blk_cell BK241006.out 1).trans rfl
     have hfz44_0 := blk_frozen BK241006.out 0
     have hfz44_1 := blk_frozen BK241006.out 1
     try go_wp2_with (first | ((with_reducible refine gate_callee (f := 122) rfl ?_); refine goesL_ (some 27) rfl rfl Try.func122 (by kernel_rfl) rfl #[.int .i64 t241005] rfl (by (try simp only [List.map_toArray, List.map_cons, List.map_nil]); first | done | rfl | (simp only [List.length_drop, List.length_take]; rfl)) ?_; (with_reducible refine (impl_FullSet.calls t241005 t241007 _ A18.out).mono ?_); rintro e w' ⟨rfl, ⟨nd, rfl⟩⟩; refine ⟨_, rfl, ?_⟩))
     (try (rw [drewN_self wr]; generalize hq_ : World.drewN wr _ = wr; have n0_ : Aside0 (Kd.R (Kd.int .i64) 3 wr w.heap.size (fun _ => True) u241007001 x241007001_1) := ⟨by rw [← hq_]; exact (by (with_reducible repeat (first | apply Kd.R_alloc | apply Kd.R_drewN | apply Kd.R_drew)); exact HO_241007001.out)⟩; have n1_ : Aside0 (wr.heap[gb241001]? = some (.cells #[.int .i64 a0_0, .slice A0_1 l0_1.length c0_1] 28 (0, 0))) := ⟨by rw [← hq_]; exact (by (with_reducible repeat (first | refine blk_drewN ?_ _ | refine blk_drew ?_ | refine blk_alloc ?_ _)); exact BK241001.out)⟩; have n2_ : Aside0 (wr.heap[gb241002]? = some (.cells #[.int .i64 0, .slice none 0 0] 28 (0, 0))) := ⟨by rw [← hq_]; exact (by (with_reducible repeat (first | refine blk_drewN ?_ _ | refine blk_drew ?_ | refine blk_alloc ?_ _)); exact BK241002.out)⟩; have n3_ : Aside0 (wr.heap[gb241006]? = some (.cells #[.int .i64 t241005, u241007001] 28 (0, 0))) := ⟨by rw [← hq_]; exact (by (with_reducible repeat (first | refine blk_drewN ?_ _ | refine blk_drew ?_ | refine blk_alloc ?_ _)); exact BK241006.out)⟩; have n4_ : Aside0 (Below w.heap.size w wr) := ⟨by rw [← hq_]; exact (by repeat (first | (with_reducible first | exact HB.out | apply below_alloc | apply pw_below_drewN | apply below_drew1 | refine below_set ?_ GE241001.out | refine below_set ?_ GE241002.out | refine below_set ?_ GE241006.out) | exact HB.out))⟩; clear HO_241007001 BK241001 BK241002 BK241006 HB hq_; have HO_241007001 := n0_; have BK241001 := n1_; have BK241002 := n2_; have BK241006 := n3_; have HB := n4_; clear n0_ n1_ n2_ n3_ n4_; have hcqgb241001_0 : wr.cell? ⟨gb241001, 0, none⟩ = some (.int .i64 a0_0) := (blk_cell BK241001.out 0).trans rfl; have hfqgb241001_0 := blk_frozen BK241001.out 0; have hcqgb241001_1 : wr.cell? ⟨gb241001, 1, none⟩ = some (.slice A0_1 l0_1.length c0_1) := (blk_cell BK241001.out 1).trans rfl; have hfqgb241001_1 := blk_frozen BK241001.out 1; have hcqgb241002_0 : wr.cell? ⟨gb241002, 0, none⟩ = some (.int .i64 0) := (blk_cell BK241002.out 0).trans rfl; have hfqgb241002_0 := blk_frozen BK241002.out 0; have hcqgb241002_1 : wr.cell? ⟨gb241002, 1, none⟩ = some (.slice none 0 0) := (blk_cell BK241002.out 1).trans rfl; have hfqgb241002_1 := blk_frozen BK241002.out 1; have hcqgb241006_0 : wr.cell? ⟨gb241006, 0, none⟩ = some (.int .i64 t241005) := (blk_cell BK241006.out 0).trans rfl; have hfqgb241006_0 := blk_frozen BK241006.out 0; have hcqgb241006_1 : wr.cell? ⟨gb241006, 1, none⟩ = some (u241007001) := (blk_cell BK241006.out 1).trans rfl; have hfqgb241006_1 := blk_frozen BK241006.out 1))
     have n0_ := aQ (Kd.R_drew HO_241007001.out)
     have n1_ := aQ (blk_drew BK241001.out)
     have n2_ := aQ (blk_drew BK241002.out)
     have n3_ := aQ (blk_drew BK241006.out)
     have n4_ := aQ (below_drew1 HB.out)
     clear HO_241007001
     clear BK241001
     clear BK241002
     clear BK241006
     clear HB
     have HO_241007001 := n0_
     have BK241001 := n1_
     have BK241002 := n2_
     have BK241006 := n3_
     have HB := n4_
     clear n0_ n1_ n2_ n3_ n4_
     refine start_ (n := 17) (S := fun w' => True) (ds := []) #[false, false, false, false, false, false, false, false, false, false, false, false, false, false, false, false, false] (by kernel_rfl) rfl rfl trivial (fun hHeld => ?_); refine with_tabW impl_minor.tab7 impl_minor.bits7 (fun HT_ HW_ => ?_)
     generalize wr.drew = w45 at HO_241007001 BK241001 BK241002 BK241006 HB hHeld ⊢
     refine pure_ (i := 0) (N := some 31) (v := ?_) (a' := ?_) #[true, false, false, false, false, false, false, false, false, false, false, false, false, false, false, false, false] rfl rfl (any_of HT_.out (by kernel_rfl)) (fun _ _ _ h => h) (Or.inl ⟨by rfl, ?_⟩) ?_ ?_
     rotate_left
     ·intro w'
      go_simp
      with_reducible rfl
     rotate_left
     ·simp only [Act.put, List.setIfInBounds_toArray, List.set_cons_zero, List.set_cons_succ, i64_w, i32_w]
      rfl
     refine pure_ (i := 2) (N := some 33) (v := ?_) (a' := ?_) #[true, false, true, false, false, false, false, false, false, false, false, false, false, false, false, false, false] rfl rfl (any_of HT_.out (by kernel_rfl)) (fun _ _ _ h => h) (Or.inl ⟨by rfl, ?_⟩) ?_ ?_
     rotate_left
     ·intro w'
      go_simp
      with_reducible rfl
     rotate_left
     ·simp only [Act.put, List.setIfInBounds_toArray, List.set_cons_zero, List.set_cons_succ, i64_w, i32_w]
      rfl
     refine one_ (i := 1) (N := some 32) #[true, true, true, false, false, false, false, false, false, false, false, false, false, false, false, false, false] rfl rfl (one_of HT_.out (by kernel_rfl)) (by decide) (fun K hK => ?_)
     refine goes_ Try.func120 (by kernel_rfl) rfl #[.int .i64 x10_1] (by rfl) rfl rfl (by (try simp only [List.map_toArray, List.map_cons, List.map_nil]); first | done | rfl | (simp only [List.length_drop, List.length_take]; rfl)) ?_
     with_reducible refine (impl_CountOf.calls x10_1 t241008 _ A20.out).mono ?_
     rintro e w' ⟨rfl, ⟨nd, rfl⟩⟩
     refine ⟨_, rfl, ?_⟩
     refine hK.out _ _ trivial (fun hHeld => ?_)
     clear hK K
     refine norm_ (a' := ?_) ?_ ?_
     rotate_left
     ·show Act.put _ (some 32) _ = _
      simp only [Act.put, List.setIfInBounds_toArray, List.set_cons_zero, List.set_cons_succ, i64_w, i32_w]
      rfl
     refine pure_ (i := 3) (N := some 34) (v := ?_) (a' := ?_) #[true, true, true, true, false, false, false, false, false, false, false, false, false, false, false, false, false] rfl rfl (any_of HT_.out (by kernel_rfl)) (fun _ _ _ h => h) (Or.inl ⟨by rfl, ?_⟩) ?_ ?_
     rotate_left
     ·intro w'
      go_simp
      with_reducible rfl
     rotate_left
     ·simp only [Act.put, List.setIfInBounds_toArray, List.set_cons_zero, List.set_cons_succ, i64_w, i32_w]
      rfl
     refine pure_ (i := 4) (N := some 35) (v := ?_) (a' := ?_) #[true, true, true, true, true, false, false, false, false, false, false, false, false, false, false, false, false] rfl rfl (any_of HT_.out (by kernel_rfl)) (fun _ _ _ h => h) (Or.inl ⟨by rfl, ?_⟩) ?_ ?_
     rotate_left
     ·intro w'
      go_simp
      with_reducible rfl
     rotate_left
     ·simp only [Act.put, List.setIfInBounds_toArray, List.set_cons_zero, List.set_cons_succ, i64_w, i32_w]
      rfl
     refine pure_ (i := 5) (N := some 36) (v := undef) (a' := ?_) #[true, true, true, true, true, true, false, false, false, false, false, false, false, false, false, false, false] rfl rfl (any_of HT_.out (by kernel_rfl)) (fun _ _ _ h => h) (Or.inr ⟨by rfl, rfl⟩) ?_ ?_
     rotate_left
     ·simp only [Act.put, List.setIfInBounds_toArray, List.set_cons_zero, List.set_cons_succ, i64_w, i32_w]
      rfl
     refine pure_ (i := 6) (N := some 37) (v := undef) (a' := ?_) #[true, true, true, true, true, true, true, false, false, false, false, false, false, false, false, false, false] rfl rfl (any_of HT_.out (by kernel_rfl)) (fun _ _ _ h => h) (Or.inr ⟨by rfl, rfl⟩) ?_ ?_
     rotate_left
     ·simp only [Act.put, List.setIfInBounds_toArray, List.set_cons_zero, List.set_cons_succ, i64_w, i32_w]
      rfl
     refine pure_ (i := 7) (N := some 38) (v := undef) (a' := ?_) #[true, true, true, true, true, true, true, true, false, false, false, false, false, false, false, false, false] rfl rfl (any_of HT_.out (by kernel_rfl)) (fun _ _ _ h => h) (Or.inr ⟨by rfl, rfl⟩) ?_ ?_
     rotate_left
     ·simp only [Act.put, List.setIfInBounds_toArray, List.set_cons_zero, List.set_cons_succ, i64_w, i32_w]
      rfl
     refine pure_ (i := 8) (N := some 39) (v := undef) (a' := ?_) #[true, true, true, true, true, true, true, true, true, false, false, false, false, false, false, false, false] rfl rfl (any_of HT_.out (by kernel_rfl)) (fun _ _ _ h => h) (Or.inr ⟨by rfl, rfl⟩) ?_ ?_
     rotate_left
     ·simp only [Act.put, List.setIfInBounds_toArray, List.set_cons_zero, List.set_cons_succ, i64_w, i32_w]
      rfl
     refine pure_ (i := 9) (N := some 40) (v := undef) (a' := ?_) #[true, true, true, true, true, true, true, true, true, true, false, false, false, false, false, false, false] rfl rfl (any_of HT_.out (by kernel_rfl)) (fun _ _ _ h => h) (Or.inr ⟨by rfl, rfl⟩) ?_ ?_
     rotate_left
     ·simp only [Act.put, List.setIfInBounds_toArray, List.set_cons_zero, List.set_cons_succ, i64_w, i32_w]
      rfl
     refine pure_ (i := 10) (N := some 41) (v := undef) (a' := ?_) #[true, true, true, true, true, true, true, true, true, true, true, false, false, false, false, false, false] rfl rfl (any_of HT_.out (by kernel_rfl)) (fun _ _ _ h => h) (Or.inr ⟨by rfl, rfl⟩) ?_ ?_
     rotate_left
     ·simp only [Act.put, List.setIfInBounds_toArray, List.set_cons_zero, List.set_cons_succ, i64_w, i32_w]
      rfl
     refine pure_ (i := 11) (N := some 42) (v := undef) (a' := ?_) #[true, true, true, true, true, true, true, true, true, true, true, true, false, false, false, false, false] rfl rfl (any_of HT_.out (by kernel_rfl)) (fun _ _ _ h => h) (Or.inr ⟨by rfl, rfl⟩) ?_ ?_
     rotate_left
     ·simp only [Act.put, List.setIfInBounds_toArray, List.set_cons_zero, List.set_cons_succ, i64_w, i32_w]
      rfl
     refine pure_ (i := 12) (N := some 43) (v := undef) (a' := ?_) #[true, true, true, true, true, true, true, true, true, true, true, true, true, false, false, false, false] rfl rfl (any_of HT_.out (by kernel_rfl)) (fun _ _ _ h => h) (Or.inr ⟨by rfl, rfl⟩) ?_ ?_
     rotate_left
     ·simp only [Act.put, List.setIfInBounds_toArray, List.set_cons_zero, List.set_cons_succ, i64_w, i32_w]
      rfl
     refine pure_ (i := 13) (N := some 44) (v := undef) (a' := ?_) #[true, true, true, true, true, true, true, true, true, true, true, true, true, true, false, false, false] rfl rfl (any_of HT_.out (by kernel_rfl)) (fun _ _ _ h => h) (Or.inr ⟨by rfl, rfl⟩) ?_ ?_
     rotate_left
     ·simp only [Act.put, List.setIfInBounds_toArray, List.set_cons_zero, List.set_cons_succ, i64_w, i32_w]
      rfl
     refine pure_ (i := 14) (N := some 45) (v := undef) (a' := ?_) #[true, true, true, true, true, true, true, true, true, true, true, true, true, true, true, false, false] rfl rfl (any_of HT_.out (by kernel_rfl)) (fun _ _ _ h => h) (Or.inr ⟨by rfl, rfl⟩) ?_ ?_
     rotate_left
     ·simp only [Act.put, List.setIfInBounds_toArray, List.set_cons_zero, List.set_cons_succ, i64_w, i32_w]
      rfl
     refine pure_ (i := 15) (N := some 46) (v := undef) (a' := ?_) #[true, true, true, true, true, true, true, true, true, true, true, true, true, true, true, true, false] rfl rfl (any_of HT_.out (by kernel_rfl)) (fun _ _ _ h => h) (Or.inr ⟨by rfl, rfl⟩) ?_ ?_
     rotate_left
     ·simp only [Act.put, List.setIfInBounds_toArray, List.set_cons_zero, List.set_cons_succ, i64_w, i32_w]
      rfl
     refine pure_ (i := 16) (N := some 47) (v := ?_) (a' := ?_) #[true, true, true, true, true, true, true, true, true, true, true, true, true, true, true, true, true] rfl rfl (any_of HT_.out (by kernel_rfl)) (fun _ _ _ h => h) (Or.inl ⟨by rfl, ?_⟩) ?_ ?_
     rotate_left
     ·intro w'
      go_simp
      with_reducible rfl
     rotate_left
     ·simp only [Act.put, List.setIfInBounds_toArray, List.set_cons_zero, List.set_cons_succ, i64_w, i32_w]
      rfl
     refine done_ (done_of HT_.out (by kernel_rfl)) ?_
     try go_wp2
     go_roundg k1
     case measure => have := HK1.out; omega
     case rel => exact ⟨(wrap64 (x10_1 + 1)), (x241007001_1), (u241007001), (by first | rfl | (simp; done) | (simp [*]; done)), H', ⟨by have := HK1.out; omega⟩, ⟨by (with_reducible repeat (first | apply Kd.R_alloc | apply Kd.R_drewN | apply Kd.R_drew)); exact HO_241007001.out⟩, ⟨by (with_reducible repeat (first | refine blk_drewN ?_ _ | refine blk_drew ?_ | refine blk_alloc ?_ _)); exact BK241001.out⟩, ⟨by (with_reducible repeat (first | refine blk_drewN ?_ _ | refine blk_drew ?_ | refine blk_alloc ?_ _)); exact BK241002.out⟩, ⟨by (with_reducible repeat (first | refine blk_drewN ?_ _ | refine blk_drew ?_ | refine blk_alloc ?_ _)); exact BK241006.out⟩, ⟨by repeat (first | (with_reducible first | exact HB.out | apply below_alloc | apply pw_below_drewN | apply below_drew1 | refine below_set ?_ GE241001.out | refine below_set ?_ GE241002.out | refine below_set ?_ GE241006.out) | exact HB.out)⟩⟩
   ·rw [if_neg c19] at H
    have c19b0 : decide (x10_1 ≤ t241007) = false := decide_eq_false c19
    clear c19
    simp only [Option.some.injEq, Prod.mk.injEq] at H
    obtain ⟨rfl, rfl⟩ := H
    have hnb46 := NB241006_241001.out
    have hnc46 := NB241001_241006.out
    have hnb47 := NB241006_241002.out
    have hnc47 := NB241002_241006.out
    have hcz48_0 : wr.cell? ⟨gb241006, 0, none⟩ = some (.int .i64 t241005) := (blk_cell BK241006.out 0).trans rfl
    have hcz48_1 : wr.cell? ⟨gb241006, 1, none⟩ = some (u241007001) := (blk_cell BK241006.out 1).trans rfl
    have hfz48_0 := blk_frozen BK241006.out 0
    have hfz48_1 := blk_frozen BK241006.out 1
    go_wp2_with (first | ((with_reducible refine gate_callee (f := 122) rfl ?_); refine goesL_ (some 27) rfl rfl Try.func122 (by kernel_rfl) rfl #[.int .i64 t241005] rfl (by (try simp only [List.map_toArray, List.map_cons, List.map_nil]); first | done | rfl | (simp only [List.length_drop, List.length_take]; rfl)) ?_; (with_reducible refine (impl_FullSet.calls t241005 t241007 _ A18.out).mono ?_); rintro e w' ⟨rfl, ⟨nd, rfl⟩⟩; refine ⟨_, rfl, ?_⟩; (try (rw [drewN_self wr]; generalize hq_ : World.drewN wr _ = wr; have n0_ : Aside0 (Kd.R (Kd.int .i64) 3 wr w.heap.size (fun _ => True) u241007001 x241007001_1) := ⟨by rw [← hq_]; exact (by (with_reducible repeat (first | apply Kd.R_alloc | apply Kd.R_drewN | apply Kd.R_drew)); exact HO_241007001.out)⟩; have n1_ : Aside0 (wr.heap[gb241001]? = some (.cells #[.int .i64 a0_0, .slice A0_1 l0_1.length c0_1] 28 (0, 0))) := ⟨by rw [← hq_]; exact (by (with_reducible repeat (first | refine blk_drewN ?_ _ | refine blk_drew ?_ | refine blk_alloc ?_ _)); exact BK241001.out)⟩; have n2_ : Aside0 (wr.heap[gb241002]? = some (.cells #[.int .i64 0, .slice none 0 0] 28 (0, 0))) := ⟨by rw [← hq_]; exact (by (with_reducible repeat (first | refine blk_drewN ?_ _ | refine blk_drew ?_ | refine blk_alloc ?_ _)); exact BK241002.out)⟩; have n3_ : Aside0 (wr.heap[gb241006]? = some (.cells #[.int .i64 t241005, u241007001] 28 (0, 0))) := ⟨by rw [← hq_]; exact (by (with_reducible repeat (first | refine blk_drewN ?_ _ | refine blk_drew ?_ | refine blk_alloc ?_ _)); exact BK241006.out)⟩; have n4_ : Aside0 (Below w.heap.size w wr) := ⟨by rw [← hq_]; exact (by repeat (first | (with_reducible first | exact HB.out | apply below_alloc | apply pw_below_drewN | apply below_drew1 | refine below_set ?_ GE241001.out | refine below_set ?_ GE241002.out | refine below_set ?_ GE241006.out) | exact HB.out))⟩; clear HO_241007001 BK241001 BK241002 BK241006 HB hq_; have HO_241007001 := n0_; have BK241001 := n1_; have BK241002 := n2_; have BK241006 := n3_; have HB := n4_; clear n0_ n1_ n2_ n3_ n4_; have hcqgb241001_0 : wr.cell? ⟨gb241001, 0, none⟩ = some (.int .i64 a0_0) := (blk_cell BK241001.out 0).trans rfl; have hfqgb241001_0 := blk_frozen BK241001.out 0; have hcqgb241001_1 : wr.cell? ⟨gb241001, 1, none⟩ = some (.slice A0_1 l0_1.length c0_1) := (blk_cell BK241001.out 1).trans rfl; have hfqgb241001_1 := blk_frozen BK241001.out 1; have hcqgb241002_0 : wr.cell? ⟨gb241002, 0, none⟩ = some (.int .i64 0) := (blk_cell BK241002.out 0).trans rfl; have hfqgb241002_0 := blk_frozen BK241002.out 0; have hcqgb241002_1 : wr.cell? ⟨gb241002, 1, none⟩ = some (.slice none 0 0) := (blk_cell BK241002.out 1).trans rfl; have hfqgb241002_1 := blk_frozen BK241002.out 1; have hcqgb241006_0 : wr.cell? ⟨gb241006, 0, none⟩ = some (.int .i64 t241005) := (blk_cell BK241006.out 0).trans rfl; have hfqgb241006_0 := blk_frozen BK241006.out 0; have hcqgb241006_1 : wr.cell? ⟨gb241006, 1, none⟩ = some (u241007001) := (blk_cell BK241006.out 1).trans rfl; have hfqgb241006_1 := blk_frozen BK241006.out 1)); have hnb49 := NB241002_241001.out; have hnc49 := NB241001_241002.out; have hcz50_0 : wr.cell? ⟨gb241002, 0, none⟩ = some (.int .i64 0) := (blk_cell BK241002.out 0).trans rfl; have hcz50_1 : wr.cell? ⟨gb241002, 1, none⟩ = some (.slice none 0 0) := (blk_cell BK241002.out 1).trans rfl; have hfz50_0 := blk_frozen BK241002.out 0; have hfz50_1 := blk_frozen BK241002.out 1; obtain ⟨Ao51, co51, eo51⟩ := Kd.R_slice HO_241007001.out; subst eo51))
    refine bodyPost_ret (results_cell_row rfl _ _ gb241002 28 #[.int .i64 t241005, .slice Ao51 x241007001_1.length co51] (0, 0) _ rfl (by (with_reducible repeat (first | refine blk_drewN ?_ _ | refine blk_drew ?_ | refine blk_alloc ?_ _)); refine blk_put (cs := #[.int .i64 t241005, .slice none 0 0]) ?_ 1 _ rfl; (with_reducible repeat (first | refine blk_drewN ?_ _ | refine blk_drew ?_ | refine blk_alloc ?_ _)); refine blk_put (cs := #[.int .i64 0, .slice none 0 0]) ?_ 0 _ rfl; (with_reducible repeat (first | refine blk_drewN ?_ _ | refine blk_drew ?_ | refine blk_alloc ?_ _)); exact BK241002.out) Try.underlying28 rfl (by kernel_rfl)) rfl ?_
    exact ⟨_, by first | rfl | (simp [errW_none, errW_some] <;> rfl) | (simp [*, errW_none, errW_some] <;> rfl), by (with_reducible repeat (first | apply Kd.R_alloc | apply Kd.R_drewN | apply Kd.R_drew)); exact Kd.R_mono (Kd.R_far (p := ⟨gb241002, 1, none⟩) (Kd.R_far (p := ⟨gb241002, 0, none⟩) (Kd.R_types HO_241007001.out BK241002.out (by decide)) (fun _ hk => hk.2) (.int .i64 t241005)) (fun _ hk => hk.2) (.slice Ao51 x241007001_1.length co51)) (fun _ hk => trivial), by repeat (first | (with_reducible first | exact HB.out | apply below_alloc | apply pw_below_drewN | apply below_drew1 | refine below_set ?_ GE241001.out | refine below_set ?_ GE241002.out | refine below_set ?_ GE241006.out) | exact HB.out)⟩
/-! ### impl_DeleteSet: function 173 -/
def impl_DeleteSet.f (k : Nat) (a0_0 : Int) (l0_1 : List Int) (a1 : Int) : Option (Int × List Int) := (impl_knows.f k a0_0 l0_1 a1).bind fun t174003 => (if t174003 = true then ((impl_FullSet.f a0_0).bind fun t174004 => ((impl_minor.f k a0_0 l0_1 (Go.bits .andNot .i64 t174004 a1) 0).bind fun bt174005 => (some (bt174005.1, bt174005.2)))) else (some (0, ([] : List Int))))
theorem impl_DeleteSet.mono : ∀ a0 a1 a2 k, LeO (impl_DeleteSet.f k a0 a1 a2) (impl_DeleteSet.f (k + 1) a0 a1 a2) := by
 intro a0 a1 a2 k
 unfold impl_DeleteSet.f
 repeat' first
   | (with_reducible exact impl_knows.mono _ _ _ _)
   | (with_reducible exact impl_minor.mono _ _ _ _ _)
   | (with_reducible exact LeO.refl _)
   | (with_reducible exact LeO.none _)
   | (with_reducible refine LeO.ite ?_ ?_)
   | (with_reducible refine LeO.bind ?_ (fun _ => ?_))
   | exact impl_knows.mono _ _ _ _
   | exact impl_minor.mono _ _ _ _ _
   | exact LeO.none _
   | refine LeO.ite ?_ ?_
   | refine LeO.bind ?_ (fun _ => ?_)
def impl_DeleteSet.T3 : Bool × List (List Nat × List Nat) := (true, [([], []), ([], []), ([1], [1]), ([2], [2]), ([], []), ([3, 4], [3, 4]), ([0, 5, 3], [0, 5]), ([6, 6, 0, 1, 2, 3, 4, 5, 6], [6])])
def impl_DeleteSet.B3 : List Nat := [0, 0, 2, 6, 0, 30, 63, 127]
theorem impl_DeleteSet.tab3 : rtab .any (opsOf Try.f173 3) = impl_DeleteSet.T3 := by kernel_rfl
theorem impl_DeleteSet.bits3 : waitsOk impl_DeleteSet.T3.2 impl_DeleteSet.B3 = true := by kernel_rfl
set_option maxHeartbeats 8000000 in
set_option maxRecDepth 100000 in
theorem impl_DeleteSet.calls (k : Nat) (a0_0 : Int) (A0_1 : Option Addr) (c0_1 : Nat) (l0_1 : List Int) (a1 : Int) (r1 : Int) (r2 : List Int) (w : World) (hr0_1 : Kd.C (Kd.int .i64) w A0_1 l0_1.length l0_1) (hc0_1 : l0_1.length ≤ c0_1) (h : impl_DeleteSet.f k a0_0 l0_1 a1 = some (r1, r2)) :
  Calls Try.prog 173 #[.agg #[.int .i64 a0_0, .slice A0_1 l0_1.length c0_1], .int .i64 a1] w fun e w' => ∃ v1_ : Value, e = .returned (.agg #[.int .i64 r1, v1_]) ∧ Kd.R (Kd.int .i64) 3 w' w.heap.size (fun _ => True) v1_ r2 ∧ Below w.heap.size w w' := by
 have hu28 := Try.underlying28
 have HR0_1 := aQ hr0_1
 have HC0_1 := aQ hc0_1
 clear hr0_1 hc0_1
 have HB := aQ (Below.refl w.heap.size w)
 have H : ((impl_knows.f k a0_0 l0_1 a1).bind fun t174003 => (if t174003 = true then ((impl_FullSet.f a0_0).bind fun t174004 => ((impl_minor.f k a0_0 l0_1 (Go.bits .andNot .i64 t174004 a1) 0).bind fun bt174005 => (some (bt174005.1, bt174005.2)))) else (some (0, ([] : List Int))))) = some (r1, r2) := h
 clear h
 replace H := Option.bind_eq_some_iff.mp H
 obtain ⟨t174003, A30, H⟩ := H
 replace H : (if t174003 = true then ((impl_FullSet.f a0_0).bind fun t174004 => ((impl_minor.f k a0_0 l0_1 (Go.bits .andNot .i64 t174004 a1) 0).bind fun bt174005 => (some (bt174005.1, bt174005.2)))) else (some (0, ([] : List Int)))) = some (r1, r2) := H
 have A3 := aQ A30
 clear A30
 by_cases c4 : t174003 = true
 ·subst c4
  have H1 : ((impl_FullSet.f a0_0).bind fun t174004 => ((impl_minor.f k a0_0 l0_1 (Go.bits .andNot .i64 t174004 a1) 0).bind fun bt174005 => (some (bt174005.1, bt174005.2)))) = some (r1, r2) := by rw [if_pos rfl] at H; exact H
  clear H
  have H := H1
  clear H1
  replace H := Option.bind_eq_some_iff.mp H
  obtain ⟨t174004, A50, H⟩ := H
  replace H : ((impl_minor.f k a0_0 l0_1 (Go.bits .andNot .i64 t174004 a1) 0).bind fun bt174005 => (some (bt174005.1, bt174005.2))) = some (r1, r2) := H
  have A5 := aQ A50
  clear A50
  replace H := Option.bind_eq_some_iff.mp H
  obtain ⟨⟨t174005, t174006⟩, A60, H⟩ := H
  replace H : (some (t174005, t174006)) = some (r1, r2) := H
  have A6 := aQ A60
  clear A60
  simp only [Option.some.injEq, Prod.mk.injEq] at H
  obtain ⟨rfl, rfl⟩ := H
  go_enter Try.func173, Try.ntmps173
  try go_wp2_with (first | ((with_reducible refine gate_dst (N := 2) rfl ?_); refine box_event ?hg (N := 2) ?hd (cs := #[.int .i64 a0_0, .slice A0_1 l0_1.length c0_1]) (t := 28) ?hr ?_; (case hd => rfl); (case hg => rfl); (case hr => first | (go_simp; done) | (go_simp; rfl)); intro gb174001 hg w7 hbox hb; have BK174001 := aQ (hbox); have GW174001 := aQ ((by rw [hg]; exact (below_size (by repeat (first | (with_reducible first | exact HB.out | apply below_alloc | apply pw_below_drewN | apply below_drew1) | exact HB.out))) : w.heap.size ≤ gb174001)); have GE174001 := aQ ((by rw [hg]; exact (below_size (by repeat (first | (with_reducible first | exact HB.out | apply below_alloc | apply pw_below_drewN | apply below_drew1) | exact HB.out))) : w.heap.size ≤ gb174001)); replace HB := aQ (below_step (by repeat (first | (with_reducible first | exact HB.out | apply below_alloc | apply pw_below_drewN | apply below_drew1) | exact HB.out)) hb); clear hb hbox hg) | ((with_reducible refine gate_dst (N := 4) rfl ?_); refine box_event ?hg (N := 4) ?hd (cs := #[.int .i64 0, .slice none 0 0]) (t := 28) ?hr ?_; (case hd => rfl); (case hg => rfl); (case hr => first | (go_simp; done) | (go_simp; rfl)); intro gb174002 hg w8 hbox hb; have BK174002 := aQ (hbox); have GW174002 := aQ ((by rw [hg]; exact (below_size (by repeat (first | (with_reducible first | exact HB.out | apply below_alloc | apply pw_below_drewN | apply below_drew1 | refine below_set ?_ GE174001.out) | exact HB.out))) : w.heap.size ≤ gb174002)); have GE174002 := aQ ((by rw [hg]; exact (below_size (by repeat (first | (with_reducible first | exact HB.out | apply below_alloc | apply pw_below_drewN | apply below_drew1 | refine below_set ?_ GE174001.out) | exact HB.out))) : w.heap.size ≤ gb174002)); replace HB := aQ (below_step (by repeat (first | (with_reducible first | exact HB.out | apply below_alloc | apply pw_below_drewN | apply below_drew1 | refine below_set ?_ GE174001.out) | exact HB.out)) hb); have NB174001_174002 := aQ ((by rw [hg]; exact Nat.ne_of_lt (blk_lt (g := gb174001) (o := .cells #[.int .i64 a0_0, .slice A0_1 l0_1.length c0_1] 28 (0, 0)) (by (with_reducible repeat (first | refine blk_drewN ?_ _ | refine blk_drew ?_ | refine blk_alloc ?_ _)); exact BK174001.out)) : gb174001 ≠ gb174002)); have NB174002_174001 := aQ ((by rw [hg]; exact Nat.ne_of_gt (blk_lt (g := gb174001) (o := .cells #[.int .i64 a0_0, .slice A0_1 l0_1.length c0_1] 28 (0, 0)) (by (with_reducible repeat (first | refine blk_drewN ?_ _ | refine blk_drew ?_ | refine blk_alloc ?_ _)); exact BK174001.out)) : gb174002 ≠ gb174001)); replace BK174001 := aQ (blk_below (g := gb174001) (o := .cells #[.int .i64 a0_0, .slice A0_1 l0_1.length c0_1] 28 (0, 0)) (by (with_reducible repeat (first | refine blk_drewN ?_ _ | refine blk_drew ?_ | refine blk_alloc ?_ _)); exact BK174001.out) hb); clear hb hbox hg; have hnb9 := NB174001_174002.out; have hnc9 := NB174002_174001.out; have hcz10_0 : w8.cell? ⟨gb174001, 0, none⟩ = some (.int .i64 a0_0) := (blk_cell BK174001.out 0).trans rfl; have hcz10_1 : w8.cell? ⟨gb174001, 1, none⟩ = some (.slice A0_1 l0_1.length c0_1) := (blk_cell BK174001.out 1).trans rfl; have hfz10_0 := blk_frozen BK174001.out 0; have hfz10_1 := blk_frozen BK174001.out 1) | ((with_reducible refine gate_callee (f := 149) rfl ?_); refine goesL_ (some 7) rfl rfl Try.func149 (by kernel_rfl) rfl #[.agg #[.int .i64 a0_0, .slice A0_1 l0_1.length c0_1], .int .i64 a1] rfl (by (try simp only [List.map_toArray, List.map_cons, List.map_nil]); first | done | rfl | (simp only [List.length_drop, List.length_take]; rfl)) ?_; (with_reducible refine (impl_knows.calls k a0_0 _ _ l0_1 a1 true _ ?side1 ?side2 A3.out).mono ?_); (case side1 => repeat (first | exact (Kd.C_below HR0_1.out HB.out) | (with_reducible refine Kd.C_alloc ?_ _) | (with_reducible refine Kd.C_drewN ?_ _) | (with_reducible refine Kd.C_drew ?_))); (case side2 => exact HC0_1.out); rintro e w11 ⟨rfl, hb⟩; refine ⟨_, rfl, ?_⟩; replace BK174001 := aQ (blk_below (g := gb174001) (o := .cells #[.int .i64 a0_0, .slice A0_1 l0_1.length c0_1] 28 (0, 0)) (by (with_reducible repeat (first | refine blk_drewN ?_ _ | refine blk_drew ?_ | refine blk_alloc ?_ _)); exact BK174001.out) hb); replace BK174002 := aQ (blk_below (g := gb174002) (o := .cells #[.int .i64 0, .slice none 0 0] 28 (0, 0)) (by (with_reducible repeat (first | refine blk_drewN ?_ _ | refine blk_drew ?_ | refine blk_alloc ?_ _)); exact BK174002.out) hb); replace HB := aQ (below_step (by repeat (first | (with_reducible first | exact HB.out | apply below_alloc | apply pw_below_drewN | apply below_drew1 | refine below_set ?_ GE174001.out | refine below_set ?_ GE174002.out) | exact HB.out)) hb); (try clear hb); (try clear hb2); (try clear hk); (try clear hi)))
  have n0_ := aQ (blk_drew BK174001.out)
  have n1_ := aQ (blk_drew BK174002.out)
  have n2_ := aQ (below_drew1 HB.out)
  clear BK174001
  clear BK174002
  clear HB
  have BK174001 := n0_
  have BK174002 := n1_
  have HB := n2_
  clear n0_ n1_ n2_
  refine start_ (n := 8) (S := fun w' => w'.cell? ⟨gb174001, 0, none⟩ = some (.int .i64 a0_0) ∧ w'.cell? ⟨gb174001, 1, none⟩ = some (.slice A0_1 l0_1.length c0_1)) (ds := []) #[false, false, false, false, false, false, false, false] (by kernel_rfl) rfl rfl ⟨(blk_cell BK174001.out 0).trans rfl, (blk_cell BK174001.out 1).trans rfl⟩ (fun hHeld => ?_); refine with_tabW impl_DeleteSet.tab3 impl_DeleteSet.bits3 (fun HT_ HW_ => ?_)
  generalize w11.drew = w12 at BK174001 BK174002 HB hHeld ⊢
  refine pure_ (i := 1) (N := some 11) (v := ?_) (a' := ?_) #[false, true, false, false, false, false, false, false] rfl rfl (any_of HT_.out (by kernel_rfl)) (fun _ _ _ h => h) (Or.inl ⟨by rfl, ?_⟩) ?_ ?_
  rotate_left
  ·intro w'
   go_simp
   with_reducible rfl
  rotate_left
  ·simp only [Act.put, List.setIfInBounds_toArray, List.set_cons_zero, List.set_cons_succ, i64_w, i32_w]
   rfl
  refine pure_ (i := 4) (N := some 14) (v := ?_) (a' := ?_) #[false, true, false, false, true, false, false, false] rfl rfl (any_of HT_.out (by kernel_rfl)) (fun _ _ _ h => h) (Or.inl ⟨by rfl, ?_⟩) ?_ ?_
  rotate_left
  ·intro w'
   go_simp
   with_reducible rfl
  rotate_left
  ·simp only [Act.put, List.setIfInBounds_toArray, List.set_cons_zero, List.set_cons_succ, i64_w, i32_w]
   rfl
  refine take_ (i := 0) (N := some 10) (v := ?_) (a' := ?_) #[true, true, false, false, true, false, false, false] rfl rfl (take_ofW HT_.out HW_.out (by kernel_rfl)) (fun _ _ _ h => h) (Or.inl ⟨by rfl, ?_⟩) hHeld ?_ ?_
  rotate_left
  ·rintro w' ⟨s0, s1⟩
   go_simp
   with_reducible rfl
  rotate_left
  ·simp only [Act.put, List.setIfInBounds_toArray, List.set_cons_zero, List.set_cons_succ, i64_w, i32_w]
   rfl
  refine take_ (i := 2) (N := some 12) (v := ?_) (a' := ?_) #[true, true, true, false, true, false, false, false] rfl rfl (take_ofW HT_.out HW_.out (by kernel_rfl)) (fun _ _ _ h => h) (Or.inl ⟨by rfl, ?_⟩) hHeld ?_ ?_
  rotate_left
  ·rintro w' ⟨s0, s1⟩
   go_simp
   with_reducible rfl
  rotate_left
  ·simp only [Act.put, List.setIfInBounds_toArray, List.set_cons_zero, List.set_cons_succ, i64_w, i32_w]
   rfl
  refine one_ (i := 3) (N := some 13) #[true, true, true, true, true, false, false, false] rfl rfl (one_of HT_.out (by kernel_rfl)) (by decide) (fun K hK => ?_)
  refine goes_ Try.func122 (by kernel_rfl) rfl #[.int .i64 a0_0] (by rfl) rfl rfl (by (try simp only [List.map_toArray, List.map_cons, List.map_nil]); first | done | rfl | (simp only [List.length_drop, List.length_take]; rfl)) ?_
  with_reducible refine (impl_FullSet.calls a0_0 t174004 _ A5.out).mono ?_
  rintro e w' ⟨rfl, ⟨nd, rfl⟩⟩
  refine ⟨_, rfl, ?_⟩
  refine hK.out _ _ ⟨(blk_cell BK174001.out 0).trans rfl, (blk_cell BK174001.out 1).trans rfl⟩ (fun hHeld => ?_)
  clear hK K
  refine norm_ (a' := ?_) ?_ ?_
  rotate_left
  ·show Act.put _ (some 13) _ = _
   simp only [Act.put, List.setIfInBounds_toArray, List.set_cons_zero, List.set_cons_succ, i64_w, i32_w]
   rfl
  refine pure_ (i := 5) (N := some 15) (v := ?_) (a' := ?_) #[true, true, true, true, true, true, false, false] rfl rfl (any_of HT_.out (by kernel_rfl)) (fun _ _ _ h => h) (Or.inl ⟨by rfl, ?_⟩) ?_ ?_
  rotate_left
  ·intro w'
   go_simp
   with_reducible rfl
  rotate_left
  ·simp only [Act.put, List.setIfInBounds_toArray, List.set_cons_zero, List.set_cons_succ, i64_w, i32_w]
   rfl
  refine one_ (i := 6) (N := some 16) #[true, true, true, true, true, true, true, false] rfl rfl (one_of HT_.out (by kernel_rfl)) (by decide) (fun K hK => ?_)
  refine goes_ Try.func240 (by kernel_rfl) rfl #[.agg #[.int .i64 a0_0, .slice A0_1 l0_1.length c0_1], .int .i64 (Go.bits .andNot .i64 t174004 a1), .int .i64 0] (by rfl) rfl rfl (by (try simp only [List.map_toArray, List.map_cons, List.map_nil]); first | done | rfl | (simp only [List.length_drop, List.length_take]; rfl)) ?_
  with_reducible refine (impl_minor.calls k a0_0 _ _ l0_1 (Go.bits .andNot .i64 t174004 a1) 0 t174005 t174006 _ ?side1 ?side2 A6.out).mono ?_
  (case side1 => repeat (first | exact (Kd.C_below HR0_1.out (by repeat (first | (with_reducible first | exact HB.out | apply below_alloc | apply pw_below_drewN | apply below_drew1 | refine below_set ?_ GE174001.out | refine below_set ?_ GE174002.out) | exact HB.out))) | (with_reducible refine Kd.C_alloc ?_ _) | (with_reducible refine Kd.C_drewN ?_ _) | (with_reducible refine Kd.C_drew ?_)))
  (case side2 => exact HC0_1.out)
  rintro e w13 ⟨v174007, rfl, ho0, hb⟩
  refine ⟨_, rfl, ?_⟩
  have n0_ := aQ (Kd.R_lower ho0 (below_size (by repeat (first | (with_reducible first | exact HB.out | apply below_alloc | apply pw_below_drewN | apply below_drew1 | refine below_set ?_ GE174001.out | refine below_set ?_ GE174002.out) | exact HB.out))))
  have n1_ := aQ (blk_below (g := gb174001) (o := .cells #[.int .i64 a0_0, .slice A0_1 l0_1.length c0_1] 28 (0, 0)) (by (with_reducible repeat (first | refine blk_drewN ?_ _ | refine blk_drew ?_ | refine blk_alloc ?_ _)); exact BK174001.out) hb)
  have n2_ := aQ (blk_below (g := gb174002) (o := .cells #[.int .i64 0, .slice none 0 0] 28 (0, 0)) (by (with_reducible repeat (first | refine blk_drewN ?_ _ | refine blk_drew ?_ | refine blk_alloc ?_ _)); exact BK174002.out) hb)
  have n3_ := aQ (below_step (by repeat (first | (with_reducible first | exact HB.out | apply below_alloc | apply pw_below_drewN | apply below_drew1 | refine below_set ?_ GE174001.out | refine below_set ?_ GE174002.out) | exact HB.out)) hb)
  clear BK174001
  clear BK174002
  clear HB
  have HO174008 := n0_
  have BK174001 := n1_
  have BK174002 := n2_
  have HB := n3_
  clear n0_ n1_ n2_ n3_
  (try clear hb)
  (try clear hb2)
  (try clear hk)
  (try clear hi)
  (try clear ho0)
  obtain ⟨Ao15, co15, eo15⟩ := Kd.R_slice HO174008.out
  (first | subst eo15 | (injection eo15 with f1_ f2_ f3_; have f4_ := f1_.symm; have f5_ := f3_.symm; clear f1_ f2_ f3_; subst f4_; subst f5_))
  refine hK.out _ _ ⟨(blk_cell BK174001.out 0).trans rfl, (blk_cell BK174001.out 1).trans rfl⟩ (fun hHeld => ?_)
  clear hK K
  refine norm_ (a' := ?_) ?_ ?_
  rotate_left
  ·show Act.put _ (some 16) _ = _
   simp only [Act.put, List.setIfInBounds_toArray, List.set_cons_zero, List.set_cons_succ, i64_w, i32_w]
   rfl
  refine one_ (i := 7) (N := none) #[true, true, true, true, true, true, true, true] rfl rfl (one_of HT_.out (by kernel_rfl)) (by decide) (fun K hK => ?_)
  have hs14 : w13.cell? ⟨gb174002, 0, none⟩ = some (.int .i64 0) := (blk_cell BK174002.out 0).trans rfl
  have hfs14 := blk_frozen BK174002.out 0
  have hns14_0 := NB174001_174002.out
  have hms14_0 := NB174002_174001.out
  have hs16 : w13.cell? ⟨gb174002, 1, none⟩ = some (.slice none 0 0) := (blk_cell BK174002.out 1).trans rfl
  have hfs16 := blk_frozen BK174002.out 1
  have hns16_0 := NB174001_174002.out
  have hms16_0 := NB174002_174001.out
  refine skip_ (w1 := ?_) (by rfl) rfl ?_ ?_
  rotate_left
  ·go_simp
   rfl
  refine hK.out _ _ ⟨((cell_far (p := ⟨gb174002, _, none⟩) NB174001_174002.out _).trans (((cell_far (p := ⟨gb174002, _, none⟩) NB174001_174002.out _).trans (hHeld.1)))), ((cell_far (p := ⟨gb174002, _, none⟩) NB174001_174002.out _).trans (((cell_far (p := ⟨gb174002, _, none⟩) NB174001_174002.out _).trans (hHeld.2))))⟩ (fun hHeld => ?_)
  clear hK K
  refine done_ (done_of HT_.out (by kernel_rfl)) ?_
  try go_wp2
  refine bodyPost_ret (results_cell_row rfl _ _ gb174002 28 #[.int .i64 t174005, .slice Ao15 t174006.length co15] (0, 0) _ rfl (by (with_reducible repeat (first | refine blk_drewN ?_ _ | refine blk_drew ?_ | refine blk_alloc ?_ _)); refine blk_put (cs := #[.int .i64 t174005, .slice none 0 0]) ?_ 1 _ rfl; (with_reducible repeat (first | refine blk_drewN ?_ _ | refine blk_drew ?_ | refine blk_alloc ?_ _)); refine blk_put (cs := #[.int .i64 0, .slice none 0 0]) ?_ 0 _ rfl; (with_reducible repeat (first | refine blk_drewN ?_ _ | refine blk_drew ?_ | refine blk_alloc ?_ _)); exact BK174002.out) Try.underlying28 rfl (by kernel_rfl)) rfl ?_
  exact ⟨_, by first | rfl | (simp [errW_none, errW_some] <;> rfl) | (simp [*, errW_none, errW_some] <;> rfl), by (with_reducible repeat (first | apply Kd.R_alloc | apply Kd.R_drewN | apply Kd.R_drew)); exact Kd.R_mono (Kd.R_far (p := ⟨gb174002, 1, none⟩) (Kd.R_far (p := ⟨gb174002, 0, none⟩) (Kd.R_types HO174008.out BK174002.out (by decide)) (fun _ hk => hk.2) (.int .i64 t174005)) (fun _ hk => hk.2) (.slice Ao15 t174006.length co15)) (fun _ hk => trivial), by repeat (first | (with_reducible first | exact HB.out | apply below_alloc | apply pw_below_drewN | apply below_drew1 | refine below_set ?_ GE174001.out | refine below_set ?_ GE174002.out) | exact HB.out)⟩
 ·replace c4 := Bool.eq_false_iff.mpr c4
  subst c4
  have H1 : (some (0, ([] : List Int))) = some (r1, r2) := by rw [if_neg (show ¬ (false = true) by decide)] at H; exact H
  clear H
  have H := H1
  clear H1
  simp only [Option.some.injEq, Prod.mk.injEq] at H
  obtain ⟨rfl, rfl⟩ := H
  go_enter Try.func173, Try.ntmps173
  go_wp2_with (first | ((with_reducible refine gate_dst (N := 2) rfl ?_); refine box_event ?hg (N := 2) ?hd (cs := #[.int .i64 a0_0, .slice A0_1 l0_1.length c0_1]) (t := 28) ?hr ?_; (case hd => rfl); (case hg => rfl); (case hr => first | (go_simp; done) | (go_simp; rfl)); intro gb174001 hg w17 hbox hb; have BK174001 := aQ (hbox); have GW174001 := aQ ((by rw [hg]; exact (below_size (by repeat (first | (with_reducible first | exact HB.out | apply below_alloc | apply pw_below_drewN | apply below_drew1) | exact HB.out))) : w.heap.size ≤ gb174001)); have GE174001 := aQ ((by rw [hg]; exact (below_size (by repeat (first | (with_reducible first | exact HB.out | apply below_alloc | apply pw_below_drewN | apply below_drew1) | exact HB.out))) : w.heap.size ≤ gb174001)); replace HB := aQ (below_step (by repeat (first | (with_reducible first | exact HB.out | apply below_alloc | apply pw_below_drewN | apply below_drew1) | exact HB.out)) hb); clear hb hbox hg) | ((with_reducible refine gate_dst (N := 4) rfl ?_); refine box_event ?hg (N := 4) ?hd (cs := #[.int .i64 0, .slice none 0 0]) (t := 28) ?hr ?_; (case hd => rfl); (case hg => rfl); (case hr => first | (go_simp; done) | (go_simp; rfl)); intro gb174002 hg w18 hbox hb; have BK174002 := aQ (hbox); have GW174002 := aQ ((by rw [hg]; exact (below_size (by repeat (first | (with_reducible first | exact HB.out | apply below_alloc | apply pw_below_drewN | apply below_drew1 | refine below_set ?_ GE174001.out) | exact HB.out))) : w.heap.size ≤ gb174002)); have GE174002 := aQ ((by rw [hg]; exact (below_size (by repeat (first | (with_reducible first | exact HB.out | apply below_alloc | apply pw_below_drewN | apply below_drew1 | refine below_set ?_ GE174001.out) | exact HB.out))) : w.heap.size ≤ gb174002)); replace HB := aQ (below_step (by repeat (first | (with_reducible first | exact HB.out | apply below_alloc | apply pw_below_drewN | apply below_drew1 | refine below_set ?_ GE174001.out) | exact HB.out)) hb); have NB174001_174002 := aQ ((by rw [hg]; exact Nat.ne_of_lt (blk_lt (g := gb174001) (o := .cells #[.int .i64 a0_0, .slice A0_1 l0_1.length c0_1] 28 (0, 0)) (by (with_reducible repeat (first | refine blk_drewN ?_ _ | refine blk_drew ?_ | refine blk_alloc ?_ _)); exact BK174001.out)) : gb174001 ≠ gb174002)); have NB174002_174001 := aQ ((by rw [hg]; exact Nat.ne_of_gt (blk_lt (g := gb174001) (o := .cells #[.int .i64 a0_0, .slice A0_1 l0_1.length c0_1] 28 (0, 0)) (by (with_reducible repeat (first | refine blk_drewN ?_ _ | refine blk_drew ?_ | refine blk_alloc ?_ _)); exact BK174001.out)) : gb174002 ≠ gb174001)); replace BK174001 := aQ (blk_below (g := gb174001) (o := .cells #[.int .i64 a0_0, .slice A0_1 l0_1.length c0_1] 28 (0, 0)) (by (with_reducible repeat (first | refine blk_drewN ?_ _ | refine blk_drew ?_ | refine blk_alloc ?_ _)); exact BK174001.out) hb); clear hb hbox hg; have hnb19 := NB174001_174002.out; have hnc19 := NB174002_174001.out; have hcz20_0 : w18.cell? ⟨gb174001, 0, none⟩ = some (.int .i64 a0_0) := (blk_cell BK174001.out 0).trans rfl; have hcz20_1 : w18.cell? ⟨gb174001, 1, none⟩ = some (.slice A0_1 l0_1.length c0_1) := (blk_cell BK174001.out 1).trans rfl; have hfz20_0 := blk_frozen BK174001.out 0; have hfz20_1 := blk_frozen BK174001.out 1) | ((with_reducible refine gate_callee (f := 149) rfl ?_); refine goesL_ (some 7) rfl rfl Try.func149 (by kernel_rfl) rfl #[.agg #[.int .i64 a0_0, .slice A0_1 l0_1.length c0_1], .int .i64 a1] rfl (by (try simp only [List.map_toArray, List.map_cons, List.map_nil]); first | done | rfl | (simp only [List.length_drop, List.length_take]; rfl)) ?_; (with_reducible refine (impl_knows.calls k a0_0 _ _ l0_1 a1 false _ ?side1 ?side2 A3.out).mono ?_); (case side1 => repeat (first | exact (Kd.C_below HR0_1.out HB.out) | (with_reducible refine Kd.C_alloc ?_ _) | (with_reducible refine Kd.C_drewN ?_ _) | (with_reducible refine Kd.C_drew ?_))); (case side2 => exact HC0_1.out); rintro e w21 ⟨rfl, hb⟩; refine ⟨_, rfl, ?_⟩; replace BK174001 := aQ (blk_below (g := gb174001) (o := .cells #[.int .i64 a0_0, .slice A0_1 l0_1.length c0_1] 28 (0, 0)) (by (with_reducible repeat (first | refine blk_drewN ?_ _ | refine blk_drew ?_ | refine blk_alloc ?_ _)); exact BK174001.out) hb); replace BK174002 := aQ (blk_below (g := gb174002) (o := .cells #[.int .i64 0, .slice none 0 0] 28 (0, 0)) (by (with_reducible repeat (first | refine blk_drewN ?_ _ | refine blk_drew ?_ | refine blk_alloc ?_ _)); exact BK174002.out) hb); replace HB := aQ (below_step (by repeat (first | (with_reducible first | exact HB.out | apply below_alloc | apply pw_below_drewN | apply below_drew1 | refine below_set ?_ GE174001.out | refine below_set ?_ GE174002.out) | exact HB.out)) hb); (try clear hb); (try clear hb2); (try clear hk); (try clear hi); have hcz22_0 : w21.cell? ⟨gb174002, 0, none⟩ = some (.int .i64 0) := (blk_cell BK174002.out 0).trans rfl; have hcz22_1 : w21.cell? ⟨gb174002, 1, none⟩ = some (.slice none 0 0) := (blk_cell BK174002.out 1).trans rfl; have hfz22_0 := blk_frozen BK174002.out 0; have hfz22_1 := blk_frozen BK174002.out 1))
  refine bodyPost_ret (results_cell_row rfl _ _ gb174002 28 #[.int .i64 0, .slice none 0 0] (0, 0) _ rfl (by (with_reducible repeat (first | refine blk_drewN ?_ _ | refine blk_drew ?_ | refine blk_alloc ?_ _)); refine blk_put (cs := #[.int .i64 0, .slice none 0 0]) ?_ 1 _ rfl; (with_reducible repeat (first | refine blk_drewN ?_ _ | refine blk_drew ?_ | refine blk_alloc ?_ _)); refine blk_put (cs := #[.int .i64 0, .slice none 0 0]) ?_ 0 _ rfl; (with_reducible repeat (first | refine blk_drewN ?_ _ | refine blk_drew ?_ | refine blk_alloc ?_ _)); exact BK174002.out) Try.underlying28 rfl (by kernel_rfl)) rfl ?_
  exact ⟨_, by first | rfl | (simp [errW_none, errW_some] <;> rfl) | (simp [*, errW_none, errW_some] <;> rfl), by first | exact Kd.R_nil _ _ _ _ _ | exact Kd.N_nil _ _ _ _ _ | exact Kd.V_nil _ _ _ _ _ | exact Kd.Q_nil _ _ _ _ _ | exact Kd.S_nil _ _ _ _ _, by repeat (first | (with_reducible first | exact HB.out | apply below_alloc | apply pw_below_drewN | apply below_drew1 | refine below_set ?_ GE174001.out | refine below_set ?_ GE174002.out) | exact HB.out)⟩
/-! ### impl_CutOf: function 79 -/
mutual
def impl_CutOf.j0 : Nat → Bool → Int → List Int → Option (List Int)
 | 0, _, _, _ => none
 | k + 1, x14, x80002000, x80002001 => if x14 = true then (some ([] : List Int)) else (if 0 ≤ (wrap64 (x80002000 - 1)) then ((impl_DeleteSet.f k x80002000 x80002001 (shl .i64 1 (wrap64 (x80002000 - 1)))).bind fun bt80006 => ((impl_flatsIn.f k bt80006.1 bt80006.2).bind fun t80010 => (impl_CutOf.l0 k (shl .i64 1 (wrap64 (x80002000 - 1))) (([] : List Int)) t80010 (t80010.length : Int) 0 x80002000 x80002001))) else (none))
def impl_CutOf.l0 : Nat → Int → List Int → List Int → Int → Int → Int → List Int → Option (List Int)
 | 0, _, _, _, _, _, _, _ => none
 | k + 1, x3, x4, x23, x24, x25, x80002000, x80002001 => if x25 < x24 then (if 0 ≤ x25 then (if x25 < (x23.length : Int) then ((impl_rankIn.f k x80002000 x80002001 (rd x23 x25)).bind fun t80014 => ((impl_rankIn.f k x80002000 x80002001 (Go.bits .or .i64 (rd x23 x25) x3)).bind fun t80015 => (if t80014 = t80015 then (if x4.length < 17592186044416 then (impl_CutOf.l0 k x3 (x4 ++ [rd x23 x25]) x23 x24 (wrap64 (x25 + 1)) x80002000 x80002001) else (none)) else (impl_CutOf.l0 k x3 x4 x23 x24 (wrap64 (x25 + 1)) x80002000 x80002001)))) else (none)) else (none)) else (some x4)
end
def impl_CutOf.f (k : Nat) (a0_0 : Int) (l0_1 : List Int) : Option (List Int) := (impl_IsMatroid.f k a0_0 l0_1).bind fun t80002 => (if t80002 = true then (impl_CutOf.j0 k (a0_0 == 0) a0_0 l0_1) else (impl_CutOf.j0 k true a0_0 l0_1))
theorem impl_CutOf.mono_l : ∀ k, (∀ y0 y1 y2, LeO (impl_CutOf.j0 k y0 y1 y2) (impl_CutOf.j0 (k + 1) y0 y1 y2)) ∧ (∀ y0 y1 y2 y3 y4 y5 y6, LeO (impl_CutOf.l0 k y0 y1 y2 y3 y4 y5 y6) (impl_CutOf.l0 (k + 1) y0 y1 y2 y3 y4 y5 y6))
 | 0 => ⟨fun _ _ _ r h => by simp [impl_CutOf.j0] at h, fun _ _ _ _ _ _ _ r h => by simp [impl_CutOf.l0] at h⟩
 | k + 1 => by
  obtain ⟨ih0, ih1⟩ := impl_CutOf.mono_l k
  refine ⟨?_, ?_⟩
  ·intro y0 y1 y2
   unfold impl_CutOf.j0
   repeat' first
   | (with_reducible exact ih0 _ _ _)
   | (with_reducible exact ih1 _ _ _ _ _ _ _)
   | (with_reducible exact impl_DeleteSet.mono _ _ _ _)
   | (with_reducible exact impl_IsMatroid.mono _ _ _)
   | (with_reducible exact impl_flatsIn.mono _ _ _)
   | (with_reducible exact impl_rankIn.mono _ _ _ _)
   | (with_reducible exact LeO.refl _)
   | (with_reducible exact LeO.none _)
   | (with_reducible refine LeO.ite ?_ ?_)
   | (with_reducible refine LeO.bind ?_ (fun _ => ?_))
   | exact ih0 _ _ _
   | exact ih1 _ _ _ _ _ _ _
   | exact impl_DeleteSet.mono _ _ _ _
   | exact impl_IsMatroid.mono _ _ _
   | exact impl_flatsIn.mono _ _ _
   | exact impl_rankIn.mono _ _ _ _
   | exact LeO.none _
   | refine LeO.ite ?_ ?_
   | refine LeO.bind ?_ (fun _ => ?_)
  ·intro y0 y1 y2 y3 y4 y5 y6
   unfold impl_CutOf.l0
   repeat' first
   | (with_reducible exact ih0 _ _ _)
   | (with_reducible exact ih1 _ _ _ _ _ _ _)
   | (with_reducible exact impl_DeleteSet.mono _ _ _ _)
   | (with_reducible exact impl_IsMatroid.mono _ _ _)
   | (with_reducible exact impl_flatsIn.mono _ _ _)
   | (with_reducible exact impl_rankIn.mono _ _ _ _)
   | (with_reducible exact LeO.refl _)
   | (with_reducible exact LeO.none _)
   | (with_reducible refine LeO.ite ?_ ?_)
   | (with_reducible refine LeO.bind ?_ (fun _ => ?_))
   | exact ih0 _ _ _
   | exact ih1 _ _ _ _ _ _ _
   | exact impl_DeleteSet.mono _ _ _ _
   | exact impl_IsMatroid.mono _ _ _
   | exact impl_flatsIn.mono _ _ _
   | exact impl_rankIn.mono _ _ _ _
   | exact LeO.none _
   | refine LeO.ite ?_ ?_
   | refine LeO.bind ?_ (fun _ => ?_)
theorem impl_CutOf.mono : ∀ a0 a1 k, LeO (impl_CutOf.f k a0 a1) (impl_CutOf.f (k + 1) a0 a1) := by
 intro a0 a1 k
 obtain ⟨ih0, ih1⟩ := impl_CutOf.mono_l k
 unfold impl_CutOf.f
 repeat' first
   | (with_reducible exact ih0 _ _ _)
   | (with_reducible exact ih1 _ _ _ _ _ _ _)
   | (with_reducible exact impl_DeleteSet.mono _ _ _ _)
   | (with_reducible exact impl_IsMatroid.mono _ _ _)
   | (with_reducible exact impl_flatsIn.mono _ _ _)
   | (with_reducible exact impl_rankIn.mono _ _ _ _)
   | (with_reducible exact LeO.refl _)
   | (with_reducible exact LeO.none _)
   | (with_reducible refine LeO.ite ?_ ?_)
   | (with_reducible refine LeO.bind ?_ (fun _ => ?_))
   | exact ih0 _ _ _
   | exact ih1 _ _ _ _ _ _ _
   | exact impl_DeleteSet.mono _ _ _ _
   | exact impl_IsMatroid.mono _ _ _
   | exact impl_flatsIn.mono _ _ _
   | exact impl_rankIn.mono _ _ _ _
   | exact LeO.none _
   | refine LeO.ite ?_ ?_
   | refine LeO.bind ?_ (fun _ => ?_)
def impl_CutOf.T8 : Bool × List (List Nat × List Nat) := (true, [([], []), ([], []), ([0, 1], [0, 1]), ([], []), ([], []), ([], []), ([4, 5], [4, 5]), ([3, 6, 2], [3, 6]), ([2, 7], [2, 7])])
def impl_CutOf.B8 : List Nat := [0, 0, 3, 0, 0, 0, 48, 127, 255]
theorem impl_CutOf.tab8 : rtab .any (opsOf Try.f79 8) = impl_CutOf.T8 := by kernel_rfl
theorem impl_CutOf.bits8 : waitsOk impl_CutOf.T8.2 impl_CutOf.B8 = true := by kernel_rfl
set_option maxHeartbeats 8000000 in
set_option maxRecDepth 100000 in
theorem impl_CutOf.calls (k : Nat) (a0_0 : Int) (A0_1 : Option Addr) (c0_1 : Nat) (l0_1 : List Int) (r : List Int) (w : World) (hr0_1 : Kd.C (Kd.int .i64) w A0_1 l0_1.length l0_1) (hc0_1 : l0_1.length ≤ c0_1) (h : impl_CutOf.f k a0_0 l0_1 = some r) :
  Calls Try.prog 79 #[.agg #[.int .i64 a0_0, .slice A0_1 l0_1.length c0_1]] w fun e w' => ∃ v0_ : Value, e = .returned (v0_) ∧ Kd.R (Kd.int .i64) 3 w' w.heap.size (fun _ => True) v0_ r ∧ Below w.heap.size w w' := by
 have hu28 := Try.underlying28
 have HR0_1 := aQ hr0_1
 have HC0_1 := aQ hc0_1
 clear hr0_1 hc0_1
 have HB := aQ (Below.refl w.heap.size w)
 have H : ((impl_IsMatroid.f k a0_0 l0_1).bind fun t80002 => (if t80002 = true then (impl_CutOf.j0 k (a0_0 == 0) a0_0 l0_1) else (impl_CutOf.j0 k true a0_0 l0_1))) = some r := h
 clear h
 have HC2 := aQ H
 clear H
 go_enter Try.func79, Try.ntmps79
 go_upto_region 1 with (first | ((with_reducible refine gate_dst (N := 1) rfl ?_); refine box_event ?hg (N := 1) ?hd (cs := #[.int .i64 a0_0, .slice A0_1 l0_1.length c0_1]) (t := 28) ?hr ?_; (case hd => rfl); (case hg => rfl); (case hr => first | (go_simp; done) | (go_simp; rfl)); intro gb80001 hg w3 hbox hb; have BK80001 := aQ (hbox); have GW80001 := aQ ((by rw [hg]; exact (below_size (by repeat (first | (with_reducible first | exact HB.out | apply below_alloc | apply pw_below_drewN | apply below_drew1) | exact HB.out))) : w.heap.size ≤ gb80001)); have GE80001 := aQ ((by rw [hg]; exact (below_size (by repeat (first | (with_reducible first | exact HB.out | apply below_alloc | apply pw_below_drewN | apply below_drew1) | exact HB.out))) : w.heap.size ≤ gb80001)); replace HB := aQ (below_step (by repeat (first | (with_reducible first | exact HB.out | apply below_alloc | apply pw_below_drewN | apply below_drew1) | exact HB.out)) hb); clear hb hbox hg))
 (try simp only [Act.put, List.setIfInBounds_toArray, List.set_cons_zero, List.set_cons_succ])
 go_cut [14] (fun v14 wc => ∃ (kq : Nat) (x14_1 : Bool), v14 = .bool x14_1 ∧ Aside0 (impl_CutOf.j0 kq x14_1 a0_0 l0_1 = some r) ∧ Aside0 (kq ≤ k) ∧ Aside0 (wc.heap[gb80001]? = some (.cells #[.int .i64 a0_0, (.slice A0_1 l0_1.length c0_1)] 28 (0, 0))) ∧ Aside0 (Below w.heap.size w wc))
 case first =>
  have H := HC2.out
  clear HC2
  replace H := Option.bind_eq_some_iff.mp H
  obtain ⟨t80002, A40, H⟩ := H
  replace H : (if t80002 = true then (impl_CutOf.j0 k (a0_0 == 0) a0_0 l0_1) else (impl_CutOf.j0 k true a0_0 l0_1)) = some r := H
  have A4 := aQ A40
  clear A40
  by_cases c5 : t80002 = true
  ·subst c5
   have H1 : (impl_CutOf.j0 k (a0_0 == 0) a0_0 l0_1) = some r := by rw [if_pos rfl] at H; exact H
   clear H
   have H := H1
   clear H1
   have H' := aQ H
   clear H
   have hcz6_0 : w3.cell? ⟨gb80001, 0, none⟩ = some (.int .i64 a0_0) := (blk_cell BK80001.out 0).trans rfl
   have hcz6_1 : w3.cell? ⟨gb80001, 1, none⟩ = some (.slice A0_1 l0_1.length c0_1) := (blk_cell BK80001.out 1).trans rfl
   have hfz6_0 := blk_frozen BK80001.out 0
   have hfz6_1 := blk_frozen BK80001.out 1
   go_wp2_with (first | ((with_reducible refine gate_callee (f := 132) rfl ?_); refine goesL_ (some 8) rfl rfl Try.func132 (by kernel_rfl) rfl #[.agg #[.int .i64 a0_0, .slice A0_1 l0_1.length c0_1]] rfl (by (try simp only [List.map_toArray, List.map_cons, List.map_nil]); first | done | rfl | (simp only [List.length_drop, List.length_take]; rfl)) ?_; (with_reducible refine (impl_IsMatroid.calls k a0_0 _ _ l0_1 true _ ?side1 ?side2 A4.out).mono ?_); (case side1 => repeat (first | exact (Kd.C_below HR0_1.out HB.out) | (with_reducible refine Kd.C_alloc ?_ _) | (with_reducible refine Kd.C_drewN ?_ _) | (with_reducible refine Kd.C_drew ?_))); (case side2 => exact HC0_1.out); rintro e w7 ⟨rfl, hb⟩; refine ⟨_, rfl, ?_⟩; replace BK80001 := aQ (blk_below (g := gb80001) (o := .cells #[.int .i64 a0_0, .slice A0_1 l0_1.length c0_1] 28 (0, 0)) (by (with_reducible repeat (first | refine blk_drewN ?_ _ | refine blk_drew ?_ | refine blk_alloc ?_ _)); exact BK80001.out) hb); replace HB := aQ (below_step (by repeat (first | (with_reducible first | exact HB.out | apply below_alloc | apply pw_below_drewN | apply below_drew1 | refine below_set ?_ GE80001.out) | exact HB.out)) hb); (try clear hb); (try clear hb2); (try clear hk); (try clear hi); have hcz8_0 : w7.cell? ⟨gb80001, 0, none⟩ = some (.int .i64 a0_0) := (blk_cell BK80001.out 0).trans rfl; have hcz8_1 : w7.cell? ⟨gb80001, 1, none⟩ = some (.slice A0_1 l0_1.length c0_1) := (blk_cell BK80001.out 1).trans rfl; have hfz8_0 := blk_frozen BK80001.out 0; have hfz8_1 := blk_frozen BK80001.out 1))
   go_meet
   case rel => exact ⟨_, ((a0_0 == 0)), (by first | rfl | (simp; done) | (simp [*]; done)), H', ⟨by first | omega | exact Nat.le_refl _⟩, ⟨by (with_reducible repeat (first | refine blk_drewN ?_ _ | refine blk_drew ?_ | refine blk_alloc ?_ _)); exact BK80001.out⟩, ⟨by repeat (first | (with_reducible first | exact HB.out | apply below_alloc | apply pw_below_drewN | apply below_drew1 | refine below_set ?_ GE80001.out) | exact HB.out)⟩⟩
  ·replace c5 := Bool.eq_false_iff.mpr c5
   subst c5
   have H1 : (impl_CutOf.j0 k true a0_0 l0_1) = some r := by rw [if_neg (show ¬ (false = true) by decide)] at H; exact H
   clear H
   have H := H1
   clear H1
   have H' := aQ H
   clear H
   have hcz9_0 : w3.cell? ⟨gb80001, 0, none⟩ = some (.int .i64 a0_0) := (blk_cell BK80001.out 0).trans rfl
   have hcz9_1 : w3.cell? ⟨gb80001, 1, none⟩ = some (.slice A0_1 l0_1.length c0_1) := (blk_cell BK80001.out 1).trans rfl
   have hfz9_0 := blk_frozen BK80001.out 0
   have hfz9_1 := blk_frozen BK80001.out 1
   go_wp2_with (first | ((with_reducible refine gate_callee (f := 132) rfl ?_); refine goesL_ (some 8) rfl rfl Try.func132 (by kernel_rfl) rfl #[.agg #[.int .i64 a0_0, .slice A0_1 l0_1.length c0_1]] rfl (by (try simp only [List.map_toArray, List.map_cons, List.map_nil]); first | done | rfl | (simp only [List.length_drop, List.length_take]; rfl)) ?_; (with_reducible refine (impl_IsMatroid.calls k a0_0 _ _ l0_1 false _ ?side1 ?side2 A4.out).mono ?_); (case side1 => repeat (first | exact (Kd.C_below HR0_1.out HB.out) | (with_reducible refine Kd.C_alloc ?_ _) | (with_reducible refine Kd.C_drewN ?_ _) | (with_reducible refine Kd.C_drew ?_))); (case side2 => exact HC0_1.out); rintro e w10 ⟨rfl, hb⟩; refine ⟨_, rfl, ?_⟩; replace BK80001 := aQ (blk_below (g := gb80001) (o := .cells #[.int .i64 a0_0, .slice A0_1 l0_1.length c0_1] 28 (0, 0)) (by (with_reducible repeat (first | refine blk_drewN ?_ _ | refine blk_drew ?_ | refine blk_alloc ?_ _)); exact BK80001.out) hb); replace HB := aQ (below_step (by repeat (first | (with_reducible first | exact HB.out | apply below_alloc | apply pw_below_drewN | apply below_drew1 | refine below_set ?_ GE80001.out) | exact HB.out)) hb); (try clear hb); (try clear hb2); (try clear hk); (try clear hi)))
   go_meet
   case rel => exact ⟨_, (true), (by first | rfl | (simp; done) | (simp [*]; done)), H', ⟨by first | omega | exact Nat.le_refl _⟩, ⟨by (with_reducible repeat (first | refine blk_drewN ?_ _ | refine blk_drew ?_ | refine blk_alloc ?_ _)); exact BK80001.out⟩, ⟨by repeat (first | (with_reducible first | exact HB.out | apply below_alloc | apply pw_below_drewN | apply below_drew1 | refine below_set ?_ GE80001.out) | exact HB.out)⟩⟩
 case rest =>
  clear HC2
  try clear c1
  try clear p2
  try clear c5
  try clear c7
  try clear hcz6_0
  try clear hcz6_1
  try clear hcz8_0
  try clear hcz8_1
  try clear hcz9_0
  try clear hcz9_1
  try clear hfz6_0
  try clear hfz6_1
  try clear hfz8_0
  try clear hfz8_1
  try clear hfz9_0
  try clear hfz9_1
  obtain ⟨kq, x14_1, rfl, HA, HJ1, BK80001, HB⟩ := hcut
  cases kq with
  | zero => exact absurd HA.out (by simp [impl_CutOf.j0])
  | succ kj1 =>
   have H := HA.out
   clear HA
   simp only [impl_CutOf.j0] at H
   by_cases c11 : x14_1 = true
   ·subst c11
    have H1 : (some ([] : List Int)) = some r := by rw [if_pos rfl] at H; exact H
    clear H
    have H := H1
    clear H1
    obtain rfl := Option.some.inj H
    go_wp2
    go_ret
    exact ⟨_, by first | rfl | (simp [errW_none, errW_some] <;> rfl) | (simp [*, errW_none, errW_some] <;> rfl), by first | exact Kd.R_nil _ _ _ _ _ | exact Kd.N_nil _ _ _ _ _ | exact Kd.V_nil _ _ _ _ _ | exact Kd.Q_nil _ _ _ _ _ | exact Kd.S_nil _ _ _ _ _, by repeat (first | (with_reducible first | exact HB.out | apply below_alloc | apply pw_below_drewN | apply below_drew1 | refine below_set ?_ GE80001.out) | exact HB.out)⟩
   ·replace c11 := Bool.eq_false_iff.mpr c11
    subst c11
    have H1 : (if 0 ≤ (wrap64 (a0_0 - 1)) then ((impl_DeleteSet.f kj1 a0_0 l0_1 (shl .i64 1 (wrap64 (a0_0 - 1)))).bind fun bt80006 => ((impl_flatsIn.f kj1 bt80006.1 bt80006.2).bind fun t80010 => (impl_CutOf.l0 kj1 (shl .i64 1 (wrap64 (a0_0 - 1))) (([] : List Int)) t80010 (t80010.length : Int) 0 a0_0 l0_1))) else (none)) = some r := by rw [if_neg (show ¬ (false = true) by decide)] at H; exact H
    clear H
    have H := H1
    clear H1
    obtain ⟨ji12, hji12⟩ : ∃ j_ : Int, (wrap64 (a0_0 - 1)) = j_ := ⟨_, rfl⟩
    replace H : (if 0 ≤ (ji12) then ((impl_DeleteSet.f kj1 a0_0 l0_1 (shl .i64 1 (ji12))).bind fun bt80006 => ((impl_flatsIn.f kj1 bt80006.1 bt80006.2).bind fun t80010 => (impl_CutOf.l0 kj1 (shl .i64 1 (ji12)) (([] : List Int)) t80010 (t80010.length : Int) 0 a0_0 l0_1))) else (none)) = some r := by first | (rw [hji12] at H; exact H) | (simp only [hji12] at H ⊢; exact H)
    have hji12w : (IntKind.i64.wrap (a0_0 - 1)) = ji12 := (i64_w _).trans hji12
    by_cases c13 : 0 ≤ (ji12)
    ·rw [if_pos c13] at H
     have c13b0 := eq_true c13
     have c13b1 : decide (0 ≤ (ji12)) = true := decide_eq_true c13
     clear c13
     obtain ⟨ji14, hji14⟩ : ∃ j_ : Int, (shl .i64 1 (ji12)) = j_ := ⟨_, rfl⟩
     replace H : ((impl_DeleteSet.f kj1 a0_0 l0_1 (ji14)).bind fun bt80006 => ((impl_flatsIn.f kj1 bt80006.1 bt80006.2).bind fun t80010 => (impl_CutOf.l0 kj1 ji14 (([] : List Int)) t80010 (t80010.length : Int) 0 a0_0 l0_1))) = some r := by first | (rw [hji14] at H; exact H) | (simp only [hji14] at H ⊢; exact H)
     have hji14_ : (IntKind.i64.wrap (1 * 2 ^ min (ji12).toNat 64)) = ji14 := hji14
     have hji14z : (ji12) ≤ 64 → (IntKind.i64.wrap (1 * 2 ^ (ji12).toNat)) = ji14 := shl_small hji14
     have hji14u : (IntKind.i64.wrap (2 ^ min (ji12).toNat 64)) = ji14 := by have h_ := hji14_; rw [Int.one_mul] at h_; exact h_
     have hji14v : (ji12) ≤ 64 → (IntKind.i64.wrap (2 ^ (ji12).toNat)) = ji14 := fun hle_ => by have h_ := hji14z hle_; rw [Int.one_mul] at h_; exact h_
     have hji14y : (wrap64 (1 * 2 ^ min (ji12).toNat 64)) = ji14 := (i64_w _).symm.trans hji14_
     have hji14x : (ji12) ≤ 64 → (wrap64 (1 * 2 ^ (ji12).toNat)) = ji14 := fun h_ => (i64_w _).symm.trans (hji14z h_)
     obtain ⟨y80003, hy80003⟩ : ∃ y_ : List Int, y_ = (([] : List Int)) := ⟨_, rfl⟩
     replace H : ((impl_DeleteSet.f kj1 a0_0 l0_1 (ji14)).bind fun bt80006 => ((impl_flatsIn.f kj1 bt80006.1 bt80006.2).bind fun t80010 => (impl_CutOf.l0 kj1 ji14 y80003 t80010 (t80010.length : Int) 0 a0_0 l0_1))) = some r := by first | (rw [hy80003]; with_reducible exact H) | (have H2_ := (Option.bind_some _ _).symm.trans H; rw [hy80003]; with_reducible exact H2_) | (have H2_ := (Option.bind_some _ _).symm.trans H; with_reducible exact H2_) | with_reducible exact H | (rw [hy80003]; exact H) | exact H
     have Ny80003 := aQ hy80003
     clear hy80003
     replace H := Option.bind_eq_some_iff.mp H
     obtain ⟨⟨t80006, t80007⟩, A150, H⟩ := H
     replace H : ((impl_flatsIn.f kj1 t80006 t80007).bind fun t80010 => (impl_CutOf.l0 kj1 ji14 y80003 t80010 (t80010.length : Int) 0 a0_0 l0_1)) = some r := H
     have A15 := aQ A150
     clear A150
     replace H := Option.bind_eq_some_iff.mp H
     obtain ⟨t80010, A160, H⟩ := H
     replace H : (impl_CutOf.l0 kj1 ji14 y80003 t80010 (t80010.length : Int) 0 a0_0 l0_1) = some r := H
     have A16 := aQ A160
     clear A160
     have H' := aQ H
     clear H
     have hcz17_0 : wc.cell? ⟨gb80001, 0, none⟩ = some (.int .i64 a0_0) := (blk_cell BK80001.out 0).trans rfl
     have hcz17_1 : wc.cell? ⟨gb80001, 1, none⟩ = some (.slice A0_1 l0_1.length c0_1) := (blk_cell BK80001.out 1).trans rfl
     have hfz17_0 := blk_frozen BK80001.out 0
     have hfz17_1 := blk_frozen BK80001.out 1
     go_wp2_with (first | ((with_reducible refine gate_dst (N := 19) rfl ?_); refine Kd.R_lit (Kd.int .i64) _ 3 ?hg (N := 19) ?hd (xs := ([] : List Int)) (inner := []) (ok := fun _ => True) (okp := fun _ => True) ?hr ?hp (fun _ hk => hk) trivial (Below.refl _ _) (Nat.le_refl _) (by simp) ?_; (case hd => rfl); (case hg => rfl); (case hr => first | (go_simp; done) | (go_simp; rfl)); (case hp => exact (Reps.none _ _)); intro v80004 w18 ho19 hb hg_ hnew_; clear hg_ hnew_; (first | rw [← Ny80003.out] at ho19 | (simp only [Int.reduceToNat] at ho19; rw [← Ny80003.out] at ho19)); have HO80005 := aQ (Kd.R_lower ho19 (below_size (by repeat (first | (with_reducible first | exact HB.out | apply below_alloc | apply pw_below_drewN | apply below_drew1 | refine below_set ?_ GE80001.out) | exact HB.out)))); replace BK80001 := aQ (blk_below (g := gb80001) (o := .cells #[.int .i64 a0_0, .slice A0_1 l0_1.length c0_1] 28 (0, 0)) (by (with_reducible repeat (first | refine blk_drewN ?_ _ | refine blk_drew ?_ | refine blk_alloc ?_ _)); exact BK80001.out) hb); replace HB := aQ (below_step (by repeat (first | (with_reducible first | exact HB.out | apply below_alloc | apply pw_below_drewN | apply below_drew1 | refine below_set ?_ GE80001.out) | exact HB.out)) hb); clear hb ho19; have hcz20_0 : w18.cell? ⟨gb80001, 0, none⟩ = some (.int .i64 a0_0) := (blk_cell BK80001.out 0).trans rfl; have hcz20_1 : w18.cell? ⟨gb80001, 1, none⟩ = some (.slice A0_1 l0_1.length c0_1) := (blk_cell BK80001.out 1).trans rfl; have hfz20_0 := blk_frozen BK80001.out 0; have hfz20_1 := blk_frozen BK80001.out 1) | ((with_reducible refine gate_callee (f := 173) rfl ?_); refine goesL_ (some 22) rfl rfl Try.func173 (by kernel_rfl) rfl #[.agg #[.int .i64 a0_0, .slice A0_1 l0_1.length c0_1], .int .i64 ji14] rfl (by (try simp only [List.map_toArray, List.map_cons, List.map_nil]); first | done | (simp only [hji14]; rfl) | rfl | (simp only [List.length_drop, List.length_take]; rfl)) ?_; (with_reducible refine (impl_DeleteSet.calls kj1 a0_0 _ _ l0_1 ji14 t80006 t80007 _ ?side1 ?side2 A15.out).mono ?_); (case side1 => repeat (first | exact (Kd.C_below HR0_1.out HB.out) | (with_reducible refine Kd.C_alloc ?_ _) | (with_reducible refine Kd.C_drewN ?_ _) | (with_reducible refine Kd.C_drew ?_))); (case side2 => exact HC0_1.out); rintro e w21 ⟨v80008, rfl, ho0, hb⟩; refine ⟨_, rfl, ?_⟩; have HO80009 := aQ (Kd.R_lower (Kd.R_new' ho0 (Kd.R_lt (by (with_reducible repeat (first | apply Kd.R_alloc | apply Kd.R_drewN | apply Kd.R_drew)); exact HO80005.out))) (below_size (by repeat (first | (with_reducible first | exact HB.out | apply below_alloc | apply pw_below_drewN | apply below_drew1 | refine below_set ?_ GE80001.out) | exact HB.out)))); replace HO80005 := aQ (Kd.R_elder' (by (with_reducible repeat (first | apply Kd.R_alloc | apply Kd.R_drewN | apply Kd.R_drew)); exact HO80005.out) (Kd.R_base ho0) hb); replace BK80001 := aQ (blk_below (g := gb80001) (o := .cells #[.int .i64 a0_0, .slice A0_1 l0_1.length c0_1] 28 (0, 0)) (by (with_reducible repeat (first | refine blk_drewN ?_ _ | refine blk_drew ?_ | refine blk_alloc ?_ _)); exact BK80001.out) hb); replace HB := aQ (below_step (by repeat (first | (with_reducible first | exact HB.out | apply below_alloc | apply pw_below_drewN | apply below_drew1 | refine below_set ?_ GE80001.out) | exact HB.out)) hb); (try clear hb); (try clear hb2); (try clear hk); (try clear hi); (try clear ho0); obtain ⟨Ao22, co22, eo22⟩ := Kd.R_slice HO80009.out; subst eo22) | ((with_reducible refine gate_callee (f := 150) rfl ?_); refine goesL_ (some 23) rfl rfl Try.func150 (by kernel_rfl) rfl #[.agg #[.int .i64 t80006, .slice Ao22 t80007.length co22]] rfl (by (try simp only [List.map_toArray, List.map_cons, List.map_nil]); first | done | rfl | (simp only [List.length_drop, List.length_take]; rfl)) ?_; (with_reducible refine (impl_flatsIn.calls kj1 t80006 _ _ t80007 t80010 _ ?side1 ?side2 A16.out).mono ?_); (case side1 => repeat (first | exact (Kd.R_reads' HO80009.out).2.2 | (with_reducible refine Kd.C_alloc ?_ _) | (with_reducible refine Kd.C_drewN ?_ _) | (with_reducible refine Kd.C_drew ?_))); (case side2 => exact (Kd.R_reads' HO80009.out).2.1); rintro e w23 ⟨v80011, rfl, ho0, hb⟩; refine ⟨_, rfl, ?_⟩; have HO80012 := aQ (Kd.R_lower (Kd.R_new' (Kd.R_new' ho0 (Kd.R_lt (by (with_reducible repeat (first | apply Kd.R_alloc | apply Kd.R_drewN | apply Kd.R_drew)); exact HO80005.out))) (Kd.R_lt (by (with_reducible repeat (first | apply Kd.R_alloc | apply Kd.R_drewN | apply Kd.R_drew)); exact HO80009.out))) (below_size (by repeat (first | (with_reducible first | exact HB.out | apply below_alloc | apply pw_below_drewN | apply below_drew1 | refine below_set ?_ GE80001.out) | exact HB.out)))); replace HO80005 := aQ (Kd.R_elder' (by (with_reducible repeat (first | apply Kd.R_alloc | apply Kd.R_drewN | apply Kd.R_drew)); exact HO80005.out) (Kd.R_base ho0) hb); replace HO80009 := aQ (Kd.R_elder' (by (with_reducible repeat (first | apply Kd.R_alloc | apply Kd.R_drewN | apply Kd.R_drew)); exact HO80009.out) (Kd.R_base ho0) hb); replace BK80001 := aQ (blk_below (g := gb80001) (o := .cells #[.int .i64 a0_0, .slice A0_1 l0_1.length c0_1] 28 (0, 0)) (by (with_reducible repeat (first | refine blk_drewN ?_ _ | refine blk_drew ?_ | refine blk_alloc ?_ _)); exact BK80001.out) hb); replace HB := aQ (below_step (by repeat (first | (with_reducible first | exact HB.out | apply below_alloc | apply pw_below_drewN | apply below_drew1 | refine below_set ?_ GE80001.out) | exact HB.out)) hb); (try clear hb); (try clear hb2); (try clear hk); (try clear hi); (try clear ho0); obtain ⟨Ao24, co24, eo24⟩ := Kd.R_slice HO80012.out; subst eo24))
     go_loopg [4, 25] kj1 (fun kq v4 v25 w' => ∃ (x4_2 : List Int) (x25_2 : Int), v25 = .int .i64 x25_2 ∧ Aside0 (impl_CutOf.l0 kq ji14 x4_2 t80010 (t80010.length : Int) x25_2 a0_0 l0_1 = some r) ∧ Aside0 (kq ≤ kj1) ∧ Aside0 (Kd.R (Kd.int .i64) 3 w' w.heap.size (fun k_ => some k_ ≠ ((.slice Ao24 t80010.length co24) : Value).ownBlock) v4 x4_2) ∧ Aside0 (Kd.R (Kd.int .i64) 3 w' w.heap.size (fun k_ => some k_ ≠ (v4 : Value).ownBlock) (.slice Ao24 t80010.length co24) t80010) ∧ Aside0 (w'.heap[gb80001]? = some (.cells #[.int .i64 a0_0, (.slice A0_1 l0_1.length c0_1)] 28 (0, 0))) ∧ Aside0 (Below w.heap.size w w'))
     case atStart => exact ⟨(y80003), (0), (by first | rfl | (simp; done) | (simp [*]; done)), H', ⟨Nat.le_refl _⟩, ⟨by (with_reducible repeat (first | apply Kd.R_alloc | apply Kd.R_drewN | apply Kd.R_drew)); exact Kd.R_mono HO80005.out (fun _ hk => hk.2)⟩, ⟨by (with_reducible repeat (first | apply Kd.R_alloc | apply Kd.R_drewN | apply Kd.R_drew)); exact Kd.R_mono HO80012.out (fun _ hk => hk.1.2)⟩, ⟨by (with_reducible repeat (first | refine blk_drewN ?_ _ | refine blk_drew ?_ | refine blk_alloc ?_ _)); exact BK80001.out⟩, ⟨by repeat (first | (with_reducible first | exact HB.out | apply below_alloc | apply pw_below_drewN | apply below_drew1 | refine below_set ?_ GE80001.out) | exact HB.out)⟩⟩
     case round =>
      clear H'
      try clear c1
      try clear p2
      try clear c5
      try clear p6
      try clear c7
      try clear c11
      try clear c13
      try clear c13b0
      try clear c13b1
      try clear c15
      try clear c17
      try clear hcz17_0
      try clear hcz17_1
      try clear hcz20_0
      try clear hcz20_1
      try clear hcz6_0
      try clear hcz6_1
      try clear hcz8_0
      try clear hcz8_1
      try clear hcz9_0
      try clear hcz9_1
      try clear hfz17_0
      try clear hfz17_1
      try clear hfz20_0
      try clear hfz20_1
      try clear hfz6_0
      try clear hfz6_1
      try clear hfz8_0
      try clear hfz8_1
      try clear hfz9_0
      try clear hfz9_1
      try clear p2
      obtain ⟨x4_2, x25_2, rfl, HA, HK2, HO_4, HO_23, BK80001, HB⟩ := hrel
      cases gk with
      | zero => exact absurd HA.out (by simp [impl_CutOf.l0])
      | succ k2 =>
       have H := HA.out
       clear HA
       simp only [impl_CutOf.l0] at H
       by_cases c25 : x25_2 < (t80010.length : Int)
       ·rw [if_pos c25] at H
        have c25b0 : decide (x25_2 < (t80010.length : Int)) = true := decide_eq_true c25
        clear c25
        by_cases c26 : 0 ≤ x25_2
        ·rw [if_pos c26] at H
         have c26b0 : decide (0 ≤ x25_2) = true := decide_eq_true c26
         clear c26
         by_cases c27 : x25_2 < (t80010.length : Int)
         ·rw [if_pos c27] at H
          have c27b0 : decide (x25_2 < (t80010.length : Int)) = true := decide_eq_true c27
          clear c27
          replace H := Option.bind_eq_some_iff.mp H
          obtain ⟨t80014, A280, H⟩ := H
          replace H : ((impl_rankIn.f k2 a0_0 l0_1 (Go.bits .or .i64 (rd t80010 x25_2) ji14)).bind fun t80015 => (if t80014 = t80015 then (if x4_2.length < 17592186044416 then (impl_CutOf.l0 k2 ji14 (x4_2 ++ [rd t80010 x25_2]) t80010 (t80010.length : Int) (wrap64 (x25_2 + 1)) a0_0 l0_1) else (none)) else (impl_CutOf.l0 k2 ji14 x4_2 t80010 (t80010.length : Int) (wrap64 (x25_2 + 1)) a0_0 l0_1))) = some r := H
          have A28 := aQ A280
          clear A280
          replace H := Option.bind_eq_some_iff.mp H
          obtain ⟨t80015, A290, H⟩ := H
          replace H : (if t80014 = t80015 then (if x4_2.length < 17592186044416 then (impl_CutOf.l0 k2 ji14 (x4_2 ++ [rd t80010 x25_2]) t80010 (t80010.length : Int) (wrap64 (x25_2 + 1)) a0_0 l0_1) else (none)) else (impl_CutOf.l0 k2 ji14 x4_2 t80010 (t80010.length : Int) (wrap64 (x25_2 + 1)) a0_0 l0_1)) = some r := H
          have A29 := aQ A290
          clear A290
          by_cases c30 : t80014 = t80015
          ·rw [if_pos c30] at H
           have c30b0 : (t80014 == t80015) = true := beq_iff_eq.mpr c30
           have c30b1 : (t80014 != t80015) = false := bne_eq_false_iff_eq.mpr c30
           clear c30
           by_cases c31 : x4_2.length < 17592186044416
           ·rw [if_pos c31] at H
            have LMc31 := aQ c31
            clear c31
            obtain ⟨y80016, hy80016⟩ : ∃ y_ : List Int, y_ = (x4_2 ++ [rd t80010 x25_2]) := ⟨_, rfl⟩
            replace H : (impl_CutOf.l0 k2 ji14 y80016 t80010 (t80010.length : Int) (wrap64 (x25_2 + 1)) a0_0 l0_1) = some r := by first | (rw [hy80016]; with_reducible exact H) | (have H2_ := (Option.bind_some _ _).symm.trans H; rw [hy80016]; with_reducible exact H2_) | (have H2_ := (Option.bind_some _ _).symm.trans H; with_reducible exact H2_) | with_reducible exact H | (rw [hy80016]; exact H) | exact H
            have Ny80016 := aQ hy80016
            clear hy80016
            have H' := aQ H
            clear H
            have p80013 : 0 ≤ (x25_2 : Int) := of_decide_eq_true (by first | (with_reducible assumption) | assumption)
            have q80013 : x25_2 < (t80010.length : Int) := of_decide_eq_true (by first | (with_reducible assumption) | assumption)
            obtain ⟨ad80013, e80013, hx80013_0⟩ := Kd.at_int (Kd.R_reads' HO_23.out).2.2 x25_2 p80013 q80013
            cases e80013
            replace p80013 := eq_true p80013
            replace q80013 := eq_true q80013
            try go_wp2
            have n0_ := aQ (Kd.R_drew HO_4.out)
            have n1_ := aQ (Kd.R_drew HO_23.out)
            have n2_ := aQ (blk_drew BK80001.out)
            have n3_ := aQ (below_drew1 HB.out)
            clear HO_4
            clear HO_23
            clear BK80001
            clear HB
            have HO_4 := n0_
            have HO_23 := n1_
            have BK80001 := n2_
            have HB := n3_
            clear n0_ n1_ n2_ n3_
            refine start_ (n := 9) (S := fun w' => w'.cell? ⟨gb80001, 0, none⟩ = some (.int .i64 a0_0) ∧ w'.cell? ⟨gb80001, 1, none⟩ = some (.slice A0_1 l0_1.length c0_1)) (ds := []) #[false, false, false, false, false, false, false, false, false] (by kernel_rfl) rfl rfl ⟨(blk_cell BK80001.out 0).trans rfl, (blk_cell BK80001.out 1).trans rfl⟩ (fun hHeld => ?_); refine with_tabW impl_CutOf.tab8 impl_CutOf.bits8 (fun HT_ HW_ => ?_)
            generalize wr.drew = w32 at HO_4 HO_23 BK80001 HB hHeld ⊢
            refine pure_ (i := 1) (N := some 30) (v := ?_) (a' := ?_) #[false, true, false, false, false, false, false, false, false] rfl rfl (any_of HT_.out (by kernel_rfl)) (fun _ _ _ h => h) (Or.inl ⟨by rfl, ?_⟩) ?_ ?_
            rotate_left
            ·intro w'
             go_simp
             with_reducible rfl
            rotate_left
            ·simp only [Act.put, List.setIfInBounds_toArray, List.set_cons_zero, List.set_cons_succ, i64_w, i32_w]
             rfl
            refine pure_ (i := 4) (N := some 33) (v := ?_) (a' := ?_) #[false, true, false, false, true, false, false, false, false] rfl rfl (any_of HT_.out (by kernel_rfl)) (fun _ _ _ h => h) (Or.inl ⟨by rfl, ?_⟩) ?_ ?_
            rotate_left
            ·intro w'
             go_simp
             with_reducible rfl
            rotate_left
            ·simp only [Act.put, List.setIfInBounds_toArray, List.set_cons_zero, List.set_cons_succ, i64_w, i32_w]
             rfl
            refine pure_ (i := 5) (N := some 34) (v := ?_) (a' := ?_) #[false, true, false, false, true, true, false, false, false] rfl rfl (any_of HT_.out (by kernel_rfl)) (fun _ _ _ h => h) (Or.inl ⟨by rfl, ?_⟩) ?_ ?_
            rotate_left
            ·intro w'
             go_simp
             with_reducible rfl
            rotate_left
            ·simp only [Act.put, List.setIfInBounds_toArray, List.set_cons_zero, List.set_cons_succ, i64_w, i32_w]
             rfl
            refine pure_ (i := 6) (N := some 35) (v := ?_) (a' := ?_) #[false, true, false, false, true, true, true, false, false] rfl rfl (any_of HT_.out (by kernel_rfl)) (fun _ _ _ h => h) (Or.inl ⟨by rfl, ?_⟩) ?_ ?_
            rotate_left
            ·intro w'
             go_simp
             with_reducible rfl
            rotate_left
            ·simp only [Act.put, List.setIfInBounds_toArray, List.set_cons_zero, List.set_cons_succ, i64_w, i32_w]
             rfl
            refine take_ (i := 0) (N := some 29) (v := ?_) (a' := ?_) #[true, true, false, false, true, true, true, false, false] rfl rfl (take_ofW HT_.out HW_.out (by kernel_rfl)) (fun _ _ _ h => h) (Or.inl ⟨by rfl, ?_⟩) hHeld ?_ ?_
            rotate_left
            ·rintro w' ⟨s0, s1⟩
             go_simp
             with_reducible rfl
            rotate_left
            ·simp only [Act.put, List.setIfInBounds_toArray, List.set_cons_zero, List.set_cons_succ, i64_w, i32_w]
             rfl
            refine take_ (i := 3) (N := some 32) (v := ?_) (a' := ?_) #[true, true, false, true, true, true, true, false, false] rfl rfl (take_ofW HT_.out HW_.out (by kernel_rfl)) (fun _ _ _ h => h) (Or.inl ⟨by rfl, ?_⟩) hHeld ?_ ?_
            rotate_left
            ·rintro w' ⟨s0, s1⟩
             go_simp
             with_reducible rfl
            rotate_left
            ·simp only [Act.put, List.setIfInBounds_toArray, List.set_cons_zero, List.set_cons_succ, i64_w, i32_w]
             rfl
            refine one_ (i := 2) (N := some 31) #[true, true, true, true, true, true, true, false, false] rfl rfl (one_of HT_.out (by kernel_rfl)) (by decide) (fun K hK => ?_)
            refine goes_ Try.func123 (by kernel_rfl) rfl #[.agg #[.int .i64 a0_0, .slice A0_1 l0_1.length c0_1], .int .i64 (rd t80010 x25_2)] (by rfl) rfl rfl (by (try simp only [List.map_toArray, List.map_cons, List.map_nil]); first | done | rfl | (simp only [List.length_drop, List.length_take]; rfl)) ?_
            with_reducible refine (impl_rankIn.calls k2 a0_0 _ _ l0_1 (rd t80010 x25_2) t80014 _ ?side1 ?side2 A28.out).mono ?_
            (case side1 => repeat (first | exact (Kd.C_below HR0_1.out HB.out) | (with_reducible refine Kd.C_alloc ?_ _) | (with_reducible refine Kd.C_drewN ?_ _) | (with_reducible refine Kd.C_drew ?_)))
            (case side2 => exact HC0_1.out)
            rintro e w33 ⟨rfl, hb⟩
            refine ⟨_, rfl, ?_⟩
            have n0_ := aQ (Kd.R_below (by (with_reducible repeat (first | apply Kd.R_alloc | apply Kd.R_drewN | apply Kd.R_drew)); exact HO_4.out) hb)
            have n1_ := aQ (Kd.R_below (by (with_reducible repeat (first | apply Kd.R_alloc | apply Kd.R_drewN | apply Kd.R_drew)); exact HO_23.out) hb)
            have n2_ := aQ (blk_below (g := gb80001) (o := .cells #[.int .i64 a0_0, .slice A0_1 l0_1.length c0_1] 28 (0, 0)) (by (with_reducible repeat (first | refine blk_drewN ?_ _ | refine blk_drew ?_ | refine blk_alloc ?_ _)); exact BK80001.out) hb)
            have n3_ := aQ (below_step (by repeat (first | (with_reducible first | exact HB.out | apply below_alloc | apply pw_below_drewN | apply below_drew1 | refine below_set ?_ GE80001.out) | exact HB.out)) hb)
            clear HO_4
            clear HO_23
            clear BK80001
            clear HB
            have HO_4 := n0_
            have HO_23 := n1_
            have BK80001 := n2_
            have HB := n3_
            clear n0_ n1_ n2_ n3_
            (try clear hb)
            (try clear hb2)
            (try clear hk)
            (try clear hi)
            refine hK.out _ _ ⟨(blk_cell BK80001.out 0).trans rfl, (blk_cell BK80001.out 1).trans rfl⟩ (fun hHeld => ?_)
            clear hK K
            refine norm_ (a' := ?_) ?_ ?_
            rotate_left
            ·show Act.put _ (some 31) _ = _
             simp only [Act.put, List.setIfInBounds_toArray, List.set_cons_zero, List.set_cons_succ, i64_w, i32_w]
             rfl
            refine one_ (i := 7) (N := some 36) #[true, true, true, true, true, true, true, true, false] rfl rfl (one_of HT_.out (by kernel_rfl)) (by decide) (fun K hK => ?_)
            refine goes_ Try.func123 (by kernel_rfl) rfl #[.agg #[.int .i64 a0_0, .slice A0_1 l0_1.length c0_1], .int .i64 (Go.bits .or .i64 (rd t80010 x25_2) ji14)] (by rfl) rfl rfl (by (try simp only [List.map_toArray, List.map_cons, List.map_nil]); first | done | (simp only [hji14]; rfl) | rfl | (simp only [List.length_drop, List.length_take]; rfl)) ?_
            with_reducible refine (impl_rankIn.calls k2 a0_0 _ _ l0_1 (Go.bits .or .i64 (rd t80010 x25_2) ji14) t80015 _ ?side1 ?side2 A29.out).mono ?_
            (case side1 => repeat (first | exact (Kd.C_below HR0_1.out HB.out) | (with_reducible refine Kd.C_alloc ?_ _) | (with_reducible refine Kd.C_drewN ?_ _) | (with_reducible refine Kd.C_drew ?_)))
            (case side2 => exact HC0_1.out)
            rintro e w34 ⟨rfl, hb⟩
            refine ⟨_, rfl, ?_⟩
            have n0_ := aQ (Kd.R_below (by (with_reducible repeat (first | apply Kd.R_alloc | apply Kd.R_drewN | apply Kd.R_drew)); exact HO_4.out) hb)
            have n1_ := aQ (Kd.R_below (by (with_reducible repeat (first | apply Kd.R_alloc | apply Kd.R_drewN | apply Kd.R_drew)); exact HO_23.out) hb)
            have n2_ := aQ (blk_below (g := gb80001) (o := .cells #[.int .i64 a0_0, .slice A0_1 l0_1.length c0_1] 28 (0, 0)) (by (with_reducible repeat (first | refine blk_drewN ?_ _ | refine blk_drew ?_ | refine blk_alloc ?_ _)); exact BK80001.out) hb)
            have n3_ := aQ (below_step (by repeat (first | (with_reducible first | exact HB.out | apply below_alloc | apply pw_below_drewN | apply below_drew1 | refine below_set ?_ GE80001.out) | exact HB.out)) hb)
            clear HO_4
            clear HO_23
            clear BK80001
            clear HB
            have HO_4 := n0_
            have HO_23 := n1_
            have BK80001 := n2_
            have HB := n3_
            clear n0_ n1_ n2_ n3_
            (try clear hb)
            (try clear hb2)
            (try clear hk)
            (try clear hi)
            refine hK.out _ _ ⟨(blk_cell BK80001.out 0).trans rfl, (blk_cell BK80001.out 1).trans rfl⟩ (fun hHeld => ?_)
            clear hK K
            refine norm_ (a' := ?_) ?_ ?_
            rotate_left
            ·show Act.put _ (some 36) _ = _
             simp only [Act.put, List.setIfInBounds_toArray, List.set_cons_zero, List.set_cons_succ, i64_w, i32_w]
             rfl
            refine pure_ (i := 8) (N := some 37) (v := ?_) (a' := ?_) #[true, true, true, true, true, true, true, true, true] rfl rfl (any_of HT_.out (by kernel_rfl)) (fun _ _ _ h => h) (Or.inl ⟨by rfl, ?_⟩) ?_ ?_
            rotate_left
            ·intro w'
             go_simp
             with_reducible rfl
            rotate_left
            ·simp only [Act.put, List.setIfInBounds_toArray, List.set_cons_zero, List.set_cons_succ, i64_w, i32_w]
             rfl
            refine done_ (done_of HT_.out (by kernel_rfl)) ?_
            try go_wp2_with (first | ((with_reducible refine gate_builtin (b := .append) (xs := #[.tmp 38, .tmp 40]) rfl ?_); at_builtin; refine Kd.R_append (Kd.int .i64) (w0 := w) w.heap.size rfl (.tmp 38) (.tmp 40) 22 3 (.int .i64 0) 8 rfl Try.underlying22 info3 rfl (by decide) (by omega) u4 x4_2 (rd t80010 x25_2) [.int .i64 (rd t80010 x25_2)] (fun k_ => some k_ ≠ (.slice (some ad80013) t80010.length co24 : Value).ownBlock) (fun _ => False) rfl rfl ?aP (fun _ hk => hk.elim) ?aF ?aO ?aB ?aS ?aL ?_; (case aP => exact rfl); (case aB => exact (by repeat (first | (with_reducible first | exact HB.out | apply below_alloc | apply pw_below_drewN | apply below_drew1 | refine below_set ?_ GE80001.out) | exact HB.out))); (case aF => exact (fun k_ hk => Kd.fresh' (Kd.R_lt (by (with_reducible repeat (first | apply Kd.R_alloc | apply Kd.R_drewN | apply Kd.R_drew)); exact HO_23.out)) k_ hk)); (case aO => exact (by (with_reducible repeat (first | apply Kd.R_alloc | apply Kd.R_drewN | apply Kd.R_drew)); exact HO_4.out)); (case aS => exact (below_size (by repeat (first | (with_reducible first | exact HB.out | apply below_alloc | apply pw_below_drewN | apply below_drew1 | refine below_set ?_ GE80001.out) | exact HB.out)))); (case aL => have := LMc31.out; omega); intro v80017 w35 ho hb hg hat; rw [← Ny80016.out] at ho; replace HO_23 := aQ (Kd.R_after (ok := (fun _ => True)) (by (with_reducible repeat (first | apply Kd.R_alloc | apply Kd.R_drewN | apply Kd.R_drew)); exact Kd.R_mono HO_23.out (fun _ hk => ⟨trivial, hk⟩)) hg hat); replace BK80001 := aQ (blk_grown (g := gb80001) (o := .cells #[.int .i64 a0_0, .slice A0_1 l0_1.length c0_1] 28 (0, 0)) (by (with_reducible repeat (first | refine blk_drewN ?_ _ | refine blk_drew ?_ | refine blk_alloc ?_ _)); exact BK80001.out) hg (Kd.R_ne HO_4.out BK80001.out (by decide))); replace HB := aQ (hb); have HO80018 := aQ (ho); clear HO_4; clear ho hb hg hat))
            go_roundg k2
            case measure => have := HJ1.out; have := HK2.out; omega
            case rel => exact ⟨(y80016), (wrap64 (x25_2 + 1)), (by first | rfl | (simp; done) | (simp [*]; done)), H', ⟨by have := HJ1.out; have := HK2.out; omega⟩, ⟨by (with_reducible repeat (first | apply Kd.R_alloc | apply Kd.R_drewN | apply Kd.R_drew)); exact HO80018.out⟩, ⟨by (with_reducible repeat (first | apply Kd.R_alloc | apply Kd.R_drewN | apply Kd.R_drew)); exact Kd.R_mono HO_23.out (fun _ hk => hk.2)⟩, ⟨by (with_reducible repeat (first | refine blk_drewN ?_ _ | refine blk_drew ?_ | refine blk_alloc ?_ _)); exact BK80001.out⟩, ⟨by repeat (first | (with_reducible first | exact HB.out | apply below_alloc | apply pw_below_drewN | apply below_drew1 | refine below_set ?_ GE80001.out) | exact HB.out)⟩⟩
           ·rw [if_neg c31] at H
            exact absurd H (by simp)
          ·rw [if_neg c30] at H
           have c30b0 : (t80014 == t80015) = false := beq_eq_false_iff_ne.mpr c30
           have c30b1 : (t80014 != t80015) = true := bne_iff_ne.mpr c30
           have H' := aQ H
           clear H
           have p80013 : 0 ≤ (x25_2 : Int) := of_decide_eq_true (by first | (with_reducible assumption) | assumption)
           have q80013 : x25_2 < (t80010.length : Int) := of_decide_eq_true (by first | (with_reducible assumption) | assumption)
           obtain ⟨ad80013, e80013, hx80013_0⟩ := Kd.at_int (Kd.R_reads' HO_23.out).2.2 x25_2 p80013 q80013
           cases e80013
           replace p80013 := eq_true p80013
           replace q80013 := eq_true q80013
           try go_wp2
           have n0_ := aQ (Kd.R_drew HO_4.out)
           have n1_ := aQ (Kd.R_drew HO_23.out)
           have n2_ := aQ (blk_drew BK80001.out)
           have n3_ := aQ (below_drew1 HB.out)
           clear HO_4
           clear HO_23
           clear BK80001
           clear HB
           have HO_4 := n0_
           have HO_23 := n1_
           have BK80001 := n2_
           have HB := n3_
           clear n0_ n1_ n2_ n3_
           refine start_ (n := 9) (S := fun w' => w'.cell? ⟨gb80001, 0, none⟩ = some (.int .i64 a0_0) ∧ w'.cell? ⟨gb80001, 1, none⟩ = some (.slice A0_1 l0_1.length c0_1)) (ds := []) #[false, false, false, false, false, false, false, false, false] (by kernel_rfl) rfl rfl ⟨(blk_cell BK80001.out 0).trans rfl, (blk_cell BK80001.out 1).trans rfl⟩ (fun hHeld => ?_); refine with_tabW impl_CutOf.tab8 impl_CutOf.bits8 (fun HT_ HW_ => ?_)
           generalize wr.drew = w36 at HO_4 HO_23 BK80001 HB hHeld ⊢
           refine pure_ (i := 1) (N := some 30) (v := ?_) (a' := ?_) #[false, true, false, false, false, false, false, false, false] rfl rfl (any_of HT_.out (by kernel_rfl)) (fun _ _ _ h => h) (Or.inl ⟨by rfl, ?_⟩) ?_ ?_
           rotate_left
           ·intro w'
            go_simp
            with_reducible rfl
           rotate_left
           ·simp only [Act.put, List.setIfInBounds_toArray, List.set_cons_zero, List.set_cons_succ, i64_w, i32_w]
            rfl
           refine pure_ (i := 4) (N := some 33) (v := ?_) (a' := ?_) #[false, true, false, false, true, false, false, false, false] rfl rfl (any_of HT_.out (by kernel_rfl)) (fun _ _ _ h => h) (Or.inl ⟨by rfl, ?_⟩) ?_ ?_
           rotate_left
           ·intro w'
            go_simp
            with_reducible rfl
           rotate_left
           ·simp only [Act.put, List.setIfInBounds_toArray, List.set_cons_zero, List.set_cons_succ, i64_w, i32_w]
            rfl
           refine pure_ (i := 5) (N := some 34) (v := ?_) (a' := ?_) #[false, true, false, false, true, true, false, false, false] rfl rfl (any_of HT_.out (by kernel_rfl)) (fun _ _ _ h => h) (Or.inl ⟨by rfl, ?_⟩) ?_ ?_
           rotate_left
           ·intro w'
            go_simp
            with_reducible rfl
           rotate_left
           ·simp only [Act.put, List.setIfInBounds_toArray, List.set_cons_zero, List.set_cons_succ, i64_w, i32_w]
            rfl
           refine pure_ (i := 6) (N := some 35) (v := ?_) (a' := ?_) #[false, true, false, false, true, true, true, false, false] rfl rfl (any_of HT_.out (by kernel_rfl)) (fun _ _ _ h => h) (Or.inl ⟨by rfl, ?_⟩) ?_ ?_
           rotate_left
           ·intro w'
            go_simp
            with_reducible rfl
           rotate_left
           ·simp only [Act.put, List.setIfInBounds_toArray, List.set_cons_zero, List.set_cons_succ, i64_w, i32_w]
            rfl
           refine take_ (i := 0) (N := some 29) (v := ?_) (a' := ?_) #[true, true, false, false, true, true, true, false, false] rfl rfl (take_ofW HT_.out HW_.out (by kernel_rfl)) (fun _ _ _ h => h) (Or.inl ⟨by rfl, ?_⟩) hHeld ?_ ?_
           rotate_left
           ·rintro w' ⟨s0, s1⟩
            go_simp
            with_reducible rfl
           rotate_left
           ·simp only [Act.put, List.setIfInBounds_toArray, List.set_cons_zero, List.set_cons_succ, i64_w, i32_w]
            rfl
           refine take_ (i := 3) (N := some 32) (v := ?_) (a' := ?_) #[true, true, false, true, true, true, true, false, false] rfl rfl (take_ofW HT_.out HW_.out (by kernel_rfl)) (fun _ _ _ h => h) (Or.inl ⟨by rfl, ?_⟩) hHeld ?_ ?_
           rotate_left
           ·rintro w' ⟨s0, s1⟩
            go_simp
            with_reducible rfl
           rotate_left
           ·simp only [Act.put, List.setIfInBounds_toArray, List.set_cons_zero, List.set_cons_succ, i64_w, i32_w]
            rfl
           refine one_ (i := 2) (N := some 31) #[true, true, true, true, true, true, true, false, false] rfl rfl (one_of HT_.out (by kernel_rfl)) (by decide) (fun K hK => ?_)
           refine goes_ Try.func123 (by kernel_rfl) rfl #[.agg #[.int .i64 a0_0, .slice A0_1 l0_1.length c0_1], .int .i64 (rd t80010 x25_2)] (by rfl) rfl rfl (by (try simp only [List.map_toArray, List.map_cons, List.map_nil]); first | done | rfl | (simp only [List.length_drop, List.length_take]; rfl)) ?_
           with_reducible refine (impl_rankIn.calls k2 a0_0 _ _ l0_1 (rd t80010 x25_2) t80014 _ ?side1 ?side2 A28.out).mono ?_
           (case side1 => repeat (first | exact (Kd.C_below HR0_1.out HB.out) | (with_reducible refine Kd.C_alloc ?_ _) | (with_reducible refine Kd.C_drewN ?_ _) | (with_reducible refine Kd.C_drew ?_)))
           (case side2 => exact HC0_1.out)
           rintro e w37 ⟨rfl, hb⟩
           refine ⟨_, rfl, ?_⟩
           have n0_ := aQ (Kd.R_below (by (with_reducible repeat (first | apply Kd.R_alloc | apply Kd.R_drewN | apply Kd.R_drew)); exact HO_4.out) hb)
           have n1_ := aQ (Kd.R_below (by (with_reducible repeat (first | apply Kd.R_alloc | apply Kd.R_drewN | apply Kd.R_drew)); exact HO_23.out) hb)
           have n2_ := aQ (blk_below (g := gb80001) (o := .cells #[.int .i64 a0_0, .slice A0_1 l0_1.length c0_1] 28 (0, 0)) (by (with_reducible repeat (first | refine blk_drewN ?_ _ | refine blk_drew ?_ | refine blk_alloc ?_ _)); exact BK80001.out) hb)
           have n3_ := aQ (below_step (by repeat (first | (with_reducible first | exact HB.out | apply below_alloc | apply pw_below_drewN | apply below_drew1 | refine below_set ?_ GE80001.out) | exact HB.out)) hb)
           clear HO_4
           clear HO_23
           clear BK80001
           clear HB
           have HO_4 := n0_
           have HO_23 := n1_
           have BK80001 := n2_
           have HB := n3_
           clear n0_ n1_ n2_ n3_
           (try clear hb)
           (try clear hb2)
           (try clear hk)
           (try clear hi)
           refine hK.out _ _ ⟨(blk_cell BK80001.out 0).trans rfl, (blk_cell BK80001.out 1).trans rfl⟩ (fun hHeld => ?_)
           clear hK K
           refine norm_ (a' := ?_) ?_ ?_
           rotate_left
           ·show Act.put _ (some 31) _ = _
            simp only [Act.put, List.setIfInBounds_toArray, List.set_cons_zero, List.set_cons_succ, i64_w, i32_w]
            rfl
           refine one_ (i := 7) (N := some 36) #[true, true, true, true, true, true, true, true, false] rfl rfl (one_of HT_.out (by kernel_rfl)) (by decide) (fun K hK => ?_)
           refine goes_ Try.func123 (by kernel_rfl) rfl #[.agg #[.int .i64 a0_0, .slice A0_1 l0_1.length c0_1], .int .i64 (Go.bits .or .i64 (rd t80010 x25_2) ji14)] (by rfl) rfl rfl (by (try simp only [List.map_toArray, List.map_cons, List.map_nil]); first | done | (simp only [hji14]; rfl) | rfl | (simp only [List.length_drop, List.length_take]; rfl)) ?_
           with_reducible refine (impl_rankIn.calls k2 a0_0 _ _ l0_1 (Go.bits .or .i64 (rd t80010 x25_2) ji14) t80015 _ ?side1 ?side2 A29.out).mono ?_
           (case side1 => repeat (first | exact (Kd.C_below HR0_1.out HB.out) | (with_reducible refine Kd.C_alloc ?_ _) | (with_reducible refine Kd.C_drewN ?_ _) | (with_reducible refine Kd.C_drew ?_)))
           (case side2 => exact HC0_1.out)
           rintro e w38 ⟨rfl, hb⟩
           refine ⟨_, rfl, ?_⟩
           have n0_ := aQ (Kd.R_below (by (with_reducible repeat (first | apply Kd.R_alloc | apply Kd.R_drewN | apply Kd.R_drew)); exact HO_4.out) hb)
           have n1_ := aQ (Kd.R_below (by (with_reducible repeat (first | apply Kd.R_alloc | apply Kd.R_drewN | apply Kd.R_drew)); exact HO_23.out) hb)
           have n2_ := aQ (blk_below (g := gb80001) (o := .cells #[.int .i64 a0_0, .slice A0_1 l0_1.length c0_1] 28 (0, 0)) (by (with_reducible repeat (first | refine blk_drewN ?_ _ | refine blk_drew ?_ | refine blk_alloc ?_ _)); exact BK80001.out) hb)
           have n3_ := aQ (below_step (by repeat (first | (with_reducible first | exact HB.out | apply below_alloc | apply pw_below_drewN | apply below_drew1 | refine below_set ?_ GE80001.out) | exact HB.out)) hb)
           clear HO_4
           clear HO_23
           clear BK80001
           clear HB
           have HO_4 := n0_
           have HO_23 := n1_
           have BK80001 := n2_
           have HB := n3_
           clear n0_ n1_ n2_ n3_
           (try clear hb)
           (try clear hb2)
           (try clear hk)
           (try clear hi)
           refine hK.out _ _ ⟨(blk_cell BK80001.out 0).trans rfl, (blk_cell BK80001.out 1).trans rfl⟩ (fun hHeld => ?_)
           clear hK K
           refine norm_ (a' := ?_) ?_ ?_
           rotate_left
           ·show Act.put _ (some 36) _ = _
            simp only [Act.put, List.setIfInBounds_toArray, List.set_cons_zero, List.set_cons_succ, i64_w, i32_w]
            rfl
           refine pure_ (i := 8) (N := some 37) (v := ?_) (a' := ?_) #[true, true, true, true, true, true, true, true, true] rfl rfl (any_of HT_.out (by kernel_rfl)) (fun _ _ _ h => h) (Or.inl ⟨by rfl, ?_⟩) ?_ ?_
           rotate_left
           ·intro w'
            go_simp
            with_reducible rfl
           rotate_left
           ·simp only [Act.put, List.setIfInBounds_toArray, List.set_cons_zero, List.set_cons_succ, i64_w, i32_w]
            rfl
           refine done_ (done_of HT_.out (by kernel_rfl)) ?_
           try go_wp2
           go_roundg k2
           case measure => have := HJ1.out; have := HK2.out; omega
           case rel => exact ⟨(x4_2), (wrap64 (x25_2 + 1)), (by first | rfl | (simp; done) | (simp [*]; done)), H', ⟨by have := HJ1.out; have := HK2.out; omega⟩, ⟨by (with_reducible repeat (first | apply Kd.R_alloc | apply Kd.R_drewN | apply Kd.R_drew)); exact HO_4.out⟩, ⟨by (with_reducible repeat (first | apply Kd.R_alloc | apply Kd.R_drewN | apply Kd.R_drew)); exact HO_23.out⟩, ⟨by (with_reducible repeat (first | refine blk_drewN ?_ _ | refine blk_drew ?_ | refine blk_alloc ?_ _)); exact BK80001.out⟩, ⟨by repeat (first | (with_reducible first | exact HB.out | apply below_alloc | apply pw_below_drewN | apply below_drew1 | refine below_set ?_ GE80001.out) | exact HB.out)⟩⟩
         ·rw [if_neg c27] at H
          exact absurd H (by simp)
        ·rw [if_neg c26] at H
         exact absurd H (by simp)
       ·rw [if_neg c25] at H
        have c25b0 : decide (x25_2 < (t80010.length : Int)) = false := decide_eq_false c25
        clear c25
        obtain rfl := Option.some.inj H
        go_wp2
        go_ret
        exact ⟨_, by first | rfl | (simp [errW_none, errW_some] <;> rfl) | (simp only [← hji12, ← hji14]; first | rfl | (simp [errW_none, errW_some] <;> rfl)) | (simp [*, errW_none, errW_some] <;> rfl), by (with_reducible repeat (first | apply Kd.R_alloc | apply Kd.R_drewN | apply Kd.R_drew)); exact Kd.R_mono HO_4.out (fun _ hk => trivial), by repeat (first | (with_reducible first | exact HB.out | apply below_alloc | apply pw_below_drewN | apply below_drew1 | refine below_set ?_ GE80001.out) | exact HB.out)⟩
    ·rw [if_neg c13] at H
     exact absurd H (by simp)
end Go.Proofs.Ytinoamehdhgpgaa.A
