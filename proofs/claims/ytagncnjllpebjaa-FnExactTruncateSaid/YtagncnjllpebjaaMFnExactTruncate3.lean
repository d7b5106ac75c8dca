/- The machine side of the law FnExactTruncate, laid by a program of this work over the kit's print and contracts by hand: Go functions as Lean functions, and proofs that calls come to what these tell. Conditions: those in each theorem. -/
import Derived.Test.YtagncnjllpebjaaMFnExactTruncate0
import Derived.Test.YtagncnjllpebjaaMFnExactTruncateq0
import Derived.Test.YtagncnjllpebjaaMFnExactTruncate2
namespace Go.Proofs.Ytagncnjllpebjaa.A
open Go.RowKit Go.Proofs.YtagncnjllpebjaaW.PrintWords Go.Proofs.YtagncnjllpebjaaW.PrintLast Go.Proofs.YtagncnjllpebjaaW.PrintMore
attribute [local go_sem] max2_int min2_int max_two min_two max_three min_three max_four min_four   -- for this text's walks alone
set_option linter.unusedVariables false
set_option linter.unusedSimpArgs false

/-! ### impl_IsMatroid: function 60 -/
def impl_IsMatroid.f (k : Nat) (a0_0 : Int) (l0_1 : List Int) : Option (Bool) := (impl_FirstFailure.f k a0_0 l0_1).bind fun bt61002 => ((impl_IsFamily.f k a0_0 l0_1).bind fun t61007 => (if t61007 = true then (if (l0_1.length : Int) > 0 then (some (!bt61002.2.2.2)) else (some false)) else (some false)))
theorem impl_IsMatroid.mono : ∀ a0 a1 k, LeO (impl_IsMatroid.f k a0 a1) (impl_IsMatroid.f (k + 1) a0 a1) := by
 intro a0 a1 k
 unfold impl_IsMatroid.f
 repeat' first
   | (with_reducible exact impl_FirstFailure.mono _ _ _)
   | (with_reducible exact impl_IsFamily.mono _ _ _)
   | (with_reducible exact LeO.refl _)
   | (with_reducible exact LeO.none _)
   | (with_reducible refine LeO.ite ?_ ?_)
   | (with_reducible refine LeO.bind ?_ (fun _ => ?_))
   | exact impl_FirstFailure.mono _ _ _
   | exact impl_IsFamily.mono _ _ _
   | exact LeO.none _
   | refine LeO.ite ?_ ?_
   | refine LeO.bind ?_ (fun _ => ?_)
set_option maxHeartbeats 8000000 in
set_option maxRecDepth 100000 in
theorem impl_IsMatroid.calls (k : Nat) (a0_0 : Int) (A0_1 : Option Addr) (c0_1 : Nat) (l0_1 : List Int) (r : Bool) (w : World) (hr0_1 : Kd.C (Kd.int .i64) w A0_1 l0_1.length l0_1) (hc0_1 : l0_1.length ≤ c0_1) (h : impl_IsMatroid.f k a0_0 l0_1 = some r) :
  Calls Try.prog 60 #[.agg #[.int .i64 a0_0, .slice A0_1 l0_1.length c0_1]] w fun e w' => e = .returned (.bool r) ∧ Below w.heap.size w w' := by
 have hu26 := Try.underlying26
 have hu97 := Try.underlying97
 have HR0_1 := aQ hr0_1
 have HC0_1 := aQ hc0_1
 clear hr0_1 hc0_1
 have HB := aQ (Below.refl w.heap.size w)
 have H : ((impl_FirstFailure.f k a0_0 l0_1).bind fun bt61002 => ((impl_IsFamily.f k a0_0 l0_1).bind fun t61007 => (if t61007 = true then (if (l0_1.length : Int) > 0 then (some (!bt61002.2.2.2)) else (some false)) else (some false)))) = some r := h
 clear h
 replace H := Option.bind_eq_some_iff.mp H
 obtain ⟨⟨t61002, t61003, t61004, t61005⟩, A20, H⟩ := H
 replace H : ((impl_IsFamily.f k a0_0 l0_1).bind fun t61007 => (if t61007 = true then (if (l0_1.length : Int) > 0 then (some (!t61005)) else (some false)) else (some false))) = some r := H
 have A2 := aQ A20
 clear A20
 replace H := Option.bind_eq_some_iff.mp H
 obtain ⟨t61007, A30, H⟩ := H
 replace H : (if t61007 = true then (if (l0_1.length : Int) > 0 then (some (!t61005)) else (some false)) else (some false)) = some r := H
 have A3 := aQ A30
 clear A30
 by_cases c4 : t61007 = true
 ·subst c4
  have H1 : (if (l0_1.length : Int) > 0 then (some (!t61005)) else (some false)) = some r := by rw [if_pos rfl] at H; exact H
  clear H
  have H := H1
  clear H1
  by_cases c5 : (l0_1.length : Int) > 0
  ·rw [if_pos c5] at H
   have c5b0 : decide (0 < (l0_1.length : Int)) = true := decide_eq_true c5
   have c5b1 : decide (0 < l0_1.length) = true := decide_eq_true (by omega)
   clear c5
   obtain rfl := Option.some.inj H
   go_enter Try.func60, Try.ntmps60
   go_wp2_with (first | ((with_reducible refine gate_dst (N := 1) rfl ?_); (try (refine gate_guard (by rfl) ?_; dsimp only)); refine box_event ?hg (N := 1) ?hd (cs := #[.int .i64 a0_0, .slice A0_1 l0_1.length c0_1]) (t := 26) ?hr ?_; (case hd => rfl); (case hg => rfl); (case hr => first | (go_simp; done) | (go_simp; rfl)); intro gb61001 hg w6 hbox hb; have BK61001 := aQ (hbox); have GW61001 := aQ ((by rw [hg]; exact (below_size (by repeat (first | (with_reducible first | exact HB.out | apply below_alloc | apply pw_below_drewN | apply below_drew1) | exact HB.out))) : w.heap.size ≤ gb61001)); have GE61001 := aQ ((by rw [hg]; exact (below_size (by repeat (first | (with_reducible first | exact HB.out | apply below_alloc | apply pw_below_drewN | apply below_drew1) | exact HB.out))) : w.heap.size ≤ gb61001)); replace HB := aQ (below_step (by repeat (first | (with_reducible first | exact HB.out | apply below_alloc | apply pw_below_drewN | apply below_drew1) | exact HB.out)) hb); clear hb hbox hg; have hcz7_0 : w6.cell? ⟨gb61001, 0, none⟩ = some (.int .i64 a0_0) := (blk_cell BK61001.out 0).trans rfl; have hcz7_1 : w6.cell? ⟨gb61001, 1, none⟩ = some (.slice A0_1 l0_1.length c0_1) := (blk_cell BK61001.out 1).trans rfl; have hfz7_0 := blk_frozen BK61001.out 0; have hfz7_1 := blk_frozen BK61001.out 1) | ((with_reducible refine gate_callee (f := 131) rfl ?_); refine goesL_ (some 7) rfl rfl Try.func131 (by kernel_rfl) rfl #[.agg #[.int .i64 a0_0, .slice A0_1 l0_1.length c0_1]] rfl (by (try simp only [List.map_toArray, List.map_cons, List.map_nil]); first | done | rfl | (simp only [List.length_drop, List.length_take]; rfl)) ?_; (with_reducible refine (impl_FirstFailure.calls k a0_0 _ _ l0_1 t61002 t61003 t61004 t61005 _ ?side1 ?side2 A2.out).mono ?_); (case side1 => repeat (first | exact (Kd.C_below HR0_1.out HB.out) | (with_reducible refine Kd.C_alloc ?_ _) | (with_reducible refine Kd.C_drewN ?_ _) | (with_reducible refine Kd.C_drew ?_))); (case side2 => exact HC0_1.out); rintro e w8 ⟨rfl, hb⟩; refine ⟨_, rfl, ?_⟩; replace BK61001 := aQ (blk_below (g := gb61001) (o := .cells #[.int .i64 a0_0, .slice A0_1 l0_1.length c0_1] 26 (0, 0)) (by (with_reducible repeat (first | refine blk_drewN ?_ _ | refine blk_drew ?_ | refine blk_alloc ?_ _)); exact BK61001.out) hb); replace HB := aQ (below_step (by repeat (first | (with_reducible first | exact HB.out | apply below_alloc | apply pw_below_drewN | apply below_drew1 | refine below_set ?_ GE61001.out) | exact HB.out)) hb); (try clear hb); (try clear hb2); (try clear hk); (try clear hi)) | ((with_reducible refine gate_dst (N := 3) rfl ?_); (try (refine gate_guard (by rfl) ?_; dsimp only)); refine box_event ?hg (N := 3) ?hd (cs := #[.int .i64 0, .int .i64 0, .int .i64 0]) (t := 97) ?hr ?_; (case hd => rfl); (case hg => rfl); (case hr => first | (go_simp; done) | (go_simp; rfl)); intro gb61006 hg w9 hbox hb; have BK61006 := aQ (hbox); have GW61006 := aQ ((by rw [hg]; exact (below_size (by repeat (first | (with_reducible first | exact HB.out | apply below_alloc | apply pw_below_drewN | apply below_drew1 | refine below_set ?_ GE61001.out) | exact HB.out))) : w.heap.size ≤ gb61006)); have GE61006 := aQ ((by rw [hg]; exact (below_size (by repeat (first | (with_reducible first | exact HB.out | apply below_alloc | apply pw_below_drewN | apply below_drew1 | refine below_set ?_ GE61001.out) | exact HB.out))) : w.heap.size ≤ gb61006)); replace HB := aQ (below_step (by repeat (first | (with_reducible first | exact HB.out | apply below_alloc | apply pw_below_drewN | apply below_drew1 | refine below_set ?_ GE61001.out) | exact HB.out)) hb); have NB61001_61006 := aQ ((by rw [hg]; exact Nat.ne_of_lt (blk_lt (g := gb61001) (o := .cells #[.int .i64 a0_0, .slice A0_1 l0_1.length c0_1] 26 (0, 0)) (by (with_reducible repeat (first | refine blk_drewN ?_ _ | refine blk_drew ?_ | refine blk_alloc ?_ _)); exact BK61001.out)) : gb61001 ≠ gb61006)); have NB61006_61001 := aQ ((by rw [hg]; exact Nat.ne_of_gt (blk_lt (g := gb61001) (o := .cells #[.int .i64 a0_0, .slice A0_1 l0_1.length c0_1] 26 (0, 0)) (by (with_reducible repeat (first | refine blk_drewN ?_ _ | refine blk_drew ?_ | refine blk_alloc ?_ _)); exact BK61001.out)) : gb61006 ≠ gb61001)); replace BK61001 := aQ (blk_below (g := gb61001) (o := .cells #[.int .i64 a0_0, .slice A0_1 l0_1.length c0_1] 26 (0, 0)) (by (with_reducible repeat (first | refine blk_drewN ?_ _ | refine blk_drew ?_ | refine blk_alloc ?_ _)); exact BK61001.out) hb); clear hb hbox hg; have hnb10 := NB61006_61001.out; have hnc10 := NB61001_61006.out; have hcz11_0 : w9.cell? ⟨gb61006, 0, none⟩ = some (.int .i64 0) := (blk_cell BK61006.out 0).trans rfl; have hcz11_1 : w9.cell? ⟨gb61006, 1, none⟩ = some (.int .i64 0) := (blk_cell BK61006.out 1).trans rfl; have hcz11_2 : w9.cell? ⟨gb61006, 2, none⟩ = some (.int .i64 0) := (blk_cell BK61006.out 2).trans rfl; have hfz11_0 := blk_frozen BK61006.out 0; have hfz11_1 := blk_frozen BK61006.out 1; have hfz11_2 := blk_frozen BK61006.out 2; have hcz12_0 : w9.cell? ⟨gb61001, 0, none⟩ = some (.int .i64 a0_0) := (blk_cell BK61001.out 0).trans rfl; have hcz12_1 : w9.cell? ⟨gb61001, 1, none⟩ = some (.slice A0_1 l0_1.length c0_1) := (blk_cell BK61001.out 1).trans rfl; have hfz12_0 := blk_frozen BK61001.out 0; have hfz12_1 := blk_frozen BK61001.out 1) | ((with_reducible refine gate_callee (f := 132) rfl ?_); refine goesL_ (some 14) rfl rfl Try.func132 (by kernel_rfl) rfl #[.int .i64 a0_0, .slice A0_1 l0_1.length c0_1] rfl (by (try simp only [List.map_toArray, List.map_cons, List.map_nil]); first | done | rfl | (simp only [List.length_drop, List.length_take]; rfl)) ?_; (with_reducible refine (impl_IsFamily.calls k a0_0 _ _ l0_1 true _ ?side1 ?side2 A3.out).mono ?_); (case side1 => exact Kd.C_below HR0_1.out (by repeat (first | (with_reducible first | exact HB.out | apply below_alloc | apply pw_below_drewN | apply below_drew1 | refine below_set ?_ GE61001.out | refine below_set ?_ GE61006.out) | exact HB.out))); (case side2 => exact HC0_1.out); rintro e w' ⟨rfl, ⟨nd, rfl⟩⟩; refine ⟨_, rfl, ?_⟩))
   go_ret
   exact ⟨by first | rfl | (simp [errW_none, errW_some] <;> rfl) | (simp [*, errW_none, errW_some] <;> rfl), by repeat (first | (with_reducible first | exact HB.out | apply below_alloc | apply pw_below_drewN | apply below_drew1 | refine below_set ?_ GE61001.out | refine below_set ?_ GE61006.out) | exact HB.out)⟩
  ·rw [if_neg c5] at H
   have c5b0 : decide (0 < (l0_1.length : Int)) = false := decide_eq_false c5
   have c5b1 : decide (0 < l0_1.length) = false := decide_eq_false (by omega)
   clear c5
   obtain rfl := Option.some.inj H
   go_enter Try.func60, Try.ntmps60
   go_wp2_with (first | ((with_reducible refine gate_dst (N := 1) rfl ?_); (try (refine gate_guard (by rfl) ?_; dsimp only)); refine box_event ?hg (N := 1) ?hd (cs := #[.int .i64 a0_0, .slice A0_1 l0_1.length c0_1]) (t := 26) ?hr ?_; (case hd => rfl); (case hg => rfl); (case hr => first | (go_simp; done) | (go_simp; rfl)); intro gb61001 hg w13 hbox hb; have BK61001 := aQ (hbox); have GW61001 := aQ ((by rw [hg]; exact (below_size (by repeat (first | (with_reducible first | exact HB.out | apply below_alloc | apply pw_below_drewN | apply below_drew1) | exact HB.out))) : w.heap.size ≤ gb61001)); have GE61001 := aQ ((by rw [hg]; exact (below_size (by repeat (first | (with_reducible first | exact HB.out | apply below_alloc | apply pw_below_drewN | apply below_drew1) | exact HB.out))) : w.heap.size ≤ gb61001)); replace HB := aQ (below_step (by repeat (first | (with_reducible first | exact HB.out | apply below_alloc | apply pw_below_drewN | apply below_drew1) | exact HB.out)) hb); clear hb hbox hg; have hcz14_0 : w13.cell? ⟨gb61001, 0, none⟩ = some (.int .i64 a0_0) := (blk_cell BK61001.out 0).trans rfl; have hcz14_1 : w13.cell? ⟨gb61001, 1, none⟩ = some (.slice A0_1 l0_1.length c0_1) := (blk_cell BK61001.out 1).trans rfl; have hfz14_0 := blk_frozen BK61001.out 0; have hfz14_1 := blk_frozen BK61001.out 1) | ((with_reducible refine gate_callee (f := 131) rfl ?_); refine goesL_ (some 7) rfl rfl Try.func131 (by kernel_rfl) rfl #[.agg #[.int .i64 a0_0, .slice A0_1 l0_1.length c0_1]] rfl (by (try simp only [List.map_toArray, List.map_cons, List.map_nil]); first | done | rfl | (simp only [List.length_drop, List.length_take]; rfl)) ?_; (with_reducible refine (impl_FirstFailure.calls k a0_0 _ _ l0_1 t61002 t61003 t61004 t61005 _ ?side1 ?side2 A2.out).mono ?_); (case side1 => repeat (first | exact (Kd.C_below HR0_1.out HB.out) | (with_reducible refine Kd.C_alloc ?_ _) | (with_reducible refine Kd.C_drewN ?_ _) | (with_reducible refine Kd.C_drew ?_))); (case side2 => exact HC0_1.out); rintro e w15 ⟨rfl, hb⟩; refine ⟨_, rfl, ?_⟩; replace BK61001 := aQ (blk_below (g := gb61001) (o := .cells #[.int .i64 a0_0, .slice A0_1 l0_1.length c0_1] 26 (0, 0)) (by (with_reducible repeat (first | refine blk_drewN ?_ _ | refine blk_drew ?_ | refine blk_alloc ?_ _)); exact BK61001.out) hb); replace HB := aQ (below_step (by repeat (first | (with_reducible first | exact HB.out | apply below_alloc | apply pw_below_drewN | apply below_drew1 | refine below_set ?_ GE61001.out) | exact HB.out)) hb); (try clear hb); (try clear hb2); (try clear hk); (try clear hi)) | ((with_reducible refine gate_dst (N := 3) rfl ?_); (try (refine gate_guard (by rfl) ?_; dsimp only)); refine box_event ?hg (N := 3) ?hd (cs := #[.int .i64 0, .int .i64 0, .int .i64 0]) (t := 97) ?hr ?_; (case hd => rfl); (case hg => rfl); (case hr => first | (go_simp; done) | (go_simp; rfl)); intro gb61006 hg w16 hbox hb; have BK61006 := aQ (hbox); have GW61006 := aQ ((by rw [hg]; exact (below_size (by repeat (first | (with_reducible first | exact HB.out | apply below_alloc | apply pw_below_drewN | apply below_drew1 | refine below_set ?_ GE61001.out) | exact HB.out))) : w.heap.size ≤ gb61006)); have GE61006 := aQ ((by rw [hg]; exact (below_size (by repeat (first | (with_reducible first | exact HB.out | apply below_alloc | apply pw_below_drewN | apply below_drew1 | refine below_set ?_ GE61001.out) | exact HB.out))) : w.heap.size ≤ gb61006)); replace HB := aQ (below_step (by repeat (first | (with_reducible first | exact HB.out | apply below_alloc | apply pw_below_drewN | apply below_drew1 | refine below_set ?_ GE61001.out) | exact HB.out)) hb); have NB61001_61006 := aQ ((by rw [hg]; exact Nat.ne_of_lt (blk_lt (g := gb61001) (o := .cells #[.int .i64 a0_0, .slice A0_1 l0_1.length c0_1] 26 (0, 0)) (by (with_reducible repeat (first | refine blk_drewN ?_ _ | refine blk_drew ?_ | refine blk_alloc ?_ _)); exact BK61001.out)) : gb61001 ≠ gb61006)); have NB61006_61001 := aQ ((by rw [hg]; exact Nat.ne_of_gt (blk_lt (g := gb61001) (o := .cells #[.int .i64 a0_0, .slice A0_1 l0_1.length c0_1] 26 (0, 0)) (by (with_reducible repeat (first | refine blk_drewN ?_ _ | refine blk_drew ?_ | refine blk_alloc ?_ _)); exact BK61001.out)) : gb61006 ≠ gb61001)); replace BK61001 := aQ (blk_below (g := gb61001) (o := .cells #[.int .i64 a0_0, .slice A0_1 l0_1.length c0_1] 26 (0, 0)) (by (with_reducible repeat (first | refine blk_drewN ?_ _ | refine blk_drew ?_ | refine blk_alloc ?_ _)); exact BK61001.out) hb); clear hb hbox hg; have hnb17 := NB61006_61001.out; have hnc17 := NB61001_61006.out; have hcz18_0 : w16.cell? ⟨gb61006, 0, none⟩ = some (.int .i64 0) := (blk_cell BK61006.out 0).trans rfl; have hcz18_1 : w16.cell? ⟨gb61006, 1, none⟩ = some (.int .i64 0) := (blk_cell BK61006.out 1).trans rfl; have hcz18_2 : w16.cell? ⟨gb61006, 2, none⟩ = some (.int .i64 0) := (blk_cell BK61006.out 2).trans rfl; have hfz18_0 := blk_frozen BK61006.out 0; have hfz18_1 := blk_frozen BK61006.out 1; have hfz18_2 := blk_frozen BK61006.out 2; have hcz19_0 : w16.cell? ⟨gb61001, 0, none⟩ = some (.int .i64 a0_0) := (blk_cell BK61001.out 0).trans rfl; have hcz19_1 : w16.cell? ⟨gb61001, 1, none⟩ = some (.slice A0_1 l0_1.length c0_1) := (blk_cell BK61001.out 1).trans rfl; have hfz19_0 := blk_frozen BK61001.out 0; have hfz19_1 := blk_frozen BK61001.out 1) | ((with_reducible refine gate_callee (f := 132) rfl ?_); refine goesL_ (some 14) rfl rfl Try.func132 (by kernel_rfl) rfl #[.int .i64 a0_0, .slice A0_1 l0_1.length c0_1] rfl (by (try simp only [List.map_toArray, List.map_cons, List.map_nil]); first | done | rfl | (simp only [List.length_drop, List.length_take]; rfl)) ?_; (with_reducible refine (impl_IsFamily.calls k a0_0 _ _ l0_1 true _ ?side1 ?side2 A3.out).mono ?_); (case side1 => exact Kd.C_below HR0_1.out (by repeat (first | (with_reducible first | exact HB.out | apply below_alloc | apply pw_below_drewN | apply below_drew1 | refine below_set ?_ GE61001.out | refine below_set ?_ GE61006.out) | exact HB.out))); (case side2 => exact HC0_1.out); rintro e w' ⟨rfl, ⟨nd, rfl⟩⟩; refine ⟨_, rfl, ?_⟩))
   go_ret
   exact ⟨by first | rfl | (simp [errW_none, errW_some] <;> rfl) | (simp [*, errW_none, errW_some] <;> rfl), by repeat (first | (with_reducible first | exact HB.out | apply below_alloc | apply pw_below_drewN | apply below_drew1 | refine below_set ?_ GE61001.out | refine below_set ?_ GE61006.out) | exact HB.out)⟩
 ·replace c4 := Bool.eq_false_iff.mpr c4
  subst c4
  have H1 : (some false) = some r := by rw [if_neg (show ¬ (false = true) by decide)] at H; exact H
  clear H
  have H := H1
  clear H1
  obtain rfl := Option.some.inj H
  go_enter Try.func60, Try.ntmps60
  go_wp2_with (first | ((with_reducible refine gate_dst (N := 1) rfl ?_); (try (refine gate_guard (by rfl) ?_; dsimp only)); refine box_event ?hg (N := 1) ?hd (cs := #[.int .i64 a0_0, .slice A0_1 l0_1.length c0_1]) (t := 26) ?hr ?_; (case hd => rfl); (case hg => rfl); (case hr => first | (go_simp; done) | (go_simp; rfl)); intro gb61001 hg w20 hbox hb; have BK61001 := aQ (hbox); have GW61001 := aQ ((by rw [hg]; exact (below_size (by repeat (first | (with_reducible first | exact HB.out | apply below_alloc | apply pw_below_drewN | apply below_drew1) | exact HB.out))) : w.heap.size ≤ gb61001)); have GE61001 := aQ ((by rw [hg]; exact (below_size (by repeat (first | (with_reducible first | exact HB.out | apply below_alloc | apply pw_below_drewN | apply below_drew1) | exact HB.out))) : w.heap.size ≤ gb61001)); replace HB := aQ (below_step (by repeat (first | (with_reducible first | exact HB.out | apply below_alloc | apply pw_below_drewN | apply below_drew1) | exact HB.out)) hb); clear hb hbox hg; have hcz21_0 : w20.cell? ⟨gb61001, 0, none⟩ = some (.int .i64 a0_0) := (blk_cell BK61001.out 0).trans rfl; have hcz21_1 : w20.cell? ⟨gb61001, 1, none⟩ = some (.slice A0_1 l0_1.length c0_1) := (blk_cell BK61001.out 1).trans rfl; have hfz21_0 := blk_frozen BK61001.out 0; have hfz21_1 := blk_frozen BK61001.out 1) | ((with_reducible refine gate_callee (f := 131) rfl ?_); refine goesL_ (some 7) rfl rfl Try.func131 (by kernel_rfl) rfl #[.agg #[.int .i64 a0_0, .slice A0_1 l0_1.length c0_1]] rfl (by (try simp only [List.map_toArray, List.map_cons, List.map_nil]); first | done | rfl | (simp only [List.length_drop, List.length_take]; rfl)) ?_; (with_reducible refine (impl_FirstFailure.calls k a0_0 _ _ l0_1 t61002 t61003 t61004 t61005 _ ?side1 ?side2 A2.out).mono ?_); (case side1 => repeat (first | exact (Kd.C_below HR0_1.out HB.out) | (with_reducible refine Kd.C_alloc ?_ _) | (with_reducible refine Kd.C_drewN ?_ _) | (with_reducible refine Kd.C_drew ?_))); (case side2 => exact HC0_1.out); rintro e w22 ⟨rfl, hb⟩; refine ⟨_, rfl, ?_⟩; replace BK61001 := aQ (blk_below (g := gb61001) (o := .cells #[.int .i64 a0_0, .slice A0_1 l0_1.length c0_1] 26 (0, 0)) (by (with_reducible repeat (first | refine blk_drewN ?_ _ | refine blk_drew ?_ | refine blk_alloc ?_ _)); exact BK61001.out) hb); replace HB := aQ (below_step (by repeat (first | (with_reducible first | exact HB.out | apply below_alloc | apply pw_below_drewN | apply below_drew1 | refine below_set ?_ GE61001.out) | exact HB.out)) hb); (try clear hb); (try clear hb2); (try clear hk); (try clear hi)) | ((with_reducible refine gate_dst (N := 3) rfl ?_); (try (refine gate_guard (by rfl) ?_; dsimp only)); refine box_event ?hg (N := 3) ?hd (cs := #[.int .i64 0, .int .i64 0, .int .i64 0]) (t := 97) ?hr ?_; (case hd => rfl); (case hg => rfl); (case hr => first | (go_simp; done) | (go_simp; rfl)); intro gb61006 hg w23 hbox hb; have BK61006 := aQ (hbox); have GW61006 := aQ ((by rw [hg]; exact (below_size (by repeat (first | (with_reducible first | exact HB.out | apply below_alloc | apply pw_below_drewN | apply below_drew1 | refine below_set ?_ GE61001.out) | exact HB.out))) : w.heap.size ≤ gb61006)); have GE61006 := aQ ((by rw [hg]; exact (below_size (by repeat (first | (with_reducible first | exact HB.out | apply below_alloc | apply pw_below_drewN | apply below_drew1 | refine below_set ?_ GE61001.out) | exact HB.out))) : w.heap.size ≤ gb61006)); replace HB := aQ (below_step (by repeat (first | (with_reducible first | exact HB.out | apply below_alloc | apply pw_below_drewN | apply below_drew1 | refine below_set ?_ GE61001.out) | exact HB.out)) hb); have NB61001_61006 := aQ ((by rw [hg]; exact Nat.ne_of_lt (blk_lt (g := gb61001) (o := .cells #[.int .i64 a0_0, .slice A0_1 l0_1.length c0_1] 26 (0, 0)) (by (with_reducible repeat (first | refine blk_drewN ?_ _ | refine blk_drew ?_ | refine blk_alloc ?_ _)); exact BK61001.out)) : gb61001 ≠ gb61006)); have NB61006_61001 := aQ ((by rw [hg]; exact Nat.ne_of_gt (blk_lt (g := gb61001) (o := .cells #[.int .i64 a0_0, .slice A0_1 l0_1.length c0_1] 26 (0, 0)) (by (with_reducible repeat (first | refine blk_drewN ?_ _ | refine blk_drew ?_ | refine blk_alloc ?_ _)); exact BK61001.out)) : gb61006 ≠ gb61001)); replace BK61001 := aQ (blk_below (g := gb61001) (o := .cells #[.int .i64 a0_0, .slice A0_1 l0_1.length c0_1] 26 (0, 0)) (by (with_reducible repeat (first | refine blk_drewN ?_ _ | refine blk_drew ?_ | refine blk_alloc ?_ _)); exact BK61001.out) hb); clear hb hbox hg; have hnb24 := NB61006_61001.out; have hnc24 := NB61001_61006.out; have hcz25_0 : w23.cell? ⟨gb61006, 0, none⟩ = some (.int .i64 0) := (blk_cell BK61006.out 0).trans rfl; have hcz25_1 : w23.cell? ⟨gb61006, 1, none⟩ = some (.int .i64 0) := (blk_cell BK61006.out 1).trans rfl; have hcz25_2 : w23.cell? ⟨gb61006, 2, none⟩ = some (.int .i64 0) := (blk_cell BK61006.out 2).trans rfl; have hfz25_0 := blk_frozen BK61006.out 0; have hfz25_1 := blk_frozen BK61006.out 1; have hfz25_2 := blk_frozen BK61006.out 2; have hcz26_0 : w23.cell? ⟨gb61001, 0, none⟩ = some (.int .i64 a0_0) := (blk_cell BK61001.out 0).trans rfl; have hcz26_1 : w23.cell? ⟨gb61001, 1, none⟩ = some (.slice A0_1 l0_1.length c0_1) := (blk_cell BK61001.out 1).trans rfl; have hfz26_0 := blk_frozen BK61001.out 0; have hfz26_1 := blk_frozen BK61001.out 1) | ((with_reducible refine gate_callee (f := 132) rfl ?_); refine goesL_ (some 14) rfl rfl Try.func132 (by kernel_rfl) rfl #[.int .i64 a0_0, .slice A0_1 l0_1.length c0_1] rfl (by (try simp only [List.map_toArray, List.map_cons, List.map_nil]); first | done | rfl | (simp only [List.length_drop, List.length_take]; rfl)) ?_; (with_reducible refine (impl_IsFamily.calls k a0_0 _ _ l0_1 false _ ?side1 ?side2 A3.out).mono ?_); (case side1 => exact Kd.C_below HR0_1.out (by repeat (first | (with_reducible first | exact HB.out | apply below_alloc | apply pw_below_drewN | apply below_drew1 | refine below_set ?_ GE61001.out | refine below_set ?_ GE61006.out) | exact HB.out))); (case side2 => exact HC0_1.out); rintro e w' ⟨rfl, ⟨nd, rfl⟩⟩; refine ⟨_, rfl, ?_⟩))
  go_ret
  exact ⟨by first | rfl | (simp [errW_none, errW_some] <;> rfl) | (simp [*, errW_none, errW_some] <;> rfl), by repeat (first | (with_reducible first | exact HB.out | apply below_alloc | apply pw_below_drewN | apply below_drew1 | refine below_set ?_ GE61001.out | refine below_set ?_ GE61006.out) | exact HB.out)⟩
/-! ### bits_OnesCount64: function 171 -/
def bits_OnesCount64.f (a0 : Int) : Option (Int) := some (Go.bits .and .i64 (wrap64 (IntKind.u64.wrap ((IntKind.u64.wrap ((IntKind.u64.wrap ((Go.bits .and .u64 (IntKind.u64.wrap (((IntKind.u64.wrap ((Go.bits .and .u64 ((IntKind.u64.wrap ((Go.bits .and .u64 (a0 / 2) 6148914691236517205) + (Go.bits .and .u64 a0 6148914691236517205))) / 4) 3689348814741910323) + (Go.bits .and .u64 (IntKind.u64.wrap ((Go.bits .and .u64 (a0 / 2) 6148914691236517205) + (Go.bits .and .u64 a0 6148914691236517205))) 3689348814741910323))) / 16) + (IntKind.u64.wrap ((Go.bits .and .u64 ((IntKind.u64.wrap ((Go.bits .and .u64 (a0 / 2) 6148914691236517205) + (Go.bits .and .u64 a0 6148914691236517205))) / 4) 3689348814741910323) + (Go.bits .and .u64 (IntKind.u64.wrap ((Go.bits .and .u64 (a0 / 2) 6148914691236517205) + (Go.bits .and .u64 a0 6148914691236517205))) 3689348814741910323))))) 1085102592571150095) + ((Go.bits .and .u64 (IntKind.u64.wrap (((IntKind.u64.wrap ((Go.bits .and .u64 ((IntKind.u64.wrap ((Go.bits .and .u64 (a0 / 2) 6148914691236517205) + (Go.bits .and .u64 a0 6148914691236517205))) / 4) 3689348814741910323) + (Go.bits .and .u64 (IntKind.u64.wrap ((Go.bits .and .u64 (a0 / 2) 6148914691236517205) + (Go.bits .and .u64 a0 6148914691236517205))) 3689348814741910323))) / 16) + (IntKind.u64.wrap ((Go.bits .and .u64 ((IntKind.u64.wrap ((Go.bits .and .u64 (a0 / 2) 6148914691236517205) + (Go.bits .and .u64 a0 6148914691236517205))) / 4) 3689348814741910323) + (Go.bits .and .u64 (IntKind.u64.wrap ((Go.bits .and .u64 (a0 / 2) 6148914691236517205) + (Go.bits .and .u64 a0 6148914691236517205))) 3689348814741910323))))) 1085102592571150095) / 256))) + ((IntKind.u64.wrap ((Go.bits .and .u64 (IntKind.u64.wrap (((IntKind.u64.wrap ((Go.bits .and .u64 ((IntKind.u64.wrap ((Go.bits .and .u64 (a0 / 2) 6148914691236517205) + (Go.bits .and .u64 a0 6148914691236517205))) / 4) 3689348814741910323) + (Go.bits .and .u64 (IntKind.u64.wrap ((Go.bits .and .u64 (a0 / 2) 6148914691236517205) + (Go.bits .and .u64 a0 6148914691236517205))) 3689348814741910323))) / 16) + (IntKind.u64.wrap ((Go.bits .and .u64 ((IntKind.u64.wrap ((Go.bits .and .u64 (a0 / 2) 6148914691236517205) + (Go.bits .and .u64 a0 6148914691236517205))) / 4) 3689348814741910323) + (Go.bits .and .u64 (IntKind.u64.wrap ((Go.bits .and .u64 (a0 / 2) 6148914691236517205) + (Go.bits .and .u64 a0 6148914691236517205))) 3689348814741910323))))) 1085102592571150095) + ((Go.bits .and .u64 (IntKind.u64.wrap (((IntKind.u64.wrap ((Go.bits .and .u64 ((IntKind.u64.wrap ((Go.bits .and .u64 (a0 / 2) 6148914691236517205) + (Go.bits .and .u64 a0 6148914691236517205))) / 4) 3689348814741910323) + (Go.bits .and .u64 (IntKind.u64.wrap ((Go.bits .and .u64 (a0 / 2) 6148914691236517205) + (Go.bits .and .u64 a0 6148914691236517205))) 3689348814741910323))) / 16) + (IntKind.u64.wrap ((Go.bits .and .u64 ((IntKind.u64.wrap ((Go.bits .and .u64 (a0 / 2) 6148914691236517205) + (Go.bits .and .u64 a0 6148914691236517205))) / 4) 3689348814741910323) + (Go.bits .and .u64 (IntKind.u64.wrap ((Go.bits .and .u64 (a0 / 2) 6148914691236517205) + (Go.bits .and .u64 a0 6148914691236517205))) 3689348814741910323))))) 1085102592571150095) / 256))) / 65536))) + ((IntKind.u64.wrap ((IntKind.u64.wrap ((Go.bits .and .u64 (IntKind.u64.wrap (((IntKind.u64.wrap ((Go.bits .and .u64 ((IntKind.u64.wrap ((Go.bits .and .u64 (a0 / 2) 6148914691236517205) + (Go.bits .and .u64 a0 6148914691236517205))) / 4) 3689348814741910323) + (Go.bits .and .u64 (IntKind.u64.wrap ((Go.bits .and .u64 (a0 / 2) 6148914691236517205) + (Go.bits .and .u64 a0 6148914691236517205))) 3689348814741910323))) / 16) + (IntKind.u64.wrap ((Go.bits .and .u64 ((IntKind.u64.wrap ((Go.bits .and .u64 (a0 / 2) 6148914691236517205) + (Go.bits .and .u64 a0 6148914691236517205))) / 4) 3689348814741910323) + (Go.bits .and .u64 (IntKind.u64.wrap ((Go.bits .and .u64 (a0 / 2) 6148914691236517205) + (Go.bits .and .u64 a0 6148914691236517205))) 3689348814741910323))))) 1085102592571150095) + ((Go.bits .and .u64 (IntKind.u64.wrap (((IntKind.u64.wrap ((Go.bits .and .u64 ((IntKind.u64.wrap ((Go.bits .and .u64 (a0 / 2) 6148914691236517205) + (Go.bits .and .u64 a0 6148914691236517205))) / 4) 3689348814741910323) + (Go.bits .and .u64 (IntKind.u64.wrap ((Go.bits .and .u64 (a0 / 2) 6148914691236517205) + (Go.bits .and .u64 a0 6148914691236517205))) 3689348814741910323))) / 16) + (IntKind.u64.wrap ((Go.bits .and .u64 ((IntKind.u64.wrap ((Go.bits .and .u64 (a0 / 2) 6148914691236517205) + (Go.bits .and .u64 a0 6148914691236517205))) / 4) 3689348814741910323) + (Go.bits .and .u64 (IntKind.u64.wrap ((Go.bits .and .u64 (a0 / 2) 6148914691236517205) + (Go.bits .and .u64 a0 6148914691236517205))) 3689348814741910323))))) 1085102592571150095) / 256))) + ((IntKind.u64.wrap ((Go.bits .and .u64 (IntKind.u64.wrap (((IntKind.u64.wrap ((Go.bits .and .u64 ((IntKind.u64.wrap ((Go.bits .and .u64 (a0 / 2) 6148914691236517205) + (Go.bits .and .u64 a0 6148914691236517205))) / 4) 3689348814741910323) + (Go.bits .and .u64 (IntKind.u64.wrap ((Go.bits .and .u64 (a0 / 2) 6148914691236517205) + (Go.bits .and .u64 a0 6148914691236517205))) 3689348814741910323))) / 16) + (IntKind.u64.wrap ((Go.bits .and .u64 ((IntKind.u64.wrap ((Go.bits .and .u64 (a0 / 2) 6148914691236517205) + (Go.bits .and .u64 a0 6148914691236517205))) / 4) 3689348814741910323) + (Go.bits .and .u64 (IntKind.u64.wrap ((Go.bits .and .u64 (a0 / 2) 6148914691236517205) + (Go.bits .and .u64 a0 6148914691236517205))) 3689348814741910323))))) 1085102592571150095) + ((Go.bits .and .u64 (IntKind.u64.wrap (((IntKind.u64.wrap ((Go.bits .and .u64 ((IntKind.u64.wrap ((Go.bits .and .u64 (a0 / 2) 6148914691236517205) + (Go.bits .and .u64 a0 6148914691236517205))) / 4) 3689348814741910323) + (Go.bits .and .u64 (IntKind.u64.wrap ((Go.bits .and .u64 (a0 / 2) 6148914691236517205) + (Go.bits .and .u64 a0 6148914691236517205))) 3689348814741910323))) / 16) + (IntKind.u64.wrap ((Go.bits .and .u64 ((IntKind.u64.wrap ((Go.bits .and .u64 (a0 / 2) 6148914691236517205) + (Go.bits .and .u64 a0 6148914691236517205))) / 4) 3689348814741910323) + (Go.bits .and .u64 (IntKind.u64.wrap ((Go.bits .and .u64 (a0 / 2) 6148914691236517205) + (Go.bits .and .u64 a0 6148914691236517205))) 3689348814741910323))))) 1085102592571150095) / 256))) / 65536))) / 4294967296)))) 127)
set_option maxHeartbeats 8000000 in
set_option maxRecDepth 100000 in
theorem bits_OnesCount64.calls (a0 : Int) (r : Int) (w : World) (h : bits_OnesCount64.f a0 = some r) :
  Calls Try.prog 171 #[.int .u64 a0] w fun e w' => e = .returned (.int .i64 r) ∧ Drawn0 w w' := by
 have H : (some (Go.bits .and .i64 (wrap64 (IntKind.u64.wrap ((IntKind.u64.wrap ((IntKind.u64.wrap ((Go.bits .and .u64 (IntKind.u64.wrap (((IntKind.u64.wrap ((Go.bits .and .u64 ((IntKind.u64.wrap ((Go.bits .and .u64 (a0 / 2) 6148914691236517205) + (Go.bits .and .u64 a0 6148914691236517205))) / 4) 3689348814741910323) + (Go.bits .and .u64 (IntKind.u64.wrap ((Go.bits .and .u64 (a0 / 2) 6148914691236517205) + (Go.bits .and .u64 a0 6148914691236517205))) 3689348814741910323))) / 16) + (IntKind.u64.wrap ((Go.bits .and .u64 ((IntKind.u64.wrap ((Go.bits .and .u64 (a0 / 2) 6148914691236517205) + (Go.bits .and .u64 a0 6148914691236517205))) / 4) 3689348814741910323) + (Go.bits .and .u64 (IntKind.u64.wrap ((Go.bits .and .u64 (a0 / 2) 6148914691236517205) + (Go.bits .and .u64 a0 6148914691236517205))) 3689348814741910323))))) 1085102592571150095) + ((Go.bits .and .u64 (IntKind.u64.wrap (((IntKind.u64.wrap ((Go.bits .and .u64 ((IntKind.u64.wrap ((Go.bits .and .u64 (a0 / 2) 6148914691236517205) + (Go.bits .and .u64 a0 6148914691236517205))) / 4) 3689348814741910323) + (Go.bits .and .u64 (IntKind.u64.wrap ((Go.bits .and .u64 (a0 / 2) 6148914691236517205) + (Go.bits .and .u64 a0 6148914691236517205))) 3689348814741910323))) / 16) + (IntKind.u64.wrap ((Go.bits .and .u64 ((IntKind.u64.wrap ((Go.bits .and .u64 (a0 / 2) 6148914691236517205) + (Go.bits .and .u64 a0 6148914691236517205))) / 4) 3689348814741910323) + (Go.bits .and .u64 (IntKind.u64.wrap ((Go.bits .and .u64 (a0 / 2) 6148914691236517205) + (Go.bits .and .u64 a0 6148914691236517205))) 3689348814741910323))))) 1085102592571150095) / 256))) + ((IntKind.u64.wrap ((Go.bits .and .u64 (IntKind.u64.wrap (((IntKind.u64.wrap ((Go.bits .and .u64 ((IntKind.u64.wrap ((Go.bits .and .u64 (a0 / 2) 6148914691236517205) + (Go.bits .and .u64 a0 6148914691236517205))) / 4) 3689348814741910323) + (Go.bits .and .u64 (IntKind.u64.wrap ((Go.bits .and .u64 (a0 / 2) 6148914691236517205) + (Go.bits .and .u64 a0 6148914691236517205))) 3689348814741910323))) / 16) + (IntKind.u64.wrap ((Go.bits .and .u64 ((IntKind.u64.wrap ((Go.bits .and .u64 (a0 / 2) 6148914691236517205) + (Go.bits .and .u64 a0 6148914691236517205))) / 4) 3689348814741910323) + (Go.bits .and .u64 (IntKind.u64.wrap ((Go.bits .and .u64 (a0 / 2) 6148914691236517205) + (Go.bits .and .u64 a0 6148914691236517205))) 3689348814741910323))))) 1085102592571150095) + ((Go.bits .and .u64 (IntKind.u64.wrap (((IntKind.u64.wrap ((Go.bits .and .u64 ((IntKind.u64.wrap ((Go.bits .and .u64 (a0 / 2) 6148914691236517205) + (Go.bits .and .u64 a0 6148914691236517205))) / 4) 3689348814741910323) + (Go.bits .and .u64 (IntKind.u64.wrap ((Go.bits .and .u64 (a0 / 2) 6148914691236517205) + (Go.bits .and .u64 a0 6148914691236517205))) 3689348814741910323))) / 16) + (IntKind.u64.wrap ((Go.bits .and .u64 ((IntKind.u64.wrap ((Go.bits .and .u64 (a0 / 2) 6148914691236517205) + (Go.bits .and .u64 a0 6148914691236517205))) / 4) 3689348814741910323) + (Go.bits .and .u64 (IntKind.u64.wrap ((Go.bits .and .u64 (a0 / 2) 6148914691236517205) + (Go.bits .and .u64 a0 6148914691236517205))) 3689348814741910323))))) 1085102592571150095) / 256))) / 65536))) + ((IntKind.u64.wrap ((IntKind.u64.wrap ((Go.bits .and .u64 (IntKind.u64.wrap (((IntKind.u64.wrap ((Go.bits .and .u64 ((IntKind.u64.wrap ((Go.bits .and .u64 (a0 / 2) 6148914691236517205) + (Go.bits .and .u64 a0 6148914691236517205))) / 4) 3689348814741910323) + (Go.bits .and .u64 (IntKind.u64.wrap ((Go.bits .and .u64 (a0 / 2) 6148914691236517205) + (Go.bits .and .u64 a0 6148914691236517205))) 3689348814741910323))) / 16) + (IntKind.u64.wrap ((Go.bits .and .u64 ((IntKind.u64.wrap ((Go.bits .and .u64 (a0 / 2) 6148914691236517205) + (Go.bits .and .u64 a0 6148914691236517205))) / 4) 3689348814741910323) + (Go.bits .and .u64 (IntKind.u64.wrap ((Go.bits .and .u64 (a0 / 2) 6148914691236517205) + (Go.bits .and .u64 a0 6148914691236517205))) 3689348814741910323))))) 1085102592571150095) + ((Go.bits .and .u64 (IntKind.u64.wrap (((IntKind.u64.wrap ((Go.bits .and .u64 ((IntKind.u64.wrap ((Go.bits .and .u64 (a0 / 2) 6148914691236517205) + (Go.bits .and .u64 a0 6148914691236517205))) / 4) 3689348814741910323) + (Go.bits .and .u64 (IntKind.u64.wrap ((Go.bits .and .u64 (a0 / 2) 6148914691236517205) + (Go.bits .and .u64 a0 6148914691236517205))) 3689348814741910323))) / 16) + (IntKind.u64.wrap ((Go.bits .and .u64 ((IntKind.u64.wrap ((Go.bits .and .u64 (a0 / 2) 6148914691236517205) + (Go.bits .and .u64 a0 6148914691236517205))) / 4) 3689348814741910323) + (Go.bits .and .u64 (IntKind.u64.wrap ((Go.bits .and .u64 (a0 / 2) 6148914691236517205) + (Go.bits .and .u64 a0 6148914691236517205))) 3689348814741910323))))) 1085102592571150095) / 256))) + ((IntKind.u64.wrap ((Go.bits .and .u64 (IntKind.u64.wrap (((IntKind.u64.wrap ((Go.bits .and .u64 ((IntKind.u64.wrap ((Go.bits .and .u64 (a0 / 2) 6148914691236517205) + (Go.bits .and .u64 a0 6148914691236517205))) / 4) 3689348814741910323) + (Go.bits .and .u64 (IntKind.u64.wrap ((Go.bits .and .u64 (a0 / 2) 6148914691236517205) + (Go.bits .and .u64 a0 6148914691236517205))) 3689348814741910323))) / 16) + (IntKind.u64.wrap ((Go.bits .and .u64 ((IntKind.u64.wrap ((Go.bits .and .u64 (a0 / 2) 6148914691236517205) + (Go.bits .and .u64 a0 6148914691236517205))) / 4) 3689348814741910323) + (Go.bits .and .u64 (IntKind.u64.wrap ((Go.bits .and .u64 (a0 / 2) 6148914691236517205) + (Go.bits .and .u64 a0 6148914691236517205))) 3689348814741910323))))) 1085102592571150095) + ((Go.bits .and .u64 (IntKind.u64.wrap (((IntKind.u64.wrap ((Go.bits .and .u64 ((IntKind.u64.wrap ((Go.bits .and .u64 (a0 / 2) 6148914691236517205) + (Go.bits .and .u64 a0 6148914691236517205))) / 4) 3689348814741910323) + (Go.bits .and .u64 (IntKind.u64.wrap ((Go.bits .and .u64 (a0 / 2) 6148914691236517205) + (Go.bits .and .u64 a0 6148914691236517205))) 3689348814741910323))) / 16) + (IntKind.u64.wrap ((Go.bits .and .u64 ((IntKind.u64.wrap ((Go.bits .and .u64 (a0 / 2) 6148914691236517205) + (Go.bits .and .u64 a0 6148914691236517205))) / 4) 3689348814741910323) + (Go.bits .and .u64 (IntKind.u64.wrap ((Go.bits .and .u64 (a0 / 2) 6148914691236517205) + (Go.bits .and .u64 a0 6148914691236517205))) 3689348814741910323))))) 1085102592571150095) / 256))) / 65536))) / 4294967296)))) 127)) = some r := h
 clear h
 obtain rfl := Option.some.inj H
 go_enter Try.func171, Try.ntmps171
 go_wp2
 go_ret
 exact ⟨by first | rfl | (simp; done) | (simp [*]; done), by repeat (first | exact Drawn0.refl _ | apply Drawn0.step)⟩
/-! ### bits_OnesCount: function 134 -/
def bits_OnesCount.f (a0 : Int) : Option (Int) := (bits_OnesCount64.f a0).bind fun t135001 => (some t135001)
set_option maxHeartbeats 8000000 in
set_option maxRecDepth 100000 in
theorem bits_OnesCount.calls (a0 : Int) (r : Int) (w : World) (h : bits_OnesCount.f a0 = some r) :
  Calls Try.prog 134 #[.int .u64 a0] w fun e w' => e = .returned (.int .i64 r) ∧ Drawn0 w w' := by
 have H : ((bits_OnesCount64.f a0).bind fun t135001 => (some t135001)) = some r := h
 clear h
 replace H := Option.bind_eq_some_iff.mp H
 obtain ⟨t135001, A20, H⟩ := H
 replace H : (some t135001) = some r := H
 have A2 := aQ A20
 clear A20
 obtain rfl := Option.some.inj H
 go_enter Try.func134, Try.ntmps134
 go_wp2_with (first | ((with_reducible refine gate_callee (f := 171) rfl ?_); refine goesL_ (some 7) rfl rfl Try.func171 (by kernel_rfl) rfl #[.int .u64 a0] rfl (by (try simp only [List.map_toArray, List.map_cons, List.map_nil]); first | done | rfl | (simp only [List.length_drop, List.length_take]; rfl)) ?_; (with_reducible refine (bits_OnesCount64.calls a0 t135001 _ A2.out).mono ?_); rintro e w' ⟨rfl, ⟨nd, rfl⟩⟩; refine ⟨_, rfl, ?_⟩))
 go_ret
 exact ⟨by first | rfl | (simp; done) | (simp [*]; done), by repeat (first | exact Drawn0.refl _ | apply Drawn0.step)⟩
/-! ### impl_CountOf: function 64 -/
def impl_CountOf.f (a0 : Int) : Option (Int) := (impl_isAny.f a0).bind fun t65001 => (if t65001 = true then ((bits_OnesCount.f (IntKind.u64.wrap (a0))).bind fun t65002 => (some t65002)) else (some 0))
set_option maxHeartbeats 8000000 in
set_option maxRecDepth 100000 in
theorem impl_CountOf.calls (a0 : Int) (r : Int) (w : World) (h : impl_CountOf.f a0 = some r) :
  Calls Try.prog 64 #[.int .i64 a0] w fun e w' => e = .returned (.int .i64 r) ∧ Drawn0 w w' := by
 have H : ((impl_isAny.f a0).bind fun t65001 => (if t65001 = true then ((bits_OnesCount.f (IntKind.u64.wrap (a0))).bind fun t65002 => (some t65002)) else (some 0))) = some r := h
 clear h
 replace H := Option.bind_eq_some_iff.mp H
 obtain ⟨t65001, A20, H⟩ := H
 replace H : (if t65001 = true then ((bits_OnesCount.f (IntKind.u64.wrap (a0))).bind fun t65002 => (some t65002)) else (some 0)) = some r := H
 have A2 := aQ A20
 clear A20
 by_cases c3 : t65001 = true
 ·subst c3
  have H1 : ((bits_OnesCount.f (IntKind.u64.wrap (a0))).bind fun t65002 => (some t65002)) = some r := by rw [if_pos rfl] at H; exact H
  clear H
  have H := H1
  clear H1
  replace H := Option.bind_eq_some_iff.mp H
  obtain ⟨t65002, A40, H⟩ := H
  replace H : (some t65002) = some r := H
  have A4 := aQ A40
  clear A40
  obtain rfl := Option.some.inj H
  go_enter Try.func64, Try.ntmps64
  go_wp2_with (first | ((with_reducible refine gate_callee (f := 133) rfl ?_); refine goesL_ (some 4) rfl rfl Try.func133 (by kernel_rfl) rfl #[.int .i64 a0] rfl (by (try simp only [List.map_toArray, List.map_cons, List.map_nil]); first | done | rfl | (simp only [List.length_drop, List.length_take]; rfl)) ?_; (with_reducible refine (impl_isAny.calls a0 true _ A2.out).mono ?_); rintro e w' ⟨rfl, ⟨nd, rfl⟩⟩; refine ⟨_, rfl, ?_⟩) | ((with_reducible refine gate_callee (f := 134) rfl ?_); refine goesL_ (some 8) rfl rfl Try.func134 (by kernel_rfl) rfl #[.int .u64 (IntKind.u64.wrap (a0))] rfl (by (try simp only [List.map_toArray, List.map_cons, List.map_nil]); first | done | rfl | (simp only [List.length_drop, List.length_take]; rfl)) ?_; (with_reducible refine (bits_OnesCount.calls (IntKind.u64.wrap (a0)) t65002 _ A4.out).mono ?_); rintro e w' ⟨rfl, ⟨nd, rfl⟩⟩; refine ⟨_, rfl, ?_⟩))
  go_ret
  exact ⟨by first | rfl | (simp; done) | (simp [*]; done), by repeat (first | exact Drawn0.refl _ | apply Drawn0.step)⟩
 ·replace c3 := Bool.eq_false_iff.mpr c3
  subst c3
  have H1 : (some 0) = some r := by rw [if_neg (show ¬ (false = true) by decide)] at H; exact H
  clear H
  have H := H1
  clear H1
  obtain rfl := Option.some.inj H
  go_enter Try.func64, Try.ntmps64
  go_wp2_with (first | ((with_reducible refine gate_callee (f := 133) rfl ?_); refine goesL_ (some 4) rfl rfl Try.func133 (by kernel_rfl) rfl #[.int .i64 a0] rfl (by (try simp only [List.map_toArray, List.map_cons, List.map_nil]); first | done | rfl | (simp only [List.length_drop, List.length_take]; rfl)) ?_; (with_reducible refine (impl_isAny.calls a0 false _ A2.out).mono ?_); rintro e w' ⟨rfl, ⟨nd, rfl⟩⟩; refine ⟨_, rfl, ?_⟩))
  go_ret
  exact ⟨by first | rfl | (simp; done) | (simp [*]; done), by repeat (first | exact Drawn0.refl _ | apply Drawn0.step)⟩
/-! ### impl_RankOfMatroid: function 61 -/
def impl_RankOfMatroid.f (k : Nat) (a0_0 : Int) (l0_1 : List Int) : Option (Int) := (impl_IsMatroid.f k a0_0 l0_1).bind fun t62002 => (if t62002 = true then (if 0 < (l0_1.length : Int) then ((impl_CountOf.f (rd l0_1 0)).bind fun t62004 => (some t62004)) else (none)) else (some (-1)))
theorem impl_RankOfMatroid.mono : ∀ a0 a1 k, LeO (impl_RankOfMatroid.f k a0 a1) (impl_RankOfMatroid.f (k + 1) a0 a1) := by
 intro a0 a1 k
 unfold impl_RankOfMatroid.f
 repeat' first
   | (with_reducible exact impl_IsMatroid.mono _ _ _)
   | (with_reducible exact LeO.refl _)
   | (with_reducible exact LeO.none _)
   | (with_reducible refine LeO.ite ?_ ?_)
   | (with_reducible refine LeO.bind ?_ (fun _ => ?_))
   | exact impl_IsMatroid.mono _ _ _
   | exact LeO.none _
   | refine LeO.ite ?_ ?_
   | refine LeO.bind ?_ (fun _ => ?_)
set_option maxHeartbeats 8000000 in
set_option maxRecDepth 100000 in
theorem impl_RankOfMatroid.calls (k : Nat) (a0_0 : Int) (A0_1 : Option Addr) (c0_1 : Nat) (l0_1 : List Int) (r : Int) (w : World) (hr0_1 : Kd.C (Kd.int .i64) w A0_1 l0_1.length l0_1) (hc0_1 : l0_1.length ≤ c0_1) (h : impl_RankOfMatroid.f k a0_0 l0_1 = some r) :
  Calls Try.prog 61 #[.agg #[.int .i64 a0_0, .slice A0_1 l0_1.length c0_1]] w fun e w' => e = .returned (.int .i64 r) ∧ Below w.heap.size w w' := by
 have hu26 := Try.underlying26
 have HR0_1 := aQ hr0_1
 have HC0_1 := aQ hc0_1
 clear hr0_1 hc0_1
 have HB := aQ (Below.refl w.heap.size w)
 have H : ((impl_IsMatroid.f k a0_0 l0_1).bind fun t62002 => (if t62002 = true then (if 0 < (l0_1.length : Int) then ((impl_CountOf.f (rd l0_1 0)).bind fun t62004 => (some t62004)) else (none)) else (some (-1)))) = some r := h
 clear h
 replace H := Option.bind_eq_some_iff.mp H
 obtain ⟨t62002, A20, H⟩ := H
 replace H : (if t62002 = true then (if 0 < (l0_1.length : Int) then ((impl_CountOf.f (rd l0_1 0)).bind fun t62004 => (some t62004)) else (none)) else (some (-1))) = some r := H
 have A2 := aQ A20
 clear A20
 by_cases c3 : t62002 = true
 ·subst c3
  have H1 : (if 0 < (l0_1.length : Int) then ((impl_CountOf.f (rd l0_1 0)).bind fun t62004 => (some t62004)) else (none)) = some r := by rw [if_pos rfl] at H; exact H
  clear H
  have H := H1
  clear H1
  by_cases c4 : 0 < (l0_1.length : Int)
  ·rw [if_pos c4] at H
   have c4b0 : decide (0 < (l0_1.length : Int)) = true := decide_eq_true c4
   have c4b1 : decide (0 < l0_1.length) = true := decide_eq_true (by omega)
   clear c4
   replace H := Option.bind_eq_some_iff.mp H
   obtain ⟨t62004, A50, H⟩ := H
   replace H : (some t62004) = some r := H
   have A5 := aQ A50
   clear A50
   obtain rfl := Option.some.inj H
   go_enter Try.func61, Try.ntmps61
   go_wp2_with (first | ((with_reducible refine gate_dst (N := 1) rfl ?_); refine box_event ?hg (N := 1) ?hd (cs := #[.int .i64 a0_0, .slice A0_1 l0_1.length c0_1]) (t := 26) ?hr ?_; (case hd => rfl); (case hg => rfl); (case hr => first | (go_simp; done) | (go_simp; rfl)); intro gb62001 hg w6 hbox hb; have BK62001 := aQ (hbox); have GW62001 := aQ ((by rw [hg]; exact (below_size (by repeat (first | (with_reducible first | exact HB.out | apply below_alloc | apply pw_below_drewN | apply below_drew1) | exact HB.out))) : w.heap.size ≤ gb62001)); have GE62001 := aQ ((by rw [hg]; exact (below_size (by repeat (first | (with_reducible first | exact HB.out | apply below_alloc | apply pw_below_drewN | apply below_drew1) | exact HB.out))) : w.heap.size ≤ gb62001)); replace HB := aQ (below_step (by repeat (first | (with_reducible first | exact HB.out | apply below_alloc | apply pw_below_drewN | apply below_drew1) | exact HB.out)) hb); clear hb hbox hg; have hcz7_0 : w6.cell? ⟨gb62001, 0, none⟩ = some (.int .i64 a0_0) := (blk_cell BK62001.out 0).trans rfl; have hcz7_1 : w6.cell? ⟨gb62001, 1, none⟩ = some (.slice A0_1 l0_1.length c0_1) := (blk_cell BK62001.out 1).trans rfl; have hfz7_0 := blk_frozen BK62001.out 0; have hfz7_1 := blk_frozen BK62001.out 1) | ((with_reducible refine gate_callee (f := 60) rfl ?_); refine goesL_ (some 4) rfl rfl Try.func60 (by kernel_rfl) rfl #[.agg #[.int .i64 a0_0, .slice A0_1 l0_1.length c0_1]] rfl (by (try simp only [List.map_toArray, List.map_cons, List.map_nil]); first | done | rfl | (simp only [List.length_drop, List.length_take]; rfl)) ?_; (with_reducible refine (impl_IsMatroid.calls k a0_0 _ _ l0_1 true _ ?side1 ?side2 A2.out).mono ?_); (case side1 => repeat (first | exact (Kd.C_below HR0_1.out HB.out) | (with_reducible refine Kd.C_alloc ?_ _) | (with_reducible refine Kd.C_drewN ?_ _) | (with_reducible refine Kd.C_drew ?_))); (case side2 => exact HC0_1.out); rintro e w8 ⟨rfl, hb⟩; refine ⟨_, rfl, ?_⟩; replace BK62001 := aQ (blk_below (g := gb62001) (o := .cells #[.int .i64 a0_0, .slice A0_1 l0_1.length c0_1] 26 (0, 0)) (by (with_reducible repeat (first | refine blk_drewN ?_ _ | refine blk_drew ?_ | refine blk_alloc ?_ _)); exact BK62001.out) hb); replace HB := aQ (below_step (by repeat (first | (with_reducible first | exact HB.out | apply below_alloc | apply pw_below_drewN | apply below_drew1 | refine below_set ?_ GE62001.out) | exact HB.out)) hb); (try clear hb); (try clear hb2); (try clear hk); (try clear hi); have hcz9_0 : w8.cell? ⟨gb62001, 0, none⟩ = some (.int .i64 a0_0) := (blk_cell BK62001.out 0).trans rfl; have hcz9_1 : w8.cell? ⟨gb62001, 1, none⟩ = some (.slice A0_1 l0_1.length c0_1) := (blk_cell BK62001.out 1).trans rfl; have hfz9_0 := blk_frozen BK62001.out 0; have hfz9_1 := blk_frozen BK62001.out 1; have p62003 : 0 ≤ (0 : Int) := (by omega); have q62003 : 0 < (l0_1.length : Int) := of_decide_eq_true (by first | (with_reducible assumption) | assumption); obtain ⟨ad62003, e62003, hx62003_0⟩ := Kd.at_int HR0_1.out 0 p62003 q62003; cases e62003; have qi62003 : (0 < l0_1.length) = True := eq_true (by omega); (try rw [show ((0 : Int)).toNat = 0 from rfl] at hx62003_0); (try rw [Addr.add_zero'] at hx62003_0); replace hx62003_0 := (HB.out.cell (World.block_lt_of_cell? w _ hx62003_0)).trans hx62003_0; replace p62003 := eq_true p62003; replace q62003 := eq_true q62003) | ((with_reducible refine gate_callee (f := 64) rfl ?_); refine goesL_ (some 10) rfl rfl Try.func64 (by kernel_rfl) rfl #[.int .i64 (rd l0_1 0)] rfl (by (try simp only [List.map_toArray, List.map_cons, List.map_nil]); first | done | rfl | (simp only [List.length_drop, List.length_take]; rfl)) ?_; (with_reducible refine (impl_CountOf.calls (rd l0_1 0) t62004 _ A5.out).mono ?_); rintro e w' ⟨rfl, ⟨nd, rfl⟩⟩; refine ⟨_, rfl, ?_⟩))
   go_ret
   exact ⟨by first | rfl | (simp [errW_none, errW_some] <;> rfl) | (simp [*, errW_none, errW_some] <;> rfl), by repeat (first | (with_reducible first | exact HB.out | apply below_alloc | apply pw_below_drewN | apply below_drew1 | refine below_set ?_ GE62001.out) | exact HB.out)⟩
  ·rw [if_neg c4] at H
   exact absurd H (by simp)
 ·replace c3 := Bool.eq_false_iff.mpr c3
  subst c3
  have H1 : (some (-1)) = some r := by rw [if_neg (show ¬ (false = true) by decide)] at H; exact H
  clear H
  have H := H1
  clear H1
  obtain rfl := Option.some.inj H
  go_enter Try.func61, Try.ntmps61
  go_wp2_with (first | ((with_reducible refine gate_dst (N := 1) rfl ?_); refine box_event ?hg (N := 1) ?hd (cs := #[.int .i64 a0_0, .slice A0_1 l0_1.length c0_1]) (t := 26) ?hr ?_; (case hd => rfl); (case hg => rfl); (case hr => first | (go_simp; done) | (go_simp; rfl)); intro gb62001 hg w10 hbox hb; have BK62001 := aQ (hbox); have GW62001 := aQ ((by rw [hg]; exact (below_size (by repeat (first | (with_reducible first | exact HB.out | apply below_alloc | apply pw_below_drewN | apply below_drew1) | exact HB.out))) : w.heap.size ≤ gb62001)); have GE62001 := aQ ((by rw [hg]; exact (below_size (by repeat (first | (with_reducible first | exact HB.out | apply below_alloc | apply pw_below_drewN | apply below_drew1) | exact HB.out))) : w.heap.size ≤ gb62001)); replace HB := aQ (below_step (by repeat (first | (with_reducible first | exact HB.out | apply below_alloc | apply pw_below_drewN | apply below_drew1) | exact HB.out)) hb); clear hb hbox hg; have hcz11_0 : w10.cell? ⟨gb62001, 0, none⟩ = some (.int .i64 a0_0) := (blk_cell BK62001.out 0).trans rfl; have hcz11_1 : w10.cell? ⟨gb62001, 1, none⟩ = some (.slice A0_1 l0_1.length c0_1) := (blk_cell BK62001.out 1).trans rfl; have hfz11_0 := blk_frozen BK62001.out 0; have hfz11_1 := blk_frozen BK62001.out 1) | ((with_reducible refine gate_callee (f := 60) rfl ?_); refine goesL_ (some 4) rfl rfl Try.func60 (by kernel_rfl) rfl #[.agg #[.int .i64 a0_0, .slice A0_1 l0_1.length c0_1]] rfl (by (try simp only [List.map_toArray, List.map_cons, List.map_nil]); first | done | rfl | (simp only [List.length_drop, List.length_take]; rfl)) ?_; (with_reducible refine (impl_IsMatroid.calls k a0_0 _ _ l0_1 false _ ?side1 ?side2 A2.out).mono ?_); (case side1 => repeat (first | exact (Kd.C_below HR0_1.out HB.out) | (with_reducible refine Kd.C_alloc ?_ _) | (with_reducible refine Kd.C_drewN ?_ _) | (with_reducible refine Kd.C_drew ?_))); (case side2 => exact HC0_1.out); rintro e w12 ⟨rfl, hb⟩; refine ⟨_, rfl, ?_⟩; replace BK62001 := aQ (blk_below (g := gb62001) (o := .cells #[.int .i64 a0_0, .slice A0_1 l0_1.length c0_1] 26 (0, 0)) (by (with_reducible repeat (first | refine blk_drewN ?_ _ | refine blk_drew ?_ | refine blk_alloc ?_ _)); exact BK62001.out) hb); replace HB := aQ (below_step (by repeat (first | (with_reducible first | exact HB.out | apply below_alloc | apply pw_below_drewN | apply below_drew1 | refine below_set ?_ GE62001.out) | exact HB.out)) hb); (try clear hb); (try clear hb2); (try clear hk); (try clear hi)))
  go_ret
  exact ⟨by first | rfl | (simp [errW_none, errW_some] <;> rfl) | (simp [*, errW_none, errW_some] <;> rfl), by repeat (first | (with_reducible first | exact HB.out | apply below_alloc | apply pw_below_drewN | apply below_drew1 | refine below_set ?_ GE62001.out) | exact HB.out)⟩
/-! ### impl_FullSet: function 94 -/
def impl_FullSet.f (a0 : Int) : Option (Int) := (impl_isSize.f a0).bind fun t95001 => (if t95001 = true then (if 0 ≤ a0 then (some (wrap64 ((shl .i64 1 a0) - 1))) else (none)) else (some 0))
set_option maxHeartbeats 8000000 in
set_option maxRecDepth 100000 in
theorem impl_FullSet.calls (a0 : Int) (r : Int) (w : World) (h : impl_FullSet.f a0 = some r) :
  Calls Try.prog 94 #[.int .i64 a0] w fun e w' => e = .returned (.int .i64 r) ∧ Drawn0 w w' := by
 have H : ((impl_isSize.f a0).bind fun t95001 => (if t95001 = true then (if 0 ≤ a0 then (some (wrap64 ((shl .i64 1 a0) - 1))) else (none)) else (some 0))) = some r := h
 clear h
 replace H := Option.bind_eq_some_iff.mp H
 obtain ⟨t95001, A20, H⟩ := H
 replace H : (if t95001 = true then (if 0 ≤ a0 then (some (wrap64 ((shl .i64 1 a0) - 1))) else (none)) else (some 0)) = some r := H
 have A2 := aQ A20
 clear A20
 by_cases c3 : t95001 = true
 ·subst c3
  have H1 : (if 0 ≤ a0 then (some (wrap64 ((shl .i64 1 a0) - 1))) else (none)) = some r := by rw [if_pos rfl] at H; exact H
  clear H
  have H := H1
  clear H1
  by_cases c4 : 0 ≤ a0
  ·rw [if_pos c4] at H
   have c4b0 := eq_true c4
   have c4b1 : decide (0 ≤ a0) = true := decide_eq_true c4
   clear c4
   obtain ⟨ji5, hji5⟩ : ∃ j_ : Int, (shl .i64 1 a0) = j_ := ⟨_, rfl⟩
   replace H : (some (wrap64 ((ji5) - 1))) = some r := by first | (rw [hji5] at H; exact H) | (simp only [hji5] at H ⊢; exact H)
   (try rw [hji5] at A2)
   have hji5_ : (IntKind.i64.wrap (1 * 2 ^ min a0.toNat 64)) = ji5 := hji5
   have hji5z : a0 ≤ 64 → (IntKind.i64.wrap (1 * 2 ^ a0.toNat)) = ji5 := shl_small hji5
   have hji5u : (IntKind.i64.wrap (2 ^ min a0.toNat 64)) = ji5 := by have h_ := hji5_; rw [Int.one_mul] at h_; exact h_
   have hji5v : a0 ≤ 64 → (IntKind.i64.wrap (2 ^ a0.toNat)) = ji5 := fun hle_ => by have h_ := hji5z hle_; rw [Int.one_mul] at h_; exact h_
   have hji5y : (wrap64 (1 * 2 ^ min a0.toNat 64)) = ji5 := (i64_w _).symm.trans hji5_
   have hji5x : a0 ≤ 64 → (wrap64 (1 * 2 ^ a0.toNat)) = ji5 := fun h_ => (i64_w _).symm.trans (hji5z h_)
   obtain rfl := Option.some.inj H
   go_enter Try.func94, Try.ntmps94
   go_wp2_with (first | ((with_reducible refine gate_callee (f := 151) rfl ?_); refine goesL_ (some 4) rfl rfl Try.func151 (by kernel_rfl) rfl #[.int .i64 a0] rfl (by (try simp only [List.map_toArray, List.map_cons, List.map_nil]); first | done | rfl | (simp only [List.length_drop, List.length_take]; rfl)) ?_; (with_reducible refine (impl_isSize.calls a0 true _ A2.out).mono ?_); rintro e w' ⟨rfl, ⟨nd, rfl⟩⟩; refine ⟨_, rfl, ?_⟩))
   go_ret
   exact ⟨by first | rfl | (simp; done) | (simp only [← hji5] <;> (first | rfl | simp)) | (simp [*]; done), by repeat (first | exact Drawn0.refl _ | apply Drawn0.step)⟩
  ·rw [if_neg c4] at H
   exact absurd H (by simp)
 ·replace c3 := Bool.eq_false_iff.mpr c3
  subst c3
  have H1 : (some 0) = some r := by rw [if_neg (show ¬ (false = true) by decide)] at H; exact H
  clear H
  have H := H1
  clear H1
  obtain rfl := Option.some.inj H
  go_enter Try.func94, Try.ntmps94
  go_wp2_with (first | ((with_reducible refine gate_callee (f := 151) rfl ?_); refine goesL_ (some 4) rfl rfl Try.func151 (by kernel_rfl) rfl #[.int .i64 a0] rfl (by (try simp only [List.map_toArray, List.map_cons, List.map_nil]); first | done | rfl | (simp only [List.length_drop, List.length_take]; rfl)) ?_; (with_reducible refine (impl_isSize.calls a0 false _ A2.out).mono ?_); rintro e w' ⟨rfl, ⟨nd, rfl⟩⟩; refine ⟨_, rfl, ?_⟩))
  go_ret
  exact ⟨by first | rfl | (simp; done) | (simp [*]; done), by repeat (first | exact Drawn0.refl _ | apply Drawn0.step)⟩
end Go.Proofs.Ytagncnjllpebjaa.A
namespace Go.Proofs.Ytagncnjllpebjaa.A
open Go.RowKit Go.Proofs.YtagncnjllpebjaaW.PrintWords Go.Proofs.YtagncnjllpebjaaW.PrintLast Go.Proofs.YtagncnjllpebjaaW.PrintMore Go.Proofs.Ytagncnjllpebjaa.Z
attribute [local go_sem] max2_int min2_int max_two min_two max_three min_three max_four min_four   -- for this text's walks alone
set_option linter.unusedVariables false
set_option linter.unusedSimpArgs false

/-! ### impl_setsOf: function 62 (by hand) -/
set_option maxHeartbeats 4000000 in
set_option maxRecDepth 100000 in
theorem setsOf_walk (g : Int → Option Bool) (K : Nat) (lb : Array Value) (eg : ∀ args w, (callFunc K args).run Try.prog w = .ok (.enter K args) w) (n m : Int) (r : List Int) (w : World)
  (hf : impl_FullSet.f n = some m) (h0 : 0 ≤ m) (h1 : m ≤ 1000) (h : setsO g m = some r)
  (hp : ∀ (W : World) (x : Int) (b : Bool), Below w.heap.size w W → g x = some b → Calls Try.prog K (#[.int .i64 x] ++ lb) W fun e w' => e = .returned (.bool b) ∧ Below W.heap.size W w') :
  Calls Try.prog 62 #[.int .i64 n, .func (.func K) #[] lb] w fun e w' => ∃ v0_ : Value, e = .returned (v0_) ∧ Kd.R (Kd.int .i64) 3 w' w.heap.size (fun _ => True) v0_ r ∧ Below w.heap.size w w' := by
 have HB := aQ (Below.refl w.heap.size w)
 have HP := Lib.hid hp
 have HF := aQ hf
 have HI := Lib.hid h
 clear hf h hp
 go_enter Try.func62, Try.ntmps62
 go_wp2_with (first | ((with_reducible refine gate_dst (N := 7) rfl ?_); refine Kd.R_lit (Kd.int .i64) _ 3 ?hg (N := 7) ?hd (xs := ([] : List Int)) (inner := []) (ok := fun _ => True) (okp := fun _ => True) ?hr ?hp (fun _ hk => hk) trivial (Below.refl _ _) (Nat.le_refl _) (by simp) ?_; (case hd => rfl); (case hg => rfl); (case hr => first | (go_simp; done) | (go_simp; rfl)); (case hp => exact (Reps.none _ _)); intro v9_ w2 ho3 hb hg_ hnew_; clear hg_ hnew_; have HO := aQ (Kd.R_lower ho3 (below_size (by repeat (first | (with_reducible first | exact HB.out | apply below_alloc | apply pw_below_drewN | apply below_drew1) | exact HB.out)))); replace HB := aQ (below_step (by repeat (first | (with_reducible first | exact HB.out | apply below_alloc | apply pw_below_drewN | apply below_drew1) | exact HB.out)) hb); clear hb ho3))
 go_loopg [5, 6] (m + 1).toNat (fun gg v5 v6 wr => ∃ (x : Int) (acc rest : List Int), v6 = .int .i64 x ∧ Aside0 (0 ≤ x ∧ x ≤ m + 1) ∧ Aside0 ((m + 1).toNat - x.toNat ≤ gg) ∧ Aside0 (acc.length ≤ x.toNat) ∧ Aside0 (filterO g (fromTo x m) = some rest) ∧ Aside0 (acc ++ rest = r) ∧ Aside0 (Kd.R (Kd.int .i64) 3 wr w.heap.size (fun _ => True) v5 acc) ∧ Aside0 (Below w.heap.size w wr))
 case atStart => exact ⟨0, [], r, rfl, ⟨by omega⟩, ⟨by omega⟩, ⟨by simp⟩, ⟨HI.out⟩, ⟨rfl⟩, ⟨by (with_reducible repeat (first | apply Kd.R_alloc | apply Kd.R_drewN | apply Kd.R_drew)); exact HO.out⟩, ⟨by repeat (first | (with_reducible first | exact HB.out | apply below_alloc | apply pw_below_drewN | apply below_drew1) | exact HB.out)⟩⟩
 case round =>
  clear HI HO HB
  obtain ⟨x, acc, rest, rfl, HX, HG, HA, HI, HE, HO, HB⟩ := hrel
  by_cases hlt : x ≤ m
  ·have l1 : decide (x ≤ m) = true := decide_eq_true hlt
   have hI := HI.out
   rw [fromTo_cons HX.out.1 hlt] at hI
   simp only [filterO] at hI
   obtain ⟨b, hgb, hI⟩ := Option.bind_eq_some_iff.1 hI
   obtain ⟨ys, hys, hI⟩ := Option.bind_eq_some_iff.1 hI
   have HG2 := Lib.hid hgb
   have HY := Lib.hid hys
   have HC := Lib.hid hI
   have E1 := Lib.hid (wrap64_of (n := x + 1) (by have := HX.out; omega) (by omega))
   have Q1 := aQ hlt
   clear HI hgb hys hI
   replace hlt := eq_true hlt
   go_wp2_with (first | (go_at_call 94; (with_reducible refine (impl_FullSet.calls n m _ HF.out).mono ?_); rintro e w' ⟨rfl, ⟨nd, rfl⟩⟩))
   refine (HP.out _ x b (by repeat (first | (with_reducible first | exact HB.out | apply below_alloc | apply pw_below_drewN | apply below_drew1) | exact HB.out)) HG2.out).mono ?_
   rintro e w3_ ⟨rfl, hb⟩
   have n0_ := aQ (Kd.R_below (by (with_reducible repeat (first | apply Kd.R_alloc | apply Kd.R_drewN | apply Kd.R_drew)); exact HO.out) hb)
   have n1_ := aQ (below_step (by repeat (first | (with_reducible first | exact HB.out | apply below_alloc | apply pw_below_drewN | apply below_drew1) | exact HB.out)) hb)
   clear HO HB hb
   have HO := n0_
   have HB := n1_
   clear n0_ n1_ HG2
   have hc := HC.out
   clear HC
   cases b with
   | true =>
    rw [if_pos rfl] at hc
    simp only [Option.some.injEq] at hc
    have HR2 := Lib.hid hc
    have HLM := aQ (show acc.length < 17592186044416 by have := HA.out; have := HX.out; have := Q1.out; omega)
    clear hc
    go_wp2_with (first | ((with_reducible refine gate_builtin (b := .append) (xs := #[.tmp 17, .tmp 19]) rfl ?_); at_builtin; refine Kd.R_append (Kd.int .i64) (w0 := w) w.heap.size rfl (.tmp 17) (.tmp 19) 22 3 (.int .i64 0) 8 rfl Try.underlying22 info3 rfl (by decide) (by omega) u5 acc x [.int .i64 x] (fun _ => True) (fun _ => False) rfl rfl ?aP (fun _ hk => hk.elim) ?aF ?aO ?aB ?aS ?aL ?_; (case aP => exact rfl); (case aB => exact (by repeat (first | (with_reducible first | exact HB.out | apply below_alloc | apply pw_below_drewN | apply below_drew1) | exact HB.out))); (case aF => exact (fun _ _ => trivial)); (case aO => exact (by (with_reducible repeat (first | apply Kd.R_alloc | apply Kd.R_drewN | apply Kd.R_drew)); exact HO.out)); (case aS => exact (below_size (by repeat (first | (with_reducible first | exact HB.out | apply below_alloc | apply pw_below_drewN | apply below_drew1) | exact HB.out)))); (case aL => have := HLM.out; omega); intro v8_ w8 ho hb hg hat; replace HB := aQ (hb); replace HO := aQ (ho); clear ho hb hg hat))
    go_roundg ((m + 1).toNat - (x + 1).toNat)
    case measure => have := HG.out; have := HX.out; have := Q1.out; omega
    case rel =>
     refine ⟨x + 1, acc ++ [x], ys, by rw [E1.out], ⟨by have := HX.out; have := Q1.out; omega⟩, ⟨Nat.le_refl _⟩, ⟨by rw [List.length_append, List.length_singleton]; have := HA.out; have := HX.out; omega⟩, ⟨HY.out⟩, ⟨by rw [List.append_assoc]; have h1 := HR2.out; have h2 := HE.out; rw [← h1] at h2; exact h2⟩, ⟨by (with_reducible repeat (first | apply Kd.R_alloc | apply Kd.R_drewN | apply Kd.R_drew)); exact HO.out⟩, ⟨by repeat (first | (with_reducible first | exact HB.out | apply below_alloc | apply pw_below_drewN | apply below_drew1) | exact HB.out)⟩⟩
   | false =>
    rw [if_neg (by decide)] at hc
    simp only [Option.some.injEq] at hc
    have HR2 := Lib.hid hc
    clear hc
    go_wp2
    go_roundg ((m + 1).toNat - (x + 1).toNat)
    case measure => have := HG.out; have := HX.out; have := Q1.out; omega
    case rel =>
     refine ⟨x + 1, acc, ys, by rw [E1.out], ⟨by have := HX.out; have := Q1.out; omega⟩, ⟨Nat.le_refl _⟩, ⟨by have := HA.out; have := HX.out; omega⟩, ⟨HY.out⟩, ⟨by have h1 := HR2.out; have h2 := HE.out; rw [← h1] at h2; exact h2⟩, ⟨by (with_reducible repeat (first | apply Kd.R_alloc | apply Kd.R_drewN | apply Kd.R_drew)); exact HO.out⟩, ⟨by repeat (first | (with_reducible first | exact HB.out | apply below_alloc | apply pw_below_drewN | apply below_drew1) | exact HB.out)⟩⟩
  ·have l1 : decide (x ≤ m) = false := decide_eq_false hlt
   have hI := HI.out
   rw [fromTo_end HX.out.1 hlt] at hI
   simp only [filterO, Option.some.injEq] at hI
   have hE := HE.out
   rw [← hI, List.append_nil] at hE
   subst hE
   clear HI hI hlt HE
   go_wp2_with (first | (go_at_call 94; (with_reducible refine (impl_FullSet.calls n m _ HF.out).mono ?_); rintro e w' ⟨rfl, ⟨nd, rfl⟩⟩))
   go_ret
   exact ⟨_, by first | rfl | (simp; done) | (simp [*]; done), by (with_reducible repeat (first | apply Kd.R_alloc | apply Kd.R_drewN | apply Kd.R_drew)); exact HO.out, by repeat (first | (with_reducible first | exact HB.out | apply below_alloc | apply pw_below_drewN | apply below_drew1) | exact HB.out)⟩
end Go.Proofs.Ytagncnjllpebjaa.A
namespace Go.Proofs.Ytagncnjllpebjaa.A
open Go.RowKit Go.Proofs.YtagncnjllpebjaaW.PrintWords Go.Proofs.YtagncnjllpebjaaW.PrintLast Go.Proofs.YtagncnjllpebjaaW.PrintMore
attribute [local go_sem] max2_int min2_int max_two min_two max_three min_three max_four min_four   -- for this text's walks alone
set_option linter.unusedVariables false
set_option linter.unusedSimpArgs false

/-! ### impl_IsSubset: function 135 -/
def impl_IsSubset.f (a0 : Int) (a1 : Int) : Option (Bool) := (impl_isAny.f a0).bind fun t136001 => (if t136001 = true then ((impl_isAny.f a1).bind fun t136002 => (if t136002 = true then (some ((Go.bits .andNot .i64 a0 a1) == 0)) else (some false))) else (some false))
set_option maxHeartbeats 8000000 in
set_option maxRecDepth 100000 in
theorem impl_IsSubset.calls (a0 : Int) (a1 : Int) (r : Bool) (w : World) (h : impl_IsSubset.f a0 a1 = some r) :
  Calls Try.prog 135 #[.int .i64 a0, .int .i64 a1] w fun e w' => e = .returned (.bool r) ∧ Drawn0 w w' := by
 have H : ((impl_isAny.f a0).bind fun t136001 => (if t136001 = true then ((impl_isAny.f a1).bind fun t136002 => (if t136002 = true then (some ((Go.bits .andNot .i64 a0 a1) == 0)) else (some false))) else (some false))) = some r := h
 clear h
 replace H := Option.bind_eq_some_iff.mp H
 obtain ⟨t136001, A30, H⟩ := H
 replace H : (if t136001 = true then ((impl_isAny.f a1).bind fun t136002 => (if t136002 = true then (some ((Go.bits .andNot .i64 a0 a1) == 0)) else (some false))) else (some false)) = some r := H
 have A3 := aQ A30
 clear A30
 by_cases c4 : t136001 = true
 ·subst c4
  have H1 : ((impl_isAny.f a1).bind fun t136002 => (if t136002 = true then (some ((Go.bits .andNot .i64 a0 a1) == 0)) else (some false))) = some r := by rw [if_pos rfl] at H; exact H
  clear H
  have H := H1
  clear H1
  replace H := Option.bind_eq_some_iff.mp H
  obtain ⟨t136002, A50, H⟩ := H
  replace H : (if t136002 = true then (some ((Go.bits .andNot .i64 a0 a1) == 0)) else (some false)) = some r := H
  have A5 := aQ A50
  clear A50
  by_cases c6 : t136002 = true
  ·subst c6
   have H1 : (some ((Go.bits .andNot .i64 a0 a1) == 0)) = some r := by rw [if_pos rfl] at H; exact H
   clear H
   have H := H1
   clear H1
   obtain rfl := Option.some.inj H
   go_enter Try.func135, Try.ntmps135
   go_wp2_with (first | ((with_reducible refine gate_callee (f := 133) rfl ?_); refine goesL_ (some 6) rfl rfl Try.func133 (by kernel_rfl) rfl #[.int .i64 a0] rfl (by (try simp only [List.map_toArray, List.map_cons, List.map_nil]); first | done | rfl | (simp only [List.length_drop, List.length_take]; rfl)) ?_; (with_reducible refine (impl_isAny.calls a0 true _ A3.out).mono ?_); rintro e w' ⟨rfl, ⟨nd, rfl⟩⟩; refine ⟨_, rfl, ?_⟩) | (go_at_call 133; (with_reducible refine (impl_isAny.calls a1 true _ A5.out).mono ?_); rintro e w' ⟨rfl, ⟨nd, rfl⟩⟩))
   go_ret
   exact ⟨by first | rfl | (simp; done) | (simp [*]; done), by repeat (first | exact Drawn0.refl _ | apply Drawn0.step)⟩
  ·replace c6 := Bool.eq_false_iff.mpr c6
   subst c6
   have H1 : (some false) = some r := by rw [if_neg (show ¬ (false = true) by decide)] at H; exact H
   clear H
   have H := H1
   clear H1
   obtain rfl := Option.some.inj H
   go_enter Try.func135, Try.ntmps135
   go_wp2_with (first | ((with_reducible refine gate_callee (f := 133) rfl ?_); refine goesL_ (some 6) rfl rfl Try.func133 (by kernel_rfl) rfl #[.int .i64 a0] rfl (by (try simp only [List.map_toArray, List.map_cons, List.map_nil]); first | done | rfl | (simp only [List.length_drop, List.length_take]; rfl)) ?_; (with_reducible refine (impl_isAny.calls a0 true _ A3.out).mono ?_); rintro e w' ⟨rfl, ⟨nd, rfl⟩⟩; refine ⟨_, rfl, ?_⟩) | (go_at_call 133; (with_reducible refine (impl_isAny.calls a1 false _ A5.out).mono ?_); rintro e w' ⟨rfl, ⟨nd, rfl⟩⟩))
   go_ret
   exact ⟨by first | rfl | (simp; done) | (simp [*]; done), by repeat (first | exact Drawn0.refl _ | apply Drawn0.step)⟩
 ·replace c4 := Bool.eq_false_iff.mpr c4
  subst c4
  have H1 : (some false) = some r := by rw [if_neg (show ¬ (false = true) by decide)] at H; exact H
  clear H
  have H := H1
  clear H1
  obtain rfl := Option.some.inj H
  go_enter Try.func135, Try.ntmps135
  go_wp2_with (first | ((with_reducible refine gate_callee (f := 133) rfl ?_); refine goesL_ (some 6) rfl rfl Try.func133 (by kernel_rfl) rfl #[.int .i64 a0] rfl (by (try simp only [List.map_toArray, List.map_cons, List.map_nil]); first | done | rfl | (simp only [List.length_drop, List.length_take]; rfl)) ?_; (with_reducible refine (impl_isAny.calls a0 false _ A3.out).mono ?_); rintro e w' ⟨rfl, ⟨nd, rfl⟩⟩; refine ⟨_, rfl, ?_⟩))
  go_ret
  exact ⟨by first | rfl | (simp; done) | (simp [*]; done), by repeat (first | exact Drawn0.refl _ | apply Drawn0.step)⟩
/-! ### impl_independent: function 65 -/
def impl_independent.l0 : Nat → Int → List Int → Int → Int → Option (Bool)
 | 0, _, _, _, _ => none
 | k + 1, x1, x8, x9, x10 => if x10 < x9 then (if 0 ≤ x10 then (if x10 < (x8.length : Int) then ((impl_IsSubset.f x1 (rd x8 x10)).bind fun t66003 => (if t66003 = true then (some true) else (impl_independent.l0 k x1 x8 x9 (wrap64 (x10 + 1))))) else (none)) else (none)) else (some false)
def impl_independent.f (k : Nat) (a0_0 : Int) (l0_1 : List Int) (a1 : Int) : Option (Bool) := impl_independent.l0 k a1 l0_1 (l0_1.length : Int) 0
theorem impl_independent.mono_l : ∀ k, (∀ y0 y1 y2 y3, LeO (impl_independent.l0 k y0 y1 y2 y3) (impl_independent.l0 (k + 1) y0 y1 y2 y3))
 | 0 => fun _ _ _ _ r h => by simp [impl_independent.l0] at h
 | k + 1 => by
  have ih0 := impl_independent.mono_l k
  ·intro y0 y1 y2 y3
   unfold impl_independent.l0
   repeat' first
   | (with_reducible exact ih0 _ _ _ _)
   | (with_reducible exact LeO.refl _)
   | (with_reducible exact LeO.none _)
   | (with_reducible refine LeO.ite ?_ ?_)
   | (with_reducible refine LeO.bind ?_ (fun _ => ?_))
   | exact ih0 _ _ _ _
   | exact LeO.none _
   | refine LeO.ite ?_ ?_
   | refine LeO.bind ?_ (fun _ => ?_)
theorem impl_independent.mono : ∀ a0 a1 a2 k, LeO (impl_independent.f k a0 a1 a2) (impl_independent.f (k + 1) a0 a1 a2) := by
 intro a0 a1 a2 k
 have ih0 := impl_independent.mono_l k
 unfold impl_independent.f
 repeat' first
   | (with_reducible exact ih0 _ _ _ _)
   | (with_reducible exact LeO.refl _)
   | (with_reducible exact LeO.none _)
   | (with_reducible refine LeO.ite ?_ ?_)
   | (with_reducible refine LeO.bind ?_ (fun _ => ?_))
   | exact ih0 _ _ _ _
   | exact LeO.none _
   | refine LeO.ite ?_ ?_
   | refine LeO.bind ?_ (fun _ => ?_)
set_option maxHeartbeats 8000000 in
set_option maxRecDepth 100000 in
theorem impl_independent.calls (k : Nat) (a0_0 : Int) (A0_1 : Option Addr) (c0_1 : Nat) (l0_1 : List Int) (a1 : Int) (r : Bool) (w : World) (hr0_1 : Kd.C (Kd.int .i64) w A0_1 l0_1.length l0_1) (hc0_1 : l0_1.length ≤ c0_1) (h : impl_independent.f k a0_0 l0_1 a1 = some r) :
  Calls Try.prog 65 #[.agg #[.int .i64 a0_0, .slice A0_1 l0_1.length c0_1], .int .i64 a1] w fun e w' => e = .returned (.bool r) ∧ Below w.heap.size w w' := by
 have hu26 := Try.underlying26
 have HR0_1 := aQ hr0_1
 have HC0_1 := aQ hc0_1
 clear hr0_1 hc0_1
 have HB := aQ (Below.refl w.heap.size w)
 have H : (impl_independent.l0 k a1 l0_1 (l0_1.length : Int) 0) = some r := h
 clear h
 have H' := aQ H
 clear H
 go_enter Try.func65, Try.ntmps65
 go_wp2_with (first | ((with_reducible refine gate_dst (N := 2) rfl ?_); refine box_event ?hg (N := 2) ?hd (cs := #[.int .i64 a0_0, .slice A0_1 l0_1.length c0_1]) (t := 26) ?hr ?_; (case hd => rfl); (case hg => rfl); (case hr => first | (go_simp; done) | (go_simp; rfl)); intro gb66001 hg w3 hbox hb; have BK66001 := aQ (hbox); have GW66001 := aQ ((by rw [hg]; exact (below_size (by repeat (first | (with_reducible first | exact HB.out | apply below_alloc | apply pw_below_drewN | apply below_drew1) | exact HB.out))) : w.heap.size ≤ gb66001)); have GE66001 := aQ ((by rw [hg]; exact (below_size (by repeat (first | (with_reducible first | exact HB.out | apply below_alloc | apply pw_below_drewN | apply below_drew1) | exact HB.out))) : w.heap.size ≤ gb66001)); replace HB := aQ (below_step (by repeat (first | (with_reducible first | exact HB.out | apply below_alloc | apply pw_below_drewN | apply below_drew1) | exact HB.out)) hb); clear hb hbox hg; have hcz4_0 : w3.cell? ⟨gb66001, 0, none⟩ = some (.int .i64 a0_0) := (blk_cell BK66001.out 0).trans rfl; have hcz4_1 : w3.cell? ⟨gb66001, 1, none⟩ = some (.slice A0_1 l0_1.length c0_1) := (blk_cell BK66001.out 1).trans rfl; have hfz4_0 := blk_frozen BK66001.out 0; have hfz4_1 := blk_frozen BK66001.out 1))
 go_loopg [10] k (fun kq v10 w' => ∃ (x10_1 : Int), v10 = .int .i64 x10_1 ∧ Aside0 (impl_independent.l0 kq a1 l0_1 (l0_1.length : Int) x10_1 = some r) ∧ Aside0 (kq ≤ k) ∧ Aside0 (w'.heap[gb66001]? = some (.cells #[.int .i64 a0_0, (.slice A0_1 l0_1.length c0_1)] 26 (0, 0))) ∧ Aside0 (Below w.heap.size w w'))
 case atStart => exact ⟨(0), (by first | rfl | (simp; done) | (simp [*]; done)), H', ⟨Nat.le_refl _⟩, ⟨by (with_reducible repeat (first | refine blk_drewN ?_ _ | refine blk_drew ?_ | refine blk_alloc ?_ _)); exact BK66001.out⟩, ⟨by repeat (first | (with_reducible first | exact HB.out | apply below_alloc | apply pw_below_drewN | apply below_drew1 | refine below_set ?_ GE66001.out) | exact HB.out)⟩⟩
 case round =>
  clear H'
  try clear p2
  try clear hcz4_0
  try clear hcz4_1
  try clear hfz4_0
  try clear hfz4_1
  obtain ⟨x10_1, rfl, HA, HK1, BK66001, HB⟩ := hrel
  cases gk with
  | zero => exact absurd HA.out (by simp [impl_independent.l0])
  | succ k1 =>
   have H := HA.out
   clear HA
   simp only [impl_independent.l0] at H
   by_cases c5 : x10_1 < (l0_1.length : Int)
   ·rw [if_pos c5] at H
    have c5b0 : decide (x10_1 < (l0_1.length : Int)) = true := decide_eq_true c5
    clear c5
    by_cases c6 : 0 ≤ x10_1
    ·rw [if_pos c6] at H
     have c6b0 : decide (0 ≤ x10_1) = true := decide_eq_true c6
     clear c6
     by_cases c7 : x10_1 < (l0_1.length : Int)
     ·rw [if_pos c7] at H
      have c7b0 : decide (x10_1 < (l0_1.length : Int)) = true := decide_eq_true c7
      clear c7
      replace H := Option.bind_eq_some_iff.mp H
      obtain ⟨t66003, A80, H⟩ := H
      replace H : (if t66003 = true then (some true) else (impl_independent.l0 k1 a1 l0_1 (l0_1.length : Int) (wrap64 (x10_1 + 1)))) = some r := H
      have A8 := aQ A80
      clear A80
      by_cases c9 : t66003 = true
      ·subst c9
       have H1 : (some true) = some r := by rw [if_pos rfl] at H; exact H
       clear H
       have H := H1
       clear H1
       obtain rfl := Option.some.inj H
       have p66002 : 0 ≤ (x10_1 : Int) := of_decide_eq_true (by first | (with_reducible assumption) | assumption)
       have q66002 : x10_1 < (l0_1.length : Int) := of_decide_eq_true (by first | (with_reducible assumption) | assumption)
       obtain ⟨ad66002, e66002, hx66002_0⟩ := Kd.at_int HR0_1.out x10_1 p66002 q66002
       cases e66002
       replace hx66002_0 := (HB.out.cell (World.block_lt_of_cell? w _ hx66002_0)).trans hx66002_0
       replace p66002 := eq_true p66002
       replace q66002 := eq_true q66002
       go_wp2_with (first | ((with_reducible refine gate_callee (f := 135) rfl ?_); refine goesL_ (some 16) rfl rfl Try.func135 (by kernel_rfl) rfl #[.int .i64 a1, .int .i64 (rd l0_1 x10_1)] rfl (by (try simp only [List.map_toArray, List.map_cons, List.map_nil]); first | done | rfl | (simp only [List.length_drop, List.length_take]; rfl)) ?_; (with_reducible refine (impl_IsSubset.calls a1 (rd l0_1 x10_1) true _ A8.out).mono ?_); rintro e w' ⟨rfl, ⟨nd, rfl⟩⟩; refine ⟨_, rfl, ?_⟩))
       go_ret
       exact ⟨by first | rfl | (simp [errW_none, errW_some] <;> rfl) | (simp [*, errW_none, errW_some] <;> rfl), by repeat (first | (with_reducible first | exact HB.out | apply below_alloc | apply pw_below_drewN | apply below_drew1 | refine below_set ?_ GE66001.out) | exact HB.out)⟩
      ·replace c9 := Bool.eq_false_iff.mpr c9
       subst c9
       have H1 : (impl_independent.l0 k1 a1 l0_1 (l0_1.length : Int) (wrap64 (x10_1 + 1))) = some r := by rw [if_neg (show ¬ (false = true) by decide)] at H; exact H
       clear H
       have H := H1
       clear H1
       have H' := aQ H
       clear H
       have p66002 : 0 ≤ (x10_1 : Int) := of_decide_eq_true (by first | (with_reducible assumption) | assumption)
       have q66002 : x10_1 < (l0_1.length : Int) := of_decide_eq_true (by first | (with_reducible assumption) | assumption)
       obtain ⟨ad66002, e66002, hx66002_0⟩ := Kd.at_int HR0_1.out x10_1 p66002 q66002
       cases e66002
       replace hx66002_0 := (HB.out.cell (World.block_lt_of_cell? w _ hx66002_0)).trans hx66002_0
       replace p66002 := eq_true p66002
       replace q66002 := eq_true q66002
       go_wp2_with (first | ((with_reducible refine gate_callee (f := 135) rfl ?_); refine goesL_ (some 16) rfl rfl Try.func135 (by kernel_rfl) rfl #[.int .i64 a1, .int .i64 (rd l0_1 x10_1)] rfl (by (try simp only [List.map_toArray, List.map_cons, List.map_nil]); first | done | rfl | (simp only [List.length_drop, List.length_take]; rfl)) ?_; (with_reducible refine (impl_IsSubset.calls a1 (rd l0_1 x10_1) false _ A8.out).mono ?_); rintro e w' ⟨rfl, ⟨nd, rfl⟩⟩; refine ⟨_, rfl, ?_⟩))
       go_roundg k1
       case measure => have := HK1.out; omega
       case rel => exact ⟨(wrap64 (x10_1 + 1)), (by first | rfl | (simp; done) | (simp [*]; done)), H', ⟨by have := HK1.out; omega⟩, ⟨by (with_reducible repeat (first | refine blk_drewN ?_ _ | refine blk_drew ?_ | refine blk_alloc ?_ _)); exact BK66001.out⟩, ⟨by repeat (first | (with_reducible first | exact HB.out | apply below_alloc | apply pw_below_drewN | apply below_drew1 | refine below_set ?_ GE66001.out) | exact HB.out)⟩⟩
     ·rw [if_neg c7] at H
      exact absurd H (by simp)
    ·rw [if_neg c6] at H
     exact absurd H (by simp)
   ·rw [if_neg c5] at H
    have c5b0 : decide (x10_1 < (l0_1.length : Int)) = false := decide_eq_false c5
    clear c5
    obtain rfl := Option.some.inj H
    go_wp2
    go_ret
    exact ⟨by first | rfl | (simp [errW_none, errW_some] <;> rfl) | (simp [*, errW_none, errW_some] <;> rfl), by repeat (first | (with_reducible first | exact HB.out | apply below_alloc | apply pw_below_drewN | apply below_drew1 | refine below_set ?_ GE66001.out) | exact HB.out)⟩
end Go.Proofs.Ytagncnjllpebjaa.A
namespace Go.Proofs.Ytagncnjllpebjaa.A
open Go.RowKit Go.Proofs.YtagncnjllpebjaaW.PrintWords Go.Proofs.YtagncnjllpebjaaW.PrintLast Go.Proofs.YtagncnjllpebjaaW.PrintMore Go.Proofs.Ytagncnjllpebjaa.Z
attribute [local go_sem] max2_int min2_int max_two min_two max_three min_three max_four min_four   -- for this text's walks alone
set_option linter.unusedVariables false
set_option linter.unusedSimpArgs false

/-! ### impl_Truncate: function 19 (by hand) -/
def impl_Truncate.c (k : Nat) (n : Int) (l : List Int) (q s : Int) : Option Bool := (impl_CountOf.f s).bind fun t => if t = q then impl_independent.f k n l s else some false
theorem impl_Truncate.c_mono (n : Int) (l : List Int) (q s : Int) (k : Nat) : LeO (impl_Truncate.c k n l q s) (impl_Truncate.c (k + 1) n l q s) := by
 unfold impl_Truncate.c
 exact LeO.bind (LeO.refl _) (fun t => LeO.ite (impl_independent.mono _ _ _ _) (LeO.refl _))
def impl_Truncate.f (k : Nat) (a0_0 : Int) (l0_1 : List Int) (a1 : Int) : Option (Int × List Int × Bool) := (impl_IsMatroid.f k a0_0 l0_1).bind fun t => if t = true then (if a1 < 0 then some (0, ([] : List Int), false) else (impl_RankOfMatroid.f k a0_0 l0_1).bind fun q => if a1 > q then some (0, ([] : List Int), false) else (impl_FullSet.f a0_0).bind fun m => if 0 ≤ m ∧ m ≤ 1000 then (setsO (fun s => impl_Truncate.c k a0_0 l0_1 a1 s) m).bind fun y => some (a0_0, y, true) else none) else some (0, ([] : List Int), false)
theorem impl_Truncate.mono : ∀ a0 a1 a2 k, LeO (impl_Truncate.f k a0 a1 a2) (impl_Truncate.f (k + 1) a0 a1 a2) := by
 intro a0 a1 a2 k
 unfold impl_Truncate.f
 exact LeO.bind (impl_IsMatroid.mono _ _ _) (fun t => LeO.ite (LeO.ite (LeO.refl _) (LeO.bind (impl_RankOfMatroid.mono _ _ _) (fun q => LeO.ite (LeO.refl _) (LeO.bind (LeO.refl _) (fun m => LeO.ite (LeO.bind (LeO_setsO (fun s => impl_Truncate.c_mono a0 a1 a2 s k) m) (fun y => LeO.refl _)) (LeO.none _)))))) (LeO.refl _))
set_option maxHeartbeats 4000000 in
set_option maxRecDepth 100000 in
theorem Truncate1_walk (k : Nat) (n : Int) (A : Option Addr) (c : Nat) (l : List Int) (q s : Int) (b : Bool) (gm gq : Nat) (w : World)
  (hr : Kd.C (Kd.int .i64) w A l.length l) (hc : l.length ≤ c)
  (hm : w.heap[gm]? = some (.cells #[(.int .i64 n), (.slice A l.length c)] 26 (0, 0))) (hq : w.heap[gq]? = some (.cells #[(.int .i64 q)] 3 (0, 0))) (h : impl_Truncate.c k n l q s = some b) :
  Calls Try.prog 63 #[.int .i64 s, .pointer (some ⟨gq, 0, none⟩), .pointer (some ⟨gm, 0, none⟩)] w fun e w' => e = .returned (.bool b) ∧ Below w.heap.size w w' := by
 unfold impl_Truncate.c at h
 obtain ⟨t, hT, h⟩ := Option.bind_eq_some_iff.1 h
 have hu := Try.underlying26
 have BM := aQ hm
 have BQ := aQ hq
 have HT := Lib.hid hT
 have HR := Lib.hid hr
 have HC := Lib.hid hc
 have HB := aQ (Below.refl w.heap.size w)
 clear hr hc hT hm hq
 by_cases c3 : t = q
 ·rw [if_pos c3] at h
  have HI := Lib.hid h
  have c4 : (t == q) = true := beq_iff_eq.2 c3
  clear h c3
  go_enter Try.func63, Try.ntmps63
  go_wp2
  have n_BM : Aside0 (w.drew.heap[gm]? = some (.cells #[(.int .i64 n), (.slice A l.length c)] 26 (0, 0))) := ⟨by (with_reducible repeat (first | refine blk_drewN ?_ _ | refine blk_drew ?_ | refine blk_alloc ?_ _)); exact BM.out⟩
  have n_BQ : Aside0 (w.drew.heap[gq]? = some (.cells #[(.int .i64 q)] 3 (0, 0))) := ⟨by (with_reducible repeat (first | refine blk_drewN ?_ _ | refine blk_drew ?_ | refine blk_alloc ?_ _)); exact BQ.out⟩
  have n_HB : Aside0 (Below w.heap.size w w.drew) := ⟨(by repeat (first | (with_reducible first | exact HB.out | apply below_alloc | apply pw_below_drewN | apply below_drew1) | exact HB.out))⟩
  clear BM
  have BM := n_BM
  clear n_BM
  clear BQ
  have BQ := n_BQ
  clear n_BQ
  clear HB
  have HB := n_HB
  clear n_HB
  refine start_ (n := 10) (S := fun w' => w'.cell? ⟨gq, 0, none⟩ = some (.int .i64 q) ∧ w'.cell? ⟨gm, 0, none⟩ = some (.int .i64 n) ∧ w'.cell? ⟨gm, 1, none⟩ = some (.slice A l.length c)) (ds := []) #[false, false, false, false, false, false, false, false, false, false] (by kernel_rfl) rfl rfl ⟨((blk_cell BQ.out 0).trans rfl), ((blk_cell BM.out 0).trans rfl), ((blk_cell BM.out 1).trans rfl)⟩ (fun hHeld => ?_)
  generalize w.drew = wD_ at BM BQ HB hHeld ⊢
  refine pure_ (i := 0) (N := some 5) (v := ?_) (a' := ?_) #[true, false, false, false, false, false, false, false, false, false] rfl rfl (by kernel_rfl) (fun _ _ _ h => h) (Or.inl ⟨by rfl, ?_⟩) ?_ ?_
  rotate_left
  ·intro w'
   go_simp
   with_reducible rfl
  rotate_left
  ·simp only [Act.put, List.setIfInBounds_toArray, List.set_cons_zero, List.set_cons_succ, i64_w, i32_w]
   rfl
  refine take_ (i := 2) (N := some 7) (v := ?_) (a' := ?_) #[true, false, true, false, false, false, false, false, false, false] rfl rfl (by kernel_rfl) (fun _ _ _ h => h) (Or.inl ⟨by rfl, ?_⟩) hHeld ?_ ?_
  rotate_left
  ·rintro w' ⟨s0, s1, s2⟩
   go_simp
   with_reducible rfl
  rotate_left
  ·simp only [Act.put, List.setIfInBounds_toArray, List.set_cons_zero, List.set_cons_succ, i64_w, i32_w]
   rfl
  refine one_ (i := 1) (N := some 6) #[true, true, true, false, false, false, false, false, false, false] rfl rfl (by kernel_rfl) (by decide) (fun K hK => ?_)
  refine goes_ Try.func64 (by kernel_rfl) rfl #[.int .i64 s] (by rfl) rfl rfl (by (try simp only [List.map_toArray, List.map_cons, List.map_nil]); first | done | rfl) ?_
  with_reducible refine (impl_CountOf.calls s t _ HT.out).mono ?_
  rintro e w' ⟨rfl, ⟨nd1, rfl⟩⟩
  refine ⟨_, rfl, ?_⟩
  have n_BM : Aside0 ((wD_.drewN nd1).heap[gm]? = some (.cells #[(.int .i64 n), (.slice A l.length c)] 26 (0, 0))) := ⟨by (with_reducible repeat (first | refine blk_drewN ?_ _ | refine blk_drew ?_ | refine blk_alloc ?_ _)); exact BM.out⟩
  have n_BQ : Aside0 ((wD_.drewN nd1).heap[gq]? = some (.cells #[(.int .i64 q)] 3 (0, 0))) := ⟨by (with_reducible repeat (first | refine blk_drewN ?_ _ | refine blk_drew ?_ | refine blk_alloc ?_ _)); exact BQ.out⟩
  have n_HB : Aside0 (Below w.heap.size w (wD_.drewN nd1)) := ⟨(by repeat (first | (with_reducible first | exact HB.out | apply below_alloc | apply pw_below_drewN | apply below_drew1) | exact HB.out))⟩
  clear BM
  have BM := n_BM
  clear n_BM
  clear BQ
  have BQ := n_BQ
  clear n_BQ
  clear HB
  have HB := n_HB
  clear n_HB
  refine hK.out _ _ ⟨((blk_cell BQ.out 0).trans rfl), ((blk_cell BM.out 0).trans rfl), ((blk_cell BM.out 1).trans rfl)⟩ (fun hHeld => ?_)
  clear hK K
  refine norm_ (a' := ?_) ?_ ?_
  rotate_left
  ·show Act.put _ (some 6) _ = _
   simp only [Act.put, List.setIfInBounds_toArray, List.set_cons_zero, List.set_cons_succ, i64_w, i32_w]
   rfl
  refine pure_ (i := 3) (N := some 8) (v := ?_) (a' := ?_) #[true, true, true, true, false, false, false, false, false, false] rfl rfl (by kernel_rfl) (fun _ _ _ h => h) (Or.inl ⟨by rfl, ?_⟩) ?_ ?_
  rotate_left
  ·intro w'
   go_simp
   with_reducible rfl
  rotate_left
  ·simp only [Act.put, List.setIfInBounds_toArray, List.set_cons_zero, List.set_cons_succ, i64_w, i32_w]
   rfl
  refine pure_ (i := 4) (N := some 9) (v := ?_) (a' := ?_) #[true, true, true, true, true, false, false, false, false, false] rfl rfl (by kernel_rfl) (fun _ _ _ h => h) (Or.inl ⟨by rfl, ?_⟩) ?_ ?_
  rotate_left
  ·intro w'
   go_simp
   with_reducible rfl
  rotate_left
  ·simp only [Act.put, List.setIfInBounds_toArray, List.set_cons_zero, List.set_cons_succ, i64_w, i32_w]
   rfl
  refine pure_ (i := 6) (N := some 11) (v := ?_) (a' := ?_) #[true, true, true, true, true, false, true, false, false, false] rfl rfl (by kernel_rfl) (fun _ _ _ h => h) (Or.inl ⟨by rfl, ?_⟩) ?_ ?_
  rotate_left
  ·intro w'
   go_simp
   with_reducible rfl
  rotate_left
  ·simp only [Act.put, List.setIfInBounds_toArray, List.set_cons_zero, List.set_cons_succ, i64_w, i32_w]
   rfl
  refine take_ (i := 5) (N := some 10) (v := ?_) (a' := ?_) #[true, true, true, true, true, true, true, false, false, false] rfl rfl (by kernel_rfl) (fun _ _ _ h => h) (Or.inl ⟨by rfl, ?_⟩) hHeld ?_ ?_
  rotate_left
  ·rintro w' ⟨s0, s1, s2⟩
   go_simp
   with_reducible rfl
  rotate_left
  ·simp only [Act.put, List.setIfInBounds_toArray, List.set_cons_zero, List.set_cons_succ, i64_w, i32_w]
   rfl
  refine one_ (i := 7) (N := some 12) #[true, true, true, true, true, true, true, true, false, false] rfl rfl (by kernel_rfl) (by decide) (fun K hK => ?_)
  refine goes_ Try.func65 (by kernel_rfl) rfl #[.agg #[.int .i64 n, .slice A l.length c], .int .i64 s] (by rfl) rfl rfl (by (try simp only [List.map_toArray, List.map_cons, List.map_nil]); first | done | rfl) ?_
  with_reducible refine (impl_independent.calls k n _ _ l s b _ ?side1 ?side2 HI.out).mono ?_
  (case side1 => exact (Kd.C_below HR.out HB.out))
  (case side2 => exact HC.out)
  rintro e w7_ ⟨rfl, hb⟩
  refine ⟨_, rfl, ?_⟩
  have n_BM := aQ (blk_below (g := gm) (o := .cells #[(.int .i64 n), (.slice A l.length c)] 26 (0, 0)) (by (with_reducible repeat (first | refine blk_drewN ?_ _ | refine blk_drew ?_ | refine blk_alloc ?_ _)); exact BM.out) hb)
  have n_BQ := aQ (blk_below (g := gq) (o := .cells #[(.int .i64 q)] 3 (0, 0)) (by (with_reducible repeat (first | refine blk_drewN ?_ _ | refine blk_drew ?_ | refine blk_alloc ?_ _)); exact BQ.out) hb)
  have n_HB := aQ (below_step (by repeat (first | (with_reducible first | exact HB.out | apply below_alloc | apply pw_below_drewN | apply below_drew1) | exact HB.out)) hb)
  clear HB
  clear BM
  have BM := n_BM
  clear n_BM
  clear BQ
  have BQ := n_BQ
  clear n_BQ
  have HB := n_HB
  clear n_HB
  clear hb
  refine hK.out _ _ ⟨((blk_cell BQ.out 0).trans rfl), ((blk_cell BM.out 0).trans rfl), ((blk_cell BM.out 1).trans rfl)⟩ (fun hHeld => ?_)
  clear hK K
  refine norm_ (a' := ?_) ?_ ?_
  rotate_left
  ·show Act.put _ (some 12) _ = _
   simp only [Act.put, List.setIfInBounds_toArray, List.set_cons_zero, List.set_cons_succ, i64_w, i32_w]
   rfl
  refine pure_ (i := 8) (N := some 13) (v := ?_) (a' := ?_) #[true, true, true, true, true, true, true, true, true, false] rfl rfl (by kernel_rfl) (fun _ _ _ h => h) (Or.inl ⟨by rfl, ?_⟩) ?_ ?_
  rotate_left
  ·intro w'
   go_simp
   with_reducible rfl
  rotate_left
  ·simp only [Act.put, List.setIfInBounds_toArray, List.set_cons_zero, List.set_cons_succ, i64_w, i32_w]
   rfl
  refine pure_ (i := 9) (N := some 4) (v := ?_) (a' := ?_) #[true, true, true, true, true, true, true, true, true, true] rfl rfl (by kernel_rfl) (fun _ _ _ h => h) (Or.inl ⟨by rfl, ?_⟩) ?_ ?_
  rotate_left
  ·intro w'
   go_simp
   with_reducible rfl
  rotate_left
  ·simp only [Act.put, List.setIfInBounds_toArray, List.set_cons_zero, List.set_cons_succ, i64_w, i32_w]
   rfl
  refine done_ (by kernel_rfl) ?_
  go_wp2
  go_ret
  exact ⟨by first | rfl | (simp; done) | (simp [*]; done), (by repeat (first | (with_reducible first | exact HB.out | apply below_alloc | apply pw_below_drewN | apply below_drew1) | exact HB.out))⟩
 ·rw [if_neg c3] at h
  simp only [Option.some.injEq] at h
  subst h
  have c4 : (t == q) = false := by rw [Bool.eq_false_iff]; exact fun h_ => c3 (beq_iff_eq.1 h_)
  clear c3
  go_enter Try.func63, Try.ntmps63
  go_wp2
  have n_BM : Aside0 (w.drew.heap[gm]? = some (.cells #[(.int .i64 n), (.slice A l.length c)] 26 (0, 0))) := ⟨by (with_reducible repeat (first | refine blk_drewN ?_ _ | refine blk_drew ?_ | refine blk_alloc ?_ _)); exact BM.out⟩
  have n_BQ : Aside0 (w.drew.heap[gq]? = some (.cells #[(.int .i64 q)] 3 (0, 0))) := ⟨by (with_reducible repeat (first | refine blk_drewN ?_ _ | refine blk_drew ?_ | refine blk_alloc ?_ _)); exact BQ.out⟩
  have n_HB : Aside0 (Below w.heap.size w w.drew) := ⟨(by repeat (first | (with_reducible first | exact HB.out | apply below_alloc | apply pw_below_drewN | apply below_drew1) | exact HB.out))⟩
  clear BM
  have BM := n_BM
  clear n_BM
  clear BQ
  have BQ := n_BQ
  clear n_BQ
  clear HB
  have HB := n_HB
  clear n_HB
  refine start_ (n := 10) (S := fun w' => w'.cell? ⟨gq, 0, none⟩ = some (.int .i64 q) ∧ w'.cell? ⟨gm, 0, none⟩ = some (.int .i64 n) ∧ w'.cell? ⟨gm, 1, none⟩ = some (.slice A l.length c)) (ds := []) #[false, false, false, false, false, false, false, false, false, false] (by kernel_rfl) rfl rfl ⟨((blk_cell BQ.out 0).trans rfl), ((blk_cell BM.out 0).trans rfl), ((blk_cell BM.out 1).trans rfl)⟩ (fun hHeld => ?_)
  generalize w.drew = wD_ at BM BQ HB hHeld ⊢
  refine pure_ (i := 0) (N := some 5) (v := ?_) (a' := ?_) #[true, false, false, false, false, false, false, false, false, false] rfl rfl (by kernel_rfl) (fun _ _ _ h => h) (Or.inl ⟨by rfl, ?_⟩) ?_ ?_
  rotate_left
  ·intro w'
   go_simp
   with_reducible rfl
  rotate_left
  ·simp only [Act.put, List.setIfInBounds_toArray, List.set_cons_zero, List.set_cons_succ, i64_w, i32_w]
   rfl
  refine take_ (i := 2) (N := some 7) (v := ?_) (a' := ?_) #[true, false, true, false, false, false, false, false, false, false] rfl rfl (by kernel_rfl) (fun _ _ _ h => h) (Or.inl ⟨by rfl, ?_⟩) hHeld ?_ ?_
  rotate_left
  ·rintro w' ⟨s0, s1, s2⟩
   go_simp
   with_reducible rfl
  rotate_left
  ·simp only [Act.put, List.setIfInBounds_toArray, List.set_cons_zero, List.set_cons_succ, i64_w, i32_w]
   rfl
  refine one_ (i := 1) (N := some 6) #[true, true, true, false, false, false, false, false, false, false] rfl rfl (by kernel_rfl) (by decide) (fun K hK => ?_)
  refine goes_ Try.func64 (by kernel_rfl) rfl #[.int .i64 s] (by rfl) rfl rfl (by (try simp only [List.map_toArray, List.map_cons, List.map_nil]); first | done | rfl) ?_
  with_reducible refine (impl_CountOf.calls s t _ HT.out).mono ?_
  rintro e w' ⟨rfl, ⟨nd1, rfl⟩⟩
  refine ⟨_, rfl, ?_⟩
  have n_BM : Aside0 ((wD_.drewN nd1).heap[gm]? = some (.cells #[(.int .i64 n), (.slice A l.length c)] 26 (0, 0))) := ⟨by (with_reducible repeat (first | refine blk_drewN ?_ _ | refine blk_drew ?_ | refine blk_alloc ?_ _)); exact BM.out⟩
  have n_BQ : Aside0 ((wD_.drewN nd1).heap[gq]? = some (.cells #[(.int .i64 q)] 3 (0, 0))) := ⟨by (with_reducible repeat (first | refine blk_drewN ?_ _ | refine blk_drew ?_ | refine blk_alloc ?_ _)); exact BQ.out⟩
  have n_HB : Aside0 (Below w.heap.size w (wD_.drewN nd1)) := ⟨(by repeat (first | (with_reducible first | exact HB.out | apply below_alloc | apply pw_below_drewN | apply below_drew1) | exact HB.out))⟩
  clear BM
  have BM := n_BM
  clear n_BM
  clear BQ
  have BQ := n_BQ
  clear n_BQ
  clear HB
  have HB := n_HB
  clear n_HB
  refine hK.out _ _ ⟨((blk_cell BQ.out 0).trans rfl), ((blk_cell BM.out 0).trans rfl), ((blk_cell BM.out 1).trans rfl)⟩ (fun hHeld => ?_)
  clear hK K
  refine norm_ (a' := ?_) ?_ ?_
  rotate_left
  ·show Act.put _ (some 6) _ = _
   simp only [Act.put, List.setIfInBounds_toArray, List.set_cons_zero, List.set_cons_succ, i64_w, i32_w]
   rfl
  refine pure_ (i := 3) (N := some 8) (v := ?_) (a' := ?_) #[true, true, true, true, false, false, false, false, false, false] rfl rfl (by kernel_rfl) (fun _ _ _ h => h) (Or.inl ⟨by rfl, ?_⟩) ?_ ?_
  rotate_left
  ·intro w'
   go_simp
   with_reducible rfl
  rotate_left
  ·simp only [Act.put, List.setIfInBounds_toArray, List.set_cons_zero, List.set_cons_succ, i64_w, i32_w]
   rfl
  refine pure_ (i := 4) (N := some 9) (v := ?_) (a' := ?_) #[true, true, true, true, true, false, false, false, false, false] rfl rfl (by kernel_rfl) (fun _ _ _ h => h) (Or.inl ⟨by rfl, ?_⟩) ?_ ?_
  rotate_left
  ·intro w'
   go_simp
   with_reducible rfl
  rotate_left
  ·simp only [Act.put, List.setIfInBounds_toArray, List.set_cons_zero, List.set_cons_succ, i64_w, i32_w]
   rfl
  refine pure_ (i := 5) (N := some 10) (v := undef) (a' := ?_) #[true, true, true, true, true, true, false, false, false, false] rfl rfl (by kernel_rfl) (fun _ _ _ h => h) (Or.inr ⟨by rfl, rfl⟩) ?_ ?_
  rotate_left
  ·simp only [Act.put, List.setIfInBounds_toArray, List.set_cons_zero, List.set_cons_succ, i64_w, i32_w]
   rfl
  refine pure_ (i := 6) (N := some 11) (v := undef) (a' := ?_) #[true, true, true, true, true, true, true, false, false, false] rfl rfl (by kernel_rfl) (fun _ _ _ h => h) (Or.inr ⟨by rfl, rfl⟩) ?_ ?_
  rotate_left
  ·simp only [Act.put, List.setIfInBounds_toArray, List.set_cons_zero, List.set_cons_succ, i64_w, i32_w]
   rfl
  refine pure_ (i := 7) (N := some 12) (v := undef) (a' := ?_) #[true, true, true, true, true, true, true, true, false, false] rfl rfl (by kernel_rfl) (fun _ _ _ h => h) (Or.inr ⟨by rfl, rfl⟩) ?_ ?_
  rotate_left
  ·simp only [Act.put, List.setIfInBounds_toArray, List.set_cons_zero, List.set_cons_succ, i64_w, i32_w]
   rfl
  refine pure_ (i := 8) (N := some 13) (v := ?_) (a' := ?_) #[true, true, true, true, true, true, true, true, true, false] rfl rfl (by kernel_rfl) (fun _ _ _ h => h) (Or.inl ⟨by rfl, ?_⟩) ?_ ?_
  rotate_left
  ·intro w'
   go_simp
   with_reducible rfl
  rotate_left
  ·simp only [Act.put, List.setIfInBounds_toArray, List.set_cons_zero, List.set_cons_succ, i64_w, i32_w]
   rfl
  refine pure_ (i := 9) (N := some 4) (v := ?_) (a' := ?_) #[true, true, true, true, true, true, true, true, true, true] rfl rfl (by kernel_rfl) (fun _ _ _ h => h) (Or.inl ⟨by rfl, ?_⟩) ?_ ?_
  rotate_left
  ·intro w'
   go_simp
   with_reducible rfl
  rotate_left
  ·simp only [Act.put, List.setIfInBounds_toArray, List.set_cons_zero, List.set_cons_succ, i64_w, i32_w]
   rfl
  refine done_ (by kernel_rfl) ?_
  go_wp2
  go_ret
  exact ⟨by first | rfl | (simp; done) | (simp [*]; done), (by repeat (first | (with_reducible first | exact HB.out | apply below_alloc | apply pw_below_drewN | apply below_drew1) | exact HB.out))⟩
set_option maxHeartbeats 4000000 in
set_option maxRecDepth 100000 in
theorem impl_Truncate.calls (k : Nat) (a0_0 : Int) (A0_1 : Option Addr) (c0_1 : Nat) (l0_1 : List Int) (a1 : Int) (r1 : Int) (r2 : List Int) (r3 : Bool) (w : World) (hr0_1 : Kd.C (Kd.int .i64) w A0_1 l0_1.length l0_1) (hc0_1 : l0_1.length ≤ c0_1) (h : impl_Truncate.f k a0_0 l0_1 a1 = some (r1, r2, r3)) :
  Calls Try.prog 19 #[.agg #[.int .i64 a0_0, .slice A0_1 l0_1.length c0_1], .int .i64 a1] w fun e w' => ∃ v1_ : Value, e = .returned (.tuple #[.agg #[.int .i64 r1, v1_], .bool r3]) ∧ Kd.R (Kd.int .i64) 3 w' w.heap.size (fun _ => True) v1_ r2 ∧ Below w.heap.size w w' := by
 have hu := Try.underlying26
 have HR := aQ hr0_1
 have HC := aQ hc0_1
 have HB := aQ (Below.refl w.heap.size w)
 clear hr0_1 hc0_1
 have EG := aQ (show ∀ args w, (callFunc 63 args).run Try.prog w = .ok (.enter 63 args) w from runs_of Try.func63 (by kernel_rfl) rfl)
 unfold impl_Truncate.f at h
 obtain ⟨t, hT, h⟩ := Option.bind_eq_some_iff.1 h
 have HT := aQ hT
 clear hT
 by_cases c3 : t = true
 ·subst c3
  rw [if_pos rfl] at h
  by_cases c4 : a1 < 0
  ·rw [if_pos c4] at h
   simp only [Option.some.injEq, Prod.mk.injEq] at h
   obtain ⟨rfl, rfl, rfl⟩ := h
   have l4 : decide (a1 < 0) = true := decide_eq_true c4
   clear c4
   go_enter Try.func19, Try.ntmps19
   go_wp2_with (first | ((with_reducible refine gate_dst (N := 2) rfl ?_); refine box_event ?hg (N := 2) ?hd (cs := #[(.int .i64 a0_0), (.slice A0_1 l0_1.length c0_1)]) (t := 26) ?hr ?_; (case hd => rfl); (case hg => rfl); (case hr => first | (go_simp; done) | (go_simp; rfl)); intro gm hg w1_ hbox hb; have GBM := aQ ((by rw [hg]; exact below_size (by repeat (first | (with_reducible first | exact HB.out | apply below_alloc | apply pw_below_drewN | apply below_drew1) | exact HB.out))) : w.heap.size ≤ gm); replace HB := aQ (below_step (by repeat (first | (with_reducible first | exact HB.out | apply below_alloc | apply pw_below_drewN | apply below_drew1) | exact HB.out)) hb); have BM := aQ hbox; clear hb hbox hg; have zBM0 : w1_.cell? ⟨gm, 0, none⟩ = some (.int .i64 a0_0) := (blk_cell BM.out 0).trans rfl; have zBM1 : w1_.cell? ⟨gm, 1, none⟩ = some (.slice A0_1 l0_1.length c0_1) := (blk_cell BM.out 1).trans rfl) | ((with_reducible refine gate_dst (N := 3) rfl ?_); refine box_event ?hg (N := 3) ?hd (cs := #[(.int .i64 a1)]) (t := 3) ?hr ?_; (case hd => rfl); (case hg => rfl); (case hr => first | (go_simp; done) | (go_simp; rfl)); intro gq hg w1_ hbox hb; have NBMBQ := aQ ((by rw [hg]; exact Nat.ne_of_lt (blk_lt (g := gm) (o := .cells #[(.int .i64 a0_0), (.slice A0_1 l0_1.length c0_1)] 26 (0, 0)) (by (with_reducible repeat (first | refine blk_drewN ?_ _ | refine blk_drew ?_ | refine blk_alloc ?_ _)); exact BM.out))) : gm ≠ gq); have GBQ := aQ ((by rw [hg]; exact below_size (by repeat (first | (with_reducible first | exact HB.out | apply below_alloc | apply pw_below_drewN | apply below_drew1 | refine below_set ?_ GBM.out) | exact HB.out))) : w.heap.size ≤ gq); have n_BM := aQ (blk_below (g := gm) (o := .cells #[(.int .i64 a0_0), (.slice A0_1 l0_1.length c0_1)] 26 (0, 0)) (by (with_reducible repeat (first | refine blk_drewN ?_ _ | refine blk_drew ?_ | refine blk_alloc ?_ _)); exact BM.out) hb); have n_HB := aQ (below_step (by repeat (first | (with_reducible first | exact HB.out | apply below_alloc | apply pw_below_drewN | apply below_drew1 | refine below_set ?_ GBM.out) | exact HB.out)) hb); clear HB; clear BM; have BM := n_BM; clear n_BM; have HB := n_HB; clear n_HB; have BQ := aQ hbox; clear hb hbox hg; have zBM0 : w1_.cell? ⟨gm, 0, none⟩ = some (.int .i64 a0_0) := (blk_cell BM.out 0).trans rfl; have zBM1 : w1_.cell? ⟨gm, 1, none⟩ = some (.slice A0_1 l0_1.length c0_1) := (blk_cell BM.out 1).trans rfl; have zBQ0 : w1_.cell? ⟨gq, 0, none⟩ = some (.int .i64 a1) := (blk_cell BQ.out 0).trans rfl) | ((with_reducible refine gate_dst (N := 4) rfl ?_); refine box_event ?hg (N := 4) ?hd (cs := #[(.int .i64 0), (.slice none 0 0)]) (t := 26) ?hr ?_; (case hd => rfl); (case hg => rfl); (case hr => first | (go_simp; done) | (go_simp; rfl)); intro gr hg w1_ hbox hb; have NBMBR := aQ ((by rw [hg]; exact Nat.ne_of_lt (blk_lt (g := gm) (o := .cells #[(.int .i64 a0_0), (.slice A0_1 l0_1.length c0_1)] 26 (0, 0)) (by (with_reducible repeat (first | refine blk_drewN ?_ _ | refine blk_drew ?_ | refine blk_alloc ?_ _)); exact BM.out))) : gm ≠ gr); have NBQBR := aQ ((by rw [hg]; exact Nat.ne_of_lt (blk_lt (g := gq) (o := .cells #[(.int .i64 a1)] 3 (0, 0)) (by (with_reducible repeat (first | refine blk_drewN ?_ _ | refine blk_drew ?_ | refine blk_alloc ?_ _)); exact BQ.out))) : gq ≠ gr); have GBR := aQ ((by rw [hg]; exact below_size (by repeat (first | (with_reducible first | exact HB.out | apply below_alloc | apply pw_below_drewN | apply below_drew1 | refine below_set ?_ GBM.out | refine below_set ?_ GBQ.out) | exact HB.out))) : w.heap.size ≤ gr); have n_BM := aQ (blk_below (g := gm) (o := .cells #[(.int .i64 a0_0), (.slice A0_1 l0_1.length c0_1)] 26 (0, 0)) (by (with_reducible repeat (first | refine blk_drewN ?_ _ | refine blk_drew ?_ | refine blk_alloc ?_ _)); exact BM.out) hb); have n_BQ := aQ (blk_below (g := gq) (o := .cells #[(.int .i64 a1)] 3 (0, 0)) (by (with_reducible repeat (first | refine blk_drewN ?_ _ | refine blk_drew ?_ | refine blk_alloc ?_ _)); exact BQ.out) hb); have n_HB := aQ (below_step (by repeat (first | (with_reducible first | exact HB.out | apply below_alloc | apply pw_below_drewN | apply below_drew1 | refine below_set ?_ GBM.out | refine below_set ?_ GBQ.out) | exact HB.out)) hb); clear HB; clear BM; have BM := n_BM; clear n_BM; clear BQ; have BQ := n_BQ; clear n_BQ; have HB := n_HB; clear n_HB; have BR := aQ hbox; clear hb hbox hg; have zBM0 : w1_.cell? ⟨gm, 0, none⟩ = some (.int .i64 a0_0) := (blk_cell BM.out 0).trans rfl; have zBM1 : w1_.cell? ⟨gm, 1, none⟩ = some (.slice A0_1 l0_1.length c0_1) := (blk_cell BM.out 1).trans rfl; have zBQ0 : w1_.cell? ⟨gq, 0, none⟩ = some (.int .i64 a1) := (blk_cell BQ.out 0).trans rfl; have zBR0 : w1_.cell? ⟨gr, 0, none⟩ = some (.int .i64 0) := (blk_cell BR.out 0).trans rfl; have zBR1 : w1_.cell? ⟨gr, 1, none⟩ = some (.slice none 0 0) := (blk_cell BR.out 1).trans rfl))
   have n_BM : Aside0 (w1_.drew.heap[gm]? = some (.cells #[(.int .i64 a0_0), (.slice A0_1 l0_1.length c0_1)] 26 (0, 0))) := ⟨by (with_reducible repeat (first | refine blk_drewN ?_ _ | refine blk_drew ?_ | refine blk_alloc ?_ _)); exact BM.out⟩
   have n_BQ : Aside0 (w1_.drew.heap[gq]? = some (.cells #[(.int .i64 a1)] 3 (0, 0))) := ⟨by (with_reducible repeat (first | refine blk_drewN ?_ _ | refine blk_drew ?_ | refine blk_alloc ?_ _)); exact BQ.out⟩
   have n_BR : Aside0 (w1_.drew.heap[gr]? = some (.cells #[(.int .i64 0), (.slice none 0 0)] 26 (0, 0))) := ⟨by (with_reducible repeat (first | refine blk_drewN ?_ _ | refine blk_drew ?_ | refine blk_alloc ?_ _)); exact BR.out⟩
   have n_HB : Aside0 (Below w.heap.size w w1_.drew) := ⟨(by repeat (first | (with_reducible first | exact HB.out | apply below_alloc | apply pw_below_drewN | apply below_drew1 | refine below_set ?_ GBM.out | refine below_set ?_ GBQ.out | refine below_set ?_ GBR.out) | exact HB.out))⟩
   clear BM
   have BM := n_BM
   clear n_BM
   clear BQ
   have BQ := n_BQ
   clear n_BQ
   clear BR
   have BR := n_BR
   clear n_BR
   clear HB
   have HB := n_HB
   clear n_HB
   refine start_ (n := 13) (S := fun w' => w'.cell? ⟨gq, 0, none⟩ = some (.int .i64 a1) ∧ w'.cell? ⟨gm, 0, none⟩ = some (.int .i64 a0_0) ∧ w'.cell? ⟨gm, 1, none⟩ = some (.slice A0_1 l0_1.length c0_1)) (ds := []) #[false, false, false, false, false, false, false, false, false, false, false, false, false] (by kernel_rfl) rfl rfl ⟨((blk_cell BQ.out 0).trans rfl), ((blk_cell BM.out 0).trans rfl), ((blk_cell BM.out 1).trans rfl)⟩ (fun hHeld => ?_)
   generalize w1_.drew = wD_ at BM BQ BR HB hHeld ⊢
   refine take_ (i := 0) (N := some 6) (v := ?_) (a' := ?_) #[true, false, false, false, false, false, false, false, false, false, false, false, false] rfl rfl (by kernel_rfl) (fun _ _ _ h => h) (Or.inl ⟨by rfl, ?_⟩) hHeld ?_ ?_
   rotate_left
   ·rintro w' ⟨s0, s1, s2⟩
    go_simp
    with_reducible rfl
   rotate_left
   ·simp only [Act.put, List.setIfInBounds_toArray, List.set_cons_zero, List.set_cons_succ, i64_w, i32_w]
    rfl
   refine one_ (i := 1) (N := some 7) #[true, true, false, false, false, false, false, false, false, false, false, false, false] rfl rfl (by kernel_rfl) (by decide) (fun K hK => ?_)
   refine goes_ Try.func60 (by kernel_rfl) rfl #[.agg #[.int .i64 a0_0, .slice A0_1 l0_1.length c0_1]] (by rfl) rfl rfl (by (try simp only [List.map_toArray, List.map_cons, List.map_nil]); first | done | rfl) ?_
   with_reducible refine (impl_IsMatroid.calls k a0_0 _ _ l0_1 true _ ?side1 ?side2 HT.out).mono ?_
   (case side1 => repeat (first | exact (Kd.C_below HR.out (by repeat (first | (with_reducible first | exact HB.out | apply below_alloc | apply pw_below_drewN | apply below_drew1 | refine below_set ?_ GBM.out | refine below_set ?_ GBQ.out | refine below_set ?_ GBR.out) | exact HB.out))) | exact HR.out))
   (case side2 => exact HC.out)
   rintro e w1_ ⟨rfl, hb⟩
   refine ⟨_, rfl, ?_⟩
   have n_BM := aQ (blk_below (g := gm) (o := .cells #[(.int .i64 a0_0), (.slice A0_1 l0_1.length c0_1)] 26 (0, 0)) (by (with_reducible repeat (first | refine blk_drewN ?_ _ | refine blk_drew ?_ | refine blk_alloc ?_ _)); exact BM.out) hb)
   have n_BQ := aQ (blk_below (g := gq) (o := .cells #[(.int .i64 a1)] 3 (0, 0)) (by (with_reducible repeat (first | refine blk_drewN ?_ _ | refine blk_drew ?_ | refine blk_alloc ?_ _)); exact BQ.out) hb)
   have n_BR := aQ (blk_below (g := gr) (o := .cells #[(.int .i64 0), (.slice none 0 0)] 26 (0, 0)) (by (with_reducible repeat (first | refine blk_drewN ?_ _ | refine blk_drew ?_ | refine blk_alloc ?_ _)); exact BR.out) hb)
   have n_HB := aQ (below_step (by repeat (first | (with_reducible first | exact HB.out | apply below_alloc | apply pw_below_drewN | apply below_drew1 | refine below_set ?_ GBM.out | refine below_set ?_ GBQ.out | refine below_set ?_ GBR.out) | exact HB.out)) hb)
   clear HB
   clear BM
   have BM := n_BM
   clear n_BM
   clear BQ
   have BQ := n_BQ
   clear n_BQ
   clear BR
   have BR := n_BR
   clear n_BR
   have HB := n_HB
   clear n_HB
   clear hb
   refine hK.out _ _ ⟨((blk_cell BQ.out 0).trans rfl), ((blk_cell BM.out 0).trans rfl), ((blk_cell BM.out 1).trans rfl)⟩ (fun hHeld => ?_)
   clear hK K
   refine norm_ (a' := ?_) ?_ ?_
   rotate_left
   ·show Act.put _ (some 7) _ = _
    simp only [Act.put, List.setIfInBounds_toArray, List.set_cons_zero, List.set_cons_succ, i64_w, i32_w]
    rfl
   refine pure_ (i := 2) (N := some 8) (v := ?_) (a' := ?_) #[true, true, true, false, false, false, false, false, false, false, false, false, false] rfl rfl (by kernel_rfl) (fun _ _ _ h => h) (Or.inl ⟨by rfl, ?_⟩) ?_ ?_
   rotate_left
   ·intro w'
    go_simp
    with_reducible rfl
   rotate_left
   ·simp only [Act.put, List.setIfInBounds_toArray, List.set_cons_zero, List.set_cons_succ, i64_w, i32_w]
    rfl
   refine pure_ (i := 3) (N := some 9) (v := ?_) (a' := ?_) #[true, true, true, true, false, false, false, false, false, false, false, false, false] rfl rfl (by kernel_rfl) (fun _ _ _ h => h) (Or.inl ⟨by rfl, ?_⟩) ?_ ?_
   rotate_left
   ·intro w'
    go_simp
    with_reducible rfl
   rotate_left
   ·simp only [Act.put, List.setIfInBounds_toArray, List.set_cons_zero, List.set_cons_succ, i64_w, i32_w]
    rfl
   refine take_ (i := 4) (N := some 10) (v := ?_) (a' := ?_) #[true, true, true, true, true, false, false, false, false, false, false, false, false] rfl rfl (by kernel_rfl) (fun _ _ _ h => h) (Or.inl ⟨by rfl, ?_⟩) hHeld ?_ ?_
   rotate_left
   ·rintro w' ⟨s0, s1, s2⟩
    go_simp
    with_reducible rfl
   rotate_left
   ·simp only [Act.put, List.setIfInBounds_toArray, List.set_cons_zero, List.set_cons_succ, i64_w, i32_w]
    rfl
   refine pure_ (i := 5) (N := some 11) (v := ?_) (a' := ?_) #[true, true, true, true, true, true, false, false, false, false, false, false, false] rfl rfl (by kernel_rfl) (fun _ _ _ h => h) (Or.inl ⟨by rfl, ?_⟩) ?_ ?_
   rotate_left
   ·intro w'
    go_simp
    with_reducible rfl
   rotate_left
   ·simp only [Act.put, List.setIfInBounds_toArray, List.set_cons_zero, List.set_cons_succ, i64_w, i32_w]
    rfl
   refine pure_ (i := 6) (N := some 12) (v := ?_) (a' := ?_) #[true, true, true, true, true, true, true, false, false, false, false, false, false] rfl rfl (by kernel_rfl) (fun _ _ _ h => h) (Or.inl ⟨by rfl, ?_⟩) ?_ ?_
   rotate_left
   ·intro w'
    go_simp
    with_reducible rfl
   rotate_left
   ·simp only [Act.put, List.setIfInBounds_toArray, List.set_cons_zero, List.set_cons_succ, i64_w, i32_w]
    rfl
   refine pure_ (i := 7) (N := some 13) (v := ?_) (a' := ?_) #[true, true, true, true, true, true, true, true, false, false, false, false, false] rfl rfl (by kernel_rfl) (fun _ _ _ h => h) (Or.inl ⟨by rfl, ?_⟩) ?_ ?_
   rotate_left
   ·intro w'
    go_simp
    with_reducible rfl
   rotate_left
   ·simp only [Act.put, List.setIfInBounds_toArray, List.set_cons_zero, List.set_cons_succ, i64_w, i32_w]
    rfl
   refine pure_ (i := 8) (N := some 14) (v := undef) (a' := ?_) #[true, true, true, true, true, true, true, true, true, false, false, false, false] rfl rfl (by kernel_rfl) (fun _ _ _ h => h) (Or.inr ⟨by rfl, rfl⟩) ?_ ?_
   rotate_left
   ·simp only [Act.put, List.setIfInBounds_toArray, List.set_cons_zero, List.set_cons_succ, i64_w, i32_w]
    rfl
   refine pure_ (i := 9) (N := some 15) (v := undef) (a' := ?_) #[true, true, true, true, true, true, true, true, true, true, false, false, false] rfl rfl (by kernel_rfl) (fun _ _ _ h => h) (Or.inr ⟨by rfl, rfl⟩) ?_ ?_
   rotate_left
   ·simp only [Act.put, List.setIfInBounds_toArray, List.set_cons_zero, List.set_cons_succ, i64_w, i32_w]
    rfl
   refine pure_ (i := 10) (N := some 16) (v := undef) (a' := ?_) #[true, true, true, true, true, true, true, true, true, true, true, false, false] rfl rfl (by kernel_rfl) (fun _ _ _ h => h) (Or.inr ⟨by rfl, rfl⟩) ?_ ?_
   rotate_left
   ·simp only [Act.put, List.setIfInBounds_toArray, List.set_cons_zero, List.set_cons_succ, i64_w, i32_w]
    rfl
   refine pure_ (i := 11) (N := some 17) (v := undef) (a' := ?_) #[true, true, true, true, true, true, true, true, true, true, true, true, false] rfl rfl (by kernel_rfl) (fun _ _ _ h => h) (Or.inr ⟨by rfl, rfl⟩) ?_ ?_
   rotate_left
   ·simp only [Act.put, List.setIfInBounds_toArray, List.set_cons_zero, List.set_cons_succ, i64_w, i32_w]
    rfl
   refine pure_ (i := 12) (N := some 18) (v := ?_) (a' := ?_) #[true, true, true, true, true, true, true, true, true, true, true, true, true] rfl rfl (by kernel_rfl) (fun _ _ _ h => h) (Or.inl ⟨by rfl, ?_⟩) ?_ ?_
   rotate_left
   ·intro w'
    go_simp
    with_reducible rfl
   rotate_left
   ·simp only [Act.put, List.setIfInBounds_toArray, List.set_cons_zero, List.set_cons_succ, i64_w, i32_w]
    rfl
   refine done_ (by kernel_rfl) ?_
   have zeBR0 : w1_.cell? ⟨gr, 0, none⟩ = some (.int .i64 0) := (blk_cell BR.out 0).trans rfl
   have zeBR1 : w1_.cell? ⟨gr, 1, none⟩ = some (.slice none 0 0) := (blk_cell BR.out 1).trans rfl
   have hf0BR := blk_frozen BR.out 0
   have hf1BR := blk_frozen BR.out 1
   go_wp2
   refine bodyPost_ret (results_ct rfl _ _ gr 26 #[(.int .i64 0), (.slice none 0 0)] (0, 0) _ rfl (by (with_reducible repeat (first | refine blk_drewN ?_ _ | refine blk_drew ?_ | refine blk_alloc ?_ _)); refine blk_put (cs := #[(.int .i64 0), (.slice none 0 0)]) ?_ 1 _ rfl; (with_reducible repeat (first | refine blk_drewN ?_ _ | refine blk_drew ?_ | refine blk_alloc ?_ _)); refine blk_put (cs := #[(.int .i64 0), (.slice none 0 0)]) ?_ 0 _ rfl; (with_reducible repeat (first | refine blk_drewN ?_ _ | refine blk_drew ?_ | refine blk_alloc ?_ _)); exact BR.out) Try.underlying26 rfl (by kernel_rfl)) rfl ?_
   exact ⟨_, by first | rfl | (simp; done) | (simp [*]; done), Kd.R_nil _ _ _ _ _, (by repeat (first | (with_reducible first | exact HB.out | apply below_alloc | apply pw_below_drewN | apply below_drew1 | refine below_set ?_ GBM.out | refine below_set ?_ GBQ.out | refine below_set ?_ GBR.out) | exact HB.out))⟩
  ·rw [if_neg c4] at h
   have l4 : decide (a1 < 0) = false := decide_eq_false c4
   clear c4
   obtain ⟨q, hQ, h⟩ := Option.bind_eq_some_iff.1 h
   have HQ := aQ hQ
   clear hQ
   by_cases c5 : a1 > q
   ·rw [if_pos c5] at h
    simp only [Option.some.injEq, Prod.mk.injEq] at h
    obtain ⟨rfl, rfl, rfl⟩ := h
    have l5 : decide (q < a1) = true := decide_eq_true c5
    clear c5
    go_enter Try.func19, Try.ntmps19
    go_wp2_with (first | ((with_reducible refine gate_dst (N := 2) rfl ?_); refine box_event ?hg (N := 2) ?hd (cs := #[(.int .i64 a0_0), (.slice A0_1 l0_1.length c0_1)]) (t := 26) ?hr ?_; (case hd => rfl); (case hg => rfl); (case hr => first | (go_simp; done) | (go_simp; rfl)); intro gm hg w1_ hbox hb; have GBM := aQ ((by rw [hg]; exact below_size (by repeat (first | (with_reducible first | exact HB.out | apply below_alloc | apply pw_below_drewN | apply below_drew1) | exact HB.out))) : w.heap.size ≤ gm); replace HB := aQ (below_step (by repeat (first | (with_reducible first | exact HB.out | apply below_alloc | apply pw_below_drewN | apply below_drew1) | exact HB.out)) hb); have BM := aQ hbox; clear hb hbox hg; have zBM0 : w1_.cell? ⟨gm, 0, none⟩ = some (.int .i64 a0_0) := (blk_cell BM.out 0).trans rfl; have zBM1 : w1_.cell? ⟨gm, 1, none⟩ = some (.slice A0_1 l0_1.length c0_1) := (blk_cell BM.out 1).trans rfl) | ((with_reducible refine gate_dst (N := 3) rfl ?_); refine box_event ?hg (N := 3) ?hd (cs := #[(.int .i64 a1)]) (t := 3) ?hr ?_; (case hd => rfl); (case hg => rfl); (case hr => first | (go_simp; done) | (go_simp; rfl)); intro gq hg w1_ hbox hb; have NBMBQ := aQ ((by rw [hg]; exact Nat.ne_of_lt (blk_lt (g := gm) (o := .cells #[(.int .i64 a0_0), (.slice A0_1 l0_1.length c0_1)] 26 (0, 0)) (by (with_reducible repeat (first | refine blk_drewN ?_ _ | refine blk_drew ?_ | refine blk_alloc ?_ _)); exact BM.out))) : gm ≠ gq); have GBQ := aQ ((by rw [hg]; exact below_size (by repeat (first | (with_reducible first | exact HB.out | apply below_alloc | apply pw_below_drewN | apply below_drew1 | refine below_set ?_ GBM.out) | exact HB.out))) : w.heap.size ≤ gq); have n_BM := aQ (blk_below (g := gm) (o := .cells #[(.int .i64 a0_0), (.slice A0_1 l0_1.length c0_1)] 26 (0, 0)) (by (with_reducible repeat (first | refine blk_drewN ?_ _ | refine blk_drew ?_ | refine blk_alloc ?_ _)); exact BM.out) hb); have n_HB := aQ (below_step (by repeat (first | (with_reducible first | exact HB.out | apply below_alloc | apply pw_below_drewN | apply below_drew1 | refine below_set ?_ GBM.out) | exact HB.out)) hb); clear HB; clear BM; have BM := n_BM; clear n_BM; have HB := n_HB; clear n_HB; have BQ := aQ hbox; clear hb hbox hg; have zBM0 : w1_.cell? ⟨gm, 0, none⟩ = some (.int .i64 a0_0) := (blk_cell BM.out 0).trans rfl; have zBM1 : w1_.cell? ⟨gm, 1, none⟩ = some (.slice A0_1 l0_1.length c0_1) := (blk_cell BM.out 1).trans rfl; have zBQ0 : w1_.cell? ⟨gq, 0, none⟩ = some (.int .i64 a1) := (blk_cell BQ.out 0).trans rfl) | ((with_reducible refine gate_dst (N := 4) rfl ?_); refine box_event ?hg (N := 4) ?hd (cs := #[(.int .i64 0), (.slice none 0 0)]) (t := 26) ?hr ?_; (case hd => rfl); (case hg => rfl); (case hr => first | (go_simp; done) | (go_simp; rfl)); intro gr hg w1_ hbox hb; have NBMBR := aQ ((by rw [hg]; exact Nat.ne_of_lt (blk_lt (g := gm) (o := .cells #[(.int .i64 a0_0), (.slice A0_1 l0_1.length c0_1)] 26 (0, 0)) (by (with_reducible repeat (first | refine blk_drewN ?_ _ | refine blk_drew ?_ | refine blk_alloc ?_ _)); exact BM.out))) : gm ≠ gr); have NBQBR := aQ ((by rw [hg]; exact Nat.ne_of_lt (blk_lt (g := gq) (o := .cells #[(.int .i64 a1)] 3 (0, 0)) (by (with_reducible repeat (first | refine blk_drewN ?_ _ | refine blk_drew ?_ | refine blk_alloc ?_ _)); exact BQ.out))) : gq ≠ gr); have GBR := aQ ((by rw [hg]; exact below_size (by repeat (first | (with_reducible first | exact HB.out | apply below_alloc | apply pw_below_drewN | apply below_drew1 | refine below_set ?_ GBM.out | refine below_set ?_ GBQ.out) | exact HB.out))) : w.heap.size ≤ gr); have n_BM := aQ (blk_below (g := gm) (o := .cells #[(.int .i64 a0_0), (.slice A0_1 l0_1.length c0_1)] 26 (0, 0)) (by (with_reducible repeat (first | refine blk_drewN ?_ _ | refine blk_drew ?_ | refine blk_alloc ?_ _)); exact BM.out) hb); have n_BQ := aQ (blk_below (g := gq) (o := .cells #[(.int .i64 a1)] 3 (0, 0)) (by (with_reducible repeat (first | refine blk_drewN ?_ _ | refine blk_drew ?_ | refine blk_alloc ?_ _)); exact BQ.out) hb); have n_HB := aQ (below_step (by repeat (first | (with_reducible first | exact HB.out | apply below_alloc | apply pw_below_drewN | apply below_drew1 | refine below_set ?_ GBM.out | refine below_set ?_ GBQ.out) | exact HB.out)) hb); clear HB; clear BM; have BM := n_BM; clear n_BM; clear BQ; have BQ := n_BQ; clear n_BQ; have HB := n_HB; clear n_HB; have BR := aQ hbox; clear hb hbox hg; have zBM0 : w1_.cell? ⟨gm, 0, none⟩ = some (.int .i64 a0_0) := (blk_cell BM.out 0).trans rfl; have zBM1 : w1_.cell? ⟨gm, 1, none⟩ = some (.slice A0_1 l0_1.length c0_1) := (blk_cell BM.out 1).trans rfl; have zBQ0 : w1_.cell? ⟨gq, 0, none⟩ = some (.int .i64 a1) := (blk_cell BQ.out 0).trans rfl; have zBR0 : w1_.cell? ⟨gr, 0, none⟩ = some (.int .i64 0) := (blk_cell BR.out 0).trans rfl; have zBR1 : w1_.cell? ⟨gr, 1, none⟩ = some (.slice none 0 0) := (blk_cell BR.out 1).trans rfl))
    have n_BM : Aside0 (w1_.drew.heap[gm]? = some (.cells #[(.int .i64 a0_0), (.slice A0_1 l0_1.length c0_1)] 26 (0, 0))) := ⟨by (with_reducible repeat (first | refine blk_drewN ?_ _ | refine blk_drew ?_ | refine blk_alloc ?_ _)); exact BM.out⟩
    have n_BQ : Aside0 (w1_.drew.heap[gq]? = some (.cells #[(.int .i64 a1)] 3 (0, 0))) := ⟨by (with_reducible repeat (first | refine blk_drewN ?_ _ | refine blk_drew ?_ | refine blk_alloc ?_ _)); exact BQ.out⟩
    have n_BR : Aside0 (w1_.drew.heap[gr]? = some (.cells #[(.int .i64 0), (.slice none 0 0)] 26 (0, 0))) := ⟨by (with_reducible repeat (first | refine blk_drewN ?_ _ | refine blk_drew ?_ | refine blk_alloc ?_ _)); exact BR.out⟩
    have n_HB : Aside0 (Below w.heap.size w w1_.drew) := ⟨(by repeat (first | (with_reducible first | exact HB.out | apply below_alloc | apply pw_below_drewN | apply below_drew1 | refine below_set ?_ GBM.out | refine below_set ?_ GBQ.out | refine below_set ?_ GBR.out) | exact HB.out))⟩
    clear BM
    have BM := n_BM
    clear n_BM
    clear BQ
    have BQ := n_BQ
    clear n_BQ
    clear BR
    have BR := n_BR
    clear n_BR
    clear HB
    have HB := n_HB
    clear n_HB
    refine start_ (n := 13) (S := fun w' => w'.cell? ⟨gq, 0, none⟩ = some (.int .i64 a1) ∧ w'.cell? ⟨gm, 0, none⟩ = some (.int .i64 a0_0) ∧ w'.cell? ⟨gm, 1, none⟩ = some (.slice A0_1 l0_1.length c0_1)) (ds := []) #[false, false, false, false, false, false, false, false, false, false, false, false, false] (by kernel_rfl) rfl rfl ⟨((blk_cell BQ.out 0).trans rfl), ((blk_cell BM.out 0).trans rfl), ((blk_cell BM.out 1).trans rfl)⟩ (fun hHeld => ?_)
    generalize w1_.drew = wD_ at BM BQ BR HB hHeld ⊢
    refine take_ (i := 0) (N := some 6) (v := ?_) (a' := ?_) #[true, false, false, false, false, false, false, false, false, false, false, false, false] rfl rfl (by kernel_rfl) (fun _ _ _ h => h) (Or.inl ⟨by rfl, ?_⟩) hHeld ?_ ?_
    rotate_left
    ·rintro w' ⟨s0, s1, s2⟩
     go_simp
     with_reducible rfl
    rotate_left
    ·simp only [Act.put, List.setIfInBounds_toArray, List.set_cons_zero, List.set_cons_succ, i64_w, i32_w]
     rfl
    refine one_ (i := 1) (N := some 7) #[true, true, false, false, false, false, false, false, false, false, false, false, false] rfl rfl (by kernel_rfl) (by decide) (fun K hK => ?_)
    refine goes_ Try.func60 (by kernel_rfl) rfl #[.agg #[.int .i64 a0_0, .slice A0_1 l0_1.length c0_1]] (by rfl) rfl rfl (by (try simp only [List.map_toArray, List.map_cons, List.map_nil]); first | done | rfl) ?_
    with_reducible refine (impl_IsMatroid.calls k a0_0 _ _ l0_1 true _ ?side1 ?side2 HT.out).mono ?_
    (case side1 => repeat (first | exact (Kd.C_below HR.out (by repeat (first | (with_reducible first | exact HB.out | apply below_alloc | apply pw_below_drewN | apply below_drew1 | refine below_set ?_ GBM.out | refine below_set ?_ GBQ.out | refine below_set ?_ GBR.out) | exact HB.out))) | exact HR.out))
    (case side2 => exact HC.out)
    rintro e w1_ ⟨rfl, hb⟩
    refine ⟨_, rfl, ?_⟩
    have n_BM := aQ (blk_below (g := gm) (o := .cells #[(.int .i64 a0_0), (.slice A0_1 l0_1.length c0_1)] 26 (0, 0)) (by (with_reducible repeat (first | refine blk_drewN ?_ _ | refine blk_drew ?_ | refine blk_alloc ?_ _)); exact BM.out) hb)
    have n_BQ := aQ (blk_below (g := gq) (o := .cells #[(.int .i64 a1)] 3 (0, 0)) (by (with_reducible repeat (first | refine blk_drewN ?_ _ | refine blk_drew ?_ | refine blk_alloc ?_ _)); exact BQ.out) hb)
    have n_BR := aQ (blk_below (g := gr) (o := .cells #[(.int .i64 0), (.slice none 0 0)] 26 (0, 0)) (by (with_reducible repeat (first | refine blk_drewN ?_ _ | refine blk_drew ?_ | refine blk_alloc ?_ _)); exact BR.out) hb)
    have n_HB := aQ (below_step (by repeat (first | (with_reducible first | exact HB.out | apply below_alloc | apply pw_below_drewN | apply below_drew1 | refine below_set ?_ GBM.out | refine below_set ?_ GBQ.out | refine below_set ?_ GBR.out) | exact HB.out)) hb)
    clear HB
    clear BM
    have BM := n_BM
    clear n_BM
    clear BQ
    have BQ := n_BQ
    clear n_BQ
    clear BR
    have BR := n_BR
    clear n_BR
    have HB := n_HB
    clear n_HB
    clear hb
    refine hK.out _ _ ⟨((blk_cell BQ.out 0).trans rfl), ((blk_cell BM.out 0).trans rfl), ((blk_cell BM.out 1).trans rfl)⟩ (fun hHeld => ?_)
    clear hK K
    refine norm_ (a' := ?_) ?_ ?_
    rotate_left
    ·show Act.put _ (some 7) _ = _
     simp only [Act.put, List.setIfInBounds_toArray, List.set_cons_zero, List.set_cons_succ, i64_w, i32_w]
     rfl
    refine pure_ (i := 2) (N := some 8) (v := ?_) (a' := ?_) #[true, true, true, false, false, false, false, false, false, false, false, false, false] rfl rfl (by kernel_rfl) (fun _ _ _ h => h) (Or.inl ⟨by rfl, ?_⟩) ?_ ?_
    rotate_left
    ·intro w'
     go_simp
     with_reducible rfl
    rotate_left
    ·simp only [Act.put, List.setIfInBounds_toArray, List.set_cons_zero, List.set_cons_succ, i64_w, i32_w]
     rfl
    refine pure_ (i := 3) (N := some 9) (v := ?_) (a' := ?_) #[true, true, true, true, false, false, false, false, false, false, false, false, false] rfl rfl (by kernel_rfl) (fun _ _ _ h => h) (Or.inl ⟨by rfl, ?_⟩) ?_ ?_
    rotate_left
    ·intro w'
     go_simp
     with_reducible rfl
    rotate_left
    ·simp only [Act.put, List.setIfInBounds_toArray, List.set_cons_zero, List.set_cons_succ, i64_w, i32_w]
     rfl
    refine take_ (i := 4) (N := some 10) (v := ?_) (a' := ?_) #[true, true, true, true, true, false, false, false, false, false, false, false, false] rfl rfl (by kernel_rfl) (fun _ _ _ h => h) (Or.inl ⟨by rfl, ?_⟩) hHeld ?_ ?_
    rotate_left
    ·rintro w' ⟨s0, s1, s2⟩
     go_simp
     with_reducible rfl
    rotate_left
    ·simp only [Act.put, List.setIfInBounds_toArray, List.set_cons_zero, List.set_cons_succ, i64_w, i32_w]
     rfl
    refine pure_ (i := 5) (N := some 11) (v := ?_) (a' := ?_) #[true, true, true, true, true, true, false, false, false, false, false, false, false] rfl rfl (by kernel_rfl) (fun _ _ _ h => h) (Or.inl ⟨by rfl, ?_⟩) ?_ ?_
    rotate_left
    ·intro w'
     go_simp
     with_reducible rfl
    rotate_left
    ·simp only [Act.put, List.setIfInBounds_toArray, List.set_cons_zero, List.set_cons_succ, i64_w, i32_w]
     rfl
    refine pure_ (i := 6) (N := some 12) (v := ?_) (a' := ?_) #[true, true, true, true, true, true, true, false, false, false, false, false, false] rfl rfl (by kernel_rfl) (fun _ _ _ h => h) (Or.inl ⟨by rfl, ?_⟩) ?_ ?_
    rotate_left
    ·intro w'
     go_simp
     with_reducible rfl
    rotate_left
    ·simp only [Act.put, List.setIfInBounds_toArray, List.set_cons_zero, List.set_cons_succ, i64_w, i32_w]
     rfl
    refine pure_ (i := 7) (N := some 13) (v := ?_) (a' := ?_) #[true, true, true, true, true, true, true, true, false, false, false, false, false] rfl rfl (by kernel_rfl) (fun _ _ _ h => h) (Or.inl ⟨by rfl, ?_⟩) ?_ ?_
    rotate_left
    ·intro w'
     go_simp
     with_reducible rfl
    rotate_left
    ·simp only [Act.put, List.setIfInBounds_toArray, List.set_cons_zero, List.set_cons_succ, i64_w, i32_w]
     rfl
    refine take_ (i := 8) (N := some 14) (v := ?_) (a' := ?_) #[true, true, true, true, true, true, true, true, true, false, false, false, false] rfl rfl (by kernel_rfl) (fun _ _ _ h => h) (Or.inl ⟨by rfl, ?_⟩) hHeld ?_ ?_
    rotate_left
    ·rintro w' ⟨s0, s1, s2⟩
     go_simp
     with_reducible rfl
    rotate_left
    ·simp only [Act.put, List.setIfInBounds_toArray, List.set_cons_zero, List.set_cons_succ, i64_w, i32_w]
     rfl
    refine take_ (i := 9) (N := some 15) (v := ?_) (a' := ?_) #[true, true, true, true, true, true, true, true, true, true, false, false, false] rfl rfl (by kernel_rfl) (fun _ _ _ h => h) (Or.inl ⟨by rfl, ?_⟩) hHeld ?_ ?_
    rotate_left
    ·rintro w' ⟨s0, s1, s2⟩
     go_simp
     with_reducible rfl
    rotate_left
    ·simp only [Act.put, List.setIfInBounds_toArray, List.set_cons_zero, List.set_cons_succ, i64_w, i32_w]
     rfl
    refine one_ (i := 10) (N := some 16) #[true, true, true, true, true, true, true, true, true, true, true, false, false] rfl rfl (by kernel_rfl) (by decide) (fun K hK => ?_)
    refine goes_ Try.func61 (by kernel_rfl) rfl #[.agg #[.int .i64 a0_0, .slice A0_1 l0_1.length c0_1]] (by rfl) rfl rfl (by (try simp only [List.map_toArray, List.map_cons, List.map_nil]); first | done | rfl) ?_
    with_reducible refine (impl_RankOfMatroid.calls k a0_0 _ _ l0_1 q _ ?side1 ?side2 HQ.out).mono ?_
    (case side1 => repeat (first | exact (Kd.C_below HR.out (by repeat (first | (with_reducible first | exact HB.out | apply below_alloc | apply pw_below_drewN | apply below_drew1 | refine below_set ?_ GBM.out | refine below_set ?_ GBQ.out | refine below_set ?_ GBR.out) | exact HB.out))) | exact HR.out))
    (case side2 => exact HC.out)
    rintro e w10_ ⟨rfl, hb⟩
    refine ⟨_, rfl, ?_⟩
    have n_BM := aQ (blk_below (g := gm) (o := .cells #[(.int .i64 a0_0), (.slice A0_1 l0_1.length c0_1)] 26 (0, 0)) (by (with_reducible repeat (first | refine blk_drewN ?_ _ | refine blk_drew ?_ | refine blk_alloc ?_ _)); exact BM.out) hb)
    have n_BQ := aQ (blk_below (g := gq) (o := .cells #[(.int .i64 a1)] 3 (0, 0)) (by (with_reducible repeat (first | refine blk_drewN ?_ _ | refine blk_drew ?_ | refine blk_alloc ?_ _)); exact BQ.out) hb)
    have n_BR := aQ (blk_below (g := gr) (o := .cells #[(.int .i64 0), (.slice none 0 0)] 26 (0, 0)) (by (with_reducible repeat (first | refine blk_drewN ?_ _ | refine blk_drew ?_ | refine blk_alloc ?_ _)); exact BR.out) hb)
    have n_HB := aQ (below_step (by repeat (first | (with_reducible first | exact HB.out | apply below_alloc | apply pw_below_drewN | apply below_drew1 | refine below_set ?_ GBM.out | refine below_set ?_ GBQ.out | refine below_set ?_ GBR.out) | exact HB.out)) hb)
    clear HB
    clear BM
    have BM := n_BM
    clear n_BM
    clear BQ
    have BQ := n_BQ
    clear n_BQ
    clear BR
    have BR := n_BR
    clear n_BR
    have HB := n_HB
    clear n_HB
    clear hb
    refine hK.out _ _ ⟨((blk_cell BQ.out 0).trans rfl), ((blk_cell BM.out 0).trans rfl), ((blk_cell BM.out 1).trans rfl)⟩ (fun hHeld => ?_)
    clear hK K
    refine norm_ (a' := ?_) ?_ ?_
    rotate_left
    ·show Act.put _ (some 16) _ = _
     simp only [Act.put, List.setIfInBounds_toArray, List.set_cons_zero, List.set_cons_succ, i64_w, i32_w]
     rfl
    refine pure_ (i := 11) (N := some 17) (v := ?_) (a' := ?_) #[true, true, true, true, true, true, true, true, true, true, true, true, false] rfl rfl (by kernel_rfl) (fun _ _ _ h => h) (Or.inl ⟨by rfl, ?_⟩) ?_ ?_
    rotate_left
    ·intro w'
     go_simp
     with_reducible rfl
    rotate_left
    ·simp only [Act.put, List.setIfInBounds_toArray, List.set_cons_zero, List.set_cons_succ, i64_w, i32_w]
     rfl
    refine pure_ (i := 12) (N := some 18) (v := ?_) (a' := ?_) #[true, true, true, true, true, true, true, true, true, true, true, true, true] rfl rfl (by kernel_rfl) (fun _ _ _ h => h) (Or.inl ⟨by rfl, ?_⟩) ?_ ?_
    rotate_left
    ·intro w'
     go_simp
     with_reducible rfl
    rotate_left
    ·simp only [Act.put, List.setIfInBounds_toArray, List.set_cons_zero, List.set_cons_succ, i64_w, i32_w]
     rfl
    refine done_ (by kernel_rfl) ?_
    have zeBR0 : w10_.cell? ⟨gr, 0, none⟩ = some (.int .i64 0) := (blk_cell BR.out 0).trans rfl
    have zeBR1 : w10_.cell? ⟨gr, 1, none⟩ = some (.slice none 0 0) := (blk_cell BR.out 1).trans rfl
    have hf0BR := blk_frozen BR.out 0
    have hf1BR := blk_frozen BR.out 1
    go_wp2
    refine bodyPost_ret (results_ct rfl _ _ gr 26 #[(.int .i64 0), (.slice none 0 0)] (0, 0) _ rfl (by (with_reducible repeat (first | refine blk_drewN ?_ _ | refine blk_drew ?_ | refine blk_alloc ?_ _)); refine blk_put (cs := #[(.int .i64 0), (.slice none 0 0)]) ?_ 1 _ rfl; (with_reducible repeat (first | refine blk_drewN ?_ _ | refine blk_drew ?_ | refine blk_alloc ?_ _)); refine blk_put (cs := #[(.int .i64 0), (.slice none 0 0)]) ?_ 0 _ rfl; (with_reducible repeat (first | refine blk_drewN ?_ _ | refine blk_drew ?_ | refine blk_alloc ?_ _)); exact BR.out) Try.underlying26 rfl (by kernel_rfl)) rfl ?_
    exact ⟨_, by first | rfl | (simp; done) | (simp [*]; done), Kd.R_nil _ _ _ _ _, (by repeat (first | (with_reducible first | exact HB.out | apply below_alloc | apply pw_below_drewN | apply below_drew1 | refine below_set ?_ GBM.out | refine below_set ?_ GBQ.out | refine below_set ?_ GBR.out) | exact HB.out))⟩
   ·rw [if_neg c5] at h
    have l5 : decide (q < a1) = false := decide_eq_false c5
    clear c5
    obtain ⟨m, hF, h⟩ := Option.bind_eq_some_iff.1 h
    by_cases hm : 0 ≤ m ∧ m ≤ 1000
    ·rw [if_pos hm] at h
     obtain ⟨y, hS, h⟩ := Option.bind_eq_some_iff.1 h
     simp only [Option.some.injEq, Prod.mk.injEq] at h
     obtain ⟨rfl, rfl, rfl⟩ := h
     have HF := aQ hF
     have HM := aQ hm
     have HS := Lib.hid hS
     clear hF hm hS
     go_enter Try.func19, Try.ntmps19
     go_wp2_with (first | ((with_reducible refine gate_dst (N := 2) rfl ?_); refine box_event ?hg (N := 2) ?hd (cs := #[(.int .i64 a0_0), (.slice A0_1 l0_1.length c0_1)]) (t := 26) ?hr ?_; (case hd => rfl); (case hg => rfl); (case hr => first | (go_simp; done) | (go_simp; rfl)); intro gm hg w1_ hbox hb; have GBM := aQ ((by rw [hg]; exact below_size (by repeat (first | (with_reducible first | exact HB.out | apply below_alloc | apply pw_below_drewN | apply below_drew1) | exact HB.out))) : w.heap.size ≤ gm); replace HB := aQ (below_step (by repeat (first | (with_reducible first | exact HB.out | apply below_alloc | apply pw_below_drewN | apply below_drew1) | exact HB.out)) hb); have BM := aQ hbox; clear hb hbox hg; have zBM0 : w1_.cell? ⟨gm, 0, none⟩ = some (.int .i64 a0_0) := (blk_cell BM.out 0).trans rfl; have zBM1 : w1_.cell? ⟨gm, 1, none⟩ = some (.slice A0_1 l0_1.length c0_1) := (blk_cell BM.out 1).trans rfl) | ((with_reducible refine gate_dst (N := 3) rfl ?_); refine box_event ?hg (N := 3) ?hd (cs := #[(.int .i64 a1)]) (t := 3) ?hr ?_; (case hd => rfl); (case hg => rfl); (case hr => first | (go_simp; done) | (go_simp; rfl)); intro gq hg w1_ hbox hb; have NBMBQ := aQ ((by rw [hg]; exact Nat.ne_of_lt (blk_lt (g := gm) (o := .cells #[(.int .i64 a0_0), (.slice A0_1 l0_1.length c0_1)] 26 (0, 0)) (by (with_reducible repeat (first | refine blk_drewN ?_ _ | refine blk_drew ?_ | refine blk_alloc ?_ _)); exact BM.out))) : gm ≠ gq); have GBQ := aQ ((by rw [hg]; exact below_size (by repeat (first | (with_reducible first | exact HB.out | apply below_alloc | apply pw_below_drewN | apply below_drew1 | refine below_set ?_ GBM.out) | exact HB.out))) : w.heap.size ≤ gq); have n_BM := aQ (blk_below (g := gm) (o := .cells #[(.int .i64 a0_0), (.slice A0_1 l0_1.length c0_1)] 26 (0, 0)) (by (with_reducible repeat (first | refine blk_drewN ?_ _ | refine blk_drew ?_ | refine blk_alloc ?_ _)); exact BM.out) hb); have n_HB := aQ (below_step (by repeat (first | (with_reducible first | exact HB.out | apply below_alloc | apply pw_below_drewN | apply below_drew1 | refine below_set ?_ GBM.out) | exact HB.out)) hb); clear HB; clear BM; have BM := n_BM; clear n_BM; have HB := n_HB; clear n_HB; have BQ := aQ hbox; clear hb hbox hg; have zBM0 : w1_.cell? ⟨gm, 0, none⟩ = some (.int .i64 a0_0) := (blk_cell BM.out 0).trans rfl; have zBM1 : w1_.cell? ⟨gm, 1, none⟩ = some (.slice A0_1 l0_1.length c0_1) := (blk_cell BM.out 1).trans rfl; have zBQ0 : w1_.cell? ⟨gq, 0, none⟩ = some (.int .i64 a1) := (blk_cell BQ.out 0).trans rfl) | ((with_reducible refine gate_dst (N := 4) rfl ?_); refine box_event ?hg (N := 4) ?hd (cs := #[(.int .i64 0), (.slice none 0 0)]) (t := 26) ?hr ?_; (case hd => rfl); (case hg => rfl); (case hr => first | (go_simp; done) | (go_simp; rfl)); intro gr hg w1_ hbox hb; have NBMBR := aQ ((by rw [hg]; exact Nat.ne_of_lt (blk_lt (g := gm) (o := .cells #[(.int .i64 a0_0), (.slice A0_1 l0_1.length c0_1)] 26 (0, 0)) (by (with_reducible repeat (first | refine blk_drewN ?_ _ | refine blk_drew ?_ | refine blk_alloc ?_ _)); exact BM.out))) : gm ≠ gr); have NBQBR := aQ ((by rw [hg]; exact Nat.ne_of_lt (blk_lt (g := gq) (o := .cells #[(.int .i64 a1)] 3 (0, 0)) (by (with_reducible repeat (first | refine blk_drewN ?_ _ | refine blk_drew ?_ | refine blk_alloc ?_ _)); exact BQ.out))) : gq ≠ gr); have GBR := aQ ((by rw [hg]; exact below_size (by repeat (first | (with_reducible first | exact HB.out | apply below_alloc | apply pw_below_drewN | apply below_drew1 | refine below_set ?_ GBM.out | refine below_set ?_ GBQ.out) | exact HB.out))) : w.heap.size ≤ gr); have n_BM := aQ (blk_below (g := gm) (o := .cells #[(.int .i64 a0_0), (.slice A0_1 l0_1.length c0_1)] 26 (0, 0)) (by (with_reducible repeat (first | refine blk_drewN ?_ _ | refine blk_drew ?_ | refine blk_alloc ?_ _)); exact BM.out) hb); have n_BQ := aQ (blk_below (g := gq) (o := .cells #[(.int .i64 a1)] 3 (0, 0)) (by (with_reducible repeat (first | refine blk_drewN ?_ _ | refine blk_drew ?_ | refine blk_alloc ?_ _)); exact BQ.out) hb); have n_HB := aQ (below_step (by repeat (first | (with_reducible first | exact HB.out | apply below_alloc | apply pw_below_drewN | apply below_drew1 | refine below_set ?_ GBM.out | refine below_set ?_ GBQ.out) | exact HB.out)) hb); clear HB; clear BM; have BM := n_BM; clear n_BM; clear BQ; have BQ := n_BQ; clear n_BQ; have HB := n_HB; clear n_HB; have BR := aQ hbox; clear hb hbox hg; have zBM0 : w1_.cell? ⟨gm, 0, none⟩ = some (.int .i64 a0_0) := (blk_cell BM.out 0).trans rfl; have zBM1 : w1_.cell? ⟨gm, 1, none⟩ = some (.slice A0_1 l0_1.length c0_1) := (blk_cell BM.out 1).trans rfl; have zBQ0 : w1_.cell? ⟨gq, 0, none⟩ = some (.int .i64 a1) := (blk_cell BQ.out 0).trans rfl; have zBR0 : w1_.cell? ⟨gr, 0, none⟩ = some (.int .i64 0) := (blk_cell BR.out 0).trans rfl; have zBR1 : w1_.cell? ⟨gr, 1, none⟩ = some (.slice none 0 0) := (blk_cell BR.out 1).trans rfl))
     have n_BM : Aside0 (w1_.drew.heap[gm]? = some (.cells #[(.int .i64 a0_0), (.slice A0_1 l0_1.length c0_1)] 26 (0, 0))) := ⟨by (with_reducible repeat (first | refine blk_drewN ?_ _ | refine blk_drew ?_ | refine blk_alloc ?_ _)); exact BM.out⟩
     have n_BQ : Aside0 (w1_.drew.heap[gq]? = some (.cells #[(.int .i64 a1)] 3 (0, 0))) := ⟨by (with_reducible repeat (first | refine blk_drewN ?_ _ | refine blk_drew ?_ | refine blk_alloc ?_ _)); exact BQ.out⟩
     have n_BR : Aside0 (w1_.drew.heap[gr]? = some (.cells #[(.int .i64 0), (.slice none 0 0)] 26 (0, 0))) := ⟨by (with_reducible repeat (first | refine blk_drewN ?_ _ | refine blk_drew ?_ | refine blk_alloc ?_ _)); exact BR.out⟩
     have n_HB : Aside0 (Below w.heap.size w w1_.drew) := ⟨(by repeat (first | (with_reducible first | exact HB.out | apply below_alloc | apply pw_below_drewN | apply below_drew1 | refine below_set ?_ GBM.out | refine below_set ?_ GBQ.out | refine below_set ?_ GBR.out) | exact HB.out))⟩
     clear BM
     have BM := n_BM
     clear n_BM
     clear BQ
     have BQ := n_BQ
     clear n_BQ
     clear BR
     have BR := n_BR
     clear n_BR
     clear HB
     have HB := n_HB
     clear n_HB
     refine start_ (n := 13) (S := fun w' => w'.cell? ⟨gq, 0, none⟩ = some (.int .i64 a1) ∧ w'.cell? ⟨gm, 0, none⟩ = some (.int .i64 a0_0) ∧ w'.cell? ⟨gm, 1, none⟩ = some (.slice A0_1 l0_1.length c0_1)) (ds := []) #[false, false, false, false, false, false, false, false, false, false, false, false, false] (by kernel_rfl) rfl rfl ⟨((blk_cell BQ.out 0).trans rfl), ((blk_cell BM.out 0).trans rfl), ((blk_cell BM.out 1).trans rfl)⟩ (fun hHeld => ?_)
     generalize w1_.drew = wD_ at BM BQ BR HB hHeld ⊢
     refine take_ (i := 0) (N := some 6) (v := ?_) (a' := ?_) #[true, false, false, false, false, false, false, false, false, false, false, false, false] rfl rfl (by kernel_rfl) (fun _ _ _ h => h) (Or.inl ⟨by rfl, ?_⟩) hHeld ?_ ?_
     rotate_left
     ·rintro w' ⟨s0, s1, s2⟩
      go_simp
      with_reducible rfl
     rotate_left
     ·simp only [Act.put, List.setIfInBounds_toArray, List.set_cons_zero, List.set_cons_succ, i64_w, i32_w]
      rfl
     refine one_ (i := 1) (N := some 7) #[true, true, false, false, false, false, false, false, false, false, false, false, false] rfl rfl (by kernel_rfl) (by decide) (fun K hK => ?_)
     refine goes_ Try.func60 (by kernel_rfl) rfl #[.agg #[.int .i64 a0_0, .slice A0_1 l0_1.length c0_1]] (by rfl) rfl rfl (by (try simp only [List.map_toArray, List.map_cons, List.map_nil]); first | done | rfl) ?_
     with_reducible refine (impl_IsMatroid.calls k a0_0 _ _ l0_1 true _ ?side1 ?side2 HT.out).mono ?_
     (case side1 => repeat (first | exact (Kd.C_below HR.out (by repeat (first | (with_reducible first | exact HB.out | apply below_alloc | apply pw_below_drewN | apply below_drew1 | refine below_set ?_ GBM.out | refine below_set ?_ GBQ.out | refine below_set ?_ GBR.out) | exact HB.out))) | exact HR.out))
     (case side2 => exact HC.out)
     rintro e w1_ ⟨rfl, hb⟩
     refine ⟨_, rfl, ?_⟩
     have n_BM := aQ (blk_below (g := gm) (o := .cells #[(.int .i64 a0_0), (.slice A0_1 l0_1.length c0_1)] 26 (0, 0)) (by (with_reducible repeat (first | refine blk_drewN ?_ _ | refine blk_drew ?_ | refine blk_alloc ?_ _)); exact BM.out) hb)
     have n_BQ := aQ (blk_below (g := gq) (o := .cells #[(.int .i64 a1)] 3 (0, 0)) (by (with_reducible repeat (first | refine blk_drewN ?_ _ | refine blk_drew ?_ | refine blk_alloc ?_ _)); exact BQ.out) hb)
     have n_BR := aQ (blk_below (g := gr) (o := .cells #[(.int .i64 0), (.slice none 0 0)] 26 (0, 0)) (by (with_reducible repeat (first | refine blk_drewN ?_ _ | refine blk_drew ?_ | refine blk_alloc ?_ _)); exact BR.out) hb)
     have n_HB := aQ (below_step (by repeat (first | (with_reducible first | exact HB.out | apply below_alloc | apply pw_below_drewN | apply below_drew1 | refine below_set ?_ GBM.out | refine below_set ?_ GBQ.out | refine below_set ?_ GBR.out) | exact HB.out)) hb)
     clear HB
     clear BM
     have BM := n_BM
     clear n_BM
     clear BQ
     have BQ := n_BQ
     clear n_BQ
     clear BR
     have BR := n_BR
     clear n_BR
     have HB := n_HB
     clear n_HB
     clear hb
     refine hK.out _ _ ⟨((blk_cell BQ.out 0).trans rfl), ((blk_cell BM.out 0).trans rfl), ((blk_cell BM.out 1).trans rfl)⟩ (fun hHeld => ?_)
     clear hK K
     refine norm_ (a' := ?_) ?_ ?_
     rotate_left
     ·show Act.put _ (some 7) _ = _
      simp only [Act.put, List.setIfInBounds_toArray, List.set_cons_zero, List.set_cons_succ, i64_w, i32_w]
      rfl
     refine pure_ (i := 2) (N := some 8) (v := ?_) (a' := ?_) #[true, true, true, false, false, false, false, false, false, false, false, false, false] rfl rfl (by kernel_rfl) (fun _ _ _ h => h) (Or.inl ⟨by rfl, ?_⟩) ?_ ?_
     rotate_left
     ·intro w'
      go_simp
      with_reducible rfl
     rotate_left
     ·simp only [Act.put, List.setIfInBounds_toArray, List.set_cons_zero, List.set_cons_succ, i64_w, i32_w]
      rfl
     refine pure_ (i := 3) (N := some 9) (v := ?_) (a' := ?_) #[true, true, true, true, false, false, false, false, false, false, false, false, false] rfl rfl (by kernel_rfl) (fun _ _ _ h => h) (Or.inl ⟨by rfl, ?_⟩) ?_ ?_
     rotate_left
     ·intro w'
      go_simp
      with_reducible rfl
     rotate_left
     ·simp only [Act.put, List.setIfInBounds_toArray, List.set_cons_zero, List.set_cons_succ, i64_w, i32_w]
      rfl
     refine take_ (i := 4) (N := some 10) (v := ?_) (a' := ?_) #[true, true, true, true, true, false, false, false, false, false, false, false, false] rfl rfl (by kernel_rfl) (fun _ _ _ h => h) (Or.inl ⟨by rfl, ?_⟩) hHeld ?_ ?_
     rotate_left
     ·rintro w' ⟨s0, s1, s2⟩
      go_simp
      with_reducible rfl
     rotate_left
     ·simp only [Act.put, List.setIfInBounds_toArray, List.set_cons_zero, List.set_cons_succ, i64_w, i32_w]
      rfl
     refine pure_ (i := 5) (N := some 11) (v := ?_) (a' := ?_) #[true, true, true, true, true, true, false, false, false, false, false, false, false] rfl rfl (by kernel_rfl) (fun _ _ _ h => h) (Or.inl ⟨by rfl, ?_⟩) ?_ ?_
     rotate_left
     ·intro w'
      go_simp
      with_reducible rfl
     rotate_left
     ·simp only [Act.put, List.setIfInBounds_toArray, List.set_cons_zero, List.set_cons_succ, i64_w, i32_w]
      rfl
     refine pure_ (i := 6) (N := some 12) (v := ?_) (a' := ?_) #[true, true, true, true, true, true, true, false, false, false, false, false, false] rfl rfl (by kernel_rfl) (fun _ _ _ h => h) (Or.inl ⟨by rfl, ?_⟩) ?_ ?_
     rotate_left
     ·intro w'
      go_simp
      with_reducible rfl
     rotate_left
     ·simp only [Act.put, List.setIfInBounds_toArray, List.set_cons_zero, List.set_cons_succ, i64_w, i32_w]
      rfl
     refine pure_ (i := 7) (N := some 13) (v := ?_) (a' := ?_) #[true, true, true, true, true, true, true, true, false, false, false, false, false] rfl rfl (by kernel_rfl) (fun _ _ _ h => h) (Or.inl ⟨by rfl, ?_⟩) ?_ ?_
     rotate_left
     ·intro w'
      go_simp
      with_reducible rfl
     rotate_left
     ·simp only [Act.put, List.setIfInBounds_toArray, List.set_cons_zero, List.set_cons_succ, i64_w, i32_w]
      rfl
     refine take_ (i := 8) (N := some 14) (v := ?_) (a' := ?_) #[true, true, true, true, true, true, true, true, true, false, false, false, false] rfl rfl (by kernel_rfl) (fun _ _ _ h => h) (Or.inl ⟨by rfl, ?_⟩) hHeld ?_ ?_
     rotate_left
     ·rintro w' ⟨s0, s1, s2⟩
      go_simp
      with_reducible rfl
     rotate_left
     ·simp only [Act.put, List.setIfInBounds_toArray, List.set_cons_zero, List.set_cons_succ, i64_w, i32_w]
      rfl
     refine take_ (i := 9) (N := some 15) (v := ?_) (a' := ?_) #[true, true, true, true, true, true, true, true, true, true, false, false, false] rfl rfl (by kernel_rfl) (fun _ _ _ h => h) (Or.inl ⟨by rfl, ?_⟩) hHeld ?_ ?_
     rotate_left
     ·rintro w' ⟨s0, s1, s2⟩
      go_simp
      with_reducible rfl
     rotate_left
     ·simp only [Act.put, List.setIfInBounds_toArray, List.set_cons_zero, List.set_cons_succ, i64_w, i32_w]
      rfl
     refine one_ (i := 10) (N := some 16) #[true, true, true, true, true, true, true, true, true, true, true, false, false] rfl rfl (by kernel_rfl) (by decide) (fun K hK => ?_)
     refine goes_ Try.func61 (by kernel_rfl) rfl #[.agg #[.int .i64 a0_0, .slice A0_1 l0_1.length c0_1]] (by rfl) rfl rfl (by (try simp only [List.map_toArray, List.map_cons, List.map_nil]); first | done | rfl) ?_
     with_reducible refine (impl_RankOfMatroid.calls k a0_0 _ _ l0_1 q _ ?side1 ?side2 HQ.out).mono ?_
     (case side1 => repeat (first | exact (Kd.C_below HR.out (by repeat (first | (with_reducible first | exact HB.out | apply below_alloc | apply pw_below_drewN | apply below_drew1 | refine below_set ?_ GBM.out | refine below_set ?_ GBQ.out | refine below_set ?_ GBR.out) | exact HB.out))) | exact HR.out))
     (case side2 => exact HC.out)
     rintro e w10_ ⟨rfl, hb⟩
     refine ⟨_, rfl, ?_⟩
     have n_BM := aQ (blk_below (g := gm) (o := .cells #[(.int .i64 a0_0), (.slice A0_1 l0_1.length c0_1)] 26 (0, 0)) (by (with_reducible repeat (first | refine blk_drewN ?_ _ | refine blk_drew ?_ | refine blk_alloc ?_ _)); exact BM.out) hb)
     have n_BQ := aQ (blk_below (g := gq) (o := .cells #[(.int .i64 a1)] 3 (0, 0)) (by (with_reducible repeat (first | refine blk_drewN ?_ _ | refine blk_drew ?_ | refine blk_alloc ?_ _)); exact BQ.out) hb)
     have n_BR := aQ (blk_below (g := gr) (o := .cells #[(.int .i64 0), (.slice none 0 0)] 26 (0, 0)) (by (with_reducible repeat (first | refine blk_drewN ?_ _ | refine blk_drew ?_ | refine blk_alloc ?_ _)); exact BR.out) hb)
     have n_HB := aQ (below_step (by repeat (first | (with_reducible first | exact HB.out | apply below_alloc | apply pw_below_drewN | apply below_drew1 | refine below_set ?_ GBM.out | refine below_set ?_ GBQ.out | refine below_set ?_ GBR.out) | exact HB.out)) hb)
     clear HB
     clear BM
     have BM := n_BM
     clear n_BM
     clear BQ
     have BQ := n_BQ
     clear n_BQ
     clear BR
     have BR := n_BR
     clear n_BR
     have HB := n_HB
     clear n_HB
     clear hb
     refine hK.out _ _ ⟨((blk_cell BQ.out 0).trans rfl), ((blk_cell BM.out 0).trans rfl), ((blk_cell BM.out 1).trans rfl)⟩ (fun hHeld => ?_)
     clear hK K
     refine norm_ (a' := ?_) ?_ ?_
     rotate_left
     ·show Act.put _ (some 16) _ = _
      simp only [Act.put, List.setIfInBounds_toArray, List.set_cons_zero, List.set_cons_succ, i64_w, i32_w]
      rfl
     refine pure_ (i := 11) (N := some 17) (v := ?_) (a' := ?_) #[true, true, true, true, true, true, true, true, true, true, true, true, false] rfl rfl (by kernel_rfl) (fun _ _ _ h => h) (Or.inl ⟨by rfl, ?_⟩) ?_ ?_
     rotate_left
     ·intro w'
      go_simp
      with_reducible rfl
     rotate_left
     ·simp only [Act.put, List.setIfInBounds_toArray, List.set_cons_zero, List.set_cons_succ, i64_w, i32_w]
      rfl
     refine pure_ (i := 12) (N := some 18) (v := ?_) (a' := ?_) #[true, true, true, true, true, true, true, true, true, true, true, true, true] rfl rfl (by kernel_rfl) (fun _ _ _ h => h) (Or.inl ⟨by rfl, ?_⟩) ?_ ?_
     rotate_left
     ·intro w'
      go_simp
      with_reducible rfl
     rotate_left
     ·simp only [Act.put, List.setIfInBounds_toArray, List.set_cons_zero, List.set_cons_succ, i64_w, i32_w]
      rfl
     refine done_ (by kernel_rfl) ?_
     have zeBM0 : w10_.cell? ⟨gm, 0, none⟩ = some (.int .i64 a0_0) := (blk_cell BM.out 0).trans rfl
     have zeBM1 : w10_.cell? ⟨gm, 1, none⟩ = some (.slice A0_1 l0_1.length c0_1) := (blk_cell BM.out 1).trans rfl
     have zeBQ0 : w10_.cell? ⟨gq, 0, none⟩ = some (.int .i64 a1) := (blk_cell BQ.out 0).trans rfl
     have zeBR0 : w10_.cell? ⟨gr, 0, none⟩ = some (.int .i64 0) := (blk_cell BR.out 0).trans rfl
     have zeBR1 : w10_.cell? ⟨gr, 1, none⟩ = some (.slice none 0 0) := (blk_cell BR.out 1).trans rfl
     go_wp2
     have n_BM : Aside0 (w10_.drew.heap[gm]? = some (.cells #[(.int .i64 a0_0), (.slice A0_1 l0_1.length c0_1)] 26 (0, 0))) := ⟨by (with_reducible repeat (first | refine blk_drewN ?_ _ | refine blk_drew ?_ | refine blk_alloc ?_ _)); exact BM.out⟩
     have n_BQ : Aside0 (w10_.drew.heap[gq]? = some (.cells #[(.int .i64 a1)] 3 (0, 0))) := ⟨by (with_reducible repeat (first | refine blk_drewN ?_ _ | refine blk_drew ?_ | refine blk_alloc ?_ _)); exact BQ.out⟩
     have n_BR : Aside0 (w10_.drew.heap[gr]? = some (.cells #[(.int .i64 0), (.slice none 0 0)] 26 (0, 0))) := ⟨by (with_reducible repeat (first | refine blk_drewN ?_ _ | refine blk_drew ?_ | refine blk_alloc ?_ _)); exact BR.out⟩
     have n_HB : Aside0 (Below w.heap.size w w10_.drew) := ⟨(by repeat (first | (with_reducible first | exact HB.out | apply below_alloc | apply pw_below_drewN | apply below_drew1 | refine below_set ?_ GBM.out | refine below_set ?_ GBQ.out | refine below_set ?_ GBR.out) | exact HB.out))⟩
     clear BM
     have BM := n_BM
     clear n_BM
     clear BQ
     have BQ := n_BQ
     clear n_BQ
     clear BR
     have BR := n_BR
     clear n_BR
     clear HB
     have HB := n_HB
     clear n_HB
     refine start_ (n := 9) (S := fun w' => w'.cell? ⟨gm, 0, none⟩ = some (.int .i64 a0_0)) (ds := []) #[false, false, false, false, false, false, false, false, false] (by kernel_rfl) rfl rfl (((blk_cell BM.out 0).trans rfl)) (fun hHeld => ?_)
     generalize w10_.drew = wE_ at BM BQ BR HB hHeld ⊢
     refine pure_ (i := 0) (N := some 20) (v := ?_) (a' := ?_) #[true, false, false, false, false, false, false, false, false] rfl rfl (by kernel_rfl) (fun _ _ _ h => h) (Or.inl ⟨by rfl, ?_⟩) ?_ ?_
     rotate_left
     ·intro w'
      go_simp
      with_reducible rfl
     rotate_left
     ·simp only [Act.put, List.setIfInBounds_toArray, List.set_cons_zero, List.set_cons_succ, i64_w, i32_w]
      rfl
     refine pure_ (i := 2) (N := some 22) (v := ?_) (a' := ?_) #[true, false, true, false, false, false, false, false, false] rfl rfl (by kernel_rfl) (fun _ _ _ h => h) (Or.inl ⟨by rfl, ?_⟩) ?_ ?_
     rotate_left
     ·intro w'
      go_simp
      with_reducible rfl
     rotate_left
     ·simp only [Act.put, List.setIfInBounds_toArray, List.set_cons_zero, List.set_cons_succ, i64_w, i32_w]
      rfl
     refine pure_ (i := 4) (N := some 24) (v := ?_) (a' := ?_) #[true, false, true, false, true, false, false, false, false] rfl rfl (by kernel_rfl) (fun _ _ _ h => h) (Or.inl ⟨by rfl, ?_⟩) ?_ ?_
     rotate_left
     ·intro w'
      go_simp
      with_reducible rfl
     rotate_left
     ·simp only [Act.put, List.setIfInBounds_toArray, List.set_cons_zero, List.set_cons_succ, i64_w, i32_w]
      rfl
     refine take_ (i := 1) (N := some 21) (v := ?_) (a' := ?_) #[true, true, true, false, true, false, false, false, false] rfl rfl (by kernel_rfl) (fun _ _ _ h => h) (Or.inl ⟨by rfl, ?_⟩) hHeld ?_ ?_
     rotate_left
     ·intro w' s0
      go_simp
      with_reducible rfl
     rotate_left
     ·simp only [Act.put, List.setIfInBounds_toArray, List.set_cons_zero, List.set_cons_succ, i64_w, i32_w]
      rfl
     refine take_ (i := 3) (N := some 23) (v := ?_) (a' := ?_) #[true, true, true, true, true, false, false, false, false] rfl rfl (by kernel_rfl) (fun _ _ _ h => h) (Or.inl ⟨by rfl, ?_⟩) hHeld ?_ ?_
     rotate_left
     ·intro w' s0
      go_simp
      with_reducible rfl
     rotate_left
     ·simp only [Act.put, List.setIfInBounds_toArray, List.set_cons_zero, List.set_cons_succ, i64_w, i32_w]
      rfl
     refine one_ (i := 5) (N := some 25) #[true, true, true, true, true, true, false, false, false] rfl rfl (by kernel_rfl) (by decide) (fun K hK => ?_)
     refine goes_ Try.func62 (by kernel_rfl) rfl #[.int .i64 a0_0, .func (.func 63) #[] #[.pointer (some ⟨gq, 0, none⟩), .pointer (some ⟨gm, 0, none⟩)]] (by rfl) rfl rfl (by (try simp only [List.map_toArray, List.map_cons, List.map_nil]); first | done | rfl) ?_
     with_reducible refine (setsOf_walk (fun s => impl_Truncate.c k a0_0 l0_1 a1 s) 63 _ EG.out a0_0 m y _ HF.out HM.out.1 HM.out.2 HS.out (fun W x b hb hg => calls_of_args (by simp) (Truncate1_walk k a0_0 A0_1 c0_1 l0_1 a1 x b gm gq W (Kd.C_below (Kd.C_below HR.out (by repeat (first | (with_reducible first | exact HB.out | apply below_alloc | apply pw_below_drewN | apply below_drew1 | refine below_set ?_ GBM.out | refine below_set ?_ GBQ.out | refine below_set ?_ GBR.out) | exact HB.out))) hb) HC.out (blk_below (g := gm) (o := .cells #[(.int .i64 a0_0), (.slice A0_1 l0_1.length c0_1)] 26 (0, 0)) (by (with_reducible repeat (first | refine blk_drewN ?_ _ | refine blk_drew ?_ | refine blk_alloc ?_ _)); exact BM.out) hb) (blk_below (g := gq) (o := .cells #[(.int .i64 a1)] 3 (0, 0)) (by (with_reducible repeat (first | refine blk_drewN ?_ _ | refine blk_drew ?_ | refine blk_alloc ?_ _)); exact BQ.out) hb) hg))).mono ?_
     rintro e w5_ ⟨v_, rfl, ho_, hb⟩
     refine ⟨_, rfl, ?_⟩
     have m_HO := aQ (Kd.R_lower ho_ (below_size (by repeat (first | (with_reducible first | exact HB.out | apply below_alloc | apply pw_below_drewN | apply below_drew1 | refine below_set ?_ GBM.out | refine below_set ?_ GBQ.out | refine below_set ?_ GBR.out) | exact HB.out))))
     have n_BM := aQ (blk_below (g := gm) (o := .cells #[(.int .i64 a0_0), (.slice A0_1 l0_1.length c0_1)] 26 (0, 0)) (by (with_reducible repeat (first | refine blk_drewN ?_ _ | refine blk_drew ?_ | refine blk_alloc ?_ _)); exact BM.out) hb)
     have n_BQ := aQ (blk_below (g := gq) (o := .cells #[(.int .i64 a1)] 3 (0, 0)) (by (with_reducible repeat (first | refine blk_drewN ?_ _ | refine blk_drew ?_ | refine blk_alloc ?_ _)); exact BQ.out) hb)
     have n_BR := aQ (blk_below (g := gr) (o := .cells #[(.int .i64 0), (.slice none 0 0)] 26 (0, 0)) (by (with_reducible repeat (first | refine blk_drewN ?_ _ | refine blk_drew ?_ | refine blk_alloc ?_ _)); exact BR.out) hb)
     have n_HB := aQ (below_step (by repeat (first | (with_reducible first | exact HB.out | apply below_alloc | apply pw_below_drewN | apply below_drew1 | refine below_set ?_ GBM.out | refine below_set ?_ GBQ.out | refine below_set ?_ GBR.out) | exact HB.out)) hb)
     clear HB
     clear BM
     have BM := n_BM
     clear n_BM
     clear BQ
     have BQ := n_BQ
     clear n_BQ
     clear BR
     have BR := n_BR
     clear n_BR
     have HB := n_HB
     clear n_HB
     have HO := m_HO
     clear m_HO ho_
     obtain ⟨AHO, cHO, eHO⟩ := Kd.R_slice HO.out
     subst eHO
     clear hb
     refine hK.out _ _ (((blk_cell BM.out 0).trans rfl)) (fun hHeld => ?_)
     clear hK K
     refine norm_ (a' := ?_) ?_ ?_
     rotate_left
     ·show Act.put _ (some 25) _ = _
      simp only [Act.put, List.setIfInBounds_toArray, List.set_cons_zero, List.set_cons_succ, i64_w, i32_w]
      rfl
     refine pure_ (i := 6) (N := some 26) (v := ?_) (a' := ?_) #[true, true, true, true, true, true, true, false, false] rfl rfl (by kernel_rfl) (fun _ _ _ h => h) (Or.inl ⟨by rfl, ?_⟩) ?_ ?_
     rotate_left
     ·intro w'
      go_simp
      with_reducible rfl
     rotate_left
     ·simp only [Act.put, List.setIfInBounds_toArray, List.set_cons_zero, List.set_cons_succ, i64_w, i32_w]
      rfl
     refine one_ (i := 7) (N := none) #[true, true, true, true, true, true, true, true, false] rfl rfl (by kernel_rfl) (by decide) (fun K hK => ?_)
     have hs7_0 : w5_.cell? ⟨gr, 0, none⟩ = some (.int .i64 0) := (blk_cell BR.out 0).trans rfl
     have hfs7_0 := blk_frozen BR.out 0
     have hs7_1 : w5_.cell? ⟨gr, 1, none⟩ = some (.slice none 0 0) := (blk_cell BR.out 1).trans rfl
     have hfs7_1 := blk_frozen BR.out 1
     have hns7_BM := NBMBR.out
     have hms7_BM := Ne.symm NBMBR.out
     refine skip_ (w1 := ?_) (by rfl) rfl ?_ ?_
     rotate_left
     ·go_simp
      rfl
     refine hK.out _ _ (((cell_far (p := ⟨gr, _, none⟩) NBMBR.out _).trans ((cell_far (p := ⟨gr, _, none⟩) NBMBR.out _).trans hHeld))) (fun hHeld => ?_)
     clear hK K
     refine pure_ (i := 8) (N := some 5) (v := ?_) (a' := ?_) #[true, true, true, true, true, true, true, true, true] rfl rfl (by kernel_rfl) (fun _ _ _ h => h) (Or.inl ⟨by rfl, ?_⟩) ?_ ?_
     rotate_left
     ·intro w'
      go_simp
      with_reducible rfl
     rotate_left
     ·simp only [Act.put, List.setIfInBounds_toArray, List.set_cons_zero, List.set_cons_succ, i64_w, i32_w]
      rfl
     refine done_ (by kernel_rfl) ?_
     go_wp2
     refine bodyPost_ret (results_ct rfl _ _ gr 26 #[(.int .i64 a0_0), (.slice AHO y.length cHO)] (0, 0) _ rfl (by (with_reducible repeat (first | refine blk_drewN ?_ _ | refine blk_drew ?_ | refine blk_alloc ?_ _)); refine blk_put (cs := #[(.int .i64 a0_0), (.slice none 0 0)]) ?_ 1 _ rfl; (with_reducible repeat (first | refine blk_drewN ?_ _ | refine blk_drew ?_ | refine blk_alloc ?_ _)); refine blk_put (cs := #[(.int .i64 0), (.slice none 0 0)]) ?_ 0 _ rfl; (with_reducible repeat (first | refine blk_drewN ?_ _ | refine blk_drew ?_ | refine blk_alloc ?_ _)); exact BR.out) Try.underlying26 rfl (by kernel_rfl)) rfl ?_
     exact ⟨_, by first | rfl | (simp; done) | (simp [*]; done), by (with_reducible repeat (first | apply Kd.R_alloc | apply Kd.R_drewN | apply Kd.R_drew)); exact Kd.R_mono (Kd.R_far (p := ⟨gr, 1, none⟩) (Kd.R_far (p := ⟨gr, 0, none⟩) (Kd.R_types HO.out BR.out (by decide)) (fun _ hk => hk.2) _) (fun _ hk => hk.2) _) (fun _ hk => trivial), (by repeat (first | (with_reducible first | exact HB.out | apply below_alloc | apply pw_below_drewN | apply below_drew1 | refine below_set ?_ GBM.out | refine below_set ?_ GBQ.out | refine below_set ?_ GBR.out) | exact HB.out))⟩
    ·rw [if_neg hm] at h; cases h
 ·have c4 := Bool.eq_false_iff.mpr c3
  subst c4
  clear c3
  rw [if_neg (by decide)] at h
  simp only [Option.some.injEq, Prod.mk.injEq] at h
  obtain ⟨rfl, rfl, rfl⟩ := h
  go_enter Try.func19, Try.ntmps19
  go_wp2_with (first | ((with_reducible refine gate_dst (N := 2) rfl ?_); refine box_event ?hg (N := 2) ?hd (cs := #[(.int .i64 a0_0), (.slice A0_1 l0_1.length c0_1)]) (t := 26) ?hr ?_; (case hd => rfl); (case hg => rfl); (case hr => first | (go_simp; done) | (go_simp; rfl)); intro gm hg w1_ hbox hb; have GBM := aQ ((by rw [hg]; exact below_size (by repeat (first | (with_reducible first | exact HB.out | apply below_alloc | apply pw_below_drewN | apply below_drew1) | exact HB.out))) : w.heap.size ≤ gm); replace HB := aQ (below_step (by repeat (first | (with_reducible first | exact HB.out | apply below_alloc | apply pw_below_drewN | apply below_drew1) | exact HB.out)) hb); have BM := aQ hbox; clear hb hbox hg; have zBM0 : w1_.cell? ⟨gm, 0, none⟩ = some (.int .i64 a0_0) := (blk_cell BM.out 0).trans rfl; have zBM1 : w1_.cell? ⟨gm, 1, none⟩ = some (.slice A0_1 l0_1.length c0_1) := (blk_cell BM.out 1).trans rfl) | ((with_reducible refine gate_dst (N := 3) rfl ?_); refine box_event ?hg (N := 3) ?hd (cs := #[(.int .i64 a1)]) (t := 3) ?hr ?_; (case hd => rfl); (case hg => rfl); (case hr => first | (go_simp; done) | (go_simp; rfl)); intro gq hg w1_ hbox hb; have NBMBQ := aQ ((by rw [hg]; exact Nat.ne_of_lt (blk_lt (g := gm) (o := .cells #[(.int .i64 a0_0), (.slice A0_1 l0_1.length c0_1)] 26 (0, 0)) (by (with_reducible repeat (first | refine blk_drewN ?_ _ | refine blk_drew ?_ | refine blk_alloc ?_ _)); exact BM.out))) : gm ≠ gq); have GBQ := aQ ((by rw [hg]; exact below_size (by repeat (first | (with_reducible first | exact HB.out | apply below_alloc | apply pw_below_drewN | apply below_drew1 | refine below_set ?_ GBM.out) | exact HB.out))) : w.heap.size ≤ gq); have n_BM := aQ (blk_below (g := gm) (o := .cells #[(.int .i64 a0_0), (.slice A0_1 l0_1.length c0_1)] 26 (0, 0)) (by (with_reducible repeat (first | refine blk_drewN ?_ _ | refine blk_drew ?_ | refine blk_alloc ?_ _)); exact BM.out) hb); have n_HB := aQ (below_step (by repeat (first | (with_reducible first | exact HB.out | apply below_alloc | apply pw_below_drewN | apply below_drew1 | refine below_set ?_ GBM.out) | exact HB.out)) hb); clear HB; clear BM; have BM := n_BM; clear n_BM; have HB := n_HB; clear n_HB; have BQ := aQ hbox; clear hb hbox hg; have zBM0 : w1_.cell? ⟨gm, 0, none⟩ = some (.int .i64 a0_0) := (blk_cell BM.out 0).trans rfl; have zBM1 : w1_.cell? ⟨gm, 1, none⟩ = some (.slice A0_1 l0_1.length c0_1) := (blk_cell BM.out 1).trans rfl; have zBQ0 : w1_.cell? ⟨gq, 0, none⟩ = some (.int .i64 a1) := (blk_cell BQ.out 0).trans rfl) | ((with_reducible refine gate_dst (N := 4) rfl ?_); refine box_event ?hg (N := 4) ?hd (cs := #[(.int .i64 0), (.slice none 0 0)]) (t := 26) ?hr ?_; (case hd => rfl); (case hg => rfl); (case hr => first | (go_simp; done) | (go_simp; rfl)); intro gr hg w1_ hbox hb; have NBMBR := aQ ((by rw [hg]; exact Nat.ne_of_lt (blk_lt (g := gm) (o := .cells #[(.int .i64 a0_0), (.slice A0_1 l0_1.length c0_1)] 26 (0, 0)) (by (with_reducible repeat (first | refine blk_drewN ?_ _ | refine blk_drew ?_ | refine blk_alloc ?_ _)); exact BM.out))) : gm ≠ gr); have NBQBR := aQ ((by rw [hg]; exact Nat.ne_of_lt (blk_lt (g := gq) (o := .cells #[(.int .i64 a1)] 3 (0, 0)) (by (with_reducible repeat (first | refine blk_drewN ?_ _ | refine blk_drew ?_ | refine blk_alloc ?_ _)); exact BQ.out))) : gq ≠ gr); have GBR := aQ ((by rw [hg]; exact below_size (by repeat (first | (with_reducible first | exact HB.out | apply below_alloc | apply pw_below_drewN | apply below_drew1 | refine below_set ?_ GBM.out | refine below_set ?_ GBQ.out) | exact HB.out))) : w.heap.size ≤ gr); have n_BM := aQ (blk_below (g := gm) (o := .cells #[(.int .i64 a0_0), (.slice A0_1 l0_1.length c0_1)] 26 (0, 0)) (by (with_reducible repeat (first | refine blk_drewN ?_ _ | refine blk_drew ?_ | refine blk_alloc ?_ _)); exact BM.out) hb); have n_BQ := aQ (blk_below (g := gq) (o := .cells #[(.int .i64 a1)] 3 (0, 0)) (by (with_reducible repeat (first | refine blk_drewN ?_ _ | refine blk_drew ?_ | refine blk_alloc ?_ _)); exact BQ.out) hb); have n_HB := aQ (below_step (by repeat (first | (with_reducible first | exact HB.out | apply below_alloc | apply pw_below_drewN | apply below_drew1 | refine below_set ?_ GBM.out | refine below_set ?_ GBQ.out) | exact HB.out)) hb); clear HB; clear BM; have BM := n_BM; clear n_BM; clear BQ; have BQ := n_BQ; clear n_BQ; have HB := n_HB; clear n_HB; have BR := aQ hbox; clear hb hbox hg; have zBM0 : w1_.cell? ⟨gm, 0, none⟩ = some (.int .i64 a0_0) := (blk_cell BM.out 0).trans rfl; have zBM1 : w1_.cell? ⟨gm, 1, none⟩ = some (.slice A0_1 l0_1.length c0_1) := (blk_cell BM.out 1).trans rfl; have zBQ0 : w1_.cell? ⟨gq, 0, none⟩ = some (.int .i64 a1) := (blk_cell BQ.out 0).trans rfl; have zBR0 : w1_.cell? ⟨gr, 0, none⟩ = some (.int .i64 0) := (blk_cell BR.out 0).trans rfl; have zBR1 : w1_.cell? ⟨gr, 1, none⟩ = some (.slice none 0 0) := (blk_cell BR.out 1).trans rfl))
  have n_BM : Aside0 (w1_.drew.heap[gm]? = some (.cells #[(.int .i64 a0_0), (.slice A0_1 l0_1.length c0_1)] 26 (0, 0))) := ⟨by (with_reducible repeat (first | refine blk_drewN ?_ _ | refine blk_drew ?_ | refine blk_alloc ?_ _)); exact BM.out⟩
  have n_BQ : Aside0 (w1_.drew.heap[gq]? = some (.cells #[(.int .i64 a1)] 3 (0, 0))) := ⟨by (with_reducible repeat (first | refine blk_drewN ?_ _ | refine blk_drew ?_ | refine blk_alloc ?_ _)); exact BQ.out⟩
  have n_BR : Aside0 (w1_.drew.heap[gr]? = some (.cells #[(.int .i64 0), (.slice none 0 0)] 26 (0, 0))) := ⟨by (with_reducible repeat (first | refine blk_drewN ?_ _ | refine blk_drew ?_ | refine blk_alloc ?_ _)); exact BR.out⟩
  have n_HB : Aside0 (Below w.heap.size w w1_.drew) := ⟨(by repeat (first | (with_reducible first | exact HB.out | apply below_alloc | apply pw_below_drewN | apply below_drew1 | refine below_set ?_ GBM.out | refine below_set ?_ GBQ.out | refine below_set ?_ GBR.out) | exact HB.out))⟩
  clear BM
  have BM := n_BM
  clear n_BM
  clear BQ
  have BQ := n_BQ
  clear n_BQ
  clear BR
  have BR := n_BR
  clear n_BR
  clear HB
  have HB := n_HB
  clear n_HB
  refine start_ (n := 13) (S := fun w' => w'.cell? ⟨gq, 0, none⟩ = some (.int .i64 a1) ∧ w'.cell? ⟨gm, 0, none⟩ = some (.int .i64 a0_0) ∧ w'.cell? ⟨gm, 1, none⟩ = some (.slice A0_1 l0_1.length c0_1)) (ds := []) #[false, false, false, false, false, false, false, false, false, false, false, false, false] (by kernel_rfl) rfl rfl ⟨((blk_cell BQ.out 0).trans rfl), ((blk_cell BM.out 0).trans rfl), ((blk_cell BM.out 1).trans rfl)⟩ (fun hHeld => ?_)
  generalize w1_.drew = wD_ at BM BQ BR HB hHeld ⊢
  refine take_ (i := 0) (N := some 6) (v := ?_) (a' := ?_) #[true, false, false, false, false, false, false, false, false, false, false, false, false] rfl rfl (by kernel_rfl) (fun _ _ _ h => h) (Or.inl ⟨by rfl, ?_⟩) hHeld ?_ ?_
  rotate_left
  ·rintro w' ⟨s0, s1, s2⟩
   go_simp
   with_reducible rfl
  rotate_left
  ·simp only [Act.put, List.setIfInBounds_toArray, List.set_cons_zero, List.set_cons_succ, i64_w, i32_w]
   rfl
  refine one_ (i := 1) (N := some 7) #[true, true, false, false, false, false, false, false, false, false, false, false, false] rfl rfl (by kernel_rfl) (by decide) (fun K hK => ?_)
  refine goes_ Try.func60 (by kernel_rfl) rfl #[.agg #[.int .i64 a0_0, .slice A0_1 l0_1.length c0_1]] (by rfl) rfl rfl (by (try simp only [List.map_toArray, List.map_cons, List.map_nil]); first | done | rfl) ?_
  with_reducible refine (impl_IsMatroid.calls k a0_0 _ _ l0_1 false _ ?side1 ?side2 HT.out).mono ?_
  (case side1 => repeat (first | exact (Kd.C_below HR.out (by repeat (first | (with_reducible first | exact HB.out | apply below_alloc | apply pw_below_drewN | apply below_drew1 | refine below_set ?_ GBM.out | refine below_set ?_ GBQ.out | refine below_set ?_ GBR.out) | exact HB.out))) | exact HR.out))
  (case side2 => exact HC.out)
  rintro e w1_ ⟨rfl, hb⟩
  refine ⟨_, rfl, ?_⟩
  have n_BM := aQ (blk_below (g := gm) (o := .cells #[(.int .i64 a0_0), (.slice A0_1 l0_1.length c0_1)] 26 (0, 0)) (by (with_reducible repeat (first | refine blk_drewN ?_ _ | refine blk_drew ?_ | refine blk_alloc ?_ _)); exact BM.out) hb)
  have n_BQ := aQ (blk_below (g := gq) (o := .cells #[(.int .i64 a1)] 3 (0, 0)) (by (with_reducible repeat (first | refine blk_drewN ?_ _ | refine blk_drew ?_ | refine blk_alloc ?_ _)); exact BQ.out) hb)
  have n_BR := aQ (blk_below (g := gr) (o := .cells #[(.int .i64 0), (.slice none 0 0)] 26 (0, 0)) (by (with_reducible repeat (first | refine blk_drewN ?_ _ | refine blk_drew ?_ | refine blk_alloc ?_ _)); exact BR.out) hb)
  have n_HB := aQ (below_step (by repeat (first | (with_reducible first | exact HB.out | apply below_alloc | apply pw_below_drewN | apply below_drew1 | refine below_set ?_ GBM.out | refine below_set ?_ GBQ.out | refine below_set ?_ GBR.out) | exact HB.out)) hb)
  clear HB
  clear BM
  have BM := n_BM
  clear n_BM
  clear BQ
  have BQ := n_BQ
  clear n_BQ
  clear BR
  have BR := n_BR
  clear n_BR
  have HB := n_HB
  clear n_HB
  clear hb
  refine hK.out _ _ ⟨((blk_cell BQ.out 0).trans rfl), ((blk_cell BM.out 0).trans rfl), ((blk_cell BM.out 1).trans rfl)⟩ (fun hHeld => ?_)
  clear hK K
  refine norm_ (a' := ?_) ?_ ?_
  rotate_left
  ·show Act.put _ (some 7) _ = _
   simp only [Act.put, List.setIfInBounds_toArray, List.set_cons_zero, List.set_cons_succ, i64_w, i32_w]
   rfl
  refine pure_ (i := 2) (N := some 8) (v := ?_) (a' := ?_) #[true, true, true, false, false, false, false, false, false, false, false, false, false] rfl rfl (by kernel_rfl) (fun _ _ _ h => h) (Or.inl ⟨by rfl, ?_⟩) ?_ ?_
  rotate_left
  ·intro w'
   go_simp
   with_reducible rfl
  rotate_left
  ·simp only [Act.put, List.setIfInBounds_toArray, List.set_cons_zero, List.set_cons_succ, i64_w, i32_w]
   rfl
  refine pure_ (i := 3) (N := some 9) (v := ?_) (a' := ?_) #[true, true, true, true, false, false, false, false, false, false, false, false, false] rfl rfl (by kernel_rfl) (fun _ _ _ h => h) (Or.inl ⟨by rfl, ?_⟩) ?_ ?_
  rotate_left
  ·intro w'
   go_simp
   with_reducible rfl
  rotate_left
  ·simp only [Act.put, List.setIfInBounds_toArray, List.set_cons_zero, List.set_cons_succ, i64_w, i32_w]
   rfl
  refine pure_ (i := 4) (N := some 10) (v := undef) (a' := ?_) #[true, true, true, true, true, false, false, false, false, false, false, false, false] rfl rfl (by kernel_rfl) (fun _ _ _ h => h) (Or.inr ⟨by rfl, rfl⟩) ?_ ?_
  rotate_left
  ·simp only [Act.put, List.setIfInBounds_toArray, List.set_cons_zero, List.set_cons_succ, i64_w, i32_w]
   rfl
  refine pure_ (i := 5) (N := some 11) (v := undef) (a' := ?_) #[true, true, true, true, true, true, false, false, false, false, false, false, false] rfl rfl (by kernel_rfl) (fun _ _ _ h => h) (Or.inr ⟨by rfl, rfl⟩) ?_ ?_
  rotate_left
  ·simp only [Act.put, List.setIfInBounds_toArray, List.set_cons_zero, List.set_cons_succ, i64_w, i32_w]
   rfl
  refine pure_ (i := 6) (N := some 12) (v := ?_) (a' := ?_) #[true, true, true, true, true, true, true, false, false, false, false, false, false] rfl rfl (by kernel_rfl) (fun _ _ _ h => h) (Or.inl ⟨by rfl, ?_⟩) ?_ ?_
  rotate_left
  ·intro w'
   go_simp
   with_reducible rfl
  rotate_left
  ·simp only [Act.put, List.setIfInBounds_toArray, List.set_cons_zero, List.set_cons_succ, i64_w, i32_w]
   rfl
  refine pure_ (i := 7) (N := some 13) (v := ?_) (a' := ?_) #[true, true, true, true, true, true, true, true, false, false, false, false, false] rfl rfl (by kernel_rfl) (fun _ _ _ h => h) (Or.inl ⟨by rfl, ?_⟩) ?_ ?_
  rotate_left
  ·intro w'
   go_simp
   with_reducible rfl
  rotate_left
  ·simp only [Act.put, List.setIfInBounds_toArray, List.set_cons_zero, List.set_cons_succ, i64_w, i32_w]
   rfl
  refine pure_ (i := 8) (N := some 14) (v := undef) (a' := ?_) #[true, true, true, true, true, true, true, true, true, false, false, false, false] rfl rfl (by kernel_rfl) (fun _ _ _ h => h) (Or.inr ⟨by rfl, rfl⟩) ?_ ?_
  rotate_left
  ·simp only [Act.put, List.setIfInBounds_toArray, List.set_cons_zero, List.set_cons_succ, i64_w, i32_w]
   rfl
  refine pure_ (i := 9) (N := some 15) (v := undef) (a' := ?_) #[true, true, true, true, true, true, true, true, true, true, false, false, false] rfl rfl (by kernel_rfl) (fun _ _ _ h => h) (Or.inr ⟨by rfl, rfl⟩) ?_ ?_
  rotate_left
  ·simp only [Act.put, List.setIfInBounds_toArray, List.set_cons_zero, List.set_cons_succ, i64_w, i32_w]
   rfl
  refine pure_ (i := 10) (N := some 16) (v := undef) (a' := ?_) #[true, true, true, true, true, true, true, true, true, true, true, false, false] rfl rfl (by kernel_rfl) (fun _ _ _ h => h) (Or.inr ⟨by rfl, rfl⟩) ?_ ?_
  rotate_left
  ·simp only [Act.put, List.setIfInBounds_toArray, List.set_cons_zero, List.set_cons_succ, i64_w, i32_w]
   rfl
  refine pure_ (i := 11) (N := some 17) (v := undef) (a' := ?_) #[true, true, true, true, true, true, true, true, true, true, true, true, false] rfl rfl (by kernel_rfl) (fun _ _ _ h => h) (Or.inr ⟨by rfl, rfl⟩) ?_ ?_
  rotate_left
  ·simp only [Act.put, List.setIfInBounds_toArray, List.set_cons_zero, List.set_cons_succ, i64_w, i32_w]
   rfl
  refine pure_ (i := 12) (N := some 18) (v := ?_) (a' := ?_) #[true, true, true, true, true, true, true, true, true, true, true, true, true] rfl rfl (by kernel_rfl) (fun _ _ _ h => h) (Or.inl ⟨by rfl, ?_⟩) ?_ ?_
  rotate_left
  ·intro w'
   go_simp
   with_reducible rfl
  rotate_left
  ·simp only [Act.put, List.setIfInBounds_toArray, List.set_cons_zero, List.set_cons_succ, i64_w, i32_w]
   rfl
  refine done_ (by kernel_rfl) ?_
  have zeBR0 : w1_.cell? ⟨gr, 0, none⟩ = some (.int .i64 0) := (blk_cell BR.out 0).trans rfl
  have zeBR1 : w1_.cell? ⟨gr, 1, none⟩ = some (.slice none 0 0) := (blk_cell BR.out 1).trans rfl
  have hf0BR := blk_frozen BR.out 0
  have hf1BR := blk_frozen BR.out 1
  go_wp2
  refine bodyPost_ret (results_ct rfl _ _ gr 26 #[(.int .i64 0), (.slice none 0 0)] (0, 0) _ rfl (by (with_reducible repeat (first | refine blk_drewN ?_ _ | refine blk_drew ?_ | refine blk_alloc ?_ _)); refine blk_put (cs := #[(.int .i64 0), (.slice none 0 0)]) ?_ 1 _ rfl; (with_reducible repeat (first | refine blk_drewN ?_ _ | refine blk_drew ?_ | refine blk_alloc ?_ _)); refine blk_put (cs := #[(.int .i64 0), (.slice none 0 0)]) ?_ 0 _ rfl; (with_reducible repeat (first | refine blk_drewN ?_ _ | refine blk_drew ?_ | refine blk_alloc ?_ _)); exact BR.out) Try.underlying26 rfl (by kernel_rfl)) rfl ?_
  exact ⟨_, by first | rfl | (simp; done) | (simp [*]; done), Kd.R_nil _ _ _ _ _, (by repeat (first | (with_reducible first | exact HB.out | apply below_alloc | apply pw_below_drewN | apply below_drew1 | refine below_set ?_ GBM.out | refine below_set ?_ GBQ.out | refine below_set ?_ GBR.out) | exact HB.out))⟩
end Go.Proofs.Ytagncnjllpebjaa.A
namespace Go.Proofs.Ytagncnjllpebjaa.A
open Go.RowKit Go.Proofs.YtagncnjllpebjaaW.PrintWords Go.Proofs.YtagncnjllpebjaaW.PrintLast Go.Proofs.YtagncnjllpebjaaW.PrintMore
attribute [local go_sem] max2_int min2_int max_two min_two max_three min_three max_four min_four   -- for this text's walks alone
set_option linter.unusedVariables false
set_option linter.unusedSimpArgs false

/-! ### laws_eqIntS: function 25 -/
def laws_eqIntS.l0 : Nat → List Int → List Int → Int → Option (Bool)
 | 0, _, _, _ => none
 | k + 1, x0, x1, x5 => if x5 < (x0.length : Int) then (if 0 ≤ x5 then (if x5 < (x1.length : Int) then (if (rd x0 x5) = (rd x1 x5) then (laws_eqIntS.l0 k x0 x1 (wrap64 (x5 + 1))) else (some false)) else (none)) else (none)) else (some true)
def laws_eqIntS.f (k : Nat) (l0 : List Int) (l1 : List Int) : Option (Bool) := if (l0.length : Int) = (l1.length : Int) then (laws_eqIntS.l0 k l0 l1 0) else (some false)
theorem laws_eqIntS.mono_l : ∀ k, (∀ y0 y1 y2, LeO (laws_eqIntS.l0 k y0 y1 y2) (laws_eqIntS.l0 (k + 1) y0 y1 y2))
 | 0 => fun _ _ _ r h => by simp [laws_eqIntS.l0] at h
 | k + 1 => by
  have ih0 := laws_eqIntS.mono_l k
  ·intro y0 y1 y2
   unfold laws_eqIntS.l0
   repeat' first
   | (with_reducible exact ih0 _ _ _)
   | (with_reducible exact LeO.refl _)
   | (with_reducible exact LeO.none _)
   | (with_reducible refine LeO.ite ?_ ?_)
   | (with_reducible refine LeO.bind ?_ (fun _ => ?_))
   | exact ih0 _ _ _
   | exact LeO.none _
   | refine LeO.ite ?_ ?_
   | refine LeO.bind ?_ (fun _ => ?_)
theorem laws_eqIntS.mono : ∀ a0 a1 k, LeO (laws_eqIntS.f k a0 a1) (laws_eqIntS.f (k + 1) a0 a1) := by
 intro a0 a1 k
 have ih0 := laws_eqIntS.mono_l k
 unfold laws_eqIntS.f
 repeat' first
   | (with_reducible exact ih0 _ _ _)
   | (with_reducible exact LeO.refl _)
   | (with_reducible exact LeO.none _)
   | (with_reducible refine LeO.ite ?_ ?_)
   | (with_reducible refine LeO.bind ?_ (fun _ => ?_))
   | exact ih0 _ _ _
   | exact LeO.none _
   | refine LeO.ite ?_ ?_
   | refine LeO.bind ?_ (fun _ => ?_)
set_option maxHeartbeats 8000000 in
set_option maxRecDepth 100000 in
theorem laws_eqIntS.calls (k : Nat) (A0 : Option Addr) (c0 : Nat) (l0 : List Int) (A1 : Option Addr) (c1 : Nat) (l1 : List Int) (r : Bool) (w : World) (hr0 : Kd.C (Kd.int .i64) w A0 l0.length l0) (hc0 : l0.length ≤ c0) (hr1 : Kd.C (Kd.int .i64) w A1 l1.length l1) (hc1 : l1.length ≤ c1) (h : laws_eqIntS.f k l0 l1 = some r) :
  Calls Try.prog 25 #[.slice A0 l0.length c0, .slice A1 l1.length c1] w fun e w' => e = .returned (.bool r) ∧ Drawn0 w w' := by
 have HR0 := aQ hr0
 have HC0 := aQ hc0
 clear hr0 hc0
 have HR1 := aQ hr1
 have HC1 := aQ hc1
 clear hr1 hc1
 have H : (if (l0.length : Int) = (l1.length : Int) then (laws_eqIntS.l0 k l0 l1 0) else (some false)) = some r := h
 clear h
 by_cases c3 : (l0.length : Int) = (l1.length : Int)
 ·rw [if_pos c3] at H
  have c3b0 : ((l0.length : Int) == (l1.length : Int)) = true := beq_iff_eq.mpr c3
  have c3b1 : ((l0.length : Int) != (l1.length : Int)) = false := bne_eq_false_iff_eq.mpr c3
  have c3b2 : (l0.length == l1.length) = true := by first | simpa using c3 | (simp at c3 ⊢; omega)
  clear c3
  have H' := aQ H
  clear H
  go_enter Try.func25, Try.ntmps25
  go_wp2
  repeat (go_quiet (fail); try go_wp2)
  go_loopg [5] k (fun kq v5 w' => ∃ (x5_1 : Int), v5 = .int .i64 x5_1 ∧ Aside0 (laws_eqIntS.l0 kq l0 l1 x5_1 = some r) ∧ Aside0 (kq ≤ k) ∧ Drawn0 w w')
  case atStart => exact ⟨(0), (by first | rfl | (simp; done) | (simp [*]; done)), H', ⟨Nat.le_refl _⟩, by repeat (first | exact Drawn0.refl _ | apply Drawn0.step)⟩
  case round =>
   clear H'
   try clear c1
   try clear c2
   try clear p2
   try clear c3
   try clear c3b0
   try clear c3b1
   try clear c3b2
   obtain ⟨x5_1, rfl, HA, HK1, ⟨m1, rfl⟩⟩ := hrel
   cases gk with
   | zero => exact absurd HA.out (by simp [laws_eqIntS.l0])
   | succ k1 =>
    have H := HA.out
    clear HA
    simp only [laws_eqIntS.l0] at H
    by_cases c4 : x5_1 < (l0.length : Int)
    ·rw [if_pos c4] at H
     have c4b0 : decide (x5_1 < (l0.length : Int)) = true := decide_eq_true c4
     clear c4
     by_cases c5 : 0 ≤ x5_1
     ·rw [if_pos c5] at H
      have c5b0 : decide (0 ≤ x5_1) = true := decide_eq_true c5
      clear c5
      by_cases c6 : x5_1 < (l1.length : Int)
      ·rw [if_pos c6] at H
       have c6b0 : decide (x5_1 < (l1.length : Int)) = true := decide_eq_true c6
       clear c6
       by_cases c7 : (rd l0 x5_1) = (rd l1 x5_1)
       ·rw [if_pos c7] at H
        have c7b0 : ((rd l0 x5_1) == (rd l1 x5_1)) = true := beq_iff_eq.mpr c7
        have c7b1 : ((rd l0 x5_1) != (rd l1 x5_1)) = false := bne_eq_false_iff_eq.mpr c7
        clear c7
        have H' := aQ H
        clear H
        have p26001 : 0 ≤ (x5_1 : Int) := of_decide_eq_true (by first | (with_reducible assumption) | assumption)
        have q26001 : x5_1 < (l0.length : Int) := of_decide_eq_true (by first | (with_reducible assumption) | assumption)
        obtain ⟨ad26001, e26001, hx26001_0⟩ := Kd.at_int HR0.out x5_1 p26001 q26001
        cases e26001
        replace p26001 := eq_true p26001
        replace q26001 := eq_true q26001
        have p26002 : 0 ≤ (x5_1 : Int) := of_decide_eq_true (by first | (with_reducible assumption) | assumption)
        have q26002 : x5_1 < (l1.length : Int) := of_decide_eq_true (by first | (with_reducible assumption) | assumption)
        obtain ⟨ad26002, e26002, hx26002_0⟩ := Kd.at_int HR1.out x5_1 p26002 q26002
        cases e26002
        replace p26002 := eq_true p26002
        replace q26002 := eq_true q26002
        go_wp2
        repeat (go_quiet (fail); try go_wp2)
        go_roundg k1
        case measure => have := HK1.out; omega
        case rel => exact ⟨(wrap64 (x5_1 + 1)), (by first | rfl | (simp; done) | (simp [*]; done)), H', ⟨by have := HK1.out; omega⟩, by repeat (first | exact Drawn0.refl _ | apply Drawn0.step)⟩
       ·rw [if_neg c7] at H
        have c7b0 : ((rd l0 x5_1) == (rd l1 x5_1)) = false := beq_eq_false_iff_ne.mpr c7
        have c7b1 : ((rd l0 x5_1) != (rd l1 x5_1)) = true := bne_iff_ne.mpr c7
        obtain rfl := Option.some.inj H
        have p26001 : 0 ≤ (x5_1 : Int) := of_decide_eq_true (by first | (with_reducible assumption) | assumption)
        have q26001 : x5_1 < (l0.length : Int) := of_decide_eq_true (by first | (with_reducible assumption) | assumption)
        obtain ⟨ad26001, e26001, hx26001_0⟩ := Kd.at_int HR0.out x5_1 p26001 q26001
        cases e26001
        replace p26001 := eq_true p26001
        replace q26001 := eq_true q26001
        have p26002 : 0 ≤ (x5_1 : Int) := of_decide_eq_true (by first | (with_reducible assumption) | assumption)
        have q26002 : x5_1 < (l1.length : Int) := of_decide_eq_true (by first | (with_reducible assumption) | assumption)
        obtain ⟨ad26002, e26002, hx26002_0⟩ := Kd.at_int HR1.out x5_1 p26002 q26002
        cases e26002
        replace p26002 := eq_true p26002
        replace q26002 := eq_true q26002
        go_wp2
        repeat (go_quiet (fail); try go_wp2)
        go_ret
        exact ⟨by first | rfl | (simp; done) | (simp [*]; done), by repeat (first | exact Drawn0.refl _ | apply Drawn0.step)⟩
      ·rw [if_neg c6] at H
       exact absurd H (by simp)
     ·rw [if_neg c5] at H
      exact absurd H (by simp)
    ·rw [if_neg c4] at H
     have c4b0 : decide (x5_1 < (l0.length : Int)) = false := decide_eq_false c4
     clear c4
     obtain rfl := Option.some.inj H
     go_wp2
     repeat (go_quiet (fail); try go_wp2)
     go_ret
     exact ⟨by first | rfl | (simp; done) | (simp [*]; done), by repeat (first | exact Drawn0.refl _ | apply Drawn0.step)⟩
 ·rw [if_neg c3] at H
  have c3b0 : ((l0.length : Int) == (l1.length : Int)) = false := beq_eq_false_iff_ne.mpr c3
  have c3b1 : ((l0.length : Int) != (l1.length : Int)) = true := bne_iff_ne.mpr c3
  have c3b2 : (l0.length == l1.length) = false := by first | simpa using c3 | (simp at c3 ⊢; omega)
  obtain rfl := Option.some.inj H
  go_enter Try.func25, Try.ntmps25
  go_wp2
  repeat (go_quiet (fail); try go_wp2)
  go_ret
  exact ⟨by first | rfl | (simp; done) | (simp [*]; done), by repeat (first | exact Drawn0.refl _ | apply Drawn0.step)⟩
end Go.Proofs.Ytagncnjllpebjaa.A
