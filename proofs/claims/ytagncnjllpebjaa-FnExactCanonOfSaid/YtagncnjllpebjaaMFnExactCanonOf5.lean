/- Machine side of the law FnExactCanonOf: Go functions as Lean functions, and proofs that calls come to what these tell. Conditions: those in each theorem. -/
import Derived.Test.YtagncnjllpebjaaMFnExactCanonOf0
import Derived.Test.YtagncnjllpebjaaMFnExactCanonOfq0
import Derived.Test.YtagncnjllpebjaaMFnExactCanonOf1
import Derived.Test.YtagncnjllpebjaaMFnExactCanonOf2
import Derived.Test.YtagncnjllpebjaaMFnExactCanonOf3
import Derived.Test.YtagncnjllpebjaaMFnExactCanonOf4
namespace Go.Proofs.Ytagncnjllpebjaa.A
open Go.RowKit Go.Proofs.YtagncnjllpebjaaW.PrintWords Go.Proofs.YtagncnjllpebjaaW.PrintLast Go.Proofs.YtagncnjllpebjaaW.PrintMore
attribute [local go_sem] max2_int min2_int max_two min_two max_three min_three max_four min_four
set_option linter.unusedVariables false
set_option linter.unusedSimpArgs false
/-! ### spec_CanonOf: function 43 -/
def spec_CanonOf.f (k : Nat) (a0_0 : Int) (l0_1 : List Int) : Option (Int × List Int × Bool) := (spec_IsMatroid.f k a0_0 l0_1).bind fun t44003 => (if t44003 = true then (if a0_0 > 6 then (some (0, ([] : List Int), false)) else ((some (([] : List Int) : List Int)).bind fun y44004 => ((spec_l18Canon.f k a0_0 l0_1 (([] : List Int)) (([] : List Int))).bind fun t44013 => (if y44004.length + t44013.length < 17592186044416 then (some (a0_0, (y44004 ++ t44013), true)) else (none))))) else (some (0, ([] : List Int), false)))
theorem spec_CanonOf.mono : ∀ a0 a1 k, LeO (spec_CanonOf.f k a0 a1) (spec_CanonOf.f (k + 1) a0 a1) := by
 intro a0 a1 k
 unfold spec_CanonOf.f
 repeat' first
   | (with_reducible exact spec_IsMatroid.mono _ _ _)
   | (with_reducible exact spec_l18Canon.mono _ _ _ _ _)
   | (with_reducible exact LeO.refl _)
   | (with_reducible exact LeO.none _)
   | (with_reducible refine LeO.ite ?_ ?_)
   | (with_reducible refine LeO.bind ?_ (fun _ => ?_))
   | exact spec_IsMatroid.mono _ _ _
   | exact spec_l18Canon.mono _ _ _ _ _
   | exact LeO.none _
   | refine LeO.ite ?_ ?_
   | refine LeO.bind ?_ (fun _ => ?_)
def spec_CanonOf.T3 : Bool × List (List Nat × List Nat) := (true, [([], []), ([0], [0]), ([], []), ([], []), ([], []), ([], []), ([3, 4, 5], [3, 4, 5]), ([2, 6, 6], [2, 6]), ([1, 7], [1, 7]), ([8, 7, 0, 1, 2, 3, 4, 5, 6, 7, 8], [8]), ([9, 0, 1, 2, 3, 4, 5, 6, 7, 8, 9], [])])
def spec_CanonOf.B3 : List Nat := [0, 1, 0, 0, 0, 0, 56, 124, 255, 511, 1023]
theorem spec_CanonOf.tab3 : rtab .any (opsOf Try.f43 3) = spec_CanonOf.T3 := by kernel_rfl
theorem spec_CanonOf.bits3 : waitsOk spec_CanonOf.T3.2 spec_CanonOf.B3 = true := by kernel_rfl
set_option maxHeartbeats 8000000 in
set_option maxRecDepth 100000 in
theorem spec_CanonOf.calls (k : Nat) (a0_0 : Int) (A0_1 : Option Addr) (c0_1 : Nat) (l0_1 : List Int) (r1 : Int) (r2 : List Int) (r3 : Bool) (w : World) (hr0_1 : Kd.C (Kd.int .i64) w A0_1 l0_1.length l0_1) (hc0_1 : l0_1.length ≤ c0_1) (h : spec_CanonOf.f k a0_0 l0_1 = some (r1, r2, r3)) :
  Calls Try.prog 43 #[.agg #[.int .i64 a0_0, .slice A0_1 l0_1.length c0_1]] w fun e w' => ∃ v1_ : Value, e = .returned (.tuple #[.agg #[.int .i64 r1, v1_], .bool r3]) ∧ Kd.R (Kd.int .i64) 3 w' w.heap.size (fun _ => True) v1_ r2 ∧ Below w.heap.size w w' := by
 have hu26 := Try.underlying26
 have HR0_1 := aQ hr0_1
 have HC0_1 := aQ hc0_1
 clear hr0_1 hc0_1
 have HB := aQ (Below.refl w.heap.size w)
 have H : ((spec_IsMatroid.f k a0_0 l0_1).bind fun t44003 => (if t44003 = true then (if a0_0 > 6 then (some (0, ([] : List Int), false)) else ((some (([] : List Int) : List Int)).bind fun y44004 => ((spec_l18Canon.f k a0_0 l0_1 (([] : List Int)) (([] : List Int))).bind fun t44013 => (if y44004.length + t44013.length < 17592186044416 then (some (a0_0, (y44004 ++ t44013), true)) else (none))))) else (some (0, ([] : List Int), false)))) = some (r1, r2, r3) := h
 clear h
 replace H := Option.bind_eq_some_iff.mp H
 obtain ⟨t44003, A20, H⟩ := H
 replace H : (if t44003 = true then (if a0_0 > 6 then (some (0, ([] : List Int), false)) else ((some (([] : List Int) : List Int)).bind fun y44004 => ((spec_l18Canon.f k a0_0 l0_1 (([] : List Int)) (([] : List Int))).bind fun t44013 => (if y44004.length + t44013.length < 17592186044416 then (some (a0_0, (y44004 ++ t44013), true)) else (none))))) else (some (0, ([] : List Int), false))) = some (r1, r2, r3) := H
 have A2 := aQ A20
 clear A20
 by_cases c3 : t44003 = true
 ·subst c3
  have H1 : (if a0_0 > 6 then (some (0, ([] : List Int), false)) else ((some (([] : List Int) : List Int)).bind fun y44004 => ((spec_l18Canon.f k a0_0 l0_1 (([] : List Int)) (([] : List Int))).bind fun t44013 => (if y44004.length + t44013.length < 17592186044416 then (some (a0_0, (y44004 ++ t44013), true)) else (none))))) = some (r1, r2, r3) := by rw [if_pos rfl] at H; exact H
  clear H
  have H := H1
  clear H1
  by_cases c4 : a0_0 > 6
  ·rw [if_pos c4] at H
   have c4b0 : decide (6 < a0_0) = true := decide_eq_true c4
   clear c4
   simp only [Option.some.injEq, Prod.mk.injEq] at H
   obtain ⟨rfl, rfl, rfl⟩ := H
   go_enter Try.func43, Try.ntmps43
   go_wp2_with (first | ((with_reducible refine gate_dst (N := 1) rfl ?_); refine box_event ?hg (N := 1) ?hd (cs := #[.int .i64 a0_0, .slice A0_1 l0_1.length c0_1]) (t := 26) ?hr ?_; (case hd => rfl); (case hg => rfl); (case hr => first | (go_simp; done) | (go_simp; rfl)); intro gb44001 hg w5 hbox hb; have BK44001 := aQ (hbox); have GW44001 := aQ ((by rw [hg]; exact (below_size (by repeat (first | (with_reducible first | exact HB.out | apply below_alloc | apply pw_below_drewN | apply below_drew1) | exact HB.out))) : w.heap.size ≤ gb44001)); have GE44001 := aQ ((by rw [hg]; exact (below_size (by repeat (first | (with_reducible first | exact HB.out | apply below_alloc | apply pw_below_drewN | apply below_drew1) | exact HB.out))) : w.heap.size ≤ gb44001)); replace HB := aQ (below_step (by repeat (first | (with_reducible first | exact HB.out | apply below_alloc | apply pw_below_drewN | apply below_drew1) | exact HB.out)) hb); clear hb hbox hg) | ((with_reducible refine gate_dst (N := 2) rfl ?_); refine box_event ?hg (N := 2) ?hd (cs := #[.int .i64 0, .slice none 0 0]) (t := 26) ?hr ?_; (case hd => rfl); (case hg => rfl); (case hr => first | (go_simp; done) | (go_simp; rfl)); intro gb44002 hg w6 hbox hb; have BK44002 := aQ (hbox); have GW44002 := aQ ((by rw [hg]; exact (below_size (by repeat (first | (with_reducible first | exact HB.out | apply below_alloc | apply pw_below_drewN | apply below_drew1 | refine below_set ?_ GE44001.out) | exact HB.out))) : w.heap.size ≤ gb44002)); have GE44002 := aQ ((by rw [hg]; exact (below_size (by repeat (first | (with_reducible first | exact HB.out | apply below_alloc | apply pw_below_drewN | apply below_drew1 | refine below_set ?_ GE44001.out) | exact HB.out))) : w.heap.size ≤ gb44002)); replace HB := aQ (below_step (by repeat (first | (with_reducible first | exact HB.out | apply below_alloc | apply pw_below_drewN | apply below_drew1 | refine below_set ?_ GE44001.out) | exact HB.out)) hb); have NB44001_44002 := aQ ((by rw [hg]; exact Nat.ne_of_lt (blk_lt (g := gb44001) (o := .cells #[.int .i64 a0_0, .slice A0_1 l0_1.length c0_1] 26 (0, 0)) (by (with_reducible repeat (first | refine blk_drewN ?_ _ | refine blk_drew ?_ | refine blk_alloc ?_ _)); exact BK44001.out)) : gb44001 ≠ gb44002)); have NB44002_44001 := aQ ((by rw [hg]; exact Nat.ne_of_gt (blk_lt (g := gb44001) (o := .cells #[.int .i64 a0_0, .slice A0_1 l0_1.length c0_1] 26 (0, 0)) (by (with_reducible repeat (first | refine blk_drewN ?_ _ | refine blk_drew ?_ | refine blk_alloc ?_ _)); exact BK44001.out)) : gb44002 ≠ gb44001)); replace BK44001 := aQ (blk_below (g := gb44001) (o := .cells #[.int .i64 a0_0, .slice A0_1 l0_1.length c0_1] 26 (0, 0)) (by (with_reducible repeat (first | refine blk_drewN ?_ _ | refine blk_drew ?_ | refine blk_alloc ?_ _)); exact BK44001.out) hb); clear hb hbox hg; have hnb7 := NB44001_44002.out; have hnc7 := NB44002_44001.out; have hcz8_0 : w6.cell? ⟨gb44001, 0, none⟩ = some (.int .i64 a0_0) := (blk_cell BK44001.out 0).trans rfl; have hcz8_1 : w6.cell? ⟨gb44001, 1, none⟩ = some (.slice A0_1 l0_1.length c0_1) := (blk_cell BK44001.out 1).trans rfl; have hfz8_0 := blk_frozen BK44001.out 0; have hfz8_1 := blk_frozen BK44001.out 1) | ((with_reducible refine gate_callee (f := 74) rfl ?_); refine goesL_ (some 5) rfl rfl Try.func74 (by kernel_rfl) rfl #[.agg #[.int .i64 a0_0, .slice A0_1 l0_1.length c0_1]] rfl (by (try simp only [List.map_toArray, List.map_cons, List.map_nil]); first | done | rfl | (simp only [List.length_drop, List.length_take]; rfl)) ?_; (with_reducible refine (spec_IsMatroid.calls k a0_0 _ _ l0_1 true _ ?side1 ?side2 A2.out).mono ?_); (case side1 => repeat (first | exact (Kd.C_below HR0_1.out HB.out) | (with_reducible refine Kd.C_alloc ?_ _) | (with_reducible refine Kd.C_drewN ?_ _) | (with_reducible refine Kd.C_drew ?_))); (case side2 => exact HC0_1.out); rintro e w9 ⟨rfl, hb⟩; refine ⟨_, rfl, ?_⟩; replace BK44001 := aQ (blk_below (g := gb44001) (o := .cells #[.int .i64 a0_0, .slice A0_1 l0_1.length c0_1] 26 (0, 0)) (by (with_reducible repeat (first | refine blk_drewN ?_ _ | refine blk_drew ?_ | refine blk_alloc ?_ _)); exact BK44001.out) hb); replace BK44002 := aQ (blk_below (g := gb44002) (o := .cells #[.int .i64 0, .slice none 0 0] 26 (0, 0)) (by (with_reducible repeat (first | refine blk_drewN ?_ _ | refine blk_drew ?_ | refine blk_alloc ?_ _)); exact BK44002.out) hb); replace HB := aQ (below_step (by repeat (first | (with_reducible first | exact HB.out | apply below_alloc | apply pw_below_drewN | apply below_drew1 | refine below_set ?_ GE44001.out | refine below_set ?_ GE44002.out) | exact HB.out)) hb); (try clear hb); (try clear hb2); (try clear hk); (try clear hi); have hcz10_0 : w9.cell? ⟨gb44001, 0, none⟩ = some (.int .i64 a0_0) := (blk_cell BK44001.out 0).trans rfl; have hcz10_1 : w9.cell? ⟨gb44001, 1, none⟩ = some (.slice A0_1 l0_1.length c0_1) := (blk_cell BK44001.out 1).trans rfl; have hfz10_0 := blk_frozen BK44001.out 0; have hfz10_1 := blk_frozen BK44001.out 1; have hcz11_0 : w9.cell? ⟨gb44002, 0, none⟩ = some (.int .i64 0) := (blk_cell BK44002.out 0).trans rfl; have hcz11_1 : w9.cell? ⟨gb44002, 1, none⟩ = some (.slice none 0 0) := (blk_cell BK44002.out 1).trans rfl; have hfz11_0 := blk_frozen BK44002.out 0; have hfz11_1 := blk_frozen BK44002.out 1))
   refine bodyPost_ret (results_ct rfl _ _ gb44002 26 #[.int .i64 0, .slice none 0 0] (0, 0) _ rfl (by (with_reducible repeat (first | refine blk_drewN ?_ _ | refine blk_drew ?_ | refine blk_alloc ?_ _)); refine blk_put (cs := #[.int .i64 0, .slice none 0 0]) ?_ 1 _ rfl; (with_reducible repeat (first | refine blk_drewN ?_ _ | refine blk_drew ?_ | refine blk_alloc ?_ _)); refine blk_put (cs := #[.int .i64 0, .slice none 0 0]) ?_ 0 _ rfl; (with_reducible repeat (first | refine blk_drewN ?_ _ | refine blk_drew ?_ | refine blk_alloc ?_ _)); exact BK44002.out) Try.underlying26 rfl (by kernel_rfl)) rfl ?_
   exact ⟨_, by first | rfl | (simp [errW_none, errW_some] <;> rfl) | (simp [*, errW_none, errW_some] <;> rfl), by first | exact Kd.R_nil _ _ _ _ _ | exact Kd.N_nil _ _ _ _ _ | exact Kd.V_nil _ _ _ _ _ | exact Kd.Q_nil _ _ _ _ _ | exact Kd.S_nil _ _ _ _ _, by repeat (first | (with_reducible first | exact HB.out | apply below_alloc | apply pw_below_drewN | apply below_drew1 | refine below_set ?_ GE44001.out | refine below_set ?_ GE44002.out) | exact HB.out)⟩
  ·rw [if_neg c4] at H
   have c4b0 : decide (6 < a0_0) = false := decide_eq_false c4
   clear c4
   obtain ⟨y44004, hy44004⟩ : ∃ y_ : List Int, y_ = (([] : List Int)) := ⟨_, rfl⟩
   replace H : ((spec_l18Canon.f k a0_0 l0_1 (([] : List Int)) (([] : List Int))).bind fun t44013 => (if y44004.length + t44013.length < 17592186044416 then (some (a0_0, (y44004 ++ t44013), true)) else (none))) = some (r1, r2, r3) := by first | (rw [hy44004]; with_reducible exact H) | (have H2_ := (Option.bind_some _ _).symm.trans H; rw [hy44004]; with_reducible exact H2_) | (have H2_ := (Option.bind_some _ _).symm.trans H; with_reducible exact H2_) | with_reducible exact H | (rw [hy44004]; exact H) | exact H
   have Ny44004 := aQ hy44004
   clear hy44004
   obtain ⟨y44007, hy44007⟩ : ∃ y_ : List Int, y_ = (([] : List Int)) := ⟨_, rfl⟩
   replace H : ((spec_l18Canon.f k a0_0 l0_1 y44007 (([] : List Int))).bind fun t44013 => (if y44004.length + t44013.length < 17592186044416 then (some (a0_0, (y44004 ++ t44013), true)) else (none))) = some (r1, r2, r3) := by first | (rw [hy44007]; with_reducible exact H) | (have H2_ := (Option.bind_some _ _).symm.trans H; rw [hy44007]; with_reducible exact H2_) | (have H2_ := (Option.bind_some _ _).symm.trans H; with_reducible exact H2_) | with_reducible exact H | (rw [hy44007]; exact H) | exact H
   have Ny44007 := aQ hy44007
   clear hy44007
   obtain ⟨y44010, hy44010⟩ : ∃ y_ : List Int, y_ = (([] : List Int)) := ⟨_, rfl⟩
   replace H : ((spec_l18Canon.f k a0_0 l0_1 y44007 y44010).bind fun t44013 => (if y44004.length + t44013.length < 17592186044416 then (some (a0_0, (y44004 ++ t44013), true)) else (none))) = some (r1, r2, r3) := by first | (rw [hy44010]; with_reducible exact H) | (have H2_ := (Option.bind_some _ _).symm.trans H; rw [hy44010]; with_reducible exact H2_) | (have H2_ := (Option.bind_some _ _).symm.trans H; with_reducible exact H2_) | with_reducible exact H | (rw [hy44010]; exact H) | exact H
   have Ny44010 := aQ hy44010
   clear hy44010
   replace H := Option.bind_eq_some_iff.mp H
   obtain ⟨t44013, A120, H⟩ := H
   replace H : (if y44004.length + t44013.length < 17592186044416 then (some (a0_0, (y44004 ++ t44013), true)) else (none)) = some (r1, r2, r3) := H
   have A12 := aQ A120
   clear A120
   by_cases c13 : y44004.length + t44013.length < 17592186044416
   ·rw [if_pos c13] at H
    have LMc13 := aQ c13
    clear c13
    obtain ⟨y44016, hy44016⟩ : ∃ y_ : List Int, y_ = (y44004 ++ t44013) := ⟨_, rfl⟩
    replace H : (some (a0_0, y44016, true)) = some (r1, r2, r3) := by first | (rw [hy44016]; with_reducible exact H) | (have H2_ := (Option.bind_some _ _).symm.trans H; rw [hy44016]; with_reducible exact H2_) | (have H2_ := (Option.bind_some _ _).symm.trans H; with_reducible exact H2_) | with_reducible exact H | (rw [hy44016]; exact H) | exact H
    have Ny44016 := aQ hy44016
    clear hy44016
    simp only [Option.some.injEq, Prod.mk.injEq] at H
    obtain ⟨rfl, rfl, rfl⟩ := H
    go_enter Try.func43, Try.ntmps43
    try go_wp2_with (first | ((with_reducible refine gate_dst (N := 1) rfl ?_); refine box_event ?hg (N := 1) ?hd (cs := #[.int .i64 a0_0, .slice A0_1 l0_1.length c0_1]) (t := 26) ?hr ?_; (case hd => rfl); (case hg => rfl); (case hr => first | (go_simp; done) | (go_simp; rfl)); intro gb44001 hg w14 hbox hb; have BK44001 := aQ (hbox); have GW44001 := aQ ((by rw [hg]; exact (below_size (by repeat (first | (with_reducible first | exact HB.out | apply below_alloc | apply pw_below_drewN | apply below_drew1) | exact HB.out))) : w.heap.size ≤ gb44001)); have GE44001 := aQ ((by rw [hg]; exact (below_size (by repeat (first | (with_reducible first | exact HB.out | apply below_alloc | apply pw_below_drewN | apply below_drew1) | exact HB.out))) : w.heap.size ≤ gb44001)); replace HB := aQ (below_step (by repeat (first | (with_reducible first | exact HB.out | apply below_alloc | apply pw_below_drewN | apply below_drew1) | exact HB.out)) hb); clear hb hbox hg) | ((with_reducible refine gate_dst (N := 2) rfl ?_); refine box_event ?hg (N := 2) ?hd (cs := #[.int .i64 0, .slice none 0 0]) (t := 26) ?hr ?_; (case hd => rfl); (case hg => rfl); (case hr => first | (go_simp; done) | (go_simp; rfl)); intro gb44002 hg w15 hbox hb; have BK44002 := aQ (hbox); have GW44002 := aQ ((by rw [hg]; exact (below_size (by repeat (first | (with_reducible first | exact HB.out | apply below_alloc | apply pw_below_drewN | apply below_drew1 | refine below_set ?_ GE44001.out) | exact HB.out))) : w.heap.size ≤ gb44002)); have GE44002 := aQ ((by rw [hg]; exact (below_size (by repeat (first | (with_reducible first | exact HB.out | apply below_alloc | apply pw_below_drewN | apply below_drew1 | refine below_set ?_ GE44001.out) | exact HB.out))) : w.heap.size ≤ gb44002)); replace HB := aQ (below_step (by repeat (first | (with_reducible first | exact HB.out | apply below_alloc | apply pw_below_drewN | apply below_drew1 | refine below_set ?_ GE44001.out) | exact HB.out)) hb); have NB44001_44002 := aQ ((by rw [hg]; exact Nat.ne_of_lt (blk_lt (g := gb44001) (o := .cells #[.int .i64 a0_0, .slice A0_1 l0_1.length c0_1] 26 (0, 0)) (by (with_reducible repeat (first | refine blk_drewN ?_ _ | refine blk_drew ?_ | refine blk_alloc ?_ _)); exact BK44001.out)) : gb44001 ≠ gb44002)); have NB44002_44001 := aQ ((by rw [hg]; exact Nat.ne_of_gt (blk_lt (g := gb44001) (o := .cells #[.int .i64 a0_0, .slice A0_1 l0_1.length c0_1] 26 (0, 0)) (by (with_reducible repeat (first | refine blk_drewN ?_ _ | refine blk_drew ?_ | refine blk_alloc ?_ _)); exact BK44001.out)) : gb44002 ≠ gb44001)); replace BK44001 := aQ (blk_below (g := gb44001) (o := .cells #[.int .i64 a0_0, .slice A0_1 l0_1.length c0_1] 26 (0, 0)) (by (with_reducible repeat (first | refine blk_drewN ?_ _ | refine blk_drew ?_ | refine blk_alloc ?_ _)); exact BK44001.out) hb); clear hb hbox hg; have hnb16 := NB44001_44002.out; have hnc16 := NB44002_44001.out; have hcz17_0 : w15.cell? ⟨gb44001, 0, none⟩ = some (.int .i64 a0_0) := (blk_cell BK44001.out 0).trans rfl; have hcz17_1 : w15.cell? ⟨gb44001, 1, none⟩ = some (.slice A0_1 l0_1.length c0_1) := (blk_cell BK44001.out 1).trans rfl; have hfz17_0 := blk_frozen BK44001.out 0; have hfz17_1 := blk_frozen BK44001.out 1) | ((with_reducible refine gate_callee (f := 74) rfl ?_); refine goesL_ (some 5) rfl rfl Try.func74 (by kernel_rfl) rfl #[.agg #[.int .i64 a0_0, .slice A0_1 l0_1.length c0_1]] rfl (by (try simp only [List.map_toArray, List.map_cons, List.map_nil]); first | done | rfl | (simp only [List.length_drop, List.length_take]; rfl)) ?_; (with_reducible refine (spec_IsMatroid.calls k a0_0 _ _ l0_1 true _ ?side1 ?side2 A2.out).mono ?_); (case side1 => repeat (first | exact (Kd.C_below HR0_1.out HB.out) | (with_reducible refine Kd.C_alloc ?_ _) | (with_reducible refine Kd.C_drewN ?_ _) | (with_reducible refine Kd.C_drew ?_))); (case side2 => exact HC0_1.out); rintro e w18 ⟨rfl, hb⟩; refine ⟨_, rfl, ?_⟩; replace BK44001 := aQ (blk_below (g := gb44001) (o := .cells #[.int .i64 a0_0, .slice A0_1 l0_1.length c0_1] 26 (0, 0)) (by (with_reducible repeat (first | refine blk_drewN ?_ _ | refine blk_drew ?_ | refine blk_alloc ?_ _)); exact BK44001.out) hb); replace BK44002 := aQ (blk_below (g := gb44002) (o := .cells #[.int .i64 0, .slice none 0 0] 26 (0, 0)) (by (with_reducible repeat (first | refine blk_drewN ?_ _ | refine blk_drew ?_ | refine blk_alloc ?_ _)); exact BK44002.out) hb); replace HB := aQ (below_step (by repeat (first | (with_reducible first | exact HB.out | apply below_alloc | apply pw_below_drewN | apply below_drew1 | refine below_set ?_ GE44001.out | refine below_set ?_ GE44002.out) | exact HB.out)) hb); (try clear hb); (try clear hb2); (try clear hk); (try clear hi); have hcz19_0 : w18.cell? ⟨gb44001, 0, none⟩ = some (.int .i64 a0_0) := (blk_cell BK44001.out 0).trans rfl; have hcz19_1 : w18.cell? ⟨gb44001, 1, none⟩ = some (.slice A0_1 l0_1.length c0_1) := (blk_cell BK44001.out 1).trans rfl; have hfz19_0 := blk_frozen BK44001.out 0; have hfz19_1 := blk_frozen BK44001.out 1))
    have n0_ := aQ (blk_drew BK44001.out)
    have n1_ := aQ (blk_drew BK44002.out)
    have n2_ := aQ (below_drew1 HB.out)
    clear BK44001
    clear BK44002
    clear HB
    have BK44001 := n0_
    have BK44002 := n1_
    have HB := n2_
    clear n0_ n1_ n2_
    refine start_ (n := 11) (S := fun w' => w'.cell? ⟨gb44001, 0, none⟩ = some (.int .i64 a0_0) ∧ w'.cell? ⟨gb44001, 1, none⟩ = some (.slice A0_1 l0_1.length c0_1)) (ds := []) #[false, false, false, false, false, false, false, false, false, false, false] (by kernel_rfl) rfl rfl ⟨(blk_cell BK44001.out 0).trans rfl, (blk_cell BK44001.out 1).trans rfl⟩ (fun hHeld => ?_); refine with_tabW spec_CanonOf.tab3 spec_CanonOf.bits3 (fun HT_ HW_ => ?_)
    generalize w18.drew = w20 at BK44001 BK44002 HB hHeld ⊢
    refine pure_ (i := 0) (N := some 13) (v := ?_) (a' := ?_) #[true, false, false, false, false, false, false, false, false, false, false] rfl rfl (any_of HT_.out (by kernel_rfl)) (fun _ _ _ h => h) (Or.inl ⟨by rfl, ?_⟩) ?_ ?_
    rotate_left
    ·intro w'
     go_simp
     with_reducible rfl
    rotate_left
    ·simp only [Act.put, List.setIfInBounds_toArray, List.set_cons_zero, List.set_cons_succ, i64_w, i32_w]
     rfl
    refine take_ (i := 1) (N := some 14) (v := ?_) (a' := ?_) #[true, true, false, false, false, false, false, false, false, false, false] rfl rfl (take_ofW HT_.out HW_.out (by kernel_rfl)) (fun _ _ _ h => h) (Or.inl ⟨by rfl, ?_⟩) hHeld ?_ ?_
    rotate_left
    ·rintro w' ⟨s0, s1⟩
     go_simp
     with_reducible rfl
    rotate_left
    ·simp only [Act.put, List.setIfInBounds_toArray, List.set_cons_zero, List.set_cons_succ, i64_w, i32_w]
     rfl
    refine take_ (i := 3) (N := some 16) (v := ?_) (a' := ?_) #[true, true, false, true, false, false, false, false, false, false, false] rfl rfl (take_ofW HT_.out HW_.out (by kernel_rfl)) (fun _ _ _ h => h) (Or.inl ⟨by rfl, ?_⟩) hHeld ?_ ?_
    rotate_left
    ·rintro w' ⟨s0, s1⟩
     go_simp
     with_reducible rfl
    rotate_left
    ·simp only [Act.put, List.setIfInBounds_toArray, List.set_cons_zero, List.set_cons_succ, i64_w, i32_w]
     rfl
    refine join_ (σ := Value × Value × Value × Value) 4 #[true, true, true, true, true, true, true, false, false, false, false] (fun s_ => [(15, s_.1), (17, s_.2.1), (18, s_.2.2.1), (19, s_.2.2.2)]) (fun s_ w' => (w'.cell? ⟨gb44001, 0, none⟩ = some (.int .i64 a0_0) ∧ w'.cell? ⟨gb44001, 1, none⟩ = some (.slice A0_1 l0_1.length c0_1)) ∧ (Kd.R (Kd.int .i64) 3 w' w.heap.size (fun k_ => some k_ ≠ (s_.2.1 : Value).ownBlock ∧ some k_ ≠ (s_.2.2.1 : Value).ownBlock) s_.1 y44004) ∧ (Kd.R (Kd.int .i64) 3 w' w.heap.size (fun k_ => some k_ ≠ (s_.1 : Value).ownBlock ∧ some k_ ≠ (s_.2.2.1 : Value).ownBlock) s_.2.1 y44007) ∧ (Kd.R (Kd.int .i64) 3 w' w.heap.size (fun k_ => some k_ ≠ (s_.1 : Value).ownBlock ∧ some k_ ≠ (s_.2.1 : Value).ownBlock) s_.2.2.1 y44010) ∧ (Kd.V (Kd.int .i64) 3 w' w.heap.size (fun k_ => some k_ ≠ (s_.1 : Value).ownBlock ∧ some k_ ≠ (s_.2.1 : Value).ownBlock ∧ k_ ≠ gb44001 ∧ k_ ≠ gb44002) s_.2.2.2 t44013) ∧ (w'.heap[gb44001]? = some (.cells #[.int .i64 a0_0, .slice A0_1 l0_1.length c0_1] 26 (0, 0))) ∧ (w'.heap[gb44002]? = some (.cells #[.int .i64 0, .slice none 0 0] 26 (0, 0))) ∧ (Below w.heap.size w w')) ?_ ?_
    rotate_left
    ·intro hJ2_4_5_6
     refine join_ (σ := Value × Value × Value) 5 #[true, true, true, true, true, true, false, false, false, false, false] (fun s_ => [(15, s_.1), (17, s_.2.1), (18, s_.2.2)]) (fun s_ w' => (w'.cell? ⟨gb44001, 0, none⟩ = some (.int .i64 a0_0) ∧ w'.cell? ⟨gb44001, 1, none⟩ = some (.slice A0_1 l0_1.length c0_1)) ∧ (Kd.R (Kd.int .i64) 3 w' w.heap.size (fun k_ => some k_ ≠ (s_.2.1 : Value).ownBlock ∧ some k_ ≠ (s_.2.2 : Value).ownBlock) s_.1 y44004) ∧ (Kd.R (Kd.int .i64) 3 w' w.heap.size (fun k_ => some k_ ≠ (s_.1 : Value).ownBlock ∧ some k_ ≠ (s_.2.2 : Value).ownBlock) s_.2.1 y44007) ∧ (Kd.R (Kd.int .i64) 3 w' w.heap.size (fun k_ => some k_ ≠ (s_.1 : Value).ownBlock ∧ some k_ ≠ (s_.2.1 : Value).ownBlock) s_.2.2 y44010) ∧ (w'.heap[gb44001]? = some (.cells #[.int .i64 a0_0, .slice A0_1 l0_1.length c0_1] 26 (0, 0))) ∧ (w'.heap[gb44002]? = some (.cells #[.int .i64 0, .slice none 0 0] 26 (0, 0))) ∧ (Below w.heap.size w w')) ?_ ?_
     rotate_left
     ·intro hJ2_4_5
      refine join_ (σ := Value × Value × Value) 5 #[true, true, false, true, true, true, true, false, false, false, false] (fun s_ => [(17, s_.1), (18, s_.2.1), (19, s_.2.2)]) (fun s_ w' => (w'.cell? ⟨gb44001, 0, none⟩ = some (.int .i64 a0_0) ∧ w'.cell? ⟨gb44001, 1, none⟩ = some (.slice A0_1 l0_1.length c0_1)) ∧ (Kd.R (Kd.int .i64) 3 w' w.heap.size (fun k_ => some k_ ≠ (s_.2.1 : Value).ownBlock) s_.1 y44007) ∧ (Kd.R (Kd.int .i64) 3 w' w.heap.size (fun k_ => some k_ ≠ (s_.1 : Value).ownBlock) s_.2.1 y44010) ∧ (Kd.V (Kd.int .i64) 3 w' w.heap.size (fun k_ => some k_ ≠ (s_.1 : Value).ownBlock ∧ k_ ≠ gb44001 ∧ k_ ≠ gb44002) s_.2.2 t44013) ∧ (w'.heap[gb44001]? = some (.cells #[.int .i64 a0_0, .slice A0_1 l0_1.length c0_1] 26 (0, 0))) ∧ (w'.heap[gb44002]? = some (.cells #[.int .i64 0, .slice none 0 0] 26 (0, 0))) ∧ (Below w.heap.size w w')) ?_ ?_
      rotate_left
      ·intro hJ4_5_6
       refine join_ (σ := Value × Value) 6 #[true, true, true, true, true, false, false, false, false, false, false] (fun s_ => [(15, s_.1), (17, s_.2)]) (fun s_ w' => (w'.cell? ⟨gb44001, 0, none⟩ = some (.int .i64 a0_0) ∧ w'.cell? ⟨gb44001, 1, none⟩ = some (.slice A0_1 l0_1.length c0_1)) ∧ (Kd.R (Kd.int .i64) 3 w' w.heap.size (fun k_ => some k_ ≠ (s_.2 : Value).ownBlock) s_.1 y44004) ∧ (Kd.R (Kd.int .i64) 3 w' w.heap.size (fun k_ => some k_ ≠ (s_.1 : Value).ownBlock) s_.2 y44007) ∧ (w'.heap[gb44001]? = some (.cells #[.int .i64 a0_0, .slice A0_1 l0_1.length c0_1] 26 (0, 0))) ∧ (w'.heap[gb44002]? = some (.cells #[.int .i64 0, .slice none 0 0] 26 (0, 0))) ∧ (Below w.heap.size w w')) ?_ ?_
       rotate_left
       ·intro hJ2_4
        refine join_ (σ := Value × Value) 6 #[true, true, true, true, false, true, false, false, false, false, false] (fun s_ => [(15, s_.1), (18, s_.2)]) (fun s_ w' => (w'.cell? ⟨gb44001, 0, none⟩ = some (.int .i64 a0_0) ∧ w'.cell? ⟨gb44001, 1, none⟩ = some (.slice A0_1 l0_1.length c0_1)) ∧ (Kd.R (Kd.int .i64) 3 w' w.heap.size (fun k_ => some k_ ≠ (s_.2 : Value).ownBlock) s_.1 y44004) ∧ (Kd.R (Kd.int .i64) 3 w' w.heap.size (fun k_ => some k_ ≠ (s_.1 : Value).ownBlock) s_.2 y44010) ∧ (w'.heap[gb44001]? = some (.cells #[.int .i64 a0_0, .slice A0_1 l0_1.length c0_1] 26 (0, 0))) ∧ (w'.heap[gb44002]? = some (.cells #[.int .i64 0, .slice none 0 0] 26 (0, 0))) ∧ (Below w.heap.size w w')) ?_ ?_
        rotate_left
        ·intro hJ2_5
         refine join_ (σ := Value × Value) 6 #[true, true, false, true, true, true, false, false, false, false, false] (fun s_ => [(17, s_.1), (18, s_.2)]) (fun s_ w' => (w'.cell? ⟨gb44001, 0, none⟩ = some (.int .i64 a0_0) ∧ w'.cell? ⟨gb44001, 1, none⟩ = some (.slice A0_1 l0_1.length c0_1)) ∧ (Kd.R (Kd.int .i64) 3 w' w.heap.size (fun k_ => some k_ ≠ (s_.2 : Value).ownBlock) s_.1 y44007) ∧ (Kd.R (Kd.int .i64) 3 w' w.heap.size (fun k_ => some k_ ≠ (s_.1 : Value).ownBlock) s_.2 y44010) ∧ (w'.heap[gb44001]? = some (.cells #[.int .i64 a0_0, .slice A0_1 l0_1.length c0_1] 26 (0, 0))) ∧ (w'.heap[gb44002]? = some (.cells #[.int .i64 0, .slice none 0 0] 26 (0, 0))) ∧ (Below w.heap.size w w')) ?_ ?_
         rotate_left
         ·intro hJ4_5
          refine join_ (σ := Value) 7 #[true, true, true, true, false, false, false, false, false, false, false] (fun s_ => [(15, s_)]) (fun s_ w' => (w'.cell? ⟨gb44001, 0, none⟩ = some (.int .i64 a0_0) ∧ w'.cell? ⟨gb44001, 1, none⟩ = some (.slice A0_1 l0_1.length c0_1)) ∧ (Kd.R (Kd.int .i64) 3 w' w.heap.size (fun _ => True) s_ y44004) ∧ (w'.heap[gb44001]? = some (.cells #[.int .i64 a0_0, .slice A0_1 l0_1.length c0_1] 26 (0, 0))) ∧ (w'.heap[gb44002]? = some (.cells #[.int .i64 0, .slice none 0 0] 26 (0, 0))) ∧ (Below w.heap.size w w')) ?_ ?_
          rotate_left
          ·intro hJ2
           refine join_ (σ := Value) 7 #[true, true, false, true, true, false, false, false, false, false, false] (fun s_ => [(17, s_)]) (fun s_ w' => (w'.cell? ⟨gb44001, 0, none⟩ = some (.int .i64 a0_0) ∧ w'.cell? ⟨gb44001, 1, none⟩ = some (.slice A0_1 l0_1.length c0_1)) ∧ (Kd.R (Kd.int .i64) 3 w' w.heap.size (fun _ => True) s_ y44007) ∧ (w'.heap[gb44001]? = some (.cells #[.int .i64 a0_0, .slice A0_1 l0_1.length c0_1] 26 (0, 0))) ∧ (w'.heap[gb44002]? = some (.cells #[.int .i64 0, .slice none 0 0] 26 (0, 0))) ∧ (Below w.heap.size w w')) ?_ ?_
           rotate_left
           ·intro hJ4
            refine join_ (σ := Value) 7 #[true, true, false, true, false, true, false, false, false, false, false] (fun s_ => [(18, s_)]) (fun s_ w' => (w'.cell? ⟨gb44001, 0, none⟩ = some (.int .i64 a0_0) ∧ w'.cell? ⟨gb44001, 1, none⟩ = some (.slice A0_1 l0_1.length c0_1)) ∧ (Kd.R (Kd.int .i64) 3 w' w.heap.size (fun _ => True) s_ y44010) ∧ (w'.heap[gb44001]? = some (.cells #[.int .i64 a0_0, .slice A0_1 l0_1.length c0_1] 26 (0, 0))) ∧ (w'.heap[gb44002]? = some (.cells #[.int .i64 0, .slice none 0 0] 26 (0, 0))) ∧ (Below w.heap.size w w')) ?_ ?_
            rotate_left
            ·intro hJ5
             refine three_ (i := 2) (j := 4) (k := 5) (Ni := some 15) (Nj := some 17) (Nk := some 18) #[true, true, true, true, false, false, false, false, false, false, false] #[true, true, false, true, true, false, false, false, false, false, false] #[true, true, false, true, false, true, false, false, false, false, false] rfl rfl rfl rfl rfl rfl (three_of HT_.out (by kernel_rfl)) (by decide) (by decide) (by decide) (fun K hK => ?_) (fun K hK => ?_) (fun K hK => ?_)
             ·skip
              refine Kd.R_lit_step (Kd.int .i64) _ 3 ?hg (N := 15) ?hd (xs := ([] : List Int)) (inner := []) (ok := fun _ => True) (okp := fun _ => True) ?hr ?hp (fun _ hk => hk) trivial (Below.refl _ _) (Nat.le_refl _) (by simp) ?_; (case hd => rfl); (case hg => rfl); (case hr => first | (go_simp; done) | (go_simp; rfl)); (case hp => exact (Reps.none _ _))
              intro v44005 w21 ho22 hb hg_ hnew_
              clear hg_ hnew_
              (first | rw [← Ny44004.out] at ho22 | (simp only [Int.reduceToNat] at ho22; rw [← Ny44004.out] at ho22))
              have n0_ := aQ (Kd.R_lower ho22 (below_size (by repeat (first | (with_reducible first | exact HB.out | apply below_alloc | apply pw_below_drewN | apply below_drew1 | refine below_set ?_ GE44001.out | refine below_set ?_ GE44002.out) | exact HB.out))))
              have n1_ := aQ (blk_below (g := gb44001) (o := .cells #[.int .i64 a0_0, .slice A0_1 l0_1.length c0_1] 26 (0, 0)) (by (with_reducible repeat (first | refine blk_drewN ?_ _ | refine blk_drew ?_ | refine blk_alloc ?_ _)); exact BK44001.out) hb)
              have n2_ := aQ (blk_below (g := gb44002) (o := .cells #[.int .i64 0, .slice none 0 0] 26 (0, 0)) (by (with_reducible repeat (first | refine blk_drewN ?_ _ | refine blk_drew ?_ | refine blk_alloc ?_ _)); exact BK44002.out) hb)
              have n3_ := aQ (below_step (by repeat (first | (with_reducible first | exact HB.out | apply below_alloc | apply pw_below_drewN | apply below_drew1 | refine below_set ?_ GE44001.out | refine below_set ?_ GE44002.out) | exact HB.out)) hb)
              clear BK44001
              clear BK44002
              clear HB
              have HO44006 := n0_
              have BK44001 := n1_
              have BK44002 := n2_
              have HB := n3_
              clear n0_ n1_ n2_ n3_
              clear hb ho22
              refine hK.out _ _ ⟨(blk_cell BK44001.out 0).trans rfl, (blk_cell BK44001.out 1).trans rfl⟩ (fun hHeld => ?_)
              clear hK K
              refine norm_ (a' := ?_) ?_ ?_
              rotate_left
              ·show Act.put _ (some 15) _ = _
               simp only [Act.put, List.setIfInBounds_toArray, List.set_cons_zero, List.set_cons_succ, i64_w, i32_w]
               rfl
              exact norm_ (by first | (simp only [putAll, Act.put, List.setIfInBounds_toArray, List.set_cons_zero, List.set_cons_succ]; done) | (simp only [putAll, Act.put, List.setIfInBounds_toArray, List.set_cons_zero, List.set_cons_succ]; rfl)) (hJ2 (v44005) _ ⟨hHeld, (by (with_reducible repeat (first | apply Kd.R_alloc | apply Kd.R_drewN | apply Kd.R_drew)); exact HO44006.out), (by (with_reducible repeat (first | refine blk_drewN ?_ _ | refine blk_drew ?_ | refine blk_alloc ?_ _)); exact BK44001.out), (by (with_reducible repeat (first | refine blk_drewN ?_ _ | refine blk_drew ?_ | refine blk_alloc ?_ _)); exact BK44002.out), (by repeat (first | (with_reducible first | exact HB.out | apply below_alloc | apply pw_below_drewN | apply below_drew1 | refine below_set ?_ GE44001.out | refine below_set ?_ GE44002.out) | exact HB.out))⟩)
             ·skip
              refine Kd.R_lit_step (Kd.int .i64) _ 3 ?hg (N := 17) ?hd (xs := ([] : List Int)) (inner := []) (ok := fun _ => True) (okp := fun _ => True) ?hr ?hp (fun _ hk => hk) trivial (Below.refl _ _) (Nat.le_refl _) (by simp) ?_; (case hd => rfl); (case hg => rfl); (case hr => first | (go_simp; done) | (go_simp; rfl)); (case hp => exact (Reps.none _ _))
              intro v44008 w21 ho22 hb hg_ hnew_
              clear hg_ hnew_
              (first | rw [← Ny44007.out] at ho22 | (simp only [Int.reduceToNat] at ho22; rw [← Ny44007.out] at ho22))
              have n0_ := aQ (Kd.R_lower ho22 (below_size (by repeat (first | (with_reducible first | exact HB.out | apply below_alloc | apply pw_below_drewN | apply below_drew1 | refine below_set ?_ GE44001.out | refine below_set ?_ GE44002.out) | exact HB.out))))
              have n1_ := aQ (blk_below (g := gb44001) (o := .cells #[.int .i64 a0_0, .slice A0_1 l0_1.length c0_1] 26 (0, 0)) (by (with_reducible repeat (first | refine blk_drewN ?_ _ | refine blk_drew ?_ | refine blk_alloc ?_ _)); exact BK44001.out) hb)
              have n2_ := aQ (blk_below (g := gb44002) (o := .cells #[.int .i64 0, .slice none 0 0] 26 (0, 0)) (by (with_reducible repeat (first | refine blk_drewN ?_ _ | refine blk_drew ?_ | refine blk_alloc ?_ _)); exact BK44002.out) hb)
              have n3_ := aQ (below_step (by repeat (first | (with_reducible first | exact HB.out | apply below_alloc | apply pw_below_drewN | apply below_drew1 | refine below_set ?_ GE44001.out | refine below_set ?_ GE44002.out) | exact HB.out)) hb)
              clear BK44001
              clear BK44002
              clear HB
              have HO44009 := n0_
              have BK44001 := n1_
              have BK44002 := n2_
              have HB := n3_
              clear n0_ n1_ n2_ n3_
              clear hb ho22
              refine hK.out _ _ ⟨(blk_cell BK44001.out 0).trans rfl, (blk_cell BK44001.out 1).trans rfl⟩ (fun hHeld => ?_)
              clear hK K
              refine norm_ (a' := ?_) ?_ ?_
              rotate_left
              ·show Act.put _ (some 17) _ = _
               simp only [Act.put, List.setIfInBounds_toArray, List.set_cons_zero, List.set_cons_succ, i64_w, i32_w]
               rfl
              exact norm_ (by first | (simp only [putAll, Act.put, List.setIfInBounds_toArray, List.set_cons_zero, List.set_cons_succ]; done) | (simp only [putAll, Act.put, List.setIfInBounds_toArray, List.set_cons_zero, List.set_cons_succ]; rfl)) (hJ4 (v44008) _ ⟨hHeld, (by (with_reducible repeat (first | apply Kd.R_alloc | apply Kd.R_drewN | apply Kd.R_drew)); exact HO44009.out), (by (with_reducible repeat (first | refine blk_drewN ?_ _ | refine blk_drew ?_ | refine blk_alloc ?_ _)); exact BK44001.out), (by (with_reducible repeat (first | refine blk_drewN ?_ _ | refine blk_drew ?_ | refine blk_alloc ?_ _)); exact BK44002.out), (by repeat (first | (with_reducible first | exact HB.out | apply below_alloc | apply pw_below_drewN | apply below_drew1 | refine below_set ?_ GE44001.out | refine below_set ?_ GE44002.out) | exact HB.out))⟩)
             ·skip
              refine Kd.R_lit_step (Kd.int .i64) _ 3 ?hg (N := 18) ?hd (xs := ([] : List Int)) (inner := []) (ok := fun _ => True) (okp := fun _ => True) ?hr ?hp (fun _ hk => hk) trivial (Below.refl _ _) (Nat.le_refl _) (by simp) ?_; (case hd => rfl); (case hg => rfl); (case hr => first | (go_simp; done) | (go_simp; rfl)); (case hp => exact (Reps.none _ _))
              intro v44011 w21 ho22 hb hg_ hnew_
              clear hg_ hnew_
              (first | rw [← Ny44010.out] at ho22 | (simp only [Int.reduceToNat] at ho22; rw [← Ny44010.out] at ho22))
              have n0_ := aQ (Kd.R_lower ho22 (below_size (by repeat (first | (with_reducible first | exact HB.out | apply below_alloc | apply pw_below_drewN | apply below_drew1 | refine below_set ?_ GE44001.out | refine below_set ?_ GE44002.out) | exact HB.out))))
              have n1_ := aQ (blk_below (g := gb44001) (o := .cells #[.int .i64 a0_0, .slice A0_1 l0_1.length c0_1] 26 (0, 0)) (by (with_reducible repeat (first | refine blk_drewN ?_ _ | refine blk_drew ?_ | refine blk_alloc ?_ _)); exact BK44001.out) hb)
              have n2_ := aQ (blk_below (g := gb44002) (o := .cells #[.int .i64 0, .slice none 0 0] 26 (0, 0)) (by (with_reducible repeat (first | refine blk_drewN ?_ _ | refine blk_drew ?_ | refine blk_alloc ?_ _)); exact BK44002.out) hb)
              have n3_ := aQ (below_step (by repeat (first | (with_reducible first | exact HB.out | apply below_alloc | apply pw_below_drewN | apply below_drew1 | refine below_set ?_ GE44001.out | refine below_set ?_ GE44002.out) | exact HB.out)) hb)
              clear BK44001
              clear BK44002
              clear HB
              have HO44012 := n0_
              have BK44001 := n1_
              have BK44002 := n2_
              have HB := n3_
              clear n0_ n1_ n2_ n3_
              clear hb ho22
              refine hK.out _ _ ⟨(blk_cell BK44001.out 0).trans rfl, (blk_cell BK44001.out 1).trans rfl⟩ (fun hHeld => ?_)
              clear hK K
              refine norm_ (a' := ?_) ?_ ?_
              rotate_left
              ·show Act.put _ (some 18) _ = _
               simp only [Act.put, List.setIfInBounds_toArray, List.set_cons_zero, List.set_cons_succ, i64_w, i32_w]
               rfl
              exact norm_ (by first | (simp only [putAll, Act.put, List.setIfInBounds_toArray, List.set_cons_zero, List.set_cons_succ]; done) | (simp only [putAll, Act.put, List.setIfInBounds_toArray, List.set_cons_zero, List.set_cons_succ]; rfl)) (hJ5 (v44011) _ ⟨hHeld, (by (with_reducible repeat (first | apply Kd.R_alloc | apply Kd.R_drewN | apply Kd.R_drew)); exact HO44012.out), (by (with_reducible repeat (first | refine blk_drewN ?_ _ | refine blk_drew ?_ | refine blk_alloc ?_ _)); exact BK44001.out), (by (with_reducible repeat (first | refine blk_drewN ?_ _ | refine blk_drew ?_ | refine blk_alloc ?_ _)); exact BK44002.out), (by repeat (first | (with_reducible first | exact HB.out | apply below_alloc | apply pw_below_drewN | apply below_drew1 | refine below_set ?_ GE44001.out | refine below_set ?_ GE44002.out) | exact HB.out))⟩)
            ·skip
             rintro v44011 w23 ⟨hS_, h0_, h1_, h2_, h3_⟩
             have n0_ : Aside0 (Kd.R (Kd.int .i64) 3 w23 w.heap.size (fun _ => True) v44011 y44010) := ⟨h0_⟩
             have n1_ : Aside0 (w23.heap[gb44001]? = some (.cells #[.int .i64 a0_0, .slice A0_1 l0_1.length c0_1] 26 (0, 0))) := ⟨h1_⟩
             have n2_ : Aside0 (w23.heap[gb44002]? = some (.cells #[.int .i64 0, .slice none 0 0] 26 (0, 0))) := ⟨h2_⟩
             have n3_ : Aside0 (Below w.heap.size w w23) := ⟨h3_⟩
             clear BK44001
             clear BK44002
             clear HB
             clear h0_ h1_ h2_ h3_
             have HO44012 := n0_
             have BK44001 := n1_
             have BK44002 := n2_
             have HB := n3_
             clear n0_ n1_ n2_ n3_
             have hHeld : w23.cell? ⟨gb44001, 0, none⟩ = some (.int .i64 a0_0) ∧ w23.cell? ⟨gb44001, 1, none⟩ = some (.slice A0_1 l0_1.length c0_1) := hS_
             refine norm_ (a' := ?_) ?_ ?_
             rotate_left
             ·simp only [putAll, Act.put, List.setIfInBounds_toArray, List.set_cons_zero, List.set_cons_succ]
              rfl
             refine two_ (i := 2) (j := 4) (Ni := some 15) (Nj := some 17) #[true, true, true, true, false, true, false, false, false, false, false] #[true, true, false, true, true, true, false, false, false, false, false] rfl rfl rfl rfl (two_of HT_.out (by kernel_rfl)) (by decide) (by decide) (fun K hK => ?_) (fun K hK => ?_)
             ·skip
              refine Kd.R_lit_step (Kd.int .i64) _ 3 ?hg (N := 15) ?hd (xs := ([] : List Int)) (inner := []) (ok := fun _ => True) (okp := fun _ => True) ?hr ?hp (fun _ hk => hk) trivial (Below.refl _ _) (Nat.le_refl _) (by simp) ?_; (case hd => rfl); (case hg => rfl); (case hr => first | (go_simp; done) | (go_simp; rfl)); (case hp => exact (Reps.none _ _))
              intro v44005 w24 ho25 hb hg_ hnew_
              clear hg_ hnew_
              (first | rw [← Ny44004.out] at ho25 | (simp only [Int.reduceToNat] at ho25; rw [← Ny44004.out] at ho25))
              have n0_ := aQ (Kd.R_elder' (by (with_reducible repeat (first | apply Kd.R_alloc | apply Kd.R_drewN | apply Kd.R_drew)); exact HO44012.out) (Kd.R_base ho25) hb)
              have n1_ := aQ (Kd.R_lower (Kd.R_new' ho25 (Kd.R_lt (by (with_reducible repeat (first | apply Kd.R_alloc | apply Kd.R_drewN | apply Kd.R_drew)); exact HO44012.out))) (below_size (by repeat (first | (with_reducible first | exact HB.out | apply below_alloc | apply pw_below_drewN | apply below_drew1 | refine below_set ?_ GE44001.out | refine below_set ?_ GE44002.out) | exact HB.out))))
              have n2_ := aQ (blk_below (g := gb44001) (o := .cells #[.int .i64 a0_0, .slice A0_1 l0_1.length c0_1] 26 (0, 0)) (by (with_reducible repeat (first | refine blk_drewN ?_ _ | refine blk_drew ?_ | refine blk_alloc ?_ _)); exact BK44001.out) hb)
              have n3_ := aQ (blk_below (g := gb44002) (o := .cells #[.int .i64 0, .slice none 0 0] 26 (0, 0)) (by (with_reducible repeat (first | refine blk_drewN ?_ _ | refine blk_drew ?_ | refine blk_alloc ?_ _)); exact BK44002.out) hb)
              have n4_ := aQ (below_step (by repeat (first | (with_reducible first | exact HB.out | apply below_alloc | apply pw_below_drewN | apply below_drew1 | refine below_set ?_ GE44001.out | refine below_set ?_ GE44002.out) | exact HB.out)) hb)
              clear HO44012
              clear BK44001
              clear BK44002
              clear HB
              have HO44012 := n0_
              have HO44006 := n1_
              have BK44001 := n2_
              have BK44002 := n3_
              have HB := n4_
              clear n0_ n1_ n2_ n3_ n4_
              clear hb ho25
              refine hK.out _ _ ⟨(blk_cell BK44001.out 0).trans rfl, (blk_cell BK44001.out 1).trans rfl⟩ (fun hHeld => ?_)
              clear hK K
              refine norm_ (a' := ?_) ?_ ?_
              rotate_left
              ·show Act.put _ (some 15) _ = _
               simp only [Act.put, List.setIfInBounds_toArray, List.set_cons_zero, List.set_cons_succ, i64_w, i32_w]
               rfl
              exact norm_ (by first | (simp only [putAll, Act.put, List.setIfInBounds_toArray, List.set_cons_zero, List.set_cons_succ]; done) | (simp only [putAll, Act.put, List.setIfInBounds_toArray, List.set_cons_zero, List.set_cons_succ]; rfl)) (hJ2_5 (v44005, v44011) _ ⟨hHeld, (by (with_reducible repeat (first | apply Kd.R_alloc | apply Kd.R_drewN | apply Kd.R_drew)); exact Kd.R_mono HO44006.out (fun _ hk => hk.2)), (by (with_reducible repeat (first | apply Kd.R_alloc | apply Kd.R_drewN | apply Kd.R_drew)); exact Kd.R_mono HO44012.out (fun _ hk => hk.2)), (by (with_reducible repeat (first | refine blk_drewN ?_ _ | refine blk_drew ?_ | refine blk_alloc ?_ _)); exact BK44001.out), (by (with_reducible repeat (first | refine blk_drewN ?_ _ | refine blk_drew ?_ | refine blk_alloc ?_ _)); exact BK44002.out), (by repeat (first | (with_reducible first | exact HB.out | apply below_alloc | apply pw_below_drewN | apply below_drew1 | refine below_set ?_ GE44001.out | refine below_set ?_ GE44002.out) | exact HB.out))⟩)
             ·skip
              refine Kd.R_lit_step (Kd.int .i64) _ 3 ?hg (N := 17) ?hd (xs := ([] : List Int)) (inner := []) (ok := fun _ => True) (okp := fun _ => True) ?hr ?hp (fun _ hk => hk) trivial (Below.refl _ _) (Nat.le_refl _) (by simp) ?_; (case hd => rfl); (case hg => rfl); (case hr => first | (go_simp; done) | (go_simp; rfl)); (case hp => exact (Reps.none _ _))
              intro v44008 w24 ho25 hb hg_ hnew_
              clear hg_ hnew_
              (first | rw [← Ny44007.out] at ho25 | (simp only [Int.reduceToNat] at ho25; rw [← Ny44007.out] at ho25))
              have n0_ := aQ (Kd.R_elder' (by (with_reducible repeat (first | apply Kd.R_alloc | apply Kd.R_drewN | apply Kd.R_drew)); exact HO44012.out) (Kd.R_base ho25) hb)
              have n1_ := aQ (Kd.R_lower (Kd.R_new' ho25 (Kd.R_lt (by (with_reducible repeat (first | apply Kd.R_alloc | apply Kd.R_drewN | apply Kd.R_drew)); exact HO44012.out))) (below_size (by repeat (first | (with_reducible first | exact HB.out | apply below_alloc | apply pw_below_drewN | apply below_drew1 | refine below_set ?_ GE44001.out | refine below_set ?_ GE44002.out) | exact HB.out))))
              have n2_ := aQ (blk_below (g := gb44001) (o := .cells #[.int .i64 a0_0, .slice A0_1 l0_1.length c0_1] 26 (0, 0)) (by (with_reducible repeat (first | refine blk_drewN ?_ _ | refine blk_drew ?_ | refine blk_alloc ?_ _)); exact BK44001.out) hb)
              have n3_ := aQ (blk_below (g := gb44002) (o := .cells #[.int .i64 0, .slice none 0 0] 26 (0, 0)) (by (with_reducible repeat (first | refine blk_drewN ?_ _ | refine blk_drew ?_ | refine blk_alloc ?_ _)); exact BK44002.out) hb)
              have n4_ := aQ (below_step (by repeat (first | (with_reducible first | exact HB.out | apply below_alloc | apply pw_below_drewN | apply below_drew1 | refine below_set ?_ GE44001.out | refine below_set ?_ GE44002.out) | exact HB.out)) hb)
              clear HO44012
              clear BK44001
              clear BK44002
              clear HB
              have HO44012 := n0_
              have HO44009 := n1_
              have BK44001 := n2_
              have BK44002 := n3_
              have HB := n4_
              clear n0_ n1_ n2_ n3_ n4_
              clear hb ho25
              refine hK.out _ _ ⟨(blk_cell BK44001.out 0).trans rfl, (blk_cell BK44001.out 1).trans rfl⟩ (fun hHeld => ?_)
              clear hK K
              refine norm_ (a' := ?_) ?_ ?_
              rotate_left
              ·show Act.put _ (some 17) _ = _
               simp only [Act.put, List.setIfInBounds_toArray, List.set_cons_zero, List.set_cons_succ, i64_w, i32_w]
               rfl
              exact norm_ (by first | (simp only [putAll, Act.put, List.setIfInBounds_toArray, List.set_cons_zero, List.set_cons_succ]; done) | (simp only [putAll, Act.put, List.setIfInBounds_toArray, List.set_cons_zero, List.set_cons_succ]; rfl)) (hJ4_5 (v44008, v44011) _ ⟨hHeld, (by (with_reducible repeat (first | apply Kd.R_alloc | apply Kd.R_drewN | apply Kd.R_drew)); exact Kd.R_mono HO44009.out (fun _ hk => hk.2)), (by (with_reducible repeat (first | apply Kd.R_alloc | apply Kd.R_drewN | apply Kd.R_drew)); exact Kd.R_mono HO44012.out (fun _ hk => hk.2)), (by (with_reducible repeat (first | refine blk_drewN ?_ _ | refine blk_drew ?_ | refine blk_alloc ?_ _)); exact BK44001.out), (by (with_reducible repeat (first | refine blk_drewN ?_ _ | refine blk_drew ?_ | refine blk_alloc ?_ _)); exact BK44002.out), (by repeat (first | (with_reducible first | exact HB.out | apply below_alloc | apply pw_below_drewN | apply below_drew1 | refine below_set ?_ GE44001.out | refine below_set ?_ GE44002.out) | exact HB.out))⟩)
           ·skip
            rintro v44008 w23 ⟨hS_, h0_, h1_, h2_, h3_⟩
            have n0_ : Aside0 (Kd.R (Kd.int .i64) 3 w23 w.heap.size (fun _ => True) v44008 y44007) := ⟨h0_⟩
            have n1_ : Aside0 (w23.heap[gb44001]? = some (.cells #[.int .i64 a0_0, .slice A0_1 l0_1.length c0_1] 26 (0, 0))) := ⟨h1_⟩
            have n2_ : Aside0 (w23.heap[gb44002]? = some (.cells #[.int .i64 0, .slice none 0 0] 26 (0, 0))) := ⟨h2_⟩
            have n3_ : Aside0 (Below w.heap.size w w23) := ⟨h3_⟩
            clear BK44001
            clear BK44002
            clear HB
            clear h0_ h1_ h2_ h3_
            have HO44009 := n0_
            have BK44001 := n1_
            have BK44002 := n2_
            have HB := n3_
            clear n0_ n1_ n2_ n3_
            have hHeld : w23.cell? ⟨gb44001, 0, none⟩ = some (.int .i64 a0_0) ∧ w23.cell? ⟨gb44001, 1, none⟩ = some (.slice A0_1 l0_1.length c0_1) := hS_
            refine norm_ (a' := ?_) ?_ ?_
            rotate_left
            ·simp only [putAll, Act.put, List.setIfInBounds_toArray, List.set_cons_zero, List.set_cons_succ]
             rfl
            refine two_ (i := 2) (j := 5) (Ni := some 15) (Nj := some 18) #[true, true, true, true, true, false, false, false, false, false, false] #[true, true, false, true, true, true, false, false, false, false, false] rfl rfl rfl rfl (two_of HT_.out (by kernel_rfl)) (by decide) (by decide) (fun K hK => ?_) (fun K hK => ?_)
            ·skip
             refine Kd.R_lit_step (Kd.int .i64) _ 3 ?hg (N := 15) ?hd (xs := ([] : List Int)) (inner := []) (ok := fun _ => True) (okp := fun _ => True) ?hr ?hp (fun _ hk => hk) trivial (Below.refl _ _) (Nat.le_refl _) (by simp) ?_; (case hd => rfl); (case hg => rfl); (case hr => first | (go_simp; done) | (go_simp; rfl)); (case hp => exact (Reps.none _ _))
             intro v44005 w24 ho25 hb hg_ hnew_
             clear hg_ hnew_
             (first | rw [← Ny44004.out] at ho25 | (simp only [Int.reduceToNat] at ho25; rw [← Ny44004.out] at ho25))
             have n0_ := aQ (Kd.R_elder' (by (with_reducible repeat (first | apply Kd.R_alloc | apply Kd.R_drewN | apply Kd.R_drew)); exact HO44009.out) (Kd.R_base ho25) hb)
             have n1_ := aQ (Kd.R_lower (Kd.R_new' ho25 (Kd.R_lt (by (with_reducible repeat (first | apply Kd.R_alloc | apply Kd.R_drewN | apply Kd.R_drew)); exact HO44009.out))) (below_size (by repeat (first | (with_reducible first | exact HB.out | apply below_alloc | apply pw_below_drewN | apply below_drew1 | refine below_set ?_ GE44001.out | refine below_set ?_ GE44002.out) | exact HB.out))))
             have n2_ := aQ (blk_below (g := gb44001) (o := .cells #[.int .i64 a0_0, .slice A0_1 l0_1.length c0_1] 26 (0, 0)) (by (with_reducible repeat (first | refine blk_drewN ?_ _ | refine blk_drew ?_ | refine blk_alloc ?_ _)); exact BK44001.out) hb)
             have n3_ := aQ (blk_below (g := gb44002) (o := .cells #[.int .i64 0, .slice none 0 0] 26 (0, 0)) (by (with_reducible repeat (first | refine blk_drewN ?_ _ | refine blk_drew ?_ | refine blk_alloc ?_ _)); exact BK44002.out) hb)
             have n4_ := aQ (below_step (by repeat (first | (with_reducible first | exact HB.out | apply below_alloc | apply pw_below_drewN | apply below_drew1 | refine below_set ?_ GE44001.out | refine below_set ?_ GE44002.out) | exact HB.out)) hb)
             clear HO44009
             clear BK44001
             clear BK44002
             clear HB
             have HO44009 := n0_
             have HO44006 := n1_
             have BK44001 := n2_
             have BK44002 := n3_
             have HB := n4_
             clear n0_ n1_ n2_ n3_ n4_
             clear hb ho25
             refine hK.out _ _ ⟨(blk_cell BK44001.out 0).trans rfl, (blk_cell BK44001.out 1).trans rfl⟩ (fun hHeld => ?_)
             clear hK K
             refine norm_ (a' := ?_) ?_ ?_
             rotate_left
             ·show Act.put _ (some 15) _ = _
              simp only [Act.put, List.setIfInBounds_toArray, List.set_cons_zero, List.set_cons_succ, i64_w, i32_w]
              rfl
             exact norm_ (by first | (simp only [putAll, Act.put, List.setIfInBounds_toArray, List.set_cons_zero, List.set_cons_succ]; done) | (simp only [putAll, Act.put, List.setIfInBounds_toArray, List.set_cons_zero, List.set_cons_succ]; rfl)) (hJ2_4 (v44005, v44008) _ ⟨hHeld, (by (with_reducible repeat (first | apply Kd.R_alloc | apply Kd.R_drewN | apply Kd.R_drew)); exact Kd.R_mono HO44006.out (fun _ hk => hk.2)), (by (with_reducible repeat (first | apply Kd.R_alloc | apply Kd.R_drewN | apply Kd.R_drew)); exact Kd.R_mono HO44009.out (fun _ hk => hk.2)), (by (with_reducible repeat (first | refine blk_drewN ?_ _ | refine blk_drew ?_ | refine blk_alloc ?_ _)); exact BK44001.out), (by (with_reducible repeat (first | refine blk_drewN ?_ _ | refine blk_drew ?_ | refine blk_alloc ?_ _)); exact BK44002.out), (by repeat (first | (with_reducible first | exact HB.out | apply below_alloc | apply pw_below_drewN | apply below_drew1 | refine below_set ?_ GE44001.out | refine below_set ?_ GE44002.out) | exact HB.out))⟩)
            ·skip
             refine Kd.R_lit_step (Kd.int .i64) _ 3 ?hg (N := 18) ?hd (xs := ([] : List Int)) (inner := []) (ok := fun _ => True) (okp := fun _ => True) ?hr ?hp (fun _ hk => hk) trivial (Below.refl _ _) (Nat.le_refl _) (by simp) ?_; (case hd => rfl); (case hg => rfl); (case hr => first | (go_simp; done) | (go_simp; rfl)); (case hp => exact (Reps.none _ _))
             intro v44011 w24 ho25 hb hg_ hnew_
             clear hg_ hnew_
             (first | rw [← Ny44010.out] at ho25 | (simp only [Int.reduceToNat] at ho25; rw [← Ny44010.out] at ho25))
             have n0_ := aQ (Kd.R_elder' (by (with_reducible repeat (first | apply Kd.R_alloc | apply Kd.R_drewN | apply Kd.R_drew)); exact HO44009.out) (Kd.R_base ho25) hb)
             have n1_ := aQ (Kd.R_lower (Kd.R_new' ho25 (Kd.R_lt (by (with_reducible repeat (first | apply Kd.R_alloc | apply Kd.R_drewN | apply Kd.R_drew)); exact HO44009.out))) (below_size (by repeat (first | (with_reducible first | exact HB.out | apply below_alloc | apply pw_below_drewN | apply below_drew1 | refine below_set ?_ GE44001.out | refine below_set ?_ GE44002.out) | exact HB.out))))
             have n2_ := aQ (blk_below (g := gb44001) (o := .cells #[.int .i64 a0_0, .slice A0_1 l0_1.length c0_1] 26 (0, 0)) (by (with_reducible repeat (first | refine blk_drewN ?_ _ | refine blk_drew ?_ | refine blk_alloc ?_ _)); exact BK44001.out) hb)
             have n3_ := aQ (blk_below (g := gb44002) (o := .cells #[.int .i64 0, .slice none 0 0] 26 (0, 0)) (by (with_reducible repeat (first | refine blk_drewN ?_ _ | refine blk_drew ?_ | refine blk_alloc ?_ _)); exact BK44002.out) hb)
             have n4_ := aQ (below_step (by repeat (first | (with_reducible first | exact HB.out | apply below_alloc | apply pw_below_drewN | apply below_drew1 | refine below_set ?_ GE44001.out | refine below_set ?_ GE44002.out) | exact HB.out)) hb)
             clear HO44009
             clear BK44001
             clear BK44002
             clear HB
             have HO44009 := n0_
             have HO44012 := n1_
             have BK44001 := n2_
             have BK44002 := n3_
             have HB := n4_
             clear n0_ n1_ n2_ n3_ n4_
             clear hb ho25
             refine hK.out _ _ ⟨(blk_cell BK44001.out 0).trans rfl, (blk_cell BK44001.out 1).trans rfl⟩ (fun hHeld => ?_)
             clear hK K
             refine norm_ (a' := ?_) ?_ ?_
             rotate_left
             ·show Act.put _ (some 18) _ = _
              simp only [Act.put, List.setIfInBounds_toArray, List.set_cons_zero, List.set_cons_succ, i64_w, i32_w]
              rfl
             exact norm_ (by first | (simp only [putAll, Act.put, List.setIfInBounds_toArray, List.set_cons_zero, List.set_cons_succ]; done) | (simp only [putAll, Act.put, List.setIfInBounds_toArray, List.set_cons_zero, List.set_cons_succ]; rfl)) (hJ4_5 (v44008, v44011) _ ⟨hHeld, (by (with_reducible repeat (first | apply Kd.R_alloc | apply Kd.R_drewN | apply Kd.R_drew)); exact Kd.R_mono HO44009.out (fun _ hk => hk.2)), (by (with_reducible repeat (first | apply Kd.R_alloc | apply Kd.R_drewN | apply Kd.R_drew)); exact Kd.R_mono HO44012.out (fun _ hk => hk.2)), (by (with_reducible repeat (first | refine blk_drewN ?_ _ | refine blk_drew ?_ | refine blk_alloc ?_ _)); exact BK44001.out), (by (with_reducible repeat (first | refine blk_drewN ?_ _ | refine blk_drew ?_ | refine blk_alloc ?_ _)); exact BK44002.out), (by repeat (first | (with_reducible first | exact HB.out | apply below_alloc | apply pw_below_drewN | apply below_drew1 | refine below_set ?_ GE44001.out | refine below_set ?_ GE44002.out) | exact HB.out))⟩)
          ·skip
           rintro v44005 w23 ⟨hS_, h0_, h1_, h2_, h3_⟩
           have n0_ : Aside0 (Kd.R (Kd.int .i64) 3 w23 w.heap.size (fun _ => True) v44005 y44004) := ⟨h0_⟩
           have n1_ : Aside0 (w23.heap[gb44001]? = some (.cells #[.int .i64 a0_0, .slice A0_1 l0_1.length c0_1] 26 (0, 0))) := ⟨h1_⟩
           have n2_ : Aside0 (w23.heap[gb44002]? = some (.cells #[.int .i64 0, .slice none 0 0] 26 (0, 0))) := ⟨h2_⟩
           have n3_ : Aside0 (Below w.heap.size w w23) := ⟨h3_⟩
           clear BK44001
           clear BK44002
           clear HB
           clear h0_ h1_ h2_ h3_
           have HO44006 := n0_
           have BK44001 := n1_
           have BK44002 := n2_
           have HB := n3_
           clear n0_ n1_ n2_ n3_
           have hHeld : w23.cell? ⟨gb44001, 0, none⟩ = some (.int .i64 a0_0) ∧ w23.cell? ⟨gb44001, 1, none⟩ = some (.slice A0_1 l0_1.length c0_1) := hS_
           refine norm_ (a' := ?_) ?_ ?_
           rotate_left
           ·simp only [putAll, Act.put, List.setIfInBounds_toArray, List.set_cons_zero, List.set_cons_succ]
            rfl
           refine two_ (i := 4) (j := 5) (Ni := some 17) (Nj := some 18) #[true, true, true, true, true, false, false, false, false, false, false] #[true, true, true, true, false, true, false, false, false, false, false] rfl rfl rfl rfl (two_of HT_.out (by kernel_rfl)) (by decide) (by decide) (fun K hK => ?_) (fun K hK => ?_)
           ·skip
            refine Kd.R_lit_step (Kd.int .i64) _ 3 ?hg (N := 17) ?hd (xs := ([] : List Int)) (inner := []) (ok := fun _ => True) (okp := fun _ => True) ?hr ?hp (fun _ hk => hk) trivial (Below.refl _ _) (Nat.le_refl _) (by simp) ?_; (case hd => rfl); (case hg => rfl); (case hr => first | (go_simp; done) | (go_simp; rfl)); (case hp => exact (Reps.none _ _))
            intro v44008 w24 ho25 hb hg_ hnew_
            clear hg_ hnew_
            (first | rw [← Ny44007.out] at ho25 | (simp only [Int.reduceToNat] at ho25; rw [← Ny44007.out] at ho25))
            have n0_ := aQ (Kd.R_elder' (by (with_reducible repeat (first | apply Kd.R_alloc | apply Kd.R_drewN | apply Kd.R_drew)); exact HO44006.out) (Kd.R_base ho25) hb)
            have n1_ := aQ (Kd.R_lower (Kd.R_new' ho25 (Kd.R_lt (by (with_reducible repeat (first | apply Kd.R_alloc | apply Kd.R_drewN | apply Kd.R_drew)); exact HO44006.out))) (below_size (by repeat (first | (with_reducible first | exact HB.out | apply below_alloc | apply pw_below_drewN | apply below_drew1 | refine below_set ?_ GE44001.out | refine below_set ?_ GE44002.out) | exact HB.out))))
            have n2_ := aQ (blk_below (g := gb44001) (o := .cells #[.int .i64 a0_0, .slice A0_1 l0_1.length c0_1] 26 (0, 0)) (by (with_reducible repeat (first | refine blk_drewN ?_ _ | refine blk_drew ?_ | refine blk_alloc ?_ _)); exact BK44001.out) hb)
            have n3_ := aQ (blk_below (g := gb44002) (o := .cells #[.int .i64 0, .slice none 0 0] 26 (0, 0)) (by (with_reducible repeat (first | refine blk_drewN ?_ _ | refine blk_drew ?_ | refine blk_alloc ?_ _)); exact BK44002.out) hb)
            have n4_ := aQ (below_step (by repeat (first | (with_reducible first | exact HB.out | apply below_alloc | apply pw_below_drewN | apply below_drew1 | refine below_set ?_ GE44001.out | refine below_set ?_ GE44002.out) | exact HB.out)) hb)
            clear HO44006
            clear BK44001
            clear BK44002
            clear HB
            have HO44006 := n0_
            have HO44009 := n1_
            have BK44001 := n2_
            have BK44002 := n3_
            have HB := n4_
            clear n0_ n1_ n2_ n3_ n4_
            clear hb ho25
            refine hK.out _ _ ⟨(blk_cell BK44001.out 0).trans rfl, (blk_cell BK44001.out 1).trans rfl⟩ (fun hHeld => ?_)
            clear hK K
            refine norm_ (a' := ?_) ?_ ?_
            rotate_left
            ·show Act.put _ (some 17) _ = _
             simp only [Act.put, List.setIfInBounds_toArray, List.set_cons_zero, List.set_cons_succ, i64_w, i32_w]
             rfl
            exact norm_ (by first | (simp only [putAll, Act.put, List.setIfInBounds_toArray, List.set_cons_zero, List.set_cons_succ]; done) | (simp only [putAll, Act.put, List.setIfInBounds_toArray, List.set_cons_zero, List.set_cons_succ]; rfl)) (hJ2_4 (v44005, v44008) _ ⟨hHeld, (by (with_reducible repeat (first | apply Kd.R_alloc | apply Kd.R_drewN | apply Kd.R_drew)); exact Kd.R_mono HO44006.out (fun _ hk => hk.2)), (by (with_reducible repeat (first | apply Kd.R_alloc | apply Kd.R_drewN | apply Kd.R_drew)); exact Kd.R_mono HO44009.out (fun _ hk => hk.2)), (by (with_reducible repeat (first | refine blk_drewN ?_ _ | refine blk_drew ?_ | refine blk_alloc ?_ _)); exact BK44001.out), (by (with_reducible repeat (first | refine blk_drewN ?_ _ | refine blk_drew ?_ | refine blk_alloc ?_ _)); exact BK44002.out), (by repeat (first | (with_reducible first | exact HB.out | apply below_alloc | apply pw_below_drewN | apply below_drew1 | refine below_set ?_ GE44001.out | refine below_set ?_ GE44002.out) | exact HB.out))⟩)
           ·skip
            refine Kd.R_lit_step (Kd.int .i64) _ 3 ?hg (N := 18) ?hd (xs := ([] : List Int)) (inner := []) (ok := fun _ => True) (okp := fun _ => True) ?hr ?hp (fun _ hk => hk) trivial (Below.refl _ _) (Nat.le_refl _) (by simp) ?_; (case hd => rfl); (case hg => rfl); (case hr => first | (go_simp; done) | (go_simp; rfl)); (case hp => exact (Reps.none _ _))
            intro v44011 w24 ho25 hb hg_ hnew_
            clear hg_ hnew_
            (first | rw [← Ny44010.out] at ho25 | (simp only [Int.reduceToNat] at ho25; rw [← Ny44010.out] at ho25))
            have n0_ := aQ (Kd.R_elder' (by (with_reducible repeat (first | apply Kd.R_alloc | apply Kd.R_drewN | apply Kd.R_drew)); exact HO44006.out) (Kd.R_base ho25) hb)
            have n1_ := aQ (Kd.R_lower (Kd.R_new' ho25 (Kd.R_lt (by (with_reducible repeat (first | apply Kd.R_alloc | apply Kd.R_drewN | apply Kd.R_drew)); exact HO44006.out))) (below_size (by repeat (first | (with_reducible first | exact HB.out | apply below_alloc | apply pw_below_drewN | apply below_drew1 | refine below_set ?_ GE44001.out | refine below_set ?_ GE44002.out) | exact HB.out))))
            have n2_ := aQ (blk_below (g := gb44001) (o := .cells #[.int .i64 a0_0, .slice A0_1 l0_1.length c0_1] 26 (0, 0)) (by (with_reducible repeat (first | refine blk_drewN ?_ _ | refine blk_drew ?_ | refine blk_alloc ?_ _)); exact BK44001.out) hb)
            have n3_ := aQ (blk_below (g := gb44002) (o := .cells #[.int .i64 0, .slice none 0 0] 26 (0, 0)) (by (with_reducible repeat (first | refine blk_drewN ?_ _ | refine blk_drew ?_ | refine blk_alloc ?_ _)); exact BK44002.out) hb)
            have n4_ := aQ (below_step (by repeat (first | (with_reducible first | exact HB.out | apply below_alloc | apply pw_below_drewN | apply below_drew1 | refine below_set ?_ GE44001.out | refine below_set ?_ GE44002.out) | exact HB.out)) hb)
            clear HO44006
            clear BK44001
            clear BK44002
            clear HB
            have HO44006 := n0_
            have HO44012 := n1_
            have BK44001 := n2_
            have BK44002 := n3_
            have HB := n4_
            clear n0_ n1_ n2_ n3_ n4_
            clear hb ho25
            refine hK.out _ _ ⟨(blk_cell BK44001.out 0).trans rfl, (blk_cell BK44001.out 1).trans rfl⟩ (fun hHeld => ?_)
            clear hK K
            refine norm_ (a' := ?_) ?_ ?_
            rotate_left
            ·show Act.put _ (some 18) _ = _
             simp only [Act.put, List.setIfInBounds_toArray, List.set_cons_zero, List.set_cons_succ, i64_w, i32_w]
             rfl
            exact norm_ (by first | (simp only [putAll, Act.put, List.setIfInBounds_toArray, List.set_cons_zero, List.set_cons_succ]; done) | (simp only [putAll, Act.put, List.setIfInBounds_toArray, List.set_cons_zero, List.set_cons_succ]; rfl)) (hJ2_5 (v44005, v44011) _ ⟨hHeld, (by (with_reducible repeat (first | apply Kd.R_alloc | apply Kd.R_drewN | apply Kd.R_drew)); exact Kd.R_mono HO44006.out (fun _ hk => hk.2)), (by (with_reducible repeat (first | apply Kd.R_alloc | apply Kd.R_drewN | apply Kd.R_drew)); exact Kd.R_mono HO44012.out (fun _ hk => hk.2)), (by (with_reducible repeat (first | refine blk_drewN ?_ _ | refine blk_drew ?_ | refine blk_alloc ?_ _)); exact BK44001.out), (by (with_reducible repeat (first | refine blk_drewN ?_ _ | refine blk_drew ?_ | refine blk_alloc ?_ _)); exact BK44002.out), (by repeat (first | (with_reducible first | exact HB.out | apply below_alloc | apply pw_below_drewN | apply below_drew1 | refine below_set ?_ GE44001.out | refine below_set ?_ GE44002.out) | exact HB.out))⟩)
         ·skip
          rintro ⟨v44008, v44011⟩ w25 ⟨hS_, h0_, h1_, h2_, h3_, h4_⟩
          have n0_ : Aside0 (Kd.R (Kd.int .i64) 3 w25 w.heap.size (fun k_ => some k_ ≠ (v44011 : Value).ownBlock) v44008 y44007) := ⟨h0_⟩
          have n1_ : Aside0 (Kd.R (Kd.int .i64) 3 w25 w.heap.size (fun k_ => some k_ ≠ (v44008 : Value).ownBlock) v44011 y44010) := ⟨h1_⟩
          have n2_ : Aside0 (w25.heap[gb44001]? = some (.cells #[.int .i64 a0_0, .slice A0_1 l0_1.length c0_1] 26 (0, 0))) := ⟨h2_⟩
          have n3_ : Aside0 (w25.heap[gb44002]? = some (.cells #[.int .i64 0, .slice none 0 0] 26 (0, 0))) := ⟨h3_⟩
          have n4_ : Aside0 (Below w.heap.size w w25) := ⟨h4_⟩
          clear BK44001
          clear BK44002
          clear HB
          clear h0_ h1_ h2_ h3_ h4_
          have HO44009 := n0_
          have HO44012 := n1_
          have BK44001 := n2_
          have BK44002 := n3_
          have HB := n4_
          clear n0_ n1_ n2_ n3_ n4_
          have hHeld : w25.cell? ⟨gb44001, 0, none⟩ = some (.int .i64 a0_0) ∧ w25.cell? ⟨gb44001, 1, none⟩ = some (.slice A0_1 l0_1.length c0_1) := hS_
          refine norm_ (a' := ?_) ?_ ?_
          rotate_left
          ·simp only [putAll, Act.put, List.setIfInBounds_toArray, List.set_cons_zero, List.set_cons_succ]
           rfl
          refine two_ (i := 2) (j := 6) (Ni := some 15) (Nj := some 19) #[true, true, true, true, true, true, false, false, false, false, false] #[true, true, false, true, true, true, true, false, false, false, false] rfl rfl rfl rfl (two_of HT_.out (by kernel_rfl)) (by decide) (by decide) (fun K hK => ?_) (fun K hK => ?_)
          ·skip
           refine Kd.R_lit_step (Kd.int .i64) _ 3 ?hg (N := 15) ?hd (xs := ([] : List Int)) (inner := []) (ok := fun _ => True) (okp := fun _ => True) ?hr ?hp (fun _ hk => hk) trivial (Below.refl _ _) (Nat.le_refl _) (by simp) ?_; (case hd => rfl); (case hg => rfl); (case hr => first | (go_simp; done) | (go_simp; rfl)); (case hp => exact (Reps.none _ _))
           intro v44005 w26 ho27 hb hg_ hnew_
           clear hg_ hnew_
           (first | rw [← Ny44004.out] at ho27 | (simp only [Int.reduceToNat] at ho27; rw [← Ny44004.out] at ho27))
           have n0_ := aQ (Kd.R_elder' (by (with_reducible repeat (first | apply Kd.R_alloc | apply Kd.R_drewN | apply Kd.R_drew)); exact HO44009.out) (Kd.R_base ho27) hb)
           have n1_ := aQ (Kd.R_elder' (by (with_reducible repeat (first | apply Kd.R_alloc | apply Kd.R_drewN | apply Kd.R_drew)); exact HO44012.out) (Kd.R_base ho27) hb)
           have n2_ := aQ (Kd.R_lower (Kd.R_new' (Kd.R_new' ho27 (Kd.R_lt (by (with_reducible repeat (first | apply Kd.R_alloc | apply Kd.R_drewN | apply Kd.R_drew)); exact HO44009.out))) (Kd.R_lt (by (with_reducible repeat (first | apply Kd.R_alloc | apply Kd.R_drewN | apply Kd.R_drew)); exact HO44012.out))) (below_size (by repeat (first | (with_reducible first | exact HB.out | apply below_alloc | apply pw_below_drewN | apply below_drew1 | refine below_set ?_ GE44001.out | refine below_set ?_ GE44002.out) | exact HB.out))))
           have n3_ := aQ (blk_below (g := gb44001) (o := .cells #[.int .i64 a0_0, .slice A0_1 l0_1.length c0_1] 26 (0, 0)) (by (with_reducible repeat (first | refine blk_drewN ?_ _ | refine blk_drew ?_ | refine blk_alloc ?_ _)); exact BK44001.out) hb)
           have n4_ := aQ (blk_below (g := gb44002) (o := .cells #[.int .i64 0, .slice none 0 0] 26 (0, 0)) (by (with_reducible repeat (first | refine blk_drewN ?_ _ | refine blk_drew ?_ | refine blk_alloc ?_ _)); exact BK44002.out) hb)
           have n5_ := aQ (below_step (by repeat (first | (with_reducible first | exact HB.out | apply below_alloc | apply pw_below_drewN | apply below_drew1 | refine below_set ?_ GE44001.out | refine below_set ?_ GE44002.out) | exact HB.out)) hb)
           clear HO44009
           clear HO44012
           clear BK44001
           clear BK44002
           clear HB
           have HO44009 := n0_
           have HO44012 := n1_
           have HO44006 := n2_
           have BK44001 := n3_
           have BK44002 := n4_
           have HB := n5_
           clear n0_ n1_ n2_ n3_ n4_ n5_
           clear hb ho27
           refine hK.out _ _ ⟨(blk_cell BK44001.out 0).trans rfl, (blk_cell BK44001.out 1).trans rfl⟩ (fun hHeld => ?_)
           clear hK K
           refine norm_ (a' := ?_) ?_ ?_
           rotate_left
           ·show Act.put _ (some 15) _ = _
            simp only [Act.put, List.setIfInBounds_toArray, List.set_cons_zero, List.set_cons_succ, i64_w, i32_w]
            rfl
           exact norm_ (by first | (simp only [putAll, Act.put, List.setIfInBounds_toArray, List.set_cons_zero, List.set_cons_succ]; done) | (simp only [putAll, Act.put, List.setIfInBounds_toArray, List.set_cons_zero, List.set_cons_succ]; rfl)) (hJ2_4_5 (v44005, v44008, v44011) _ ⟨hHeld, (by (with_reducible repeat (first | apply Kd.R_alloc | apply Kd.R_drewN | apply Kd.R_drew)); exact Kd.R_mono HO44006.out (fun _ hk => ⟨hk.1.2, hk.2⟩)), (by (with_reducible repeat (first | apply Kd.R_alloc | apply Kd.R_drewN | apply Kd.R_drew)); exact Kd.R_mono HO44009.out (fun _ hk => ⟨hk.2, hk.1⟩)), (by (with_reducible repeat (first | apply Kd.R_alloc | apply Kd.R_drewN | apply Kd.R_drew)); exact Kd.R_mono HO44012.out (fun _ hk => ⟨hk.2, hk.1⟩)), (by (with_reducible repeat (first | refine blk_drewN ?_ _ | refine blk_drew ?_ | refine blk_alloc ?_ _)); exact BK44001.out), (by (with_reducible repeat (first | refine blk_drewN ?_ _ | refine blk_drew ?_ | refine blk_alloc ?_ _)); exact BK44002.out), (by repeat (first | (with_reducible first | exact HB.out | apply below_alloc | apply pw_below_drewN | apply below_drew1 | refine below_set ?_ GE44001.out | refine below_set ?_ GE44002.out) | exact HB.out))⟩)
          ·skip
           obtain ⟨Ao26, co26, eAo26⟩ := Kd.R_slice HO44009.out
           subst eAo26
           obtain ⟨Ao27, co27, eAo27⟩ := Kd.R_slice HO44012.out
           subst eAo27
           refine goes_ Try.func108 (by kernel_rfl) rfl #[.agg #[.int .i64 a0_0, .slice A0_1 l0_1.length c0_1], .slice Ao26 y44007.length co26, .slice Ao27 y44010.length co27] (by rfl) rfl rfl (by (try simp only [List.map_toArray, List.map_cons, List.map_nil]); first | done | rfl | (simp only [List.length_drop, List.length_take]; rfl)) ?_
           with_reducible refine (spec_l18Canon.calls k a0_0 _ _ l0_1 _ _ y44007 (fun k_ => some k_ = (.slice Ao27 y44010.length co27 : Value).ownBlock) _ _ y44010 t44013 _ ?side1 ?side2 ?side3 ?side4 ?side5 A12.out).mono ?_
           (case side1 => repeat (first | exact (Kd.C_below HR0_1.out HB.out) | (with_reducible refine Kd.C_alloc ?_ _) | (with_reducible refine Kd.C_drewN ?_ _) | (with_reducible refine Kd.C_drew ?_)))
           (case side2 => exact HC0_1.out)
           (case side3 => repeat (first | exact (Kd.R_reads' HO44009.out).2.2 | (with_reducible refine Kd.C_alloc ?_ _) | (with_reducible refine Kd.C_drewN ?_ _) | (with_reducible refine Kd.C_drew ?_)))
           (case side4 => exact (Kd.R_reads' HO44009.out).2.1)
           (case side5 => exact Kd.R_V (Kd.R_tight rfl (Kd.R_types (Kd.R_types (HO44012.out) BK44001.out (by decide)) BK44002.out (by decide))))
           rintro e w28 ⟨v44014, rfl, ho0, hb⟩
           refine ⟨_, rfl, ?_⟩
           have n0_ := aQ (Kd.R_below (by (with_reducible repeat (first | apply Kd.R_alloc | apply Kd.R_drewN | apply Kd.R_drew)); exact HO44009.out) hb)
           have n1_ := aQ (Kd.R_below (by (with_reducible repeat (first | apply Kd.R_alloc | apply Kd.R_drewN | apply Kd.R_drew)); exact HO44012.out) hb)
           have n2_ := aQ (Kd.V_lower (Kd.V_mono (ok' := fun k_ => some k_ ≠ (.slice Ao26 y44007.length co26 : Value).ownBlock ∧ k_ ≠ gb44001 ∧ k_ ≠ gb44002) ho0 (fun k_ hk_ => ⟨Or.elim hk_ (fun hs_ => ((Kd.R_types (Kd.R_types (HO44012.out) BK44001.out (by decide)) BK44002.out (by decide)).1 k_ hs_.symm).1.1) (fun hn_ => (Kd.fresh' (Kd.R_lt (by (with_reducible repeat (first | apply Kd.R_alloc | apply Kd.R_drewN | apply Kd.R_drew)); exact HO44009.out)) k_ hn_)), Or.elim hk_ (fun hs_ => ((Kd.R_types (Kd.R_types (HO44012.out) BK44001.out (by decide)) BK44002.out (by decide)).1 k_ hs_.symm).1.2) (fun hn_ => (Kd.freshB (g := gb44001) (o := .cells #[.int .i64 a0_0, .slice A0_1 l0_1.length c0_1] 26 (0, 0)) (by (with_reducible repeat (first | refine blk_drewN ?_ _ | refine blk_drew ?_ | refine blk_alloc ?_ _)); exact BK44001.out) k_ hn_)), Or.elim hk_ (fun hs_ => ((Kd.R_types (Kd.R_types (HO44012.out) BK44001.out (by decide)) BK44002.out (by decide)).1 k_ hs_.symm).2) (fun hn_ => (Kd.freshB (g := gb44002) (o := .cells #[.int .i64 0, .slice none 0 0] 26 (0, 0)) (by (with_reducible repeat (first | refine blk_drewN ?_ _ | refine blk_drew ?_ | refine blk_alloc ?_ _)); exact BK44002.out) k_ hn_))⟩)) (below_size (by repeat (first | (with_reducible first | exact HB.out | apply below_alloc | apply pw_below_drewN | apply below_drew1 | refine below_set ?_ GE44001.out | refine below_set ?_ GE44002.out) | exact HB.out))))
           have n3_ := aQ (blk_below (g := gb44001) (o := .cells #[.int .i64 a0_0, .slice A0_1 l0_1.length c0_1] 26 (0, 0)) (by (with_reducible repeat (first | refine blk_drewN ?_ _ | refine blk_drew ?_ | refine blk_alloc ?_ _)); exact BK44001.out) hb)
           have n4_ := aQ (blk_below (g := gb44002) (o := .cells #[.int .i64 0, .slice none 0 0] 26 (0, 0)) (by (with_reducible repeat (first | refine blk_drewN ?_ _ | refine blk_drew ?_ | refine blk_alloc ?_ _)); exact BK44002.out) hb)
           have n5_ := aQ (below_step (by repeat (first | (with_reducible first | exact HB.out | apply below_alloc | apply pw_below_drewN | apply below_drew1 | refine below_set ?_ GE44001.out | refine below_set ?_ GE44002.out) | exact HB.out)) hb)
           clear HO44009
           clear HO44012
           clear BK44001
           clear BK44002
           clear HB
           have HO44009 := n0_
           have HO44012 := n1_
           have HO44015 := n2_
           have BK44001 := n3_
           have BK44002 := n4_
           have HB := n5_
           clear n0_ n1_ n2_ n3_ n4_ n5_
           (try clear hb)
           (try clear hb2)
           (try clear hk)
           (try clear hi)
           (try clear ho0)
           refine hK.out _ _ ⟨(blk_cell BK44001.out 0).trans rfl, (blk_cell BK44001.out 1).trans rfl⟩ (fun hHeld => ?_)
           clear hK K
           refine norm_ (a' := ?_) ?_ ?_
           rotate_left
           ·show Act.put _ (some 19) _ = _
            simp only [Act.put, List.setIfInBounds_toArray, List.set_cons_zero, List.set_cons_succ, i64_w, i32_w]
            rfl
           exact norm_ (by first | (simp only [putAll, Act.put, List.setIfInBounds_toArray, List.set_cons_zero, List.set_cons_succ]; done) | (simp only [putAll, Act.put, List.setIfInBounds_toArray, List.set_cons_zero, List.set_cons_succ]; rfl)) (hJ4_5_6 (.slice Ao26 y44007.length co26, .slice Ao27 y44010.length co27, v44014) _ ⟨hHeld, (by (with_reducible repeat (first | apply Kd.R_alloc | apply Kd.R_drewN | apply Kd.R_drew)); exact HO44009.out), (by (with_reducible repeat (first | apply Kd.R_alloc | apply Kd.R_drewN | apply Kd.R_drew)); exact HO44012.out), (by (with_reducible repeat (first | apply Kd.V_alloc | apply Kd.V_drewN | apply Kd.V_drew)); exact HO44015.out), (by (with_reducible repeat (first | refine blk_drewN ?_ _ | refine blk_drew ?_ | refine blk_alloc ?_ _)); exact BK44001.out), (by (with_reducible repeat (first | refine blk_drewN ?_ _ | refine blk_drew ?_ | refine blk_alloc ?_ _)); exact BK44002.out), (by repeat (first | (with_reducible first | exact HB.out | apply below_alloc | apply pw_below_drewN | apply below_drew1 | refine below_set ?_ GE44001.out | refine below_set ?_ GE44002.out) | exact HB.out))⟩)
        ·skip
         rintro ⟨v44005, v44011⟩ w25 ⟨hS_, h0_, h1_, h2_, h3_, h4_⟩
         have n0_ : Aside0 (Kd.R (Kd.int .i64) 3 w25 w.heap.size (fun k_ => some k_ ≠ (v44011 : Value).ownBlock) v44005 y44004) := ⟨h0_⟩
         have n1_ : Aside0 (Kd.R (Kd.int .i64) 3 w25 w.heap.size (fun k_ => some k_ ≠ (v44005 : Value).ownBlock) v44011 y44010) := ⟨h1_⟩
         have n2_ : Aside0 (w25.heap[gb44001]? = some (.cells #[.int .i64 a0_0, .slice A0_1 l0_1.length c0_1] 26 (0, 0))) := ⟨h2_⟩
         have n3_ : Aside0 (w25.heap[gb44002]? = some (.cells #[.int .i64 0, .slice none 0 0] 26 (0, 0))) := ⟨h3_⟩
         have n4_ : Aside0 (Below w.heap.size w w25) := ⟨h4_⟩
         clear BK44001
         clear BK44002
         clear HB
         clear h0_ h1_ h2_ h3_ h4_
         have HO44006 := n0_
         have HO44012 := n1_
         have BK44001 := n2_
         have BK44002 := n3_
         have HB := n4_
         clear n0_ n1_ n2_ n3_ n4_
         have hHeld : w25.cell? ⟨gb44001, 0, none⟩ = some (.int .i64 a0_0) ∧ w25.cell? ⟨gb44001, 1, none⟩ = some (.slice A0_1 l0_1.length c0_1) := hS_
         refine norm_ (a' := ?_) ?_ ?_
         rotate_left
         ·simp only [putAll, Act.put, List.setIfInBounds_toArray, List.set_cons_zero, List.set_cons_succ]
          rfl
         refine one_ (i := 4) (N := some 17) #[true, true, true, true, true, true, false, false, false, false, false] rfl rfl (one_of HT_.out (by kernel_rfl)) (by decide) (fun K hK => ?_)
         refine Kd.R_lit_step (Kd.int .i64) _ 3 ?hg (N := 17) ?hd (xs := ([] : List Int)) (inner := []) (ok := fun _ => True) (okp := fun _ => True) ?hr ?hp (fun _ hk => hk) trivial (Below.refl _ _) (Nat.le_refl _) (by simp) ?_; (case hd => rfl); (case hg => rfl); (case hr => first | (go_simp; done) | (go_simp; rfl)); (case hp => exact (Reps.none _ _))
         intro v44008 w26 ho27 hb hg_ hnew_
         clear hg_ hnew_
         (first | rw [← Ny44007.out] at ho27 | (simp only [Int.reduceToNat] at ho27; rw [← Ny44007.out] at ho27))
         have n0_ := aQ (Kd.R_elder' (by (with_reducible repeat (first | apply Kd.R_alloc | apply Kd.R_drewN | apply Kd.R_drew)); exact HO44006.out) (Kd.R_base ho27) hb)
         have n1_ := aQ (Kd.R_elder' (by (with_reducible repeat (first | apply Kd.R_alloc | apply Kd.R_drewN | apply Kd.R_drew)); exact HO44012.out) (Kd.R_base ho27) hb)
         have n2_ := aQ (Kd.R_lower (Kd.R_new' (Kd.R_new' ho27 (Kd.R_lt (by (with_reducible repeat (first | apply Kd.R_alloc | apply Kd.R_drewN | apply Kd.R_drew)); exact HO44006.out))) (Kd.R_lt (by (with_reducible repeat (first | apply Kd.R_alloc | apply Kd.R_drewN | apply Kd.R_drew)); exact HO44012.out))) (below_size (by repeat (first | (with_reducible first | exact HB.out | apply below_alloc | apply pw_below_drewN | apply below_drew1 | refine below_set ?_ GE44001.out | refine below_set ?_ GE44002.out) | exact HB.out))))
         have n3_ := aQ (blk_below (g := gb44001) (o := .cells #[.int .i64 a0_0, .slice A0_1 l0_1.length c0_1] 26 (0, 0)) (by (with_reducible repeat (first | refine blk_drewN ?_ _ | refine blk_drew ?_ | refine blk_alloc ?_ _)); exact BK44001.out) hb)
         have n4_ := aQ (blk_below (g := gb44002) (o := .cells #[.int .i64 0, .slice none 0 0] 26 (0, 0)) (by (with_reducible repeat (first | refine blk_drewN ?_ _ | refine blk_drew ?_ | refine blk_alloc ?_ _)); exact BK44002.out) hb)
         have n5_ := aQ (below_step (by repeat (first | (with_reducible first | exact HB.out | apply below_alloc | apply pw_below_drewN | apply below_drew1 | refine below_set ?_ GE44001.out | refine below_set ?_ GE44002.out) | exact HB.out)) hb)
         clear HO44006
         clear HO44012
         clear BK44001
         clear BK44002
         clear HB
         have HO44006 := n0_
         have HO44012 := n1_
         have HO44009 := n2_
         have BK44001 := n3_
         have BK44002 := n4_
         have HB := n5_
         clear n0_ n1_ n2_ n3_ n4_ n5_
         clear hb ho27
         refine hK.out _ _ ⟨(blk_cell BK44001.out 0).trans rfl, (blk_cell BK44001.out 1).trans rfl⟩ (fun hHeld => ?_)
         clear hK K
         refine norm_ (a' := ?_) ?_ ?_
         rotate_left
         ·show Act.put _ (some 17) _ = _
          simp only [Act.put, List.setIfInBounds_toArray, List.set_cons_zero, List.set_cons_succ, i64_w, i32_w]
          rfl
         exact norm_ (by first | (simp only [putAll, Act.put, List.setIfInBounds_toArray, List.set_cons_zero, List.set_cons_succ]; done) | (simp only [putAll, Act.put, List.setIfInBounds_toArray, List.set_cons_zero, List.set_cons_succ]; rfl)) (hJ2_4_5 (v44005, v44008, v44011) _ ⟨hHeld, (by (with_reducible repeat (first | apply Kd.R_alloc | apply Kd.R_drewN | apply Kd.R_drew)); exact Kd.R_mono HO44006.out (fun _ hk => ⟨hk.2, hk.1⟩)), (by (with_reducible repeat (first | apply Kd.R_alloc | apply Kd.R_drewN | apply Kd.R_drew)); exact Kd.R_mono HO44009.out (fun _ hk => ⟨hk.1.2, hk.2⟩)), (by (with_reducible repeat (first | apply Kd.R_alloc | apply Kd.R_drewN | apply Kd.R_drew)); exact HO44012.out), (by (with_reducible repeat (first | refine blk_drewN ?_ _ | refine blk_drew ?_ | refine blk_alloc ?_ _)); exact BK44001.out), (by (with_reducible repeat (first | refine blk_drewN ?_ _ | refine blk_drew ?_ | refine blk_alloc ?_ _)); exact BK44002.out), (by repeat (first | (with_reducible first | exact HB.out | apply below_alloc | apply pw_below_drewN | apply below_drew1 | refine below_set ?_ GE44001.out | refine below_set ?_ GE44002.out) | exact HB.out))⟩)
       ·skip
        rintro ⟨v44005, v44008⟩ w25 ⟨hS_, h0_, h1_, h2_, h3_, h4_⟩
        have n0_ : Aside0 (Kd.R (Kd.int .i64) 3 w25 w.heap.size (fun k_ => some k_ ≠ (v44008 : Value).ownBlock) v44005 y44004) := ⟨h0_⟩
        have n1_ : Aside0 (Kd.R (Kd.int .i64) 3 w25 w.heap.size (fun k_ => some k_ ≠ (v44005 : Value).ownBlock) v44008 y44007) := ⟨h1_⟩
        have n2_ : Aside0 (w25.heap[gb44001]? = some (.cells #[.int .i64 a0_0, .slice A0_1 l0_1.length c0_1] 26 (0, 0))) := ⟨h2_⟩
        have n3_ : Aside0 (w25.heap[gb44002]? = some (.cells #[.int .i64 0, .slice none 0 0] 26 (0, 0))) := ⟨h3_⟩
        have n4_ : Aside0 (Below w.heap.size w w25) := ⟨h4_⟩
        clear BK44001
        clear BK44002
        clear HB
        clear h0_ h1_ h2_ h3_ h4_
        have HO44006 := n0_
        have HO44009 := n1_
        have BK44001 := n2_
        have BK44002 := n3_
        have HB := n4_
        clear n0_ n1_ n2_ n3_ n4_
        have hHeld : w25.cell? ⟨gb44001, 0, none⟩ = some (.int .i64 a0_0) ∧ w25.cell? ⟨gb44001, 1, none⟩ = some (.slice A0_1 l0_1.length c0_1) := hS_
        refine norm_ (a' := ?_) ?_ ?_
        rotate_left
        ·simp only [putAll, Act.put, List.setIfInBounds_toArray, List.set_cons_zero, List.set_cons_succ]
         rfl
        refine one_ (i := 5) (N := some 18) #[true, true, true, true, true, true, false, false, false, false, false] rfl rfl (one_of HT_.out (by kernel_rfl)) (by decide) (fun K hK => ?_)
        refine Kd.R_lit_step (Kd.int .i64) _ 3 ?hg (N := 18) ?hd (xs := ([] : List Int)) (inner := []) (ok := fun _ => True) (okp := fun _ => True) ?hr ?hp (fun _ hk => hk) trivial (Below.refl _ _) (Nat.le_refl _) (by simp) ?_; (case hd => rfl); (case hg => rfl); (case hr => first | (go_simp; done) | (go_simp; rfl)); (case hp => exact (Reps.none _ _))
        intro v44011 w26 ho27 hb hg_ hnew_
        clear hg_ hnew_
        (first | rw [← Ny44010.out] at ho27 | (simp only [Int.reduceToNat] at ho27; rw [← Ny44010.out] at ho27))
        have n0_ := aQ (Kd.R_elder' (by (with_reducible repeat (first | apply Kd.R_alloc | apply Kd.R_drewN | apply Kd.R_drew)); exact HO44006.out) (Kd.R_base ho27) hb)
        have n1_ := aQ (Kd.R_elder' (by (with_reducible repeat (first | apply Kd.R_alloc | apply Kd.R_drewN | apply Kd.R_drew)); exact HO44009.out) (Kd.R_base ho27) hb)
        have n2_ := aQ (Kd.R_lower (Kd.R_new' (Kd.R_new' ho27 (Kd.R_lt (by (with_reducible repeat (first | apply Kd.R_alloc | apply Kd.R_drewN | apply Kd.R_drew)); exact HO44006.out))) (Kd.R_lt (by (with_reducible repeat (first | apply Kd.R_alloc | apply Kd.R_drewN | apply Kd.R_drew)); exact HO44009.out))) (below_size (by repeat (first | (with_reducible first | exact HB.out | apply below_alloc | apply pw_below_drewN | apply below_drew1 | refine below_set ?_ GE44001.out | refine below_set ?_ GE44002.out) | exact HB.out))))
        have n3_ := aQ (blk_below (g := gb44001) (o := .cells #[.int .i64 a0_0, .slice A0_1 l0_1.length c0_1] 26 (0, 0)) (by (with_reducible repeat (first | refine blk_drewN ?_ _ | refine blk_drew ?_ | refine blk_alloc ?_ _)); exact BK44001.out) hb)
        have n4_ := aQ (blk_below (g := gb44002) (o := .cells #[.int .i64 0, .slice none 0 0] 26 (0, 0)) (by (with_reducible repeat (first | refine blk_drewN ?_ _ | refine blk_drew ?_ | refine blk_alloc ?_ _)); exact BK44002.out) hb)
        have n5_ := aQ (below_step (by repeat (first | (with_reducible first | exact HB.out | apply below_alloc | apply pw_below_drewN | apply below_drew1 | refine below_set ?_ GE44001.out | refine below_set ?_ GE44002.out) | exact HB.out)) hb)
        clear HO44006
        clear HO44009
        clear BK44001
        clear BK44002
        clear HB
        have HO44006 := n0_
        have HO44009 := n1_
        have HO44012 := n2_
        have BK44001 := n3_
        have BK44002 := n4_
        have HB := n5_
        clear n0_ n1_ n2_ n3_ n4_ n5_
        clear hb ho27
        refine hK.out _ _ ⟨(blk_cell BK44001.out 0).trans rfl, (blk_cell BK44001.out 1).trans rfl⟩ (fun hHeld => ?_)
        clear hK K
        refine norm_ (a' := ?_) ?_ ?_
        rotate_left
        ·show Act.put _ (some 18) _ = _
         simp only [Act.put, List.setIfInBounds_toArray, List.set_cons_zero, List.set_cons_succ, i64_w, i32_w]
         rfl
        exact norm_ (by first | (simp only [putAll, Act.put, List.setIfInBounds_toArray, List.set_cons_zero, List.set_cons_succ]; done) | (simp only [putAll, Act.put, List.setIfInBounds_toArray, List.set_cons_zero, List.set_cons_succ]; rfl)) (hJ2_4_5 (v44005, v44008, v44011) _ ⟨hHeld, (by (with_reducible repeat (first | apply Kd.R_alloc | apply Kd.R_drewN | apply Kd.R_drew)); exact HO44006.out), (by (with_reducible repeat (first | apply Kd.R_alloc | apply Kd.R_drewN | apply Kd.R_drew)); exact HO44009.out), (by (with_reducible repeat (first | apply Kd.R_alloc | apply Kd.R_drewN | apply Kd.R_drew)); exact Kd.R_mono HO44012.out (fun _ hk => ⟨hk.1.2, hk.2⟩)), (by (with_reducible repeat (first | refine blk_drewN ?_ _ | refine blk_drew ?_ | refine blk_alloc ?_ _)); exact BK44001.out), (by (with_reducible repeat (first | refine blk_drewN ?_ _ | refine blk_drew ?_ | refine blk_alloc ?_ _)); exact BK44002.out), (by repeat (first | (with_reducible first | exact HB.out | apply below_alloc | apply pw_below_drewN | apply below_drew1 | refine below_set ?_ GE44001.out | refine below_set ?_ GE44002.out) | exact HB.out))⟩)
      ·skip
       rintro ⟨v44008, v44011, v44014⟩ w28 ⟨hS_, h0_, h1_, h2_, h3_, h4_, h5_⟩
       have n0_ : Aside0 (Kd.R (Kd.int .i64) 3 w28 w.heap.size (fun k_ => some k_ ≠ (v44011 : Value).ownBlock) v44008 y44007) := ⟨h0_⟩
       have n1_ : Aside0 (Kd.R (Kd.int .i64) 3 w28 w.heap.size (fun k_ => some k_ ≠ (v44008 : Value).ownBlock) v44011 y44010) := ⟨h1_⟩
       have n2_ : Aside0 (Kd.V (Kd.int .i64) 3 w28 w.heap.size (fun k_ => some k_ ≠ (v44008 : Value).ownBlock ∧ k_ ≠ gb44001 ∧ k_ ≠ gb44002) v44014 t44013) := ⟨h2_⟩
       have n3_ : Aside0 (w28.heap[gb44001]? = some (.cells #[.int .i64 a0_0, .slice A0_1 l0_1.length c0_1] 26 (0, 0))) := ⟨h3_⟩
       have n4_ : Aside0 (w28.heap[gb44002]? = some (.cells #[.int .i64 0, .slice none 0 0] 26 (0, 0))) := ⟨h4_⟩
       have n5_ : Aside0 (Below w.heap.size w w28) := ⟨h5_⟩
       clear BK44001
       clear BK44002
       clear HB
       clear h0_ h1_ h2_ h3_ h4_ h5_
       have HO44009 := n0_
       have HO44012 := n1_
       have HO44015 := n2_
       have BK44001 := n3_
       have BK44002 := n4_
       have HB := n5_
       clear n0_ n1_ n2_ n3_ n4_ n5_
       have hHeld : w28.cell? ⟨gb44001, 0, none⟩ = some (.int .i64 a0_0) ∧ w28.cell? ⟨gb44001, 1, none⟩ = some (.slice A0_1 l0_1.length c0_1) := hS_
       refine norm_ (a' := ?_) ?_ ?_
       rotate_left
       ·simp only [putAll, Act.put, List.setIfInBounds_toArray, List.set_cons_zero, List.set_cons_succ]
        rfl
       refine one_ (i := 2) (N := some 15) #[true, true, true, true, true, true, true, false, false, false, false] rfl rfl (one_of HT_.out (by kernel_rfl)) (by decide) (fun K hK => ?_)
       refine Kd.R_lit_step (Kd.int .i64) _ 3 ?hg (N := 15) ?hd (xs := ([] : List Int)) (inner := []) (ok := fun _ => True) (okp := fun _ => True) ?hr ?hp (fun _ hk => hk) trivial (Below.refl _ _) (Nat.le_refl _) (by simp) ?_; (case hd => rfl); (case hg => rfl); (case hr => first | (go_simp; done) | (go_simp; rfl)); (case hp => exact (Reps.none _ _))
       intro v44005 w29 ho30 hb hg_ hnew_
       clear hg_ hnew_
       (first | rw [← Ny44004.out] at ho30 | (simp only [Int.reduceToNat] at ho30; rw [← Ny44004.out] at ho30))
       have n0_ := aQ (Kd.R_elder' (by (with_reducible repeat (first | apply Kd.R_alloc | apply Kd.R_drewN | apply Kd.R_drew)); exact HO44009.out) (Kd.R_base ho30) hb)
       have n1_ := aQ (Kd.R_elder' (by (with_reducible repeat (first | apply Kd.R_alloc | apply Kd.R_drewN | apply Kd.R_drew)); exact HO44012.out) (Kd.R_base ho30) hb)
       have n2_ := aQ (Kd.V_elder' (by (with_reducible repeat (first | apply Kd.V_alloc | apply Kd.V_drewN | apply Kd.V_drew)); exact HO44015.out) (Kd.R_base ho30) hb)
       have n3_ := aQ (Kd.R_lower (Kd.R_new' (Kd.R_new' ho30 (Kd.R_lt (by (with_reducible repeat (first | apply Kd.R_alloc | apply Kd.R_drewN | apply Kd.R_drew)); exact HO44009.out))) (Kd.R_lt (by (with_reducible repeat (first | apply Kd.R_alloc | apply Kd.R_drewN | apply Kd.R_drew)); exact HO44012.out))) (below_size (by repeat (first | (with_reducible first | exact HB.out | apply below_alloc | apply pw_below_drewN | apply below_drew1 | refine below_set ?_ GE44001.out | refine below_set ?_ GE44002.out) | exact HB.out))))
       have n4_ := aQ (blk_below (g := gb44001) (o := .cells #[.int .i64 a0_0, .slice A0_1 l0_1.length c0_1] 26 (0, 0)) (by (with_reducible repeat (first | refine blk_drewN ?_ _ | refine blk_drew ?_ | refine blk_alloc ?_ _)); exact BK44001.out) hb)
       have n5_ := aQ (blk_below (g := gb44002) (o := .cells #[.int .i64 0, .slice none 0 0] 26 (0, 0)) (by (with_reducible repeat (first | refine blk_drewN ?_ _ | refine blk_drew ?_ | refine blk_alloc ?_ _)); exact BK44002.out) hb)
       have n6_ := aQ (below_step (by repeat (first | (with_reducible first | exact HB.out | apply below_alloc | apply pw_below_drewN | apply below_drew1 | refine below_set ?_ GE44001.out | refine below_set ?_ GE44002.out) | exact HB.out)) hb)
       clear HO44009
       clear HO44012
       clear HO44015
       clear BK44001
       clear BK44002
       clear HB
       have HO44009 := n0_
       have HO44012 := n1_
       have HO44015 := n2_
       have HO44006 := n3_
       have BK44001 := n4_
       have BK44002 := n5_
       have HB := n6_
       clear n0_ n1_ n2_ n3_ n4_ n5_ n6_
       clear hb ho30
       refine hK.out _ _ ⟨(blk_cell BK44001.out 0).trans rfl, (blk_cell BK44001.out 1).trans rfl⟩ (fun hHeld => ?_)
       clear hK K
       refine norm_ (a' := ?_) ?_ ?_
       rotate_left
       ·show Act.put _ (some 15) _ = _
        simp only [Act.put, List.setIfInBounds_toArray, List.set_cons_zero, List.set_cons_succ, i64_w, i32_w]
        rfl
       exact norm_ (by first | (simp only [putAll, Act.put, List.setIfInBounds_toArray, List.set_cons_zero, List.set_cons_succ]; done) | (simp only [putAll, Act.put, List.setIfInBounds_toArray, List.set_cons_zero, List.set_cons_succ]; rfl)) (hJ2_4_5_6 (v44005, v44008, v44011, v44014) _ ⟨hHeld, (by (with_reducible repeat (first | apply Kd.R_alloc | apply Kd.R_drewN | apply Kd.R_drew)); exact Kd.R_mono HO44006.out (fun _ hk => ⟨hk.1.2, hk.2⟩)), (by (with_reducible repeat (first | apply Kd.R_alloc | apply Kd.R_drewN | apply Kd.R_drew)); exact Kd.R_mono HO44009.out (fun _ hk => ⟨hk.2, hk.1⟩)), (by (with_reducible repeat (first | apply Kd.R_alloc | apply Kd.R_drewN | apply Kd.R_drew)); exact Kd.R_mono HO44012.out (fun _ hk => ⟨hk.2, hk.1⟩)), (by (with_reducible repeat (first | apply Kd.V_alloc | apply Kd.V_drewN | apply Kd.V_drew)); exact Kd.V_mono HO44015.out (fun _ hk => ⟨hk.2, ⟨hk.1.1, ⟨hk.1.2.1, hk.1.2.2⟩⟩⟩)), (by (with_reducible repeat (first | refine blk_drewN ?_ _ | refine blk_drew ?_ | refine blk_alloc ?_ _)); exact BK44001.out), (by (with_reducible repeat (first | refine blk_drewN ?_ _ | refine blk_drew ?_ | refine blk_alloc ?_ _)); exact BK44002.out), (by repeat (first | (with_reducible first | exact HB.out | apply below_alloc | apply pw_below_drewN | apply below_drew1 | refine below_set ?_ GE44001.out | refine below_set ?_ GE44002.out) | exact HB.out))⟩)
     ·skip
      rintro ⟨v44005, v44008, v44011⟩ w27 ⟨hS_, h0_, h1_, h2_, h3_, h4_, h5_⟩
      have n0_ : Aside0 (Kd.R (Kd.int .i64) 3 w27 w.heap.size (fun k_ => some k_ ≠ (v44008 : Value).ownBlock ∧ some k_ ≠ (v44011 : Value).ownBlock) v44005 y44004) := ⟨h0_⟩
      have n1_ : Aside0 (Kd.R (Kd.int .i64) 3 w27 w.heap.size (fun k_ => some k_ ≠ (v44005 : Value).ownBlock ∧ some k_ ≠ (v44011 : Value).ownBlock) v44008 y44007) := ⟨h1_⟩
      have n2_ : Aside0 (Kd.R (Kd.int .i64) 3 w27 w.heap.size (fun k_ => some k_ ≠ (v44005 : Value).ownBlock ∧ some k_ ≠ (v44008 : Value).ownBlock) v44011 y44010) := ⟨h2_⟩
      have n3_ : Aside0 (w27.heap[gb44001]? = some (.cells #[.int .i64 a0_0, .slice A0_1 l0_1.length c0_1] 26 (0, 0))) := ⟨h3_⟩
      have n4_ : Aside0 (w27.heap[gb44002]? = some (.cells #[.int .i64 0, .slice none 0 0] 26 (0, 0))) := ⟨h4_⟩
      have n5_ : Aside0 (Below w.heap.size w w27) := ⟨h5_⟩
      clear BK44001
      clear BK44002
      clear HB
      clear h0_ h1_ h2_ h3_ h4_ h5_
      have HO44006 := n0_
      have HO44009 := n1_
      have HO44012 := n2_
      have BK44001 := n3_
      have BK44002 := n4_
      have HB := n5_
      clear n0_ n1_ n2_ n3_ n4_ n5_
      have hHeld : w27.cell? ⟨gb44001, 0, none⟩ = some (.int .i64 a0_0) ∧ w27.cell? ⟨gb44001, 1, none⟩ = some (.slice A0_1 l0_1.length c0_1) := hS_
      obtain ⟨Ao28, co28, eo28⟩ := Kd.R_slice HO44009.out
      (first | subst eo28 | (injection eo28 with f1_ f2_ f3_; have f4_ := f1_.symm; have f5_ := f3_.symm; clear f1_ f2_ f3_; subst f4_; subst f5_))
      obtain ⟨Ao29, co29, eo29⟩ := Kd.R_slice HO44012.out
      (first | subst eo29 | (injection eo29 with f1_ f2_ f3_; have f4_ := f1_.symm; have f5_ := f3_.symm; clear f1_ f2_ f3_; subst f4_; subst f5_))
      refine norm_ (a' := ?_) ?_ ?_
      rotate_left
      ·simp only [putAll, Act.put, List.setIfInBounds_toArray, List.set_cons_zero, List.set_cons_succ]
       rfl
      refine one_ (i := 6) (N := some 19) #[true, true, true, true, true, true, true, false, false, false, false] rfl rfl (one_of HT_.out (by kernel_rfl)) (by decide) (fun K hK => ?_)
      refine goes_ Try.func108 (by kernel_rfl) rfl #[.agg #[.int .i64 a0_0, .slice A0_1 l0_1.length c0_1], .slice Ao28 y44007.length co28, .slice Ao29 y44010.length co29] (by rfl) rfl rfl (by (try simp only [List.map_toArray, List.map_cons, List.map_nil]); first | done | rfl | (simp only [List.length_drop, List.length_take]; rfl)) ?_
      with_reducible refine (spec_l18Canon.calls k a0_0 _ _ l0_1 _ _ y44007 (fun k_ => some k_ = (.slice Ao29 y44010.length co29 : Value).ownBlock) _ _ y44010 t44013 _ ?side1 ?side2 ?side3 ?side4 ?side5 A12.out).mono ?_
      (case side1 => repeat (first | exact (Kd.C_below HR0_1.out HB.out) | (with_reducible refine Kd.C_alloc ?_ _) | (with_reducible refine Kd.C_drewN ?_ _) | (with_reducible refine Kd.C_drew ?_)))
      (case side2 => exact HC0_1.out)
      (case side3 => repeat (first | exact (Kd.R_reads' HO44009.out).2.2 | (with_reducible refine Kd.C_alloc ?_ _) | (with_reducible refine Kd.C_drewN ?_ _) | (with_reducible refine Kd.C_drew ?_)))
      (case side4 => exact (Kd.R_reads' HO44009.out).2.1)
      (case side5 => exact Kd.R_V (Kd.R_tight rfl (Kd.R_types (Kd.R_types (HO44012.out) BK44001.out (by decide)) BK44002.out (by decide))))
      rintro e w30 ⟨v44014, rfl, ho0, hb⟩
      refine ⟨_, rfl, ?_⟩
      have n0_ := aQ (Kd.R_below (by (with_reducible repeat (first | apply Kd.R_alloc | apply Kd.R_drewN | apply Kd.R_drew)); exact HO44006.out) hb)
      have n1_ := aQ (Kd.R_below (by (with_reducible repeat (first | apply Kd.R_alloc | apply Kd.R_drewN | apply Kd.R_drew)); exact HO44009.out) hb)
      have n2_ := aQ (Kd.R_below (by (with_reducible repeat (first | apply Kd.R_alloc | apply Kd.R_drewN | apply Kd.R_drew)); exact HO44012.out) hb)
      have n3_ := aQ (Kd.V_lower (Kd.V_mono (ok' := fun k_ => some k_ ≠ (v44005 : Value).ownBlock ∧ some k_ ≠ (.slice Ao28 y44007.length co28 : Value).ownBlock ∧ k_ ≠ gb44001 ∧ k_ ≠ gb44002) ho0 (fun k_ hk_ => ⟨Or.elim hk_ (fun hs_ => ((Kd.R_types (Kd.R_types (HO44012.out) BK44001.out (by decide)) BK44002.out (by decide)).1 k_ hs_.symm).1.1.1) (fun hn_ => (Kd.fresh' (Kd.R_lt (by (with_reducible repeat (first | apply Kd.R_alloc | apply Kd.R_drewN | apply Kd.R_drew)); exact HO44006.out)) k_ hn_)), Or.elim hk_ (fun hs_ => ((Kd.R_types (Kd.R_types (HO44012.out) BK44001.out (by decide)) BK44002.out (by decide)).1 k_ hs_.symm).1.1.2) (fun hn_ => (Kd.fresh' (Kd.R_lt (by (with_reducible repeat (first | apply Kd.R_alloc | apply Kd.R_drewN | apply Kd.R_drew)); exact HO44009.out)) k_ hn_)), Or.elim hk_ (fun hs_ => ((Kd.R_types (Kd.R_types (HO44012.out) BK44001.out (by decide)) BK44002.out (by decide)).1 k_ hs_.symm).1.2) (fun hn_ => (Kd.freshB (g := gb44001) (o := .cells #[.int .i64 a0_0, .slice A0_1 l0_1.length c0_1] 26 (0, 0)) (by (with_reducible repeat (first | refine blk_drewN ?_ _ | refine blk_drew ?_ | refine blk_alloc ?_ _)); exact BK44001.out) k_ hn_)), Or.elim hk_ (fun hs_ => ((Kd.R_types (Kd.R_types (HO44012.out) BK44001.out (by decide)) BK44002.out (by decide)).1 k_ hs_.symm).2) (fun hn_ => (Kd.freshB (g := gb44002) (o := .cells #[.int .i64 0, .slice none 0 0] 26 (0, 0)) (by (with_reducible repeat (first | refine blk_drewN ?_ _ | refine blk_drew ?_ | refine blk_alloc ?_ _)); exact BK44002.out) k_ hn_))⟩)) (below_size (by repeat (first | (with_reducible first | exact HB.out | apply below_alloc | apply pw_below_drewN | apply below_drew1 | refine below_set ?_ GE44001.out | refine below_set ?_ GE44002.out) | exact HB.out))))
      have n4_ := aQ (blk_below (g := gb44001) (o := .cells #[.int .i64 a0_0, .slice A0_1 l0_1.length c0_1] 26 (0, 0)) (by (with_reducible repeat (first | refine blk_drewN ?_ _ | refine blk_drew ?_ | refine blk_alloc ?_ _)); exact BK44001.out) hb)
      have n5_ := aQ (blk_below (g := gb44002) (o := .cells #[.int .i64 0, .slice none 0 0] 26 (0, 0)) (by (with_reducible repeat (first | refine blk_drewN ?_ _ | refine blk_drew ?_ | refine blk_alloc ?_ _)); exact BK44002.out) hb)
      have n6_ := aQ (below_step (by repeat (first | (with_reducible first | exact HB.out | apply below_alloc | apply pw_below_drewN | apply below_drew1 | refine below_set ?_ GE44001.out | refine below_set ?_ GE44002.out) | exact HB.out)) hb)
      clear HO44006
      clear HO44009
      clear HO44012
      clear BK44001
      clear BK44002
      clear HB
      have HO44006 := n0_
      have HO44009 := n1_
      have HO44012 := n2_
      have HO44015 := n3_
      have BK44001 := n4_
      have BK44002 := n5_
      have HB := n6_
      clear n0_ n1_ n2_ n3_ n4_ n5_ n6_
      (try clear hb)
      (try clear hb2)
      (try clear hk)
      (try clear hi)
      (try clear ho0)
      refine hK.out _ _ ⟨(blk_cell BK44001.out 0).trans rfl, (blk_cell BK44001.out 1).trans rfl⟩ (fun hHeld => ?_)
      clear hK K
      refine norm_ (a' := ?_) ?_ ?_
      rotate_left
      ·show Act.put _ (some 19) _ = _
       simp only [Act.put, List.setIfInBounds_toArray, List.set_cons_zero, List.set_cons_succ, i64_w, i32_w]
       rfl
      exact norm_ (by first | (simp only [putAll, Act.put, List.setIfInBounds_toArray, List.set_cons_zero, List.set_cons_succ]; done) | (simp only [putAll, Act.put, List.setIfInBounds_toArray, List.set_cons_zero, List.set_cons_succ]; rfl)) (hJ2_4_5_6 (v44005, .slice Ao28 y44007.length co28, .slice Ao29 y44010.length co29, v44014) _ ⟨hHeld, (by (with_reducible repeat (first | apply Kd.R_alloc | apply Kd.R_drewN | apply Kd.R_drew)); exact HO44006.out), (by (with_reducible repeat (first | apply Kd.R_alloc | apply Kd.R_drewN | apply Kd.R_drew)); exact HO44009.out), (by (with_reducible repeat (first | apply Kd.R_alloc | apply Kd.R_drewN | apply Kd.R_drew)); exact HO44012.out), (by (with_reducible repeat (first | apply Kd.V_alloc | apply Kd.V_drewN | apply Kd.V_drew)); exact HO44015.out), (by (with_reducible repeat (first | refine blk_drewN ?_ _ | refine blk_drew ?_ | refine blk_alloc ?_ _)); exact BK44001.out), (by (with_reducible repeat (first | refine blk_drewN ?_ _ | refine blk_drew ?_ | refine blk_alloc ?_ _)); exact BK44002.out), (by repeat (first | (with_reducible first | exact HB.out | apply below_alloc | apply pw_below_drewN | apply below_drew1 | refine below_set ?_ GE44001.out | refine below_set ?_ GE44002.out) | exact HB.out))⟩)
    rintro ⟨v44005, v44008, v44011, v44014⟩ w30 ⟨hS_, h0_, h1_, h2_, h3_, h4_, h5_, h6_⟩
    have n0_ : Aside0 (Kd.R (Kd.int .i64) 3 w30 w.heap.size (fun k_ => some k_ ≠ (v44008 : Value).ownBlock ∧ some k_ ≠ (v44011 : Value).ownBlock) v44005 y44004) := ⟨h0_⟩
    have n1_ : Aside0 (Kd.R (Kd.int .i64) 3 w30 w.heap.size (fun k_ => some k_ ≠ (v44005 : Value).ownBlock ∧ some k_ ≠ (v44011 : Value).ownBlock) v44008 y44007) := ⟨h1_⟩
    have n2_ : Aside0 (Kd.R (Kd.int .i64) 3 w30 w.heap.size (fun k_ => some k_ ≠ (v44005 : Value).ownBlock ∧ some k_ ≠ (v44008 : Value).ownBlock) v44011 y44010) := ⟨h2_⟩
    have n3_ : Aside0 (Kd.V (Kd.int .i64) 3 w30 w.heap.size (fun k_ => some k_ ≠ (v44005 : Value).ownBlock ∧ some k_ ≠ (v44008 : Value).ownBlock ∧ k_ ≠ gb44001 ∧ k_ ≠ gb44002) v44014 t44013) := ⟨h3_⟩
    have n4_ : Aside0 (w30.heap[gb44001]? = some (.cells #[.int .i64 a0_0, .slice A0_1 l0_1.length c0_1] 26 (0, 0))) := ⟨h4_⟩
    have n5_ : Aside0 (w30.heap[gb44002]? = some (.cells #[.int .i64 0, .slice none 0 0] 26 (0, 0))) := ⟨h5_⟩
    have n6_ : Aside0 (Below w.heap.size w w30) := ⟨h6_⟩
    clear BK44001
    clear BK44002
    clear HB
    clear h0_ h1_ h2_ h3_ h4_ h5_ h6_
    have HO44006 := n0_
    have HO44009 := n1_
    have HO44012 := n2_
    have HO44015 := n3_
    have BK44001 := n4_
    have BK44002 := n5_
    have HB := n6_
    clear n0_ n1_ n2_ n3_ n4_ n5_ n6_
    have hHeld : w30.cell? ⟨gb44001, 0, none⟩ = some (.int .i64 a0_0) ∧ w30.cell? ⟨gb44001, 1, none⟩ = some (.slice A0_1 l0_1.length c0_1) := hS_
    obtain ⟨Ao32, co32, eo32⟩ := Kd.V_slice HO44015.out
    (first | subst eo32 | (injection eo32 with f1_ f2_ f3_; have f4_ := f1_.symm; have f5_ := f3_.symm; clear f1_ f2_ f3_; subst f4_; subst f5_))
    refine norm_ (a' := ?_) ?_ ?_
    rotate_left
    ·simp only [putAll, Act.put, List.setIfInBounds_toArray, List.set_cons_zero, List.set_cons_succ]
     rfl
    refine one_ (i := 7) (N := some 20) #[true, true, true, true, true, true, true, true, false, false, false] rfl rfl (one_of HT_.out (by kernel_rfl)) (by decide) (fun K hK => ?_)
    refine Kd.R_append_rows_step (Kd.int .i64) (w0 := w) w.heap.size (by rfl) (.tmp 15) (.tmp 19) 22 3 (.int .i64 0) 8 rfl Try.underlying22 info3 rfl (by decide) (by omega) v44005 y44004 t44013 _ _ _ (fun k_ => some k_ ≠ (v44008 : Value).ownBlock ∧ some k_ ≠ (v44011 : Value).ownBlock) (fun _ => False) rfl rfl ?aO ?aR (fun _ _ h => h) (fun _ h => h.elim) ?aF ?aB ?aS ?aL ?_
    (case aR => repeat (first | exact (Kd.V_reads' HO44015.out).2.2 | (with_reducible refine Kd.C_alloc ?_ _) | (with_reducible refine Kd.C_drewN ?_ _) | (with_reducible refine Kd.C_drew ?_)))
    (case aB => exact (by repeat (first | (with_reducible first | exact HB.out | apply below_alloc | apply pw_below_drewN | apply below_drew1 | refine below_set ?_ GE44001.out | refine below_set ?_ GE44002.out) | exact HB.out)))
    (case aF => exact (fun k_ hk => ⟨Kd.fresh' (Kd.R_lt (by (with_reducible repeat (first | apply Kd.R_alloc | apply Kd.R_drewN | apply Kd.R_drew)); exact HO44009.out)) k_ hk, Kd.fresh' (Kd.R_lt (by (with_reducible repeat (first | apply Kd.R_alloc | apply Kd.R_drewN | apply Kd.R_drew)); exact HO44012.out)) k_ hk⟩))
    (case aO => exact (by (with_reducible repeat (first | apply Kd.R_alloc | apply Kd.R_drewN | apply Kd.R_drew)); exact HO44006.out))
    (case aS => exact (below_size (by repeat (first | (with_reducible first | exact HB.out | apply below_alloc | apply pw_below_drewN | apply below_drew1 | refine below_set ?_ GE44001.out | refine below_set ?_ GE44002.out) | exact HB.out))))
    (case aL => have := LMc13.out; omega)
    intro v44017 w31 ho hb hg hat
    rw [← Ny44016.out] at ho
    have n0_ := aQ (blk_grown (g := gb44001) (o := .cells #[.int .i64 a0_0, .slice A0_1 l0_1.length c0_1] 26 (0, 0)) (by (with_reducible repeat (first | refine blk_drewN ?_ _ | refine blk_drew ?_ | refine blk_alloc ?_ _)); exact BK44001.out) hg (Kd.R_ne HO44006.out BK44001.out (by decide)))
    have n1_ := aQ (blk_grown (g := gb44002) (o := .cells #[.int .i64 0, .slice none 0 0] 26 (0, 0)) (by (with_reducible repeat (first | refine blk_drewN ?_ _ | refine blk_drew ?_ | refine blk_alloc ?_ _)); exact BK44002.out) hg (Kd.R_ne HO44006.out BK44002.out (by decide)))
    have n2_ := aQ (Kd.R_after (ok := (fun k_ => some k_ ≠ (v44011 : Value).ownBlock)) (by (with_reducible repeat (first | apply Kd.R_alloc | apply Kd.R_drewN | apply Kd.R_drew)); exact Kd.R_mono HO44009.out (fun _ hk => ⟨hk.2, hk.1⟩)) hg hat)
    have n3_ := aQ (Kd.R_after (ok := (fun k_ => some k_ ≠ (v44008 : Value).ownBlock)) (by (with_reducible repeat (first | apply Kd.R_alloc | apply Kd.R_drewN | apply Kd.R_drew)); exact Kd.R_mono HO44012.out (fun _ hk => ⟨hk.2, hk.1⟩)) hg hat)
    have n4_ := aQ (Kd.V_afterv (ok := (fun k_ => some k_ ≠ (v44008 : Value).ownBlock ∧ k_ ≠ gb44001 ∧ k_ ≠ gb44002)) (by (with_reducible repeat (first | apply Kd.V_alloc | apply Kd.V_drewN | apply Kd.V_drew)); exact Kd.V_mono HO44015.out (fun _ hk => ⟨⟨hk.2.1, ⟨hk.2.2.1, hk.2.2.2⟩⟩, hk.1⟩)) hg hat)
    have n5_ := aQ (hb)
    have n6_ := aQ (ho)
    clear BK44001
    clear BK44002
    clear HO44009
    clear HO44012
    clear HO44015
    clear HB
    clear HO44006
    have BK44001 := n0_
    have BK44002 := n1_
    have HO44009 := n2_
    have HO44012 := n3_
    have HO44015 := n4_
    have HB := n5_
    have HO44018 := n6_
    clear n0_ n1_ n2_ n3_ n4_ n5_ n6_
    clear ho hb hg hat
    obtain ⟨Ao33, co33, eo33⟩ := Kd.R_slice HO44018.out
    (first | subst eo33 | (injection eo33 with f1_ f2_ f3_; have f4_ := f1_.symm; have f5_ := f3_.symm; clear f1_ f2_ f3_; subst f4_; subst f5_))
    refine hK.out _ _ ⟨(blk_cell BK44001.out 0).trans rfl, (blk_cell BK44001.out 1).trans rfl⟩ (fun hHeld => ?_)
    clear hK K
    refine norm_ (a' := ?_) ?_ ?_
    rotate_left
    ·show Act.put _ (some 20) _ = _
     simp only [Act.put, List.setIfInBounds_toArray, List.set_cons_zero, List.set_cons_succ, i64_w, i32_w]
     rfl
    refine pure_ (i := 8) (N := some 21) (v := ?_) (a' := ?_) #[true, true, true, true, true, true, true, true, true, false, false] rfl rfl (any_of HT_.out (by kernel_rfl)) (fun _ _ _ h => h) (Or.inl ⟨by rfl, ?_⟩) ?_ ?_
    rotate_left
    ·intro w'
     go_simp
     with_reducible rfl
    rotate_left
    ·simp only [Act.put, List.setIfInBounds_toArray, List.set_cons_zero, List.set_cons_succ, i64_w, i32_w]
     rfl
    refine one_ (i := 9) (N := none) #[true, true, true, true, true, true, true, true, true, true, false] rfl rfl (one_of HT_.out (by kernel_rfl)) (by decide) (fun K hK => ?_)
    have hs34 : w31.cell? ⟨gb44002, 0, none⟩ = some (.int .i64 0) := (blk_cell BK44002.out 0).trans rfl
    have hfs34 := blk_frozen BK44002.out 0
    have hns34_0 := NB44001_44002.out
    have hms34_0 := NB44002_44001.out
    have hs35 : w31.cell? ⟨gb44002, 1, none⟩ = some (.slice none 0 0) := (blk_cell BK44002.out 1).trans rfl
    have hfs35 := blk_frozen BK44002.out 1
    have hns35_0 := NB44001_44002.out
    have hms35_0 := NB44002_44001.out
    refine skip_ (w1 := ?_) (by rfl) rfl ?_ ?_
    rotate_left
    ·go_simp
     rfl
    refine hK.out _ _ ⟨((cell_far (p := ⟨gb44002, _, none⟩) NB44001_44002.out _).trans (((cell_far (p := ⟨gb44002, _, none⟩) NB44001_44002.out _).trans (hHeld.1)))), ((cell_far (p := ⟨gb44002, _, none⟩) NB44001_44002.out _).trans (((cell_far (p := ⟨gb44002, _, none⟩) NB44001_44002.out _).trans (hHeld.2))))⟩ (fun hHeld => ?_)
    clear hK K
    refine pure_ (i := 10) (N := some 3) (v := ?_) (a' := ?_) #[true, true, true, true, true, true, true, true, true, true, true] rfl rfl (any_of HT_.out (by kernel_rfl)) (fun _ _ _ h => h) (Or.inl ⟨by rfl, ?_⟩) ?_ ?_
    rotate_left
    ·intro w'
     go_simp
     with_reducible rfl
    rotate_left
    ·simp only [Act.put, List.setIfInBounds_toArray, List.set_cons_zero, List.set_cons_succ, i64_w, i32_w]
     rfl
    refine done_ (done_of HT_.out (by kernel_rfl)) ?_
    try go_wp2
    refine bodyPost_ret (results_ct rfl _ _ gb44002 26 #[.int .i64 a0_0, .slice Ao33 y44016.length co33] (0, 0) _ rfl (by (with_reducible repeat (first | refine blk_drewN ?_ _ | refine blk_drew ?_ | refine blk_alloc ?_ _)); refine blk_put (cs := #[.int .i64 a0_0, .slice none 0 0]) ?_ 1 _ rfl; (with_reducible repeat (first | refine blk_drewN ?_ _ | refine blk_drew ?_ | refine blk_alloc ?_ _)); refine blk_put (cs := #[.int .i64 0, .slice none 0 0]) ?_ 0 _ rfl; (with_reducible repeat (first | refine blk_drewN ?_ _ | refine blk_drew ?_ | refine blk_alloc ?_ _)); exact BK44002.out) Try.underlying26 rfl (by kernel_rfl)) rfl ?_
    exact ⟨_, by first | rfl | (simp [errW_none, errW_some] <;> rfl) | (simp [*, errW_none, errW_some] <;> rfl), by (with_reducible repeat (first | apply Kd.R_alloc | apply Kd.R_drewN | apply Kd.R_drew)); exact Kd.R_mono (Kd.R_far (p := ⟨gb44002, 1, none⟩) (Kd.R_far (p := ⟨gb44002, 0, none⟩) (Kd.R_types HO44018.out BK44002.out (by decide)) (fun _ hk => hk.2) (.int .i64 a0_0)) (fun _ hk => hk.2) (.slice Ao33 y44016.length co33)) (fun _ hk => trivial), by repeat (first | (with_reducible first | exact HB.out | apply below_alloc | apply pw_below_drewN | apply below_drew1 | refine below_set ?_ GE44001.out | refine below_set ?_ GE44002.out) | exact HB.out)⟩
   ·rw [if_neg c13] at H
    exact absurd H (by simp)
 ·replace c3 := Bool.eq_false_iff.mpr c3
  subst c3
  have H1 : (some (0, ([] : List Int), false)) = some (r1, r2, r3) := by rw [if_neg (show ¬ (false = true) by decide)] at H; exact H
  clear H
  have H := H1
  clear H1
  simp only [Option.some.injEq, Prod.mk.injEq] at H
  obtain ⟨rfl, rfl, rfl⟩ := H
  go_enter Try.func43, Try.ntmps43
  go_wp2_with (first | ((with_reducible refine gate_dst (N := 1) rfl ?_); refine box_event ?hg (N := 1) ?hd (cs := #[.int .i64 a0_0, .slice A0_1 l0_1.length c0_1]) (t := 26) ?hr ?_; (case hd => rfl); (case hg => rfl); (case hr => first | (go_simp; done) | (go_simp; rfl)); intro gb44001 hg w36 hbox hb; have BK44001 := aQ (hbox); have GW44001 := aQ ((by rw [hg]; exact (below_size (by repeat (first | (with_reducible first | exact HB.out | apply below_alloc | apply pw_below_drewN | apply below_drew1) | exact HB.out))) : w.heap.size ≤ gb44001)); have GE44001 := aQ ((by rw [hg]; exact (below_size (by repeat (first | (with_reducible first | exact HB.out | apply below_alloc | apply pw_below_drewN | apply below_drew1) | exact HB.out))) : w.heap.size ≤ gb44001)); replace HB := aQ (below_step (by repeat (first | (with_reducible first | exact HB.out | apply below_alloc | apply pw_below_drewN | apply below_drew1) | exact HB.out)) hb); clear hb hbox hg) | ((with_reducible refine gate_dst (N := 2) rfl ?_); refine box_event ?hg (N := 2) ?hd (cs := #[.int .i64 0, .slice none 0 0]) (t := 26) ?hr ?_; (case hd => rfl); (case hg => rfl); (case hr => first | (go_simp; done) | (go_simp; rfl)); intro gb44002 hg w37 hbox hb; have BK44002 := aQ (hbox); have GW44002 := aQ ((by rw [hg]; exact (below_size (by repeat (first | (with_reducible first | exact HB.out | apply below_alloc | apply pw_below_drewN | apply below_drew1 | refine below_set ?_ GE44001.out) | exact HB.out))) : w.heap.size ≤ gb44002)); have GE44002 := aQ ((by rw [hg]; exact (below_size (by repeat (first | (with_reducible first | exact HB.out | apply below_alloc | apply pw_below_drewN | apply below_drew1 | refine below_set ?_ GE44001.out) | exact HB.out))) : w.heap.size ≤ gb44002)); replace HB := aQ (below_step (by repeat (first | (with_reducible first | exact HB.out | apply below_alloc | apply pw_below_drewN | apply below_drew1 | refine below_set ?_ GE44001.out) | exact HB.out)) hb); have NB44001_44002 := aQ ((by rw [hg]; exact Nat.ne_of_lt (blk_lt (g := gb44001) (o := .cells #[.int .i64 a0_0, .slice A0_1 l0_1.length c0_1] 26 (0, 0)) (by (with_reducible repeat (first | refine blk_drewN ?_ _ | refine blk_drew ?_ | refine blk_alloc ?_ _)); exact BK44001.out)) : gb44001 ≠ gb44002)); have NB44002_44001 := aQ ((by rw [hg]; exact Nat.ne_of_gt (blk_lt (g := gb44001) (o := .cells #[.int .i64 a0_0, .slice A0_1 l0_1.length c0_1] 26 (0, 0)) (by (with_reducible repeat (first | refine blk_drewN ?_ _ | refine blk_drew ?_ | refine blk_alloc ?_ _)); exact BK44001.out)) : gb44002 ≠ gb44001)); replace BK44001 := aQ (blk_below (g := gb44001) (o := .cells #[.int .i64 a0_0, .slice A0_1 l0_1.length c0_1] 26 (0, 0)) (by (with_reducible repeat (first | refine blk_drewN ?_ _ | refine blk_drew ?_ | refine blk_alloc ?_ _)); exact BK44001.out) hb); clear hb hbox hg; have hnb38 := NB44001_44002.out; have hnc38 := NB44002_44001.out; have hcz39_0 : w37.cell? ⟨gb44001, 0, none⟩ = some (.int .i64 a0_0) := (blk_cell BK44001.out 0).trans rfl; have hcz39_1 : w37.cell? ⟨gb44001, 1, none⟩ = some (.slice A0_1 l0_1.length c0_1) := (blk_cell BK44001.out 1).trans rfl; have hfz39_0 := blk_frozen BK44001.out 0; have hfz39_1 := blk_frozen BK44001.out 1) | ((with_reducible refine gate_callee (f := 74) rfl ?_); refine goesL_ (some 5) rfl rfl Try.func74 (by kernel_rfl) rfl #[.agg #[.int .i64 a0_0, .slice A0_1 l0_1.length c0_1]] rfl (by (try simp only [List.map_toArray, List.map_cons, List.map_nil]); first | done | rfl | (simp only [List.length_drop, List.length_take]; rfl)) ?_; (with_reducible refine (spec_IsMatroid.calls k a0_0 _ _ l0_1 false _ ?side1 ?side2 A2.out).mono ?_); (case side1 => repeat (first | exact (Kd.C_below HR0_1.out HB.out) | (with_reducible refine Kd.C_alloc ?_ _) | (with_reducible refine Kd.C_drewN ?_ _) | (with_reducible refine Kd.C_drew ?_))); (case side2 => exact HC0_1.out); rintro e w40 ⟨rfl, hb⟩; refine ⟨_, rfl, ?_⟩; replace BK44001 := aQ (blk_below (g := gb44001) (o := .cells #[.int .i64 a0_0, .slice A0_1 l0_1.length c0_1] 26 (0, 0)) (by (with_reducible repeat (first | refine blk_drewN ?_ _ | refine blk_drew ?_ | refine blk_alloc ?_ _)); exact BK44001.out) hb); replace BK44002 := aQ (blk_below (g := gb44002) (o := .cells #[.int .i64 0, .slice none 0 0] 26 (0, 0)) (by (with_reducible repeat (first | refine blk_drewN ?_ _ | refine blk_drew ?_ | refine blk_alloc ?_ _)); exact BK44002.out) hb); replace HB := aQ (below_step (by repeat (first | (with_reducible first | exact HB.out | apply below_alloc | apply pw_below_drewN | apply below_drew1 | refine below_set ?_ GE44001.out | refine below_set ?_ GE44002.out) | exact HB.out)) hb); (try clear hb); (try clear hb2); (try clear hk); (try clear hi); have hcz41_0 : w40.cell? ⟨gb44002, 0, none⟩ = some (.int .i64 0) := (blk_cell BK44002.out 0).trans rfl; have hcz41_1 : w40.cell? ⟨gb44002, 1, none⟩ = some (.slice none 0 0) := (blk_cell BK44002.out 1).trans rfl; have hfz41_0 := blk_frozen BK44002.out 0; have hfz41_1 := blk_frozen BK44002.out 1))
  refine bodyPost_ret (results_ct rfl _ _ gb44002 26 #[.int .i64 0, .slice none 0 0] (0, 0) _ rfl (by (with_reducible repeat (first | refine blk_drewN ?_ _ | refine blk_drew ?_ | refine blk_alloc ?_ _)); refine blk_put (cs := #[.int .i64 0, .slice none 0 0]) ?_ 1 _ rfl; (with_reducible repeat (first | refine blk_drewN ?_ _ | refine blk_drew ?_ | refine blk_alloc ?_ _)); refine blk_put (cs := #[.int .i64 0, .slice none 0 0]) ?_ 0 _ rfl; (with_reducible repeat (first | refine blk_drewN ?_ _ | refine blk_drew ?_ | refine blk_alloc ?_ _)); exact BK44002.out) Try.underlying26 rfl (by kernel_rfl)) rfl ?_
  exact ⟨_, by first | rfl | (simp [errW_none, errW_some] <;> rfl) | (simp [*, errW_none, errW_some] <;> rfl), by first | exact Kd.R_nil _ _ _ _ _ | exact Kd.N_nil _ _ _ _ _ | exact Kd.V_nil _ _ _ _ _ | exact Kd.Q_nil _ _ _ _ _ | exact Kd.S_nil _ _ _ _ _, by repeat (first | (with_reducible first | exact HB.out | apply below_alloc | apply pw_below_drewN | apply below_drew1 | refine below_set ?_ GE44001.out | refine below_set ?_ GE44002.out) | exact HB.out)⟩
/-! ### impl_copyMatroid: function 109 -/
def impl_copyMatroid.f (a0_0 : Int) (l0_1 : List Int) : Option (Int × List Int) := (some (([] : List Int) : List Int)).bind fun y110003 => (if y110003.length + l0_1.length < 17592186044416 then (some (a0_0, (y110003 ++ l0_1))) else (none))
def impl_copyMatroid.T1 : Bool × List (List Nat × List Nat) := (true, [([], []), ([0], [0]), ([], []), ([], []), ([3], [3]), ([2, 4], [2, 4]), ([1, 5], [1, 5]), ([6, 5, 0, 1, 2, 3, 4, 5, 6], [6])])
def impl_copyMatroid.B1 : List Nat := [0, 1, 0, 0, 8, 28, 63, 127]
theorem impl_copyMatroid.tab1 : rtab .any (opsOf Try.f109 1) = impl_copyMatroid.T1 := by kernel_rfl
theorem impl_copyMatroid.bits1 : waitsOk impl_copyMatroid.T1.2 impl_copyMatroid.B1 = true := by kernel_rfl
set_option maxHeartbeats 8000000 in
set_option maxRecDepth 100000 in
theorem impl_copyMatroid.calls (a0_0 : Int) (A0_1 : Option Addr) (c0_1 : Nat) (l0_1 : List Int) (r1 : Int) (r2 : List Int) (w : World) (hr0_1 : Kd.C (Kd.int .i64) w A0_1 l0_1.length l0_1) (hc0_1 : l0_1.length ≤ c0_1) (h : impl_copyMatroid.f a0_0 l0_1 = some (r1, r2)) :
  Calls Try.prog 109 #[.agg #[.int .i64 a0_0, .slice A0_1 l0_1.length c0_1]] w fun e w' => ∃ v1_ : Value, e = .returned (.agg #[.int .i64 r1, v1_]) ∧ Kd.R (Kd.int .i64) 3 w' w.heap.size (fun _ => True) v1_ r2 ∧ Below w.heap.size w w' := by
 have hu26 := Try.underlying26
 have HR0_1 := aQ hr0_1
 have HC0_1 := aQ hc0_1
 clear hr0_1 hc0_1
 have HB := aQ (Below.refl w.heap.size w)
 have H : ((some (([] : List Int) : List Int)).bind fun y110003 => (if y110003.length + l0_1.length < 17592186044416 then (some (a0_0, (y110003 ++ l0_1))) else (none))) = some (r1, r2) := h
 clear h
 obtain ⟨y110003, hy110003⟩ : ∃ y_ : List Int, y_ = (([] : List Int)) := ⟨_, rfl⟩
 replace H : (if y110003.length + l0_1.length < 17592186044416 then (some (a0_0, (y110003 ++ l0_1))) else (none)) = some (r1, r2) := by first | (rw [hy110003]; with_reducible exact H) | (have H2_ := (Option.bind_some _ _).symm.trans H; rw [hy110003]; with_reducible exact H2_) | (have H2_ := (Option.bind_some _ _).symm.trans H; with_reducible exact H2_) | with_reducible exact H | (rw [hy110003]; exact H) | exact H
 have Ny110003 := aQ hy110003
 clear hy110003
 by_cases c2 : y110003.length + l0_1.length < 17592186044416
 ·rw [if_pos c2] at H
  have LMc2 := aQ c2
  clear c2
  obtain ⟨y110006, hy110006⟩ : ∃ y_ : List Int, y_ = (y110003 ++ l0_1) := ⟨_, rfl⟩
  replace H : (some (a0_0, y110006)) = some (r1, r2) := by first | (rw [hy110006]; with_reducible exact H) | (have H2_ := (Option.bind_some _ _).symm.trans H; rw [hy110006]; with_reducible exact H2_) | (have H2_ := (Option.bind_some _ _).symm.trans H; with_reducible exact H2_) | with_reducible exact H | (rw [hy110006]; exact H) | exact H
  have Ny110006 := aQ hy110006
  clear hy110006
  simp only [Option.some.injEq, Prod.mk.injEq] at H
  obtain ⟨rfl, rfl⟩ := H
  go_enter Try.func109, Try.ntmps109
  try go_wp2_with (first | ((with_reducible refine gate_dst (N := 1) rfl ?_); refine box_event ?hg (N := 1) ?hd (cs := #[.int .i64 a0_0, .slice A0_1 l0_1.length c0_1]) (t := 26) ?hr ?_; (case hd => rfl); (case hg => rfl); (case hr => first | (go_simp; done) | (go_simp; rfl)); intro gb110001 hg w3 hbox hb; have BK110001 := aQ (hbox); have GW110001 := aQ ((by rw [hg]; exact (below_size (by repeat (first | (with_reducible first | exact HB.out | apply below_alloc | apply pw_below_drewN | apply below_drew1) | exact HB.out))) : w.heap.size ≤ gb110001)); have GE110001 := aQ ((by rw [hg]; exact (below_size (by repeat (first | (with_reducible first | exact HB.out | apply below_alloc | apply pw_below_drewN | apply below_drew1) | exact HB.out))) : w.heap.size ≤ gb110001)); replace HB := aQ (below_step (by repeat (first | (with_reducible first | exact HB.out | apply below_alloc | apply pw_below_drewN | apply below_drew1) | exact HB.out)) hb); clear hb hbox hg) | ((with_reducible refine gate_dst (N := 2) rfl ?_); refine box_event ?hg (N := 2) ?hd (cs := #[.int .i64 0, .slice none 0 0]) (t := 26) ?hr ?_; (case hd => rfl); (case hg => rfl); (case hr => first | (go_simp; done) | (go_simp; rfl)); intro gb110002 hg w4 hbox hb; have BK110002 := aQ (hbox); have GW110002 := aQ ((by rw [hg]; exact (below_size (by repeat (first | (with_reducible first | exact HB.out | apply below_alloc | apply pw_below_drewN | apply below_drew1 | refine below_set ?_ GE110001.out) | exact HB.out))) : w.heap.size ≤ gb110002)); have GE110002 := aQ ((by rw [hg]; exact (below_size (by repeat (first | (with_reducible first | exact HB.out | apply below_alloc | apply pw_below_drewN | apply below_drew1 | refine below_set ?_ GE110001.out) | exact HB.out))) : w.heap.size ≤ gb110002)); replace HB := aQ (below_step (by repeat (first | (with_reducible first | exact HB.out | apply below_alloc | apply pw_below_drewN | apply below_drew1 | refine below_set ?_ GE110001.out) | exact HB.out)) hb); have NB110001_110002 := aQ ((by rw [hg]; exact Nat.ne_of_lt (blk_lt (g := gb110001) (o := .cells #[.int .i64 a0_0, .slice A0_1 l0_1.length c0_1] 26 (0, 0)) (by (with_reducible repeat (first | refine blk_drewN ?_ _ | refine blk_drew ?_ | refine blk_alloc ?_ _)); exact BK110001.out)) : gb110001 ≠ gb110002)); have NB110002_110001 := aQ ((by rw [hg]; exact Nat.ne_of_gt (blk_lt (g := gb110001) (o := .cells #[.int .i64 a0_0, .slice A0_1 l0_1.length c0_1] 26 (0, 0)) (by (with_reducible repeat (first | refine blk_drewN ?_ _ | refine blk_drew ?_ | refine blk_alloc ?_ _)); exact BK110001.out)) : gb110002 ≠ gb110001)); replace BK110001 := aQ (blk_below (g := gb110001) (o := .cells #[.int .i64 a0_0, .slice A0_1 l0_1.length c0_1] 26 (0, 0)) (by (with_reducible repeat (first | refine blk_drewN ?_ _ | refine blk_drew ?_ | refine blk_alloc ?_ _)); exact BK110001.out) hb); clear hb hbox hg))
  have n0_ := aQ (blk_drew BK110001.out)
  have n1_ := aQ (blk_drew BK110002.out)
  have n2_ := aQ (below_drew1 HB.out)
  clear BK110001
  clear BK110002
  clear HB
  have BK110001 := n0_
  have BK110002 := n1_
  have HB := n2_
  clear n0_ n1_ n2_
  refine start_ (n := 8) (S := fun w' => w'.cell? ⟨gb110001, 0, none⟩ = some (.int .i64 a0_0) ∧ w'.cell? ⟨gb110001, 1, none⟩ = some (.slice A0_1 l0_1.length c0_1)) (ds := []) #[false, false, false, false, false, false, false, false] (by kernel_rfl) rfl rfl ⟨(blk_cell BK110001.out 0).trans rfl, (blk_cell BK110001.out 1).trans rfl⟩ (fun hHeld => ?_); refine with_tabW impl_copyMatroid.tab1 impl_copyMatroid.bits1 (fun HT_ HW_ => ?_)
  generalize w4.drew = w5 at BK110001 BK110002 HB hHeld ⊢
  refine pure_ (i := 0) (N := some 3) (v := ?_) (a' := ?_) #[true, false, false, false, false, false, false, false] rfl rfl (any_of HT_.out (by kernel_rfl)) (fun _ _ _ h => h) (Or.inl ⟨by rfl, ?_⟩) ?_ ?_
  rotate_left
  ·intro w'
   go_simp
   with_reducible rfl
  rotate_left
  ·simp only [Act.put, List.setIfInBounds_toArray, List.set_cons_zero, List.set_cons_succ, i64_w, i32_w]
   rfl
  refine pure_ (i := 3) (N := some 6) (v := ?_) (a' := ?_) #[true, false, false, true, false, false, false, false] rfl rfl (any_of HT_.out (by kernel_rfl)) (fun _ _ _ h => h) (Or.inl ⟨by rfl, ?_⟩) ?_ ?_
  rotate_left
  ·intro w'
   go_simp
   with_reducible rfl
  rotate_left
  ·simp only [Act.put, List.setIfInBounds_toArray, List.set_cons_zero, List.set_cons_succ, i64_w, i32_w]
   rfl
  refine take_ (i := 1) (N := some 4) (v := ?_) (a' := ?_) #[true, true, false, true, false, false, false, false] rfl rfl (take_ofW HT_.out HW_.out (by kernel_rfl)) (fun _ _ _ h => h) (Or.inl ⟨by rfl, ?_⟩) hHeld ?_ ?_
  rotate_left
  ·rintro w' ⟨s0, s1⟩
   go_simp
   with_reducible rfl
  rotate_left
  ·simp only [Act.put, List.setIfInBounds_toArray, List.set_cons_zero, List.set_cons_succ, i64_w, i32_w]
   rfl
  refine take_ (i := 4) (N := some 7) (v := ?_) (a' := ?_) #[true, true, false, true, true, false, false, false] rfl rfl (take_ofW HT_.out HW_.out (by kernel_rfl)) (fun _ _ _ h => h) (Or.inl ⟨by rfl, ?_⟩) hHeld ?_ ?_
  rotate_left
  ·rintro w' ⟨s0, s1⟩
   go_simp
   with_reducible rfl
  rotate_left
  ·simp only [Act.put, List.setIfInBounds_toArray, List.set_cons_zero, List.set_cons_succ, i64_w, i32_w]
   rfl
  refine one_ (i := 2) (N := some 5) #[true, true, true, true, true, false, false, false] rfl rfl (one_of HT_.out (by kernel_rfl)) (by decide) (fun K hK => ?_)
  refine Kd.R_lit_step (Kd.int .i64) _ 3 ?hg (N := 5) ?hd (xs := ([] : List Int)) (inner := []) (ok := fun _ => True) (okp := fun _ => True) ?hr ?hp (fun _ hk => hk) trivial (Below.refl _ _) (Nat.le_refl _) (by simp) ?_; (case hd => rfl); (case hg => rfl); (case hr => first | (go_simp; done) | (go_simp; rfl)); (case hp => exact (Reps.none _ _))
  intro v110004 w6 ho7 hb hg_ hnew_
  clear hg_ hnew_
  (first | rw [← Ny110003.out] at ho7 | (simp only [Int.reduceToNat] at ho7; rw [← Ny110003.out] at ho7))
  have n0_ := aQ (Kd.R_lower ho7 (below_size (by repeat (first | (with_reducible first | exact HB.out | apply below_alloc | apply pw_below_drewN | apply below_drew1 | refine below_set ?_ GE110001.out | refine below_set ?_ GE110002.out) | exact HB.out))))
  have n1_ := aQ (blk_below (g := gb110001) (o := .cells #[.int .i64 a0_0, .slice A0_1 l0_1.length c0_1] 26 (0, 0)) (by (with_reducible repeat (first | refine blk_drewN ?_ _ | refine blk_drew ?_ | refine blk_alloc ?_ _)); exact BK110001.out) hb)
  have n2_ := aQ (blk_below (g := gb110002) (o := .cells #[.int .i64 0, .slice none 0 0] 26 (0, 0)) (by (with_reducible repeat (first | refine blk_drewN ?_ _ | refine blk_drew ?_ | refine blk_alloc ?_ _)); exact BK110002.out) hb)
  have n3_ := aQ (below_step (by repeat (first | (with_reducible first | exact HB.out | apply below_alloc | apply pw_below_drewN | apply below_drew1 | refine below_set ?_ GE110001.out | refine below_set ?_ GE110002.out) | exact HB.out)) hb)
  clear BK110001
  clear BK110002
  clear HB
  have HO110005 := n0_
  have BK110001 := n1_
  have BK110002 := n2_
  have HB := n3_
  clear n0_ n1_ n2_ n3_
  clear hb ho7
  refine hK.out _ _ ⟨(blk_cell BK110001.out 0).trans rfl, (blk_cell BK110001.out 1).trans rfl⟩ (fun hHeld => ?_)
  clear hK K
  refine norm_ (a' := ?_) ?_ ?_
  rotate_left
  ·show Act.put _ (some 5) _ = _
   simp only [Act.put, List.setIfInBounds_toArray, List.set_cons_zero, List.set_cons_succ, i64_w, i32_w]
   rfl
  refine one_ (i := 5) (N := some 8) #[true, true, true, true, true, true, false, false] rfl rfl (one_of HT_.out (by kernel_rfl)) (by decide) (fun K hK => ?_)
  refine Kd.R_append_rows_step (Kd.int .i64) (w0 := w) w.heap.size (by rfl) (.tmp 5) (.tmp 7) 22 3 (.int .i64 0) 8 rfl Try.underlying22 info3 rfl (by decide) (by omega) v110004 y110003 l0_1 _ _ _ (fun _ => True) (fun _ => False) rfl rfl ?aO ?aR (fun _ _ h => h) (fun _ h => h.elim) ?aF ?aB ?aS ?aL ?_
  (case aR => repeat (first | exact (Kd.C_below HR0_1.out HB.out) | (with_reducible refine Kd.C_alloc ?_ _) | (with_reducible refine Kd.C_drewN ?_ _) | (with_reducible refine Kd.C_drew ?_)))
  (case aB => exact (by repeat (first | (with_reducible first | exact HB.out | apply below_alloc | apply pw_below_drewN | apply below_drew1 | refine below_set ?_ GE110001.out | refine below_set ?_ GE110002.out) | exact HB.out)))
  (case aF => exact (fun _ _ => trivial))
  (case aO => exact (by (with_reducible repeat (first | apply Kd.R_alloc | apply Kd.R_drewN | apply Kd.R_drew)); exact HO110005.out))
  (case aS => exact (below_size (by repeat (first | (with_reducible first | exact HB.out | apply below_alloc | apply pw_below_drewN | apply below_drew1 | refine below_set ?_ GE110001.out | refine below_set ?_ GE110002.out) | exact HB.out))))
  (case aL => have := LMc2.out; omega)
  intro v110007 w8 ho hb hg hat
  rw [← Ny110006.out] at ho
  have n0_ := aQ (blk_grown (g := gb110001) (o := .cells #[.int .i64 a0_0, .slice A0_1 l0_1.length c0_1] 26 (0, 0)) (by (with_reducible repeat (first | refine blk_drewN ?_ _ | refine blk_drew ?_ | refine blk_alloc ?_ _)); exact BK110001.out) hg (Kd.R_ne HO110005.out BK110001.out (by decide)))
  have n1_ := aQ (blk_grown (g := gb110002) (o := .cells #[.int .i64 0, .slice none 0 0] 26 (0, 0)) (by (with_reducible repeat (first | refine blk_drewN ?_ _ | refine blk_drew ?_ | refine blk_alloc ?_ _)); exact BK110002.out) hg (Kd.R_ne HO110005.out BK110002.out (by decide)))
  have n2_ := aQ (hb)
  have n3_ := aQ (ho)
  clear BK110001
  clear BK110002
  clear HB
  clear HO110005
  have BK110001 := n0_
  have BK110002 := n1_
  have HB := n2_
  have HO110008 := n3_
  clear n0_ n1_ n2_ n3_
  clear ho hb hg hat
  obtain ⟨Ao9, co9, eo9⟩ := Kd.R_slice HO110008.out
  (first | subst eo9 | (injection eo9 with f1_ f2_ f3_; have f4_ := f1_.symm; have f5_ := f3_.symm; clear f1_ f2_ f3_; subst f4_; subst f5_))
  refine hK.out _ _ ⟨(blk_cell BK110001.out 0).trans rfl, (blk_cell BK110001.out 1).trans rfl⟩ (fun hHeld => ?_)
  clear hK K
  refine norm_ (a' := ?_) ?_ ?_
  rotate_left
  ·show Act.put _ (some 8) _ = _
   simp only [Act.put, List.setIfInBounds_toArray, List.set_cons_zero, List.set_cons_succ, i64_w, i32_w]
   rfl
  refine pure_ (i := 6) (N := some 9) (v := ?_) (a' := ?_) #[true, true, true, true, true, true, true, false] rfl rfl (any_of HT_.out (by kernel_rfl)) (fun _ _ _ h => h) (Or.inl ⟨by rfl, ?_⟩) ?_ ?_
  rotate_left
  ·intro w'
   go_simp
   with_reducible rfl
  rotate_left
  ·simp only [Act.put, List.setIfInBounds_toArray, List.set_cons_zero, List.set_cons_succ, i64_w, i32_w]
   rfl
  refine one_ (i := 7) (N := none) #[true, true, true, true, true, true, true, true] rfl rfl (one_of HT_.out (by kernel_rfl)) (by decide) (fun K hK => ?_)
  have hs10 : w8.cell? ⟨gb110002, 0, none⟩ = some (.int .i64 0) := (blk_cell BK110002.out 0).trans rfl
  have hfs10 := blk_frozen BK110002.out 0
  have hns10_0 := NB110001_110002.out
  have hms10_0 := NB110002_110001.out
  have hs11 : w8.cell? ⟨gb110002, 1, none⟩ = some (.slice none 0 0) := (blk_cell BK110002.out 1).trans rfl
  have hfs11 := blk_frozen BK110002.out 1
  have hns11_0 := NB110001_110002.out
  have hms11_0 := NB110002_110001.out
  refine skip_ (w1 := ?_) (by rfl) rfl ?_ ?_
  rotate_left
  ·go_simp
   rfl
  refine hK.out _ _ ⟨((cell_far (p := ⟨gb110002, _, none⟩) NB110001_110002.out _).trans (((cell_far (p := ⟨gb110002, _, none⟩) NB110001_110002.out _).trans (hHeld.1)))), ((cell_far (p := ⟨gb110002, _, none⟩) NB110001_110002.out _).trans (((cell_far (p := ⟨gb110002, _, none⟩) NB110001_110002.out _).trans (hHeld.2))))⟩ (fun hHeld => ?_)
  clear hK K
  refine done_ (done_of HT_.out (by kernel_rfl)) ?_
  try go_wp2
  refine bodyPost_ret (results_cell_row rfl _ _ gb110002 26 #[.int .i64 a0_0, .slice Ao9 y110006.length co9] (0, 0) _ rfl (by (with_reducible repeat (first | refine blk_drewN ?_ _ | refine blk_drew ?_ | refine blk_alloc ?_ _)); refine blk_put (cs := #[.int .i64 a0_0, .slice none 0 0]) ?_ 1 _ rfl; (with_reducible repeat (first | refine blk_drewN ?_ _ | refine blk_drew ?_ | refine blk_alloc ?_ _)); refine blk_put (cs := #[.int .i64 0, .slice none 0 0]) ?_ 0 _ rfl; (with_reducible repeat (first | refine blk_drewN ?_ _ | refine blk_drew ?_ | refine blk_alloc ?_ _)); exact BK110002.out) Try.underlying26 rfl (by kernel_rfl)) rfl ?_
  exact ⟨_, by first | rfl | (simp [errW_none, errW_some] <;> rfl) | (simp [*, errW_none, errW_some] <;> rfl), by (with_reducible repeat (first | apply Kd.R_alloc | apply Kd.R_drewN | apply Kd.R_drew)); exact Kd.R_mono (Kd.R_far (p := ⟨gb110002, 1, none⟩) (Kd.R_far (p := ⟨gb110002, 0, none⟩) (Kd.R_types HO110008.out BK110002.out (by decide)) (fun _ hk => hk.2) (.int .i64 a0_0)) (fun _ hk => hk.2) (.slice Ao9 y110006.length co9)) (fun _ hk => trivial), by repeat (first | (with_reducible first | exact HB.out | apply below_alloc | apply pw_below_drewN | apply below_drew1 | refine below_set ?_ GE110001.out | refine below_set ?_ GE110002.out) | exact HB.out)⟩
 ·rw [if_neg c2] at H
  exact absurd H (by simp)
end Go.Proofs.Ytagncnjllpebjaa.A
namespace Go.Proofs.Ytagncnjllpebjaa.A
open Go.RowKit Go.Proofs.YtagncnjllpebjaaW.PrintWords Go.Proofs.YtagncnjllpebjaaW.PrintLast Go.Proofs.YtagncnjllpebjaaW.PrintMore Go.Proofs.Ytagncnjllpebjaa.Z
attribute [local go_sem] max2_int min2_int max_two min_two max_three min_three max_four min_four
set_option linter.unusedVariables false
set_option linter.unusedSimpArgs false
/-! ### impl_renamings: function 110 (by hand) -/
/-- The elements from e on, c of them: those not in the list are put behind it, one after the other. -/
def renE {σ : Type} (k : Nat) (rec : List Int → σ → Option (σ × Bool)) (list : List Int) : Nat → Int → σ → Option (σ × Bool)
 | 0, _, st => some (st, true)
 | c + 1, e, st => (slices_Contains_int_int.f k list e).bind fun h => if h = true then renE k rec list c (e + 1) st else (rec (list ++ [e]) st).bind fun p => if p.2 = true then renE k rec list c (e + 1) p.1 else some (p.1, false)
/-- Every list of n different elements, in order, until one says stop. -/
def renO {σ : Type} (k : Nat) (g : σ → List Int → Option (σ × Bool)) (n : Int) : Nat → List Int → σ → Option (σ × Bool)
 | 0, _, _ => none
 | d + 1, list, st => if (list.length : Int) = n then g st list else if list.length < 1000 then renE k (renO k g n d) list n.toNat 0 st else none
theorem renE_mono {σ : Type} (k : Nat) (r1 r2 : List Int → σ → Option (σ × Bool)) (hr : ∀ l st, LeO (r1 l st) (r2 l st)) (list : List Int) : ∀ (c : Nat) (e : Int) (st : σ), LeO (renE k r1 list c e st) (renE (k + 1) r2 list c e st)
 | 0, _, _ => LeO.refl _
 | c + 1, e, st => by
  simp only [renE]
  exact LeO.bind (slices_Contains_int_int.mono _ _ _) (fun h => LeO.ite (renE_mono k r1 r2 hr list c _ st) (LeO.bind (hr _ _) (fun p => LeO.ite (renE_mono k r1 r2 hr list c _ _) (LeO.refl _))))
theorem renO_mono {σ : Type} (k : Nat) (g1 g2 : σ → List Int → Option (σ × Bool)) (hg : ∀ st l, LeO (g1 st l) (g2 st l)) (n : Int) : ∀ (d : Nat) (list : List Int) (st : σ), LeO (renO k g1 n d list st) (renO (k + 1) g2 n d list st)
 | 0, _, _ => LeO.refl _
 | d + 1, list, st => by
  simp only [renO]
  exact LeO.ite (hg _ _) (LeO.ite (renE_mono k _ _ (fun l st => renO_mono k g1 g2 hg n d l st) list _ _ _) (LeO.none _))
theorem below0_trans {w w1 w2 : World} (h1 : Below 0 w w1) (h2 : Below 0 w1 w2) : Below 0 w w2 := h1.trans h2
theorem below0_of {B : Nat} {w w1 : World} (h : Below B w w1) : Below 0 w w1 := ⟨h.os, h.tape, h.output, h.size, fun _ hk => absurd hk (Nat.not_lt_zero _)⟩
theorem kept_below {w w1 w2 : World} {S : Nat → Prop} (h : Kept w w1 S) (hb : Below w1.heap.size w1 w2) : Kept w w2 S := h.below hb
set_option maxHeartbeats 4000000 in
set_option maxRecDepth 100000 in
theorem renamings_walk {σ : Type} (k : Nat) (g : σ → List Int → Option (σ × Bool)) (Rel : σ → World → Prop) (S : Nat → Prop) (u : Nat) (cb : Array Value) (n : Int) (hn : 0 ≤ n ∧ n ≤ 1000)
  (hRel : ∀ (st : σ) (W W' : World), Rel st W → Below W.heap.size W W' → Rel st W')
  (hU : ∀ (st st' : σ) (b : Bool) (W : World) (A : Option Addr) (c : Nat) (list : List Int), Rel st W → Kd.C (Kd.int .i64) W A list.length list → list.length ≤ c → g st list = some (st', b) → Calls Try.prog u (#[.slice A list.length c] ++ cb) W fun e W' => e = .returned (.bool b) ∧ Rel st' W' ∧ Below 0 W W' ∧ Kept W W' S)
  (eU : ∀ args w, (callFunc u args).run Try.prog w = .ok (.enter u args) w) :
  ∀ (d : Nat) (list : List Int) (st st' : σ) (b : Bool) (A : Option Addr) (c : Nat) (w : World), (∀ q, S q → q < w.heap.size) → Rel st w → (∀ W', Kept w W' S → Kd.C (Kd.int .i64) W' A list.length list) → list.length ≤ c → renO k g n d list st = some (st', b) →
   Calls Try.prog 110 #[.int .i64 n, .slice A list.length c, .func (.func u) #[] cb] w fun e w' => e = .returned (.bool b) ∧ Rel st' w' ∧ Below 0 w w' ∧ Kept w w' S := by
 intro d
 induction d with
 | zero => intro list st st' b A c w _ _ _ _ h; simp [renO] at h
 | succ d ih =>
  intro list st st' b A c w hS hR hC hc h
  have IH := Lib.hid ih
  simp only [renO] at h
  by_cases h1 : (list.length : Int) = n
  ·rw [if_pos h1] at h
   have l1 : ((list.length : Int) == n) = true := beq_iff_eq.2 h1
   have HU := Lib.hid (hU st st' b w A c list hR (hC w (Kept.refl w S)) hc h)
   clear ih IH hRel hU hS hR hC hc h h1
   go_enter Try.func110, Try.ntmps110
   go_wp2_with fail
   refine (HU.out).mono ?_
   rintro e w1_ ⟨rfl, hr_, hb_, hk_⟩
   go_wp2
   go_ret
   exact ⟨by first | rfl | (simp; done) | (simp [*]; done), hr_, hb_, hk_⟩
  ·rw [if_neg h1] at h
   have l1 : ((list.length : Int) == n) = false := by rw [Bool.eq_false_iff]; exact fun h_ => h1 (beq_iff_eq.1 h_)
   by_cases h2 : list.length < 1000
   ·rw [if_pos h2] at h
    have HRel := Lib.hid hRel
    have HS := Lib.hid hS
    have HC := Lib.hid hC
    have HCL := aQ hc
    have HL1 := aQ h2
    have HI0 := Lib.hid h
    have HR0 := Lib.hid hR
    have HN := aQ hn
    clear ih hRel hU eU hS hR hC hc h h1 h2 hn
    go_enter Try.func110, Try.ntmps110
    go_wp2
    go_loopg [7] n.toNat (fun gg s7 wr => ∃ (x : Int) (st1 : σ), s7 = .int .i64 x ∧ Aside0 (0 ≤ x ∧ x ≤ n) ∧ Aside0 (n.toNat - x.toNat ≤ gg) ∧ Aside0 (renE k (renO k g n d) list (n - x).toNat x st1 = some (st', b)) ∧ Aside0 (Rel st1 wr) ∧ Aside0 (Below 0 w wr) ∧ Aside0 (Kept w wr S))
    case atStart => exact ⟨0, st, by first | rfl | (simp; done), ⟨by have := HN.out; omega⟩, ⟨by omega⟩, ⟨by rw [Int.sub_zero]; exact HI0.out⟩, ⟨HR0.out⟩, ⟨Below.refl _ _⟩, ⟨Kept.refl _ _⟩⟩
    case round =>
     clear HI0 HR0
     obtain ⟨x, st1, rfl, HX, HG, HI, HR1, HB, HK⟩ := hrel
     by_cases hlt : x < n
     ·have l2 : decide (x < n) = true := decide_eq_true hlt
      have hI := HI.out
      rw [show (n - x).toNat = (n - (x + 1)).toNat + 1 by omega] at hI
      simp only [renE] at hI
      obtain ⟨hh, hq, hI⟩ := Option.bind_eq_some_iff.1 hI
      have HQ := Lib.hid hq
      have HCr := aQ (HC.out wr HK.out)
      have HSZ := aQ HK.out.1
      have E1 := Lib.hid (wrap64_of (n := x + 1) (by have := HX.out; omega) (by have := HN.out; omega))
      have Q1 := aQ hlt
      clear HI hq hlt
      cases hh with
      | true =>
       rw [if_pos rfl] at hI
       have HI2 := Lib.hid hI
       clear hI
       go_wp2_with (first | (go_at_call 152; (with_reducible refine (slices_Contains_int_int.calls k _ _ list x true _ ?side1 ?side2 HQ.out).mono ?_); (case side1 => exact HCr.out); (case side2 => exact HCL.out); rintro e wq_ ⟨rfl, ⟨nd, rfl⟩⟩))
       go_roundg (n.toNat - (x + 1).toNat)
       case measure => have := HG.out; have := HX.out; have := Q1.out; omega
       case rel => exact ⟨x + 1, st1, by rw [E1.out], ⟨by have := HX.out; have := Q1.out; omega⟩, ⟨Nat.le_refl _⟩, ⟨HI2.out⟩, ⟨HRel.out _ _ _ HR1.out (pw_below_drewN (Below.refl _ _) _)⟩, ⟨below0_trans HB.out (pw_below_drewN (Below.refl _ _) _)⟩, ⟨Kept.drewN HK.out _⟩⟩
      | false =>
       rw [if_neg (by decide)] at hI
       obtain ⟨⟨st2, b2⟩, hrec, hI⟩ := Option.bind_eq_some_iff.1 hI
       have HREC := Lib.hid hrec
       clear hrec
       cases b2 with
       | true =>
        rw [if_pos rfl] at hI
        have HI2 := Lib.hid hI
        clear hI
        go_wp2_with (first | (go_at_call 152; (with_reducible refine (slices_Contains_int_int.calls k _ _ list x false _ ?side1 ?side2 HQ.out).mono ?_); (case side1 => exact HCr.out); (case side2 => exact HCL.out); rintro e wq_ ⟨rfl, ⟨nd, rfl⟩⟩) | ((with_reducible refine gate_dst (N := 26) rfl ?_); refine wpList_step (fun K hK => ?_); refine Kd.R_lit_step (Kd.int .i64) (w0 := wr) wr.heap.size 3 ?hw (N := 26) ?hd (xs := ([] : List Int)) (inner := []) (ok := fun q => w.heap.size ≤ q) (okp := fun _ => False) ?hr ?hp (fun _ hk => hk.elim) ?hf (pw_below_drewN (Below.refl _ _) _) (Nat.le_refl _) (by simp) ?_; (case hd => rfl); (case hw => rfl); (case hr => first | (go_simp; done) | (go_simp; rfl)); (case hp => exact (Reps.none _ _)); (case hf => exact HSZ.out); intro v26 w26 ho hb hg_ hnew_; clear hg_ hnew_; have HO := aQ ho; have HBR := aQ hb; clear ho hb; refine hK _ _ ?_; clear hK K) | ((with_reducible refine gate_builtin (b := .append) (xs := #[.tmp 26, .tmp 27]) rfl ?_); at_builtin; refine wpList_step (fun K hK => ?_); refine Kd.R_append_rows_step (Kd.int .i64) (w0 := wr) wr.heap.size ?hw2 (.tmp 26) (.tmp 27) 22 3 (.int .i64 0) 8 rfl Try.underlying22 info3 rfl (by decide) (by omega) v26 [] list _ _ _ (fun q => w.heap.size ≤ q) (fun _ => False) rfl rfl ?aO ?aR (fun _ _ h => h) (fun _ h => h.elim) ?aF ?aB ?aS ?aL ?_; (case hw2 => rfl); (case aO => exact HO.out); (case aR => exact (Kd.C_below HCr.out HBR.out)); (case aB => exact HBR.out); (case aF => exact (fun q hq => Nat.le_trans HSZ.out (Nat.le_trans (below_size HBR.out) hq))); (case aS => exact (below_size HBR.out)); (case aL => have := HL1.out; simp only [List.length_nil]; omega); intro v28 w28 ho hb hg hat; clear hg hat HO HBR; have HO := aQ ho; have HBR := aQ hb; clear ho hb; rw [List.nil_append] at HO; refine hK _ _ ?_; clear hK K) | ((with_reducible refine gate_builtin (b := .append) (xs := #[.tmp 28, .tmp 30]) rfl ?_); at_builtin; refine wpList_step (fun K hK => ?_); refine Kd.R_append_step (Kd.int .i64) (w0 := wr) wr.heap.size ?hw3 (.tmp 28) (.tmp 30) 22 3 (.int .i64 0) 8 rfl Try.underlying22 info3 rfl (by decide) (by omega) v28 list x [.int .i64 x] (fun q => w.heap.size ≤ q) (fun _ => False) rfl rfl ?bP (fun _ hk => hk.elim) ?bF ?bO ?bB ?bS ?bL ?_; (case hw3 => rfl); (case bP => exact rfl); (case bB => exact HBR.out); (case bF => exact (fun q hq => Nat.le_trans HSZ.out (Nat.le_trans (below_size HBR.out) hq))); (case bO => exact HO.out); (case bS => exact (below_size HBR.out)); (case bL => have := HL1.out; omega); intro v31 w31 ho hb hg hat; clear hg hat HO HBR; have HBR := aQ hb; obtain ⟨AHO, cHO, eHO⟩ := Kd.R_slice ho; subst eHO; have HO := aQ ho; clear ho hb; refine hK _ _ ?_; clear hK K) | (go_at_call 110; have hr1_ := HRel.out _ _ _ HR1.out HBR.out; have hr2_ := Kd.C_kept_own (S := S) HO.out (fun q hq hs => Nat.lt_irrefl _ (Nat.lt_of_lt_of_le (HS.out q hs) hq)); have hr3_ := (Kd.R_reads' HO.out).2.1; have hr4_ : ∀ q, S q → q < w31.heap.size := fun q hq => Nat.lt_of_lt_of_le (HS.out q hq) (Nat.le_trans HSZ.out (below_size HBR.out)); have hrc_ := IH.out (list ++ [x]) st1 st2 true AHO cHO w31 hr4_ hr1_ hr2_ hr3_ HREC.out; (refine (calls_of_args (by simp) hrc_).mono ?_); rintro e w33 ⟨rfl, hr_, hb_, hk_⟩; have HR2 := aQ hr_; have HB2 := aQ (below0_trans HB.out (below0_trans (below0_of HBR.out) hb_)); have HK2 := aQ ((kept_below HK.out HBR.out).then_ hk_ (fun q hq => Or.inl hq)); clear hr_ hb_ hk_))
        go_roundg (n.toNat - (x + 1).toNat)
        case measure => have := HG.out; have := HX.out; have := Q1.out; omega
        case rel => exact ⟨x + 1, st2, by rw [E1.out], ⟨by have := HX.out; have := Q1.out; omega⟩, ⟨Nat.le_refl _⟩, ⟨HI2.out⟩, ⟨HR2.out⟩, ⟨HB2.out⟩, ⟨HK2.out⟩⟩
       | false =>
        rw [if_neg (by simp)] at hI
        simp only [Option.some.injEq, Prod.mk.injEq] at hI
        obtain ⟨rfl, rfl⟩ := hI
        go_wp2_with (first | (go_at_call 152; (with_reducible refine (slices_Contains_int_int.calls k _ _ list x false _ ?side1 ?side2 HQ.out).mono ?_); (case side1 => exact HCr.out); (case side2 => exact HCL.out); rintro e wq_ ⟨rfl, ⟨nd, rfl⟩⟩) | ((with_reducible refine gate_dst (N := 26) rfl ?_); refine wpList_step (fun K hK => ?_); refine Kd.R_lit_step (Kd.int .i64) (w0 := wr) wr.heap.size 3 ?hw (N := 26) ?hd (xs := ([] : List Int)) (inner := []) (ok := fun q => w.heap.size ≤ q) (okp := fun _ => False) ?hr ?hp (fun _ hk => hk.elim) ?hf (pw_below_drewN (Below.refl _ _) _) (Nat.le_refl _) (by simp) ?_; (case hd => rfl); (case hw => rfl); (case hr => first | (go_simp; done) | (go_simp; rfl)); (case hp => exact (Reps.none _ _)); (case hf => exact HSZ.out); intro v26 w26 ho hb hg_ hnew_; clear hg_ hnew_; have HO := aQ ho; have HBR := aQ hb; clear ho hb; refine hK _ _ ?_; clear hK K) | ((with_reducible refine gate_builtin (b := .append) (xs := #[.tmp 26, .tmp 27]) rfl ?_); at_builtin; refine wpList_step (fun K hK => ?_); refine Kd.R_append_rows_step (Kd.int .i64) (w0 := wr) wr.heap.size ?hw2 (.tmp 26) (.tmp 27) 22 3 (.int .i64 0) 8 rfl Try.underlying22 info3 rfl (by decide) (by omega) v26 [] list _ _ _ (fun q => w.heap.size ≤ q) (fun _ => False) rfl rfl ?aO ?aR (fun _ _ h => h) (fun _ h => h.elim) ?aF ?aB ?aS ?aL ?_; (case hw2 => rfl); (case aO => exact HO.out); (case aR => exact (Kd.C_below HCr.out HBR.out)); (case aB => exact HBR.out); (case aF => exact (fun q hq => Nat.le_trans HSZ.out (Nat.le_trans (below_size HBR.out) hq))); (case aS => exact (below_size HBR.out)); (case aL => have := HL1.out; simp only [List.length_nil]; omega); intro v28 w28 ho hb hg hat; clear hg hat HO HBR; have HO := aQ ho; have HBR := aQ hb; clear ho hb; rw [List.nil_append] at HO; refine hK _ _ ?_; clear hK K) | ((with_reducible refine gate_builtin (b := .append) (xs := #[.tmp 28, .tmp 30]) rfl ?_); at_builtin; refine wpList_step (fun K hK => ?_); refine Kd.R_append_step (Kd.int .i64) (w0 := wr) wr.heap.size ?hw3 (.tmp 28) (.tmp 30) 22 3 (.int .i64 0) 8 rfl Try.underlying22 info3 rfl (by decide) (by omega) v28 list x [.int .i64 x] (fun q => w.heap.size ≤ q) (fun _ => False) rfl rfl ?bP (fun _ hk => hk.elim) ?bF ?bO ?bB ?bS ?bL ?_; (case hw3 => rfl); (case bP => exact rfl); (case bB => exact HBR.out); (case bF => exact (fun q hq => Nat.le_trans HSZ.out (Nat.le_trans (below_size HBR.out) hq))); (case bO => exact HO.out); (case bS => exact (below_size HBR.out)); (case bL => have := HL1.out; omega); intro v31 w31 ho hb hg hat; clear hg hat HO HBR; have HBR := aQ hb; obtain ⟨AHO, cHO, eHO⟩ := Kd.R_slice ho; subst eHO; have HO := aQ ho; clear ho hb; refine hK _ _ ?_; clear hK K) | (go_at_call 110; have hr1_ := HRel.out _ _ _ HR1.out HBR.out; have hr2_ := Kd.C_kept_own (S := S) HO.out (fun q hq hs => Nat.lt_irrefl _ (Nat.lt_of_lt_of_le (HS.out q hs) hq)); have hr3_ := (Kd.R_reads' HO.out).2.1; have hr4_ : ∀ q, S q → q < w31.heap.size := fun q hq => Nat.lt_of_lt_of_le (HS.out q hq) (Nat.le_trans HSZ.out (below_size HBR.out)); have hrc_ := IH.out (list ++ [x]) st1 st2 false AHO cHO w31 hr4_ hr1_ hr2_ hr3_ HREC.out; (refine (calls_of_args (by simp) hrc_).mono ?_); rintro e w33 ⟨rfl, hr_, hb_, hk_⟩; have HR2 := aQ hr_; have HB2 := aQ (below0_trans HB.out (below0_trans (below0_of HBR.out) hb_)); have HK2 := aQ ((kept_below HK.out HBR.out).then_ hk_ (fun q hq => Or.inl hq)); clear hr_ hb_ hk_))
        go_ret
        exact ⟨by first | rfl | (simp; done) | (simp [*]; done), HR2.out, HB2.out, HK2.out⟩
     ·have l2 : decide (x < n) = false := decide_eq_false hlt
      have hI := HI.out
      rw [show (n - x).toNat = 0 by omega] at hI
      simp only [renE, Option.some.injEq, Prod.mk.injEq] at hI
      obtain ⟨rfl, rfl⟩ := hI
      clear HI hlt
      go_wp2
      go_ret
      exact ⟨by first | rfl | (simp; done) | (simp [*]; done), HR1.out, HB.out, HK.out⟩
   ·rw [if_neg h2] at h; cases h
end Go.Proofs.Ytagncnjllpebjaa.A
namespace Go.Proofs.Ytagncnjllpebjaa.A
open Go.RowKit Go.Proofs.YtagncnjllpebjaaW.PrintWords Go.Proofs.YtagncnjllpebjaaW.PrintLast Go.Proofs.YtagncnjllpebjaaW.PrintMore
attribute [local go_sem] max2_int min2_int max_two min_two max_three min_three max_four min_four
set_option linter.unusedVariables false
set_option linter.unusedSimpArgs false
/-! ### cmp_Compare_int: function 161 -/
def cmp_Compare_int.f (a0 : Int) (a1 : Int) : Option (Int) := (cmp_isNaN_int.f a0).bind fun t162001 => ((cmp_isNaN_int.f a1).bind fun t162002 => (if t162001 = true then (if t162002 = true then (some 0) else (some (-1))) else (if t162002 = true then (some 1) else (if a0 < a1 then (some (-1)) else (if a0 > a1 then (some 1) else (some 0))))))
set_option maxHeartbeats 8000000 in
set_option maxRecDepth 100000 in
theorem cmp_Compare_int.calls (a0 : Int) (a1 : Int) (r : Int) (w : World) (h : cmp_Compare_int.f a0 a1 = some r) :
  Calls Try.prog 161 #[.int .i64 a0, .int .i64 a1] w fun e w' => e = .returned (.int .i64 r) ∧ Drawn0 w w' := by
 have H : ((cmp_isNaN_int.f a0).bind fun t162001 => ((cmp_isNaN_int.f a1).bind fun t162002 => (if t162001 = true then (if t162002 = true then (some 0) else (some (-1))) else (if t162002 = true then (some 1) else (if a0 < a1 then (some (-1)) else (if a0 > a1 then (some 1) else (some 0))))))) = some r := h
 clear h
 replace H := Option.bind_eq_some_iff.mp H
 obtain ⟨t162001, A30, H⟩ := H
 replace H : ((cmp_isNaN_int.f a1).bind fun t162002 => (if t162001 = true then (if t162002 = true then (some 0) else (some (-1))) else (if t162002 = true then (some 1) else (if a0 < a1 then (some (-1)) else (if a0 > a1 then (some 1) else (some 0)))))) = some r := H
 have A3 := aQ A30
 clear A30
 replace H := Option.bind_eq_some_iff.mp H
 obtain ⟨t162002, A40, H⟩ := H
 replace H : (if t162001 = true then (if t162002 = true then (some 0) else (some (-1))) else (if t162002 = true then (some 1) else (if a0 < a1 then (some (-1)) else (if a0 > a1 then (some 1) else (some 0))))) = some r := H
 have A4 := aQ A40
 clear A40
 by_cases c5 : t162001 = true
 ·subst c5
  have H1 : (if t162002 = true then (some 0) else (some (-1))) = some r := by rw [if_pos rfl] at H; exact H
  clear H
  have H := H1
  clear H1
  by_cases c6 : t162002 = true
  ·subst c6
   have H1 : (some 0) = some r := by rw [if_pos rfl] at H; exact H
   clear H
   have H := H1
   clear H1
   obtain rfl := Option.some.inj H
   go_enter Try.func161, Try.ntmps161
   go_wp2_with (first | ((with_reducible refine gate_callee (f := 182) rfl ?_); refine goesL_ (some 8) rfl rfl Try.func182 (by kernel_rfl) rfl #[.int .i64 a0] rfl (by (try simp only [List.map_toArray, List.map_cons, List.map_nil]); first | done | rfl | (simp only [List.length_drop, List.length_take]; rfl)) ?_; (with_reducible refine (cmp_isNaN_int.calls a0 true _ A3.out).mono ?_); rintro e w' ⟨rfl, ⟨nd, rfl⟩⟩; refine ⟨_, rfl, ?_⟩) | ((with_reducible refine gate_callee (f := 182) rfl ?_); refine goesL_ (some 10) rfl rfl Try.func182 (by kernel_rfl) rfl #[.int .i64 a1] rfl (by (try simp only [List.map_toArray, List.map_cons, List.map_nil]); first | done | rfl | (simp only [List.length_drop, List.length_take]; rfl)) ?_; (with_reducible refine (cmp_isNaN_int.calls a1 true _ A4.out).mono ?_); rintro e w' ⟨rfl, ⟨nd, rfl⟩⟩; refine ⟨_, rfl, ?_⟩))
   go_ret
   exact ⟨by first | rfl | (simp; done) | (simp [*]; done), by repeat (first | exact Drawn0.refl _ | apply Drawn0.step)⟩
  ·replace c6 := Bool.eq_false_iff.mpr c6
   subst c6
   have H1 : (some (-1)) = some r := by rw [if_neg (show ¬ (false = true) by decide)] at H; exact H
   clear H
   have H := H1
   clear H1
   obtain rfl := Option.some.inj H
   go_enter Try.func161, Try.ntmps161
   go_wp2_with (first | ((with_reducible refine gate_callee (f := 182) rfl ?_); refine goesL_ (some 8) rfl rfl Try.func182 (by kernel_rfl) rfl #[.int .i64 a0] rfl (by (try simp only [List.map_toArray, List.map_cons, List.map_nil]); first | done | rfl | (simp only [List.length_drop, List.length_take]; rfl)) ?_; (with_reducible refine (cmp_isNaN_int.calls a0 true _ A3.out).mono ?_); rintro e w' ⟨rfl, ⟨nd, rfl⟩⟩; refine ⟨_, rfl, ?_⟩) | ((with_reducible refine gate_callee (f := 182) rfl ?_); refine goesL_ (some 10) rfl rfl Try.func182 (by kernel_rfl) rfl #[.int .i64 a1] rfl (by (try simp only [List.map_toArray, List.map_cons, List.map_nil]); first | done | rfl | (simp only [List.length_drop, List.length_take]; rfl)) ?_; (with_reducible refine (cmp_isNaN_int.calls a1 false _ A4.out).mono ?_); rintro e w' ⟨rfl, ⟨nd, rfl⟩⟩; refine ⟨_, rfl, ?_⟩))
   go_ret
   exact ⟨by first | rfl | (simp; done) | (simp [*]; done), by repeat (first | exact Drawn0.refl _ | apply Drawn0.step)⟩
 ·replace c5 := Bool.eq_false_iff.mpr c5
  subst c5
  have H1 : (if t162002 = true then (some 1) else (if a0 < a1 then (some (-1)) else (if a0 > a1 then (some 1) else (some 0)))) = some r := by rw [if_neg (show ¬ (false = true) by decide)] at H; exact H
  clear H
  have H := H1
  clear H1
  by_cases c7 : t162002 = true
  ·subst c7
   have H1 : (some 1) = some r := by rw [if_pos rfl] at H; exact H
   clear H
   have H := H1
   clear H1
   obtain rfl := Option.some.inj H
   go_enter Try.func161, Try.ntmps161
   go_wp2_with (first | ((with_reducible refine gate_callee (f := 182) rfl ?_); refine goesL_ (some 8) rfl rfl Try.func182 (by kernel_rfl) rfl #[.int .i64 a0] rfl (by (try simp only [List.map_toArray, List.map_cons, List.map_nil]); first | done | rfl | (simp only [List.length_drop, List.length_take]; rfl)) ?_; (with_reducible refine (cmp_isNaN_int.calls a0 false _ A3.out).mono ?_); rintro e w' ⟨rfl, ⟨nd, rfl⟩⟩; refine ⟨_, rfl, ?_⟩) | ((with_reducible refine gate_callee (f := 182) rfl ?_); refine goesL_ (some 10) rfl rfl Try.func182 (by kernel_rfl) rfl #[.int .i64 a1] rfl (by (try simp only [List.map_toArray, List.map_cons, List.map_nil]); first | done | rfl | (simp only [List.length_drop, List.length_take]; rfl)) ?_; (with_reducible refine (cmp_isNaN_int.calls a1 true _ A4.out).mono ?_); rintro e w' ⟨rfl, ⟨nd, rfl⟩⟩; refine ⟨_, rfl, ?_⟩))
   go_ret
   exact ⟨by first | rfl | (simp; done) | (simp [*]; done), by repeat (first | exact Drawn0.refl _ | apply Drawn0.step)⟩
  ·replace c7 := Bool.eq_false_iff.mpr c7
   subst c7
   have H1 : (if a0 < a1 then (some (-1)) else (if a0 > a1 then (some 1) else (some 0))) = some r := by rw [if_neg (show ¬ (false = true) by decide)] at H; exact H
   clear H
   have H := H1
   clear H1
   by_cases c8 : a0 < a1
   ·rw [if_pos c8] at H
    have c8b0 : decide (a0 < a1) = true := decide_eq_true c8
    clear c8
    obtain rfl := Option.some.inj H
    go_enter Try.func161, Try.ntmps161
    go_wp2_with (first | ((with_reducible refine gate_callee (f := 182) rfl ?_); refine goesL_ (some 8) rfl rfl Try.func182 (by kernel_rfl) rfl #[.int .i64 a0] rfl (by (try simp only [List.map_toArray, List.map_cons, List.map_nil]); first | done | rfl | (simp only [List.length_drop, List.length_take]; rfl)) ?_; (with_reducible refine (cmp_isNaN_int.calls a0 false _ A3.out).mono ?_); rintro e w' ⟨rfl, ⟨nd, rfl⟩⟩; refine ⟨_, rfl, ?_⟩) | ((with_reducible refine gate_callee (f := 182) rfl ?_); refine goesL_ (some 10) rfl rfl Try.func182 (by kernel_rfl) rfl #[.int .i64 a1] rfl (by (try simp only [List.map_toArray, List.map_cons, List.map_nil]); first | done | rfl | (simp only [List.length_drop, List.length_take]; rfl)) ?_; (with_reducible refine (cmp_isNaN_int.calls a1 false _ A4.out).mono ?_); rintro e w' ⟨rfl, ⟨nd, rfl⟩⟩; refine ⟨_, rfl, ?_⟩))
    go_ret
    exact ⟨by first | rfl | (simp; done) | (simp [*]; done), by repeat (first | exact Drawn0.refl _ | apply Drawn0.step)⟩
   ·rw [if_neg c8] at H
    have c8b0 : decide (a0 < a1) = false := decide_eq_false c8
    clear c8
    by_cases c9 : a0 > a1
    ·rw [if_pos c9] at H
     have c9b0 : decide (a1 < a0) = true := decide_eq_true c9
     clear c9
     obtain rfl := Option.some.inj H
     go_enter Try.func161, Try.ntmps161
     go_wp2_with (first | ((with_reducible refine gate_callee (f := 182) rfl ?_); refine goesL_ (some 8) rfl rfl Try.func182 (by kernel_rfl) rfl #[.int .i64 a0] rfl (by (try simp only [List.map_toArray, List.map_cons, List.map_nil]); first | done | rfl | (simp only [List.length_drop, List.length_take]; rfl)) ?_; (with_reducible refine (cmp_isNaN_int.calls a0 false _ A3.out).mono ?_); rintro e w' ⟨rfl, ⟨nd, rfl⟩⟩; refine ⟨_, rfl, ?_⟩) | ((with_reducible refine gate_callee (f := 182) rfl ?_); refine goesL_ (some 10) rfl rfl Try.func182 (by kernel_rfl) rfl #[.int .i64 a1] rfl (by (try simp only [List.map_toArray, List.map_cons, List.map_nil]); first | done | rfl | (simp only [List.length_drop, List.length_take]; rfl)) ?_; (with_reducible refine (cmp_isNaN_int.calls a1 false _ A4.out).mono ?_); rintro e w' ⟨rfl, ⟨nd, rfl⟩⟩; refine ⟨_, rfl, ?_⟩))
     go_ret
     exact ⟨by first | rfl | (simp; done) | (simp [*]; done), by repeat (first | exact Drawn0.refl _ | apply Drawn0.step)⟩
    ·rw [if_neg c9] at H
     have c9b0 : decide (a1 < a0) = false := decide_eq_false c9
     clear c9
     obtain rfl := Option.some.inj H
     go_enter Try.func161, Try.ntmps161
     go_wp2_with (first | ((with_reducible refine gate_callee (f := 182) rfl ?_); refine goesL_ (some 8) rfl rfl Try.func182 (by kernel_rfl) rfl #[.int .i64 a0] rfl (by (try simp only [List.map_toArray, List.map_cons, List.map_nil]); first | done | rfl | (simp only [List.length_drop, List.length_take]; rfl)) ?_; (with_reducible refine (cmp_isNaN_int.calls a0 false _ A3.out).mono ?_); rintro e w' ⟨rfl, ⟨nd, rfl⟩⟩; refine ⟨_, rfl, ?_⟩) | ((with_reducible refine gate_callee (f := 182) rfl ?_); refine goesL_ (some 10) rfl rfl Try.func182 (by kernel_rfl) rfl #[.int .i64 a1] rfl (by (try simp only [List.map_toArray, List.map_cons, List.map_nil]); first | done | rfl | (simp only [List.length_drop, List.length_take]; rfl)) ?_; (with_reducible refine (cmp_isNaN_int.calls a1 false _ A4.out).mono ?_); rintro e w' ⟨rfl, ⟨nd, rfl⟩⟩; refine ⟨_, rfl, ?_⟩))
     go_ret
     exact ⟨by first | rfl | (simp; done) | (simp [*]; done), by repeat (first | exact Drawn0.refl _ | apply Drawn0.step)⟩
/-! ### slices_Compare_int_int: function 113 -/
def slices_Compare_int_int.l0 : Nat → List Int → List Int → List Int → Int → Int → Option (Int)
 | 0, _, _, _, _, _ => none
 | k + 1, x0, x1, x9, x10, x11 => if x11 < x10 then (if 0 ≤ x11 then (if x11 < (x9.length : Int) then (if x11 ≥ (x1.length : Int) then (some 1) else (if x11 < (x1.length : Int) then ((cmp_Compare_int.f (rd x9 x11) (rd x1 x11)).bind fun t114003 => (if t114003 = 0 then (slices_Compare_int_int.l0 k x0 x1 x9 x10 (wrap64 (x11 + 1))) else (some t114003))) else (none))) else (none)) else (none)) else (if (x0.length : Int) < (x1.length : Int) then (some (-1)) else (some 0))
def slices_Compare_int_int.f (k : Nat) (l0 : List Int) (l1 : List Int) : Option (Int) := slices_Compare_int_int.l0 k l0 l1 l0 (l0.length : Int) 0
theorem slices_Compare_int_int.mono_l : ∀ k, (∀ y0 y1 y2 y3 y4, LeO (slices_Compare_int_int.l0 k y0 y1 y2 y3 y4) (slices_Compare_int_int.l0 (k + 1) y0 y1 y2 y3 y4))
 | 0 => fun _ _ _ _ _ r h => by simp [slices_Compare_int_int.l0] at h
 | k + 1 => by
  have ih0 := slices_Compare_int_int.mono_l k
  ·intro y0 y1 y2 y3 y4
   unfold slices_Compare_int_int.l0
   repeat' first
   | (with_reducible exact ih0 _ _ _ _ _)
   | (with_reducible exact LeO.refl _)
   | (with_reducible exact LeO.none _)
   | (with_reducible refine LeO.ite ?_ ?_)
   | (with_reducible refine LeO.bind ?_ (fun _ => ?_))
   | exact ih0 _ _ _ _ _
   | exact LeO.none _
   | refine LeO.ite ?_ ?_
   | refine LeO.bind ?_ (fun _ => ?_)
theorem slices_Compare_int_int.mono : ∀ a0 a1 k, LeO (slices_Compare_int_int.f k a0 a1) (slices_Compare_int_int.f (k + 1) a0 a1) := by
 intro a0 a1 k
 have ih0 := slices_Compare_int_int.mono_l k
 unfold slices_Compare_int_int.f
 repeat' first
   | (with_reducible exact ih0 _ _ _ _ _)
   | (with_reducible exact LeO.refl _)
   | (with_reducible exact LeO.none _)
   | (with_reducible refine LeO.ite ?_ ?_)
   | (with_reducible refine LeO.bind ?_ (fun _ => ?_))
   | exact ih0 _ _ _ _ _
   | exact LeO.none _
   | refine LeO.ite ?_ ?_
   | refine LeO.bind ?_ (fun _ => ?_)
set_option maxHeartbeats 8000000 in
set_option maxRecDepth 100000 in
theorem slices_Compare_int_int.calls (k : Nat) (A0 : Option Addr) (c0 : Nat) (l0 : List Int) (A1 : Option Addr) (c1 : Nat) (l1 : List Int) (r : Int) (w : World) (hr0 : Kd.C (Kd.int .i64) w A0 l0.length l0) (hc0 : l0.length ≤ c0) (hr1 : Kd.C (Kd.int .i64) w A1 l1.length l1) (hc1 : l1.length ≤ c1) (h : slices_Compare_int_int.f k l0 l1 = some r) :
  Calls Try.prog 113 #[.slice A0 l0.length c0, .slice A1 l1.length c1] w fun e w' => e = .returned (.int .i64 r) ∧ Drawn0 w w' := by
 have HR0 := aQ hr0
 have HC0 := aQ hc0
 clear hr0 hc0
 have HR1 := aQ hr1
 have HC1 := aQ hc1
 clear hr1 hc1
 have H : (slices_Compare_int_int.l0 k l0 l1 l0 (l0.length : Int) 0) = some r := h
 clear h
 have H' := aQ H
 clear H
 go_enter Try.func113, Try.ntmps113
 go_wp2
 go_loopg [11] k (fun kq v11 w' => ∃ (x11_1 : Int), v11 = .int .i64 x11_1 ∧ Aside0 (slices_Compare_int_int.l0 kq l0 l1 l0 (l0.length : Int) x11_1 = some r) ∧ Aside0 (kq ≤ k) ∧ Drawn0 w w')
 case atStart => exact ⟨(0), (by first | rfl | (simp; done) | (simp [*]; done)), H', ⟨Nat.le_refl _⟩, by repeat (first | exact Drawn0.refl _ | apply Drawn0.step)⟩
 case round =>
  clear H'
  try clear c1
  try clear p2
  obtain ⟨x11_1, rfl, HA, HK1, ⟨m1, rfl⟩⟩ := hrel
  cases gk with
  | zero => exact absurd HA.out (by simp [slices_Compare_int_int.l0])
  | succ k1 =>
   have H := HA.out
   clear HA
   simp only [slices_Compare_int_int.l0] at H
   by_cases c3 : x11_1 < (l0.length : Int)
   ·rw [if_pos c3] at H
    have c3b0 : decide (x11_1 < (l0.length : Int)) = true := decide_eq_true c3
    clear c3
    by_cases c4 : 0 ≤ x11_1
    ·rw [if_pos c4] at H
     have c4b0 : decide (0 ≤ x11_1) = true := decide_eq_true c4
     clear c4
     by_cases c5 : x11_1 < (l0.length : Int)
     ·rw [if_pos c5] at H
      have c5b0 : decide (x11_1 < (l0.length : Int)) = true := decide_eq_true c5
      clear c5
      by_cases c6 : x11_1 ≥ (l1.length : Int)
      ·rw [if_pos c6] at H
       have c6b0 : decide ((l1.length : Int) ≤ x11_1) = true := decide_eq_true c6
       clear c6
       obtain rfl := Option.some.inj H
       have p114001 : 0 ≤ (x11_1 : Int) := of_decide_eq_true (by first | (with_reducible assumption) | assumption)
       have q114001 : x11_1 < (l0.length : Int) := of_decide_eq_true (by first | (with_reducible assumption) | assumption)
       obtain ⟨ad114001, e114001, hx114001_0⟩ := Kd.at_int HR0.out x11_1 p114001 q114001
       cases e114001
       replace p114001 := eq_true p114001
       replace q114001 := eq_true q114001
       go_wp2
       go_ret
       exact ⟨by first | rfl | (simp; done) | (simp [*]; done), by repeat (first | exact Drawn0.refl _ | apply Drawn0.step)⟩
      ·rw [if_neg c6] at H
       have c6b0 : decide ((l1.length : Int) ≤ x11_1) = false := decide_eq_false c6
       clear c6
       by_cases c7 : x11_1 < (l1.length : Int)
       ·rw [if_pos c7] at H
        have c7b0 : decide (x11_1 < (l1.length : Int)) = true := decide_eq_true c7
        clear c7
        replace H := Option.bind_eq_some_iff.mp H
        obtain ⟨t114003, A80, H⟩ := H
        replace H : (if t114003 = 0 then (slices_Compare_int_int.l0 k1 l0 l1 l0 (l0.length : Int) (wrap64 (x11_1 + 1))) else (some t114003)) = some r := H
        have A8 := aQ A80
        clear A80
        by_cases c9 : t114003 = 0
        ·rw [if_pos c9] at H
         have c9b0 : (t114003 == 0) = true := beq_iff_eq.mpr c9
         have c9b1 : (t114003 != 0) = false := bne_eq_false_iff_eq.mpr c9
         clear c9
         have H' := aQ H
         clear H
         have p114001 : 0 ≤ (x11_1 : Int) := of_decide_eq_true (by first | (with_reducible assumption) | assumption)
         have q114001 : x11_1 < (l0.length : Int) := of_decide_eq_true (by first | (with_reducible assumption) | assumption)
         obtain ⟨ad114001, e114001, hx114001_0⟩ := Kd.at_int HR0.out x11_1 p114001 q114001
         cases e114001
         replace p114001 := eq_true p114001
         replace q114001 := eq_true q114001
         have p114002 : 0 ≤ (x11_1 : Int) := of_decide_eq_true (by first | (with_reducible assumption) | assumption)
         have q114002 : x11_1 < (l1.length : Int) := of_decide_eq_true (by first | (with_reducible assumption) | assumption)
         obtain ⟨ad114002, e114002, hx114002_0⟩ := Kd.at_int HR1.out x11_1 p114002 q114002
         cases e114002
         replace p114002 := eq_true p114002
         replace q114002 := eq_true q114002
         go_wp2_with (first | ((with_reducible refine gate_callee (f := 161) rfl ?_); refine goesL_ (some 26) rfl rfl Try.func161 (by kernel_rfl) rfl #[.int .i64 (rd l0 x11_1), .int .i64 (rd l1 x11_1)] rfl (by (try simp only [List.map_toArray, List.map_cons, List.map_nil]); first | done | rfl | (simp only [List.length_drop, List.length_take]; rfl)) ?_; (with_reducible refine (cmp_Compare_int.calls (rd l0 x11_1) (rd l1 x11_1) t114003 _ A8.out).mono ?_); rintro e w' ⟨rfl, ⟨nd, rfl⟩⟩; refine ⟨_, rfl, ?_⟩))
         go_roundg k1
         case measure => have := HK1.out; omega
         case rel => exact ⟨(wrap64 (x11_1 + 1)), (by first | rfl | (simp; done) | (simp [*]; done)), H', ⟨by have := HK1.out; omega⟩, by repeat (first | exact Drawn0.refl _ | apply Drawn0.step)⟩
        ·rw [if_neg c9] at H
         have c9b0 : (t114003 == 0) = false := beq_eq_false_iff_ne.mpr c9
         have c9b1 : (t114003 != 0) = true := bne_iff_ne.mpr c9
         obtain rfl := Option.some.inj H
         have p114001 : 0 ≤ (x11_1 : Int) := of_decide_eq_true (by first | (with_reducible assumption) | assumption)
         have q114001 : x11_1 < (l0.length : Int) := of_decide_eq_true (by first | (with_reducible assumption) | assumption)
         obtain ⟨ad114001, e114001, hx114001_0⟩ := Kd.at_int HR0.out x11_1 p114001 q114001
         cases e114001
         replace p114001 := eq_true p114001
         replace q114001 := eq_true q114001
         have p114002 : 0 ≤ (x11_1 : Int) := of_decide_eq_true (by first | (with_reducible assumption) | assumption)
         have q114002 : x11_1 < (l1.length : Int) := of_decide_eq_true (by first | (with_reducible assumption) | assumption)
         obtain ⟨ad114002, e114002, hx114002_0⟩ := Kd.at_int HR1.out x11_1 p114002 q114002
         cases e114002
         replace p114002 := eq_true p114002
         replace q114002 := eq_true q114002
         go_wp2_with (first | ((with_reducible refine gate_callee (f := 161) rfl ?_); refine goesL_ (some 26) rfl rfl Try.func161 (by kernel_rfl) rfl #[.int .i64 (rd l0 x11_1), .int .i64 (rd l1 x11_1)] rfl (by (try simp only [List.map_toArray, List.map_cons, List.map_nil]); first | done | rfl | (simp only [List.length_drop, List.length_take]; rfl)) ?_; (with_reducible refine (cmp_Compare_int.calls (rd l0 x11_1) (rd l1 x11_1) t114003 _ A8.out).mono ?_); rintro e w' ⟨rfl, ⟨nd, rfl⟩⟩; refine ⟨_, rfl, ?_⟩))
         go_ret
         exact ⟨by first | rfl | (simp; done) | (simp [*]; done), by repeat (first | exact Drawn0.refl _ | apply Drawn0.step)⟩
       ·rw [if_neg c7] at H
        exact absurd H (by simp)
     ·rw [if_neg c5] at H
      exact absurd H (by simp)
    ·rw [if_neg c4] at H
     exact absurd H (by simp)
   ·rw [if_neg c3] at H
    have c3b0 : decide (x11_1 < (l0.length : Int)) = false := decide_eq_false c3
    clear c3
    by_cases c10 : (l0.length : Int) < (l1.length : Int)
    ·rw [if_pos c10] at H
     have c10b0 : decide ((l0.length : Int) < (l1.length : Int)) = true := decide_eq_true c10
     have c10b1 : decide (l0.length < l1.length) = true := decide_eq_true (Int.ofNat_lt.mp c10)
     clear c10
     obtain rfl := Option.some.inj H
     go_wp2
     go_ret
     exact ⟨by first | rfl | (simp; done) | (simp [*]; done), by repeat (first | exact Drawn0.refl _ | apply Drawn0.step)⟩
    ·rw [if_neg c10] at H
     have c10b0 : decide ((l0.length : Int) < (l1.length : Int)) = false := decide_eq_false c10
     have c10b1 : decide (l0.length < l1.length) = false := decide_eq_false (fun h => c10 (Int.ofNat_lt.mpr h))
     clear c10
     obtain rfl := Option.some.inj H
     go_wp2
     go_ret
     exact ⟨by first | rfl | (simp; done) | (simp [*]; done), by repeat (first | exact Drawn0.refl _ | apply Drawn0.step)⟩
/-! ### impl_renameSet: function 159 -/
def impl_renameSet.l0 : Nat → List Int → Int → List Int → Int → Int → Option (Int)
 | 0, _, _, _, _, _ => none
 | k + 1, x0, x5, x9, x10, x11 => if x11 < x10 then (if 0 ≤ x11 then (if x11 < (x9.length : Int) then (if 0 ≤ (rd x9 x11) then (if (rd x9 x11) < (x0.length : Int) then (if 0 ≤ (rd x0 (rd x9 x11)) then (impl_renameSet.l0 k x0 (Go.bits .or .i64 x5 (shl .i64 1 (rd x0 (rd x9 x11)))) x9 x10 (wrap64 (x11 + 1))) else (none)) else (none)) else (none)) else (none)) else (none)) else (some x5)
def impl_renameSet.f (k : Nat) (l0 : List Int) (a1 : Int) : Option (Int) := (impl_ElementsOf.f k a1).bind fun t160001 => (impl_renameSet.l0 k l0 0 t160001 (t160001.length : Int) 0)
theorem impl_renameSet.mono_l : ∀ k, (∀ y0 y1 y2 y3 y4, LeO (impl_renameSet.l0 k y0 y1 y2 y3 y4) (impl_renameSet.l0 (k + 1) y0 y1 y2 y3 y4))
 | 0 => fun _ _ _ _ _ r h => by simp [impl_renameSet.l0] at h
 | k + 1 => by
  have ih0 := impl_renameSet.mono_l k
  ·intro y0 y1 y2 y3 y4
   unfold impl_renameSet.l0
   repeat' first
   | (with_reducible exact ih0 _ _ _ _ _)
   | (with_reducible exact impl_ElementsOf.mono _ _)
   | (with_reducible exact LeO.refl _)
   | (with_reducible exact LeO.none _)
   | (with_reducible refine LeO.ite ?_ ?_)
   | (with_reducible refine LeO.bind ?_ (fun _ => ?_))
   | exact ih0 _ _ _ _ _
   | exact impl_ElementsOf.mono _ _
   | exact LeO.none _
   | refine LeO.ite ?_ ?_
   | refine LeO.bind ?_ (fun _ => ?_)
theorem impl_renameSet.mono : ∀ a0 a1 k, LeO (impl_renameSet.f k a0 a1) (impl_renameSet.f (k + 1) a0 a1) := by
 intro a0 a1 k
 have ih0 := impl_renameSet.mono_l k
 unfold impl_renameSet.f
 repeat' first
   | (with_reducible exact ih0 _ _ _ _ _)
   | (with_reducible exact impl_ElementsOf.mono _ _)
   | (with_reducible exact LeO.refl _)
   | (with_reducible exact LeO.none _)
   | (with_reducible refine LeO.ite ?_ ?_)
   | (with_reducible refine LeO.bind ?_ (fun _ => ?_))
   | exact ih0 _ _ _ _ _
   | exact impl_ElementsOf.mono _ _
   | exact LeO.none _
   | refine LeO.ite ?_ ?_
   | refine LeO.bind ?_ (fun _ => ?_)
set_option maxHeartbeats 8000000 in
set_option maxRecDepth 100000 in
theorem impl_renameSet.calls (k : Nat) (A0 : Option Addr) (c0 : Nat) (l0 : List Int) (a1 : Int) (r : Int) (w : World) (hr0 : Kd.C (Kd.int .i64) w A0 l0.length l0) (hc0 : l0.length ≤ c0) (h : impl_renameSet.f k l0 a1 = some r) :
  Calls Try.prog 159 #[.slice A0 l0.length c0, .int .i64 a1] w fun e w' => e = .returned (.int .i64 r) ∧ Below w.heap.size w w' := by
 have HR0 := aQ hr0
 have HC0 := aQ hc0
 clear hr0 hc0
 have HB := aQ (Below.refl w.heap.size w)
 have H : ((impl_ElementsOf.f k a1).bind fun t160001 => (impl_renameSet.l0 k l0 0 t160001 (t160001.length : Int) 0)) = some r := h
 clear h
 replace H := Option.bind_eq_some_iff.mp H
 obtain ⟨t160001, A30, H⟩ := H
 replace H : (impl_renameSet.l0 k l0 0 t160001 (t160001.length : Int) 0) = some r := H
 have A3 := aQ A30
 clear A30
 have H' := aQ H
 clear H
 go_enter Try.func159, Try.ntmps159
 go_wp2_with (first | ((with_reducible refine gate_callee (f := 146) rfl ?_); refine goesL_ (some 9) rfl rfl Try.func146 (by kernel_rfl) rfl #[.int .i64 a1] rfl (by (try simp only [List.map_toArray, List.map_cons, List.map_nil]); first | done | rfl | (simp only [List.length_drop, List.length_take]; rfl)) ?_; (with_reducible refine (impl_ElementsOf.calls k a1 t160001 _ A3.out).mono ?_); rintro e w4 ⟨v160002, rfl, ho0, hb⟩; refine ⟨_, rfl, ?_⟩; have HO160003 := aQ (Kd.R_lower ho0 (below_size (by repeat (first | (with_reducible first | exact HB.out | apply below_alloc | apply pw_below_drewN | apply below_drew1) | exact HB.out)))); replace HB := aQ (below_step (by repeat (first | (with_reducible first | exact HB.out | apply below_alloc | apply pw_below_drewN | apply below_drew1) | exact HB.out)) hb); (try clear hb); (try clear hb2); (try clear hk); (try clear hi); (try clear ho0); obtain ⟨Ao5, co5, eo5⟩ := Kd.R_slice HO160003.out; subst eo5))
 go_loopg [5, 11] k (fun kq v5 v11 w' => ∃ (x5_1 : Int) (x11_1 : Int), v5 = .int .i64 x5_1 ∧ v11 = .int .i64 x11_1 ∧ Aside0 (impl_renameSet.l0 kq l0 x5_1 t160001 (t160001.length : Int) x11_1 = some r) ∧ Aside0 (kq ≤ k) ∧ Aside0 (Kd.R (Kd.int .i64) 3 w' w.heap.size (fun _ => True) (.slice Ao5 t160001.length co5) t160001) ∧ Aside0 (Below w.heap.size w w'))
 case atStart => exact ⟨(0), (0), (by first | rfl | (simp; done) | (simp [*]; done)), (by first | rfl | (simp; done) | (simp [*]; done)), H', ⟨Nat.le_refl _⟩, ⟨by (with_reducible repeat (first | apply Kd.R_alloc | apply Kd.R_drewN | apply Kd.R_drew)); exact HO160003.out⟩, ⟨by repeat (first | (with_reducible first | exact HB.out | apply below_alloc | apply pw_below_drewN | apply below_drew1) | exact HB.out)⟩⟩
 case round =>
  clear H'
  try clear c1
  try clear p2
  obtain ⟨x5_1, x11_1, rfl, rfl, HA, HK1, HO_9, HB⟩ := hrel
  cases gk with
  | zero => exact absurd HA.out (by simp [impl_renameSet.l0])
  | succ k1 =>
   have H := HA.out
   clear HA
   simp only [impl_renameSet.l0] at H
   by_cases c6 : x11_1 < (t160001.length : Int)
   ·rw [if_pos c6] at H
    have c6b0 : decide (x11_1 < (t160001.length : Int)) = true := decide_eq_true c6
    clear c6
    by_cases c7 : 0 ≤ x11_1
    ·rw [if_pos c7] at H
     have c7b0 : decide (0 ≤ x11_1) = true := decide_eq_true c7
     clear c7
     by_cases c8 : x11_1 < (t160001.length : Int)
     ·rw [if_pos c8] at H
      have c8b0 : decide (x11_1 < (t160001.length : Int)) = true := decide_eq_true c8
      clear c8
      by_cases c9 : 0 ≤ (rd t160001 x11_1)
      ·rw [if_pos c9] at H
       have c9b0 : decide (0 ≤ (rd t160001 x11_1)) = true := decide_eq_true c9
       clear c9
       by_cases c10 : (rd t160001 x11_1) < (l0.length : Int)
       ·rw [if_pos c10] at H
        have c10b0 : decide ((rd t160001 x11_1) < (l0.length : Int)) = true := decide_eq_true c10
        clear c10
        by_cases c11 : 0 ≤ (rd l0 (rd t160001 x11_1))
        ·rw [if_pos c11] at H
         have c11b0 := eq_true c11
         have c11b1 : decide (0 ≤ (rd l0 (rd t160001 x11_1))) = true := decide_eq_true c11
         clear c11
         obtain ⟨ji12, hji12⟩ : ∃ j_ : Int, (shl .i64 1 (rd l0 (rd t160001 x11_1))) = j_ := ⟨_, rfl⟩
         replace H : (impl_renameSet.l0 k1 l0 (Go.bits .or .i64 x5_1 (ji12)) t160001 (t160001.length : Int) (wrap64 (x11_1 + 1))) = some r := by first | (rw [hji12] at H; exact H) | (simp only [hji12] at H ⊢; exact H)
         have hji12_ : (IntKind.i64.wrap (1 * 2 ^ min (rd l0 (rd t160001 x11_1)).toNat 64)) = ji12 := hji12
         have hji12z : (rd l0 (rd t160001 x11_1)) ≤ 64 → (IntKind.i64.wrap (1 * 2 ^ (rd l0 (rd t160001 x11_1)).toNat)) = ji12 := shl_small hji12
         have hji12u : (IntKind.i64.wrap (2 ^ min (rd l0 (rd t160001 x11_1)).toNat 64)) = ji12 := by have h_ := hji12_; rw [Int.one_mul] at h_; exact h_
         have hji12v : (rd l0 (rd t160001 x11_1)) ≤ 64 → (IntKind.i64.wrap (2 ^ (rd l0 (rd t160001 x11_1)).toNat)) = ji12 := fun hle_ => by have h_ := hji12z hle_; rw [Int.one_mul] at h_; exact h_
         have hji12y : (wrap64 (1 * 2 ^ min (rd l0 (rd t160001 x11_1)).toNat 64)) = ji12 := (i64_w _).symm.trans hji12_
         have hji12x : (rd l0 (rd t160001 x11_1)) ≤ 64 → (wrap64 (1 * 2 ^ (rd l0 (rd t160001 x11_1)).toNat)) = ji12 := fun h_ => (i64_w _).symm.trans (hji12z h_)
         have H' := aQ H
         clear H
         have p160004 : 0 ≤ (x11_1 : Int) := of_decide_eq_true (by first | (with_reducible assumption) | assumption)
         have q160004 : x11_1 < (t160001.length : Int) := of_decide_eq_true (by first | (with_reducible assumption) | assumption)
         obtain ⟨ad160004, e160004, hx160004_0⟩ := Kd.at_int (Kd.R_reads' HO_9.out).2.2 x11_1 p160004 q160004
         cases e160004
         replace p160004 := eq_true p160004
         replace q160004 := eq_true q160004
         have p160005 : 0 ≤ ((rd t160001 x11_1) : Int) := of_decide_eq_true (by first | (with_reducible assumption) | assumption)
         have q160005 : (rd t160001 x11_1) < (l0.length : Int) := of_decide_eq_true (by first | (with_reducible assumption) | assumption)
         obtain ⟨ad160005, e160005, hx160005_0⟩ := Kd.at_int HR0.out (rd t160001 x11_1) p160005 q160005
         cases e160005
         replace hx160005_0 := (HB.out.cell (World.block_lt_of_cell? w _ hx160005_0)).trans hx160005_0
         replace p160005 := eq_true p160005
         replace q160005 := eq_true q160005
         go_wp2
         go_roundg k1
         case measure => have := HK1.out; omega
         case rel => exact ⟨(Go.bits .or .i64 x5_1 (ji12)), (wrap64 (x11_1 + 1)), (by first | rfl | (simp; done) | (simp only [← hji12] <;> (first | rfl | simp)) | (simp [*]; done)), (by first | rfl | (simp; done) | (simp [*]; done)), H', ⟨by have := HK1.out; omega⟩, ⟨by (with_reducible repeat (first | apply Kd.R_alloc | apply Kd.R_drewN | apply Kd.R_drew)); exact HO_9.out⟩, ⟨by repeat (first | (with_reducible first | exact HB.out | apply below_alloc | apply pw_below_drewN | apply below_drew1) | exact HB.out)⟩⟩
        ·rw [if_neg c11] at H
         exact absurd H (by simp)
       ·rw [if_neg c10] at H
        exact absurd H (by simp)
      ·rw [if_neg c9] at H
       exact absurd H (by simp)
     ·rw [if_neg c8] at H
      exact absurd H (by simp)
    ·rw [if_neg c7] at H
     exact absurd H (by simp)
   ·rw [if_neg c6] at H
    have c6b0 : decide (x11_1 < (t160001.length : Int)) = false := decide_eq_false c6
    clear c6
    obtain rfl := Option.some.inj H
    go_wp2
    go_ret
    exact ⟨by first | rfl | (simp [errW_none, errW_some] <;> rfl) | (simp [*, errW_none, errW_some] <;> rfl), by repeat (first | (with_reducible first | exact HB.out | apply below_alloc | apply pw_below_drewN | apply below_drew1) | exact HB.out)⟩
end Go.Proofs.Ytagncnjllpebjaa.A
