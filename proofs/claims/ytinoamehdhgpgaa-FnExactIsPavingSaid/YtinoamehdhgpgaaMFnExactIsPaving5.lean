/- The machine side of the law FnExactIsPaving, laid by a program of this work over the kit's print and contracts by hand: Go functions as Lean functions, and proofs that calls come to what these tell. Conditions: those in each theorem. -/
import Derived.Test.YtinoamehdhgpgaaMFnExactIsPaving0
import Derived.Test.YtinoamehdhgpgaaMFnExactIsPaving1
import Derived.Test.YtinoamehdhgpgaaMFnExactIsPaving2
import Derived.Test.YtinoamehdhgpgaaMFnExactIsPaving4
namespace Go.Proofs.Ytinoamehdhgpgaa.A
open Go.RowKit Go.Proofs.YtinoamehdhgpgaaW.PrintWords Go.Proofs.YtinoamehdhgpgaaW.PrintLast Go.Proofs.YtinoamehdhgpgaaW.PrintMore
attribute [local go_sem] max2_int min2_int max_two min_two max_three min_three max_four min_four   -- for this text's walks alone
set_option linter.unusedVariables false
set_option linter.unusedSimpArgs false

/-! ### laws_FnExactIsPaving: function 29 -/
def laws_FnExactIsPaving.f (k : Nat) (a0_0 : Int) (l0_1 : List Int) : Option (Bool) := (laws_szMatroid.f a0_0 l0_1 1048576).bind fun t30002 => (if t30002 < 0 then (some true) else ((laws_toMatroid.f k a0_0 l0_1).bind fun bt30003 => ((spec_IsPaving.f k bt30003.1 bt30003.2).bind fun t30007 => ((laws_toMatroid.f k a0_0 l0_1).bind fun bt30008 => ((impl_IsPaving.f k bt30008.1 bt30008.2).bind fun t30013 => (if (t30013 != t30007) = true then (some false) else ((laws_toMatroid.f k a0_0 l0_1).bind fun bt30014 => ((laws_eqMatroid.f k bt30008.1 bt30008.2 bt30014.1 bt30014.2).bind fun t30018 => (if t30018 = true then (some true) else (some false))))))))))
theorem laws_FnExactIsPaving.mono : ∀ a0 a1 k, LeO (laws_FnExactIsPaving.f k a0 a1) (laws_FnExactIsPaving.f (k + 1) a0 a1) := by
 intro a0 a1 k
 unfold laws_FnExactIsPaving.f
 repeat' first
   | (with_reducible exact impl_IsPaving.mono _ _ _)
   | (with_reducible exact laws_eqMatroid.mono _ _ _ _ _)
   | (with_reducible exact laws_toMatroid.mono _ _ _)
   | (with_reducible exact spec_IsPaving.mono _ _ _)
   | (with_reducible exact LeO.refl _)
   | (with_reducible exact LeO.none _)
   | (with_reducible refine LeO.ite ?_ ?_)
   | (with_reducible refine LeO.bind ?_ (fun _ => ?_))
   | exact impl_IsPaving.mono _ _ _
   | exact laws_eqMatroid.mono _ _ _ _ _
   | exact laws_toMatroid.mono _ _ _
   | exact spec_IsPaving.mono _ _ _
   | exact LeO.none _
   | refine LeO.ite ?_ ?_
   | refine LeO.bind ?_ (fun _ => ?_)
set_option maxHeartbeats 8000000 in
set_option maxRecDepth 100000 in
theorem laws_FnExactIsPaving.calls (k : Nat) (a0_0 : Int) (A0_1 : Option Addr) (c0_1 : Nat) (l0_1 : List Int) (w : World) (hr0_1 : Kd.C (Kd.int .i64) w A0_1 l0_1.length l0_1) (hc0_1 : l0_1.length ≤ c0_1) (h : laws_FnExactIsPaving.f k a0_0 l0_1 = some true) :
  Calls Try.prog 29 #[.agg #[.int .i64 a0_0, .slice A0_1 l0_1.length c0_1]] w fun e w' => e = .returned (.bool true) ∧ Below w.heap.size w w' := by
 have hu24 := Try.underlying24
 have hu28 := Try.underlying28
 have HR0_1 := aQ hr0_1
 have HC0_1 := aQ hc0_1
 clear hr0_1 hc0_1
 have HB := aQ (Below.refl w.heap.size w)
 have H : ((laws_szMatroid.f a0_0 l0_1 1048576).bind fun t30002 => (if t30002 < 0 then (some true) else ((laws_toMatroid.f k a0_0 l0_1).bind fun bt30003 => ((spec_IsPaving.f k bt30003.1 bt30003.2).bind fun t30007 => ((laws_toMatroid.f k a0_0 l0_1).bind fun bt30008 => ((impl_IsPaving.f k bt30008.1 bt30008.2).bind fun t30013 => (if (t30013 != t30007) = true then (some false) else ((laws_toMatroid.f k a0_0 l0_1).bind fun bt30014 => ((laws_eqMatroid.f k bt30008.1 bt30008.2 bt30014.1 bt30014.2).bind fun t30018 => (if t30018 = true then (some true) else (some false))))))))))) = some true := h
 clear h
 replace H := Option.bind_eq_some_iff.mp H
 obtain ⟨t30002, A20, H⟩ := H
 replace H : (if t30002 < 0 then (some true) else ((laws_toMatroid.f k a0_0 l0_1).bind fun bt30003 => ((spec_IsPaving.f k bt30003.1 bt30003.2).bind fun t30007 => ((laws_toMatroid.f k a0_0 l0_1).bind fun bt30008 => ((impl_IsPaving.f k bt30008.1 bt30008.2).bind fun t30013 => (if (t30013 != t30007) = true then (some false) else ((laws_toMatroid.f k a0_0 l0_1).bind fun bt30014 => ((laws_eqMatroid.f k bt30008.1 bt30008.2 bt30014.1 bt30014.2).bind fun t30018 => (if t30018 = true then (some true) else (some false)))))))))) = some true := H
 have A2 := aQ A20
 clear A20
 by_cases c3 : t30002 < 0
 ·rw [if_pos c3] at H
  have c3b0 : decide (t30002 < 0) = true := decide_eq_true c3
  clear c3
  clear H
  go_enter Try.func29, Try.ntmps29
  go_wp2_with (first | ((with_reducible refine gate_dst (N := 1) rfl ?_); refine box_event ?hg (N := 1) ?hd (cs := #[.int .i64 a0_0, .slice A0_1 l0_1.length c0_1]) (t := 24) ?hr ?_; (case hd => rfl); (case hg => rfl); (case hr => first | (go_simp; done) | (go_simp; rfl)); intro gb30001 hg w4 hbox hb; have BK30001 := aQ (hbox); have GW30001 := aQ ((by rw [hg]; exact (below_size (by repeat (first | (with_reducible first | exact HB.out | apply below_alloc | apply pw_below_drewN | apply below_drew1) | exact HB.out))) : w.heap.size ≤ gb30001)); have GE30001 := aQ ((by rw [hg]; exact (below_size (by repeat (first | (with_reducible first | exact HB.out | apply below_alloc | apply pw_below_drewN | apply below_drew1) | exact HB.out))) : w.heap.size ≤ gb30001)); replace HB := aQ (below_step (by repeat (first | (with_reducible first | exact HB.out | apply below_alloc | apply pw_below_drewN | apply below_drew1) | exact HB.out)) hb); clear hb hbox hg; have hcz5_0 : w4.cell? ⟨gb30001, 0, none⟩ = some (.int .i64 a0_0) := (blk_cell BK30001.out 0).trans rfl; have hcz5_1 : w4.cell? ⟨gb30001, 1, none⟩ = some (.slice A0_1 l0_1.length c0_1) := (blk_cell BK30001.out 1).trans rfl; have hfz5_0 := blk_frozen BK30001.out 0; have hfz5_1 := blk_frozen BK30001.out 1) | ((with_reducible refine gate_callee (f := 33) rfl ?_); refine goesL_ (some 9) rfl rfl Try.func33 (by kernel_rfl) rfl #[.agg #[.int .i64 a0_0, .slice A0_1 l0_1.length c0_1], .int .i64 1048576] rfl (by (try simp only [List.map_toArray, List.map_cons, List.map_nil]); first | done | rfl | (simp only [List.length_drop, List.length_take]; rfl)) ?_; (with_reducible refine (laws_szMatroid.calls a0_0 _ _ l0_1 1048576 t30002 _ ?side1 ?side2 A2.out).mono ?_); (case side1 => repeat (first | exact (Kd.C_below HR0_1.out HB.out) | (with_reducible refine Kd.C_alloc ?_ _) | (with_reducible refine Kd.C_drewN ?_ _) | (with_reducible refine Kd.C_drew ?_))); (case side2 => exact HC0_1.out); rintro e w6 ⟨rfl, hb⟩; refine ⟨_, rfl, ?_⟩; replace BK30001 := aQ (blk_below (g := gb30001) (o := .cells #[.int .i64 a0_0, .slice A0_1 l0_1.length c0_1] 24 (0, 0)) (by (with_reducible repeat (first | refine blk_drewN ?_ _ | refine blk_drew ?_ | refine blk_alloc ?_ _)); exact BK30001.out) hb); replace HB := aQ (below_step (by repeat (first | (with_reducible first | exact HB.out | apply below_alloc | apply pw_below_drewN | apply below_drew1 | refine below_set ?_ GE30001.out) | exact HB.out)) hb); (try clear hb); (try clear hb2); (try clear hk); (try clear hi)))
  go_ret
  exact ⟨by first | rfl | (simp [errW_none, errW_some] <;> rfl) | (simp [*, errW_none, errW_some] <;> rfl), by repeat (first | (with_reducible first | exact HB.out | apply below_alloc | apply pw_below_drewN | apply below_drew1 | refine below_set ?_ GE30001.out) | exact HB.out)⟩
 ·rw [if_neg c3] at H
  have c3b0 : decide (t30002 < 0) = false := decide_eq_false c3
  clear c3
  replace H := Option.bind_eq_some_iff.mp H
  obtain ⟨⟨t30003, t30004⟩, A70, H⟩ := H
  replace H : ((spec_IsPaving.f k t30003 t30004).bind fun t30007 => ((laws_toMatroid.f k a0_0 l0_1).bind fun bt30008 => ((impl_IsPaving.f k bt30008.1 bt30008.2).bind fun t30013 => (if (t30013 != t30007) = true then (some false) else ((laws_toMatroid.f k a0_0 l0_1).bind fun bt30014 => ((laws_eqMatroid.f k bt30008.1 bt30008.2 bt30014.1 bt30014.2).bind fun t30018 => (if t30018 = true then (some true) else (some false)))))))) = some true := H
  have A7 := aQ A70
  clear A70
  replace H := Option.bind_eq_some_iff.mp H
  obtain ⟨t30007, A80, H⟩ := H
  replace H : ((laws_toMatroid.f k a0_0 l0_1).bind fun bt30008 => ((impl_IsPaving.f k bt30008.1 bt30008.2).bind fun t30013 => (if (t30013 != t30007) = true then (some false) else ((laws_toMatroid.f k a0_0 l0_1).bind fun bt30014 => ((laws_eqMatroid.f k bt30008.1 bt30008.2 bt30014.1 bt30014.2).bind fun t30018 => (if t30018 = true then (some true) else (some false))))))) = some true := H
  have A8 := aQ A80
  clear A80
  replace H := Option.bind_eq_some_iff.mp H
  obtain ⟨⟨t30008, t30009⟩, A90, H⟩ := H
  replace H : ((impl_IsPaving.f k t30008 t30009).bind fun t30013 => (if (t30013 != t30007) = true then (some false) else ((laws_toMatroid.f k a0_0 l0_1).bind fun bt30014 => ((laws_eqMatroid.f k t30008 t30009 bt30014.1 bt30014.2).bind fun t30018 => (if t30018 = true then (some true) else (some false)))))) = some true := H
  have A9 := aQ A90
  clear A90
  replace H := Option.bind_eq_some_iff.mp H
  obtain ⟨t30013, A100, H⟩ := H
  replace H : (if (t30013 != t30007) = true then (some false) else ((laws_toMatroid.f k a0_0 l0_1).bind fun bt30014 => ((laws_eqMatroid.f k t30008 t30009 bt30014.1 bt30014.2).bind fun t30018 => (if t30018 = true then (some true) else (some false))))) = some true := H
  have A10 := aQ A100
  clear A100
  by_cases c11 : (t30013 != t30007) = true
  ·rw [if_pos c11] at H
   have c11b0 : (t30013 != t30007) = true := c11
   (try (have c11b1 : decide (t30013 = t30007) = false := by simpa using c11))
   (try (have c11b2 : (t30013 == t30007) = false := by simpa using c11))
   (try (have c11b3 : ¬ (t30013 = t30007) := by simpa using c11))
   clear c11
   exact absurd (Option.some.inj H) (by decide)
  ·rw [if_neg c11] at H
   have c11b0 : (t30013 != t30007) = false := by simpa using c11
   (try (have c11b1 : decide (t30013 = t30007) = true := by simpa using c11))
   (try (have c11b2 : (t30013 == t30007) = true := by simpa using c11))
   clear c11
   replace H := Option.bind_eq_some_iff.mp H
   obtain ⟨⟨t30014, t30015⟩, A260, H⟩ := H
   replace H : ((laws_eqMatroid.f k t30008 t30009 t30014 t30015).bind fun t30018 => (if t30018 = true then (some true) else (some false))) = some true := H
   have A26 := aQ A260
   clear A260
   replace H := Option.bind_eq_some_iff.mp H
   obtain ⟨t30018, A270, H⟩ := H
   replace H : (if t30018 = true then (some true) else (some false)) = some true := H
   have A27 := aQ A270
   clear A270
   by_cases c28 : t30018 = true
   ·subst c28
    have H1 : (some true) = some true := rfl
    clear H
    have H := H1
    clear H1
    clear H
    go_enter Try.func29, Try.ntmps29
    try go_wp2_with (first | ((with_reducible refine gate_dst (N := 1) rfl ?_); refine box_event ?hg (N := 1) ?hd (cs := #[.int .i64 a0_0, .slice A0_1 l0_1.length c0_1]) (t := 24) ?hr ?_; (case hd => rfl); (case hg => rfl); (case hr => first | (go_simp; done) | (go_simp; rfl)); intro gb30001 hg w29 hbox hb; have BK30001 := aQ (hbox); have GW30001 := aQ ((by rw [hg]; exact (below_size (by repeat (first | (with_reducible first | exact HB.out | apply below_alloc | apply pw_below_drewN | apply below_drew1) | exact HB.out))) : w.heap.size ≤ gb30001)); have GE30001 := aQ ((by rw [hg]; exact (below_size (by repeat (first | (with_reducible first | exact HB.out | apply below_alloc | apply pw_below_drewN | apply below_drew1) | exact HB.out))) : w.heap.size ≤ gb30001)); replace HB := aQ (below_step (by repeat (first | (with_reducible first | exact HB.out | apply below_alloc | apply pw_below_drewN | apply below_drew1) | exact HB.out)) hb); clear hb hbox hg; have hcz30_0 : w29.cell? ⟨gb30001, 0, none⟩ = some (.int .i64 a0_0) := (blk_cell BK30001.out 0).trans rfl; have hcz30_1 : w29.cell? ⟨gb30001, 1, none⟩ = some (.slice A0_1 l0_1.length c0_1) := (blk_cell BK30001.out 1).trans rfl; have hfz30_0 := blk_frozen BK30001.out 0; have hfz30_1 := blk_frozen BK30001.out 1) | ((with_reducible refine gate_callee (f := 33) rfl ?_); refine goesL_ (some 9) rfl rfl Try.func33 (by kernel_rfl) rfl #[.agg #[.int .i64 a0_0, .slice A0_1 l0_1.length c0_1], .int .i64 1048576] rfl (by (try simp only [List.map_toArray, List.map_cons, List.map_nil]); first | done | rfl | (simp only [List.length_drop, List.length_take]; rfl)) ?_; (with_reducible refine (laws_szMatroid.calls a0_0 _ _ l0_1 1048576 t30002 _ ?side1 ?side2 A2.out).mono ?_); (case side1 => repeat (first | exact (Kd.C_below HR0_1.out HB.out) | (with_reducible refine Kd.C_alloc ?_ _) | (with_reducible refine Kd.C_drewN ?_ _) | (with_reducible refine Kd.C_drew ?_))); (case side2 => exact HC0_1.out); rintro e w31 ⟨rfl, hb⟩; refine ⟨_, rfl, ?_⟩; replace BK30001 := aQ (blk_below (g := gb30001) (o := .cells #[.int .i64 a0_0, .slice A0_1 l0_1.length c0_1] 24 (0, 0)) (by (with_reducible repeat (first | refine blk_drewN ?_ _ | refine blk_drew ?_ | refine blk_alloc ?_ _)); exact BK30001.out) hb); replace HB := aQ (below_step (by repeat (first | (with_reducible first | exact HB.out | apply below_alloc | apply pw_below_drewN | apply below_drew1 | refine below_set ?_ GE30001.out) | exact HB.out)) hb); (try clear hb); (try clear hb2); (try clear hk); (try clear hi); have hcz32_0 : w31.cell? ⟨gb30001, 0, none⟩ = some (.int .i64 a0_0) := (blk_cell BK30001.out 0).trans rfl; have hcz32_1 : w31.cell? ⟨gb30001, 1, none⟩ = some (.slice A0_1 l0_1.length c0_1) := (blk_cell BK30001.out 1).trans rfl; have hfz32_0 := blk_frozen BK30001.out 0; have hfz32_1 := blk_frozen BK30001.out 1) | ((with_reducible refine gate_callee (f := 35) rfl ?_); refine goesL_ (some 13) rfl rfl Try.func35 (by kernel_rfl) rfl #[.agg #[.int .i64 a0_0, .slice A0_1 l0_1.length c0_1]] rfl (by (try simp only [List.map_toArray, List.map_cons, List.map_nil]); first | done | rfl | (simp only [List.length_drop, List.length_take]; rfl)) ?_; (with_reducible refine (laws_toMatroid.calls k a0_0 _ _ l0_1 t30003 t30004 _ ?side1 ?side2 A7.out).mono ?_); (case side1 => repeat (first | exact (Kd.C_below HR0_1.out HB.out) | (with_reducible refine Kd.C_alloc ?_ _) | (with_reducible refine Kd.C_drewN ?_ _) | (with_reducible refine Kd.C_drew ?_))); (case side2 => exact HC0_1.out); rintro e w33 ⟨v30005, rfl, ho0, hb⟩; refine ⟨_, rfl, ?_⟩; have HO30006 := aQ (Kd.R_lower ho0 (below_size (by repeat (first | (with_reducible first | exact HB.out | apply below_alloc | apply pw_below_drewN | apply below_drew1 | refine below_set ?_ GE30001.out) | exact HB.out)))); replace BK30001 := aQ (blk_below (g := gb30001) (o := .cells #[.int .i64 a0_0, .slice A0_1 l0_1.length c0_1] 24 (0, 0)) (by (with_reducible repeat (first | refine blk_drewN ?_ _ | refine blk_drew ?_ | refine blk_alloc ?_ _)); exact BK30001.out) hb); replace HB := aQ (below_step (by repeat (first | (with_reducible first | exact HB.out | apply below_alloc | apply pw_below_drewN | apply below_drew1 | refine below_set ?_ GE30001.out) | exact HB.out)) hb); (try clear hb); (try clear hb2); (try clear hk); (try clear hi); (try clear ho0); obtain ⟨Ao34, co34, eo34⟩ := Kd.R_slice HO30006.out; subst eo34) | ((with_reducible refine gate_callee (f := 98) rfl ?_); refine goesL_ (some 14) rfl rfl Try.func98 (by kernel_rfl) rfl #[.agg #[.int .i64 t30003, .slice Ao34 t30004.length co34]] rfl (by (try simp only [List.map_toArray, List.map_cons, List.map_nil]); first | done | rfl | (simp only [List.length_drop, List.length_take]; rfl)) ?_; (with_reducible refine (spec_IsPaving.calls k t30003 _ _ t30004 t30007 _ ?side1 ?side2 A8.out).mono ?_); (case side1 => repeat (first | exact (Kd.R_reads' HO30006.out).2.2 | (with_reducible refine Kd.C_alloc ?_ _) | (with_reducible refine Kd.C_drewN ?_ _) | (with_reducible refine Kd.C_drew ?_))); (case side2 => exact (Kd.R_reads' HO30006.out).2.1); rintro e w35 ⟨rfl, hb⟩; refine ⟨_, rfl, ?_⟩; replace HO30006 := aQ (Kd.R_below (by (with_reducible repeat (first | apply Kd.R_alloc | apply Kd.R_drewN | apply Kd.R_drew)); exact HO30006.out) hb); replace BK30001 := aQ (blk_below (g := gb30001) (o := .cells #[.int .i64 a0_0, .slice A0_1 l0_1.length c0_1] 24 (0, 0)) (by (with_reducible repeat (first | refine blk_drewN ?_ _ | refine blk_drew ?_ | refine blk_alloc ?_ _)); exact BK30001.out) hb); replace HB := aQ (below_step (by repeat (first | (with_reducible first | exact HB.out | apply below_alloc | apply pw_below_drewN | apply below_drew1 | refine below_set ?_ GE30001.out) | exact HB.out)) hb); (try clear hb); (try clear hb2); (try clear hk); (try clear hi); have hcz36_0 : w35.cell? ⟨gb30001, 0, none⟩ = some (.int .i64 a0_0) := (blk_cell BK30001.out 0).trans rfl; have hcz36_1 : w35.cell? ⟨gb30001, 1, none⟩ = some (.slice A0_1 l0_1.length c0_1) := (blk_cell BK30001.out 1).trans rfl; have hfz36_0 := blk_frozen BK30001.out 0; have hfz36_1 := blk_frozen BK30001.out 1) | ((with_reducible refine gate_callee (f := 35) rfl ?_); refine goesL_ (some 16) rfl rfl Try.func35 (by kernel_rfl) rfl #[.agg #[.int .i64 a0_0, .slice A0_1 l0_1.length c0_1]] rfl (by (try simp only [List.map_toArray, List.map_cons, List.map_nil]); first | done | rfl | (simp only [List.length_drop, List.length_take]; rfl)) ?_; (with_reducible refine (laws_toMatroid.calls k a0_0 _ _ l0_1 t30008 t30009 _ ?side1 ?side2 A9.out).mono ?_); (case side1 => repeat (first | exact (Kd.C_below HR0_1.out HB.out) | (with_reducible refine Kd.C_alloc ?_ _) | (with_reducible refine Kd.C_drewN ?_ _) | (with_reducible refine Kd.C_drew ?_))); (case side2 => exact HC0_1.out); rintro e w37 ⟨v30010, rfl, ho0, hb⟩; refine ⟨_, rfl, ?_⟩; have HO30011 := aQ (Kd.R_lower (Kd.R_new' ho0 (Kd.R_lt (by (with_reducible repeat (first | apply Kd.R_alloc | apply Kd.R_drewN | apply Kd.R_drew)); exact HO30006.out))) (below_size (by repeat (first | (with_reducible first | exact HB.out | apply below_alloc | apply pw_below_drewN | apply below_drew1 | refine below_set ?_ GE30001.out) | exact HB.out)))); replace HO30006 := aQ (Kd.R_elder' (by (with_reducible repeat (first | apply Kd.R_alloc | apply Kd.R_drewN | apply Kd.R_drew)); exact HO30006.out) (Kd.R_base ho0) hb); replace BK30001 := aQ (blk_below (g := gb30001) (o := .cells #[.int .i64 a0_0, .slice A0_1 l0_1.length c0_1] 24 (0, 0)) (by (with_reducible repeat (first | refine blk_drewN ?_ _ | refine blk_drew ?_ | refine blk_alloc ?_ _)); exact BK30001.out) hb); replace HB := aQ (below_step (by repeat (first | (with_reducible first | exact HB.out | apply below_alloc | apply pw_below_drewN | apply below_drew1 | refine below_set ?_ GE30001.out) | exact HB.out)) hb); (try clear hb); (try clear hb2); (try clear hk); (try clear hi); (try clear ho0)) | ((with_reducible refine gate_dst (N := 5) rfl ?_); refine box_event ?hg (N := 5) ?hd (cs := #[.int .i64 0, .slice none 0 0]) (t := 28) ?hr ?_; (case hd => rfl); (case hg => rfl); (case hr => first | (go_simp; done) | (go_simp; rfl)); intro gb30012 hg w38 hbox hb; replace HO30006 := aQ (Kd.R_below (by (with_reducible repeat (first | apply Kd.R_alloc | apply Kd.R_drewN | apply Kd.R_drew)); exact HO30006.out) hb); replace HO30011 := aQ (Kd.R_below (by (with_reducible repeat (first | apply Kd.R_alloc | apply Kd.R_drewN | apply Kd.R_drew)); exact HO30011.out) hb); have BK30012 := aQ (hbox); have GW30012 := aQ ((by rw [hg]; exact (below_size (by repeat (first | (with_reducible first | exact HB.out | apply below_alloc | apply pw_below_drewN | apply below_drew1 | refine below_set ?_ GE30001.out) | exact HB.out))) : w.heap.size ≤ gb30012)); have GE30012 := aQ ((by rw [hg]; exact (below_size (by repeat (first | (with_reducible first | exact HB.out | apply below_alloc | apply pw_below_drewN | apply below_drew1 | refine below_set ?_ GE30001.out) | exact HB.out))) : w.heap.size ≤ gb30012)); replace HB := aQ (below_step (by repeat (first | (with_reducible first | exact HB.out | apply below_alloc | apply pw_below_drewN | apply below_drew1 | refine below_set ?_ GE30001.out) | exact HB.out)) hb); have NB30001_30012 := aQ ((by rw [hg]; exact Nat.ne_of_lt (blk_lt (g := gb30001) (o := .cells #[.int .i64 a0_0, .slice A0_1 l0_1.length c0_1] 24 (0, 0)) (by (with_reducible repeat (first | refine blk_drewN ?_ _ | refine blk_drew ?_ | refine blk_alloc ?_ _)); exact BK30001.out)) : gb30001 ≠ gb30012)); have NB30012_30001 := aQ ((by rw [hg]; exact Nat.ne_of_gt (blk_lt (g := gb30001) (o := .cells #[.int .i64 a0_0, .slice A0_1 l0_1.length c0_1] 24 (0, 0)) (by (with_reducible repeat (first | refine blk_drewN ?_ _ | refine blk_drew ?_ | refine blk_alloc ?_ _)); exact BK30001.out)) : gb30012 ≠ gb30001)); replace BK30001 := aQ (blk_below (g := gb30001) (o := .cells #[.int .i64 a0_0, .slice A0_1 l0_1.length c0_1] 24 (0, 0)) (by (with_reducible repeat (first | refine blk_drewN ?_ _ | refine blk_drew ?_ | refine blk_alloc ?_ _)); exact BK30001.out) hb); clear hb hbox hg; have hnb39 := NB30012_30001.out; have hnc39 := NB30001_30012.out; have hcz40_0 : w38.cell? ⟨gb30012, 0, none⟩ = some (.int .i64 0) := (blk_cell BK30012.out 0).trans rfl; have hcz40_1 : w38.cell? ⟨gb30012, 1, none⟩ = some (.slice none 0 0) := (blk_cell BK30012.out 1).trans rfl; have hfz40_0 := blk_frozen BK30012.out 0; have hfz40_1 := blk_frozen BK30012.out 1; obtain ⟨Ao41, co41, eo41⟩ := Kd.R_slice HO30011.out; subst eo41) | ((with_reducible refine gate_callee (f := 99) rfl ?_); refine goesL_ (some 18) rfl rfl Try.func99 (by kernel_rfl) rfl #[.agg #[.int .i64 t30008, .slice Ao41 t30009.length co41]] rfl (by (try simp only [List.map_toArray, List.map_cons, List.map_nil]); first | done | rfl | (simp only [List.length_drop, List.length_take]; rfl)) ?_; (with_reducible refine (impl_IsPaving.calls k t30008 _ _ t30009 t30013 _ ?side1 ?side2 A10.out).mono ?_); (case side1 => refine (Kd.R_reads' (e := 3) (base := w.heap.size) (ok := fun k_ => (True ∧ some k_ ≠ (.slice Ao34 t30004.length co34 : Value).ownBlock)) (n := t30009.length) (c := co41) ?_).2.2; exact (by (with_reducible repeat (first | apply Kd.R_alloc | apply Kd.R_drewN | apply Kd.R_drew)); exact (Kd.R_mono (Kd.R_far (p := ⟨gb30012, 1, none⟩) (Kd.R_far (p := ⟨gb30012, 0, none⟩) (Kd.R_types HO30011.out BK30012.out (by decide)) (fun _ hk => hk.2) (.int .i64 t30008)) (fun _ hk => hk.2) (.slice Ao41 t30009.length co41)) (fun _ h_ => h_.1)))); (case side2 => exact (Kd.R_reads' HO30011.out).2.1); rintro e w42 ⟨rfl, hb⟩; refine ⟨_, rfl, ?_⟩; replace HO30006 := aQ (Kd.R_below (by (with_reducible repeat (first | apply Kd.R_alloc | apply Kd.R_drewN | apply Kd.R_drew)); exact (Kd.R_mono (Kd.R_far (p := ⟨gb30012, 1, none⟩) (Kd.R_far (p := ⟨gb30012, 0, none⟩) (Kd.R_types HO30006.out BK30012.out (by decide)) (fun _ hk => hk.2) (.int .i64 t30008)) (fun _ hk => hk.2) (.slice Ao41 t30009.length co41)) (fun _ h_ => h_.1))) hb); replace HO30011 := aQ (Kd.R_below (by (with_reducible repeat (first | apply Kd.R_alloc | apply Kd.R_drewN | apply Kd.R_drew)); exact (Kd.R_mono (Kd.R_far (p := ⟨gb30012, 1, none⟩) (Kd.R_far (p := ⟨gb30012, 0, none⟩) (Kd.R_types HO30011.out BK30012.out (by decide)) (fun _ hk => hk.2) (.int .i64 t30008)) (fun _ hk => hk.2) (.slice Ao41 t30009.length co41)) (fun _ h_ => h_.1))) hb); replace BK30001 := aQ (blk_below (g := gb30001) (o := .cells #[.int .i64 a0_0, .slice A0_1 l0_1.length c0_1] 24 (0, 0)) (by (with_reducible repeat (first | refine blk_drewN ?_ _ | refine blk_drew ?_ | refine blk_alloc ?_ _)); refine blk_far ?_ NB30001_30012.out _; (with_reducible repeat (first | refine blk_drewN ?_ _ | refine blk_drew ?_ | refine blk_alloc ?_ _)); refine blk_far ?_ NB30001_30012.out _; (with_reducible repeat (first | refine blk_drewN ?_ _ | refine blk_drew ?_ | refine blk_alloc ?_ _)); exact BK30001.out) hb); replace BK30012 := aQ (blk_below (g := gb30012) (o := .cells #[.int .i64 t30008, .slice Ao41 t30009.length co41] 28 (0, 0)) (by (with_reducible repeat (first | refine blk_drewN ?_ _ | refine blk_drew ?_ | refine blk_alloc ?_ _)); refine blk_put (cs := #[.int .i64 t30008, .slice none 0 0]) ?_ 1 _ rfl; (with_reducible repeat (first | refine blk_drewN ?_ _ | refine blk_drew ?_ | refine blk_alloc ?_ _)); refine blk_put (cs := #[.int .i64 0, .slice none 0 0]) ?_ 0 _ rfl; (with_reducible repeat (first | refine blk_drewN ?_ _ | refine blk_drew ?_ | refine blk_alloc ?_ _)); exact BK30012.out) hb); replace HB := aQ (below_step (by repeat (first | (with_reducible first | exact HB.out | apply below_alloc | apply pw_below_drewN | apply below_drew1 | refine below_set ?_ GE30001.out | refine below_set ?_ GE30012.out) | exact HB.out)) hb); (try clear hb); (try clear hb2); (try clear hk); (try clear hi)))
    have n0_ := aQ (Kd.R_drew HO30006.out)
    have n1_ := aQ (Kd.R_drew HO30011.out)
    have n2_ := aQ (blk_drew BK30001.out)
    have n3_ := aQ (blk_drew BK30012.out)
    have n4_ := aQ (below_drew1 HB.out)
    clear HO30006
    clear HO30011
    clear BK30001
    clear BK30012
    clear HB
    have HO30006 := n0_
    have HO30011 := n1_
    have BK30001 := n2_
    have BK30012 := n3_
    have HB := n4_
    clear n0_ n1_ n2_ n3_ n4_
    refine start_ (n := 5) (S := fun w' => w'.cell? ⟨gb30012, 0, none⟩ = some (.int .i64 t30008) ∧ w'.cell? ⟨gb30012, 1, none⟩ = some (.slice Ao41 t30009.length co41) ∧ w'.cell? ⟨gb30001, 0, none⟩ = some (.int .i64 a0_0) ∧ w'.cell? ⟨gb30001, 1, none⟩ = some (.slice A0_1 l0_1.length c0_1)) (ds := []) #[false, false, false, false, false] (by kernel_rfl) rfl rfl ⟨(blk_cell BK30012.out 0).trans rfl, (blk_cell BK30012.out 1).trans rfl, (blk_cell BK30001.out 0).trans rfl, (blk_cell BK30001.out 1).trans rfl⟩ (fun hHeld => ?_)
    generalize w42.drew = w43 at HO30006 HO30011 BK30001 BK30012 HB hHeld ⊢
    refine take_ (i := 0) (N := some 22) (v := ?_) (a' := ?_) #[true, false, false, false, false] rfl rfl (by kernel_rfl) (fun _ _ _ h => h) (Or.inl ⟨by rfl, ?_⟩) hHeld ?_ ?_
    rotate_left
    ·rintro w' ⟨s0, s1, s2, s3⟩
     go_simp
     with_reducible rfl
    rotate_left
    ·simp only [Act.put, List.setIfInBounds_toArray, List.set_cons_zero, List.set_cons_succ, i64_w, i32_w]
     rfl
    refine take_ (i := 1) (N := some 23) (v := ?_) (a' := ?_) #[true, true, false, false, false] rfl rfl (by kernel_rfl) (fun _ _ _ h => h) (Or.inl ⟨by rfl, ?_⟩) hHeld ?_ ?_
    rotate_left
    ·rintro w' ⟨s0, s1, s2, s3⟩
     go_simp
     with_reducible rfl
    rotate_left
    ·simp only [Act.put, List.setIfInBounds_toArray, List.set_cons_zero, List.set_cons_succ, i64_w, i32_w]
     rfl
    refine one_ (i := 2) (N := some 24) #[true, true, true, false, false] rfl rfl (by kernel_rfl) (by decide) (fun K hK => ?_)
    refine goes_ Try.func35 (by kernel_rfl) rfl #[.agg #[.int .i64 a0_0, .slice A0_1 l0_1.length c0_1]] (by rfl) rfl rfl (by (try simp only [List.map_toArray, List.map_cons, List.map_nil]); first | done | rfl | (simp only [List.length_drop, List.length_take]; rfl)) ?_
    with_reducible refine (laws_toMatroid.calls k a0_0 _ _ l0_1 t30014 t30015 _ ?side1 ?side2 A26.out).mono ?_
    (case side1 => repeat (first | exact (Kd.C_below HR0_1.out HB.out) | (with_reducible refine Kd.C_alloc ?_ _) | (with_reducible refine Kd.C_drewN ?_ _) | (with_reducible refine Kd.C_drew ?_)))
    (case side2 => exact HC0_1.out)
    rintro e w44 ⟨v30016, rfl, ho0, hb⟩
    refine ⟨_, rfl, ?_⟩
    have n0_ := aQ (Kd.R_elder' (by (with_reducible repeat (first | apply Kd.R_alloc | apply Kd.R_drewN | apply Kd.R_drew)); exact HO30006.out) (Kd.R_base ho0) hb)
    have n1_ := aQ (Kd.R_elder' (by (with_reducible repeat (first | apply Kd.R_alloc | apply Kd.R_drewN | apply Kd.R_drew)); exact HO30011.out) (Kd.R_base ho0) hb)
    have n2_ := aQ (Kd.R_lower (Kd.R_new' (Kd.R_new' ho0 (Kd.R_lt (by (with_reducible repeat (first | apply Kd.R_alloc | apply Kd.R_drewN | apply Kd.R_drew)); exact HO30006.out))) (Kd.R_lt (by (with_reducible repeat (first | apply Kd.R_alloc | apply Kd.R_drewN | apply Kd.R_drew)); exact HO30011.out))) (below_size (by repeat (first | (with_reducible first | exact HB.out | apply below_alloc | apply pw_below_drewN | apply below_drew1 | refine below_set ?_ GE30001.out | refine below_set ?_ GE30012.out) | exact HB.out))))
    have n3_ := aQ (blk_below (g := gb30001) (o := .cells #[.int .i64 a0_0, .slice A0_1 l0_1.length c0_1] 24 (0, 0)) (by (with_reducible repeat (first | refine blk_drewN ?_ _ | refine blk_drew ?_ | refine blk_alloc ?_ _)); exact BK30001.out) hb)
    have n4_ := aQ (blk_below (g := gb30012) (o := .cells #[.int .i64 t30008, .slice Ao41 t30009.length co41] 28 (0, 0)) (by (with_reducible repeat (first | refine blk_drewN ?_ _ | refine blk_drew ?_ | refine blk_alloc ?_ _)); exact BK30012.out) hb)
    have n5_ := aQ (below_step (by repeat (first | (with_reducible first | exact HB.out | apply below_alloc | apply pw_below_drewN | apply below_drew1 | refine below_set ?_ GE30001.out | refine below_set ?_ GE30012.out) | exact HB.out)) hb)
    clear HO30006
    clear HO30011
    clear BK30001
    clear BK30012
    clear HB
    have HO30006 := n0_
    have HO30011 := n1_
    have HO30017 := n2_
    have BK30001 := n3_
    have BK30012 := n4_
    have HB := n5_
    clear n0_ n1_ n2_ n3_ n4_ n5_
    (try clear hb)
    (try clear hb2)
    (try clear hk)
    (try clear hi)
    (try clear ho0)
    obtain ⟨Ao45, co45, eo45⟩ := Kd.R_slice HO30017.out
    (first | subst eo45 | (injection eo45 with f1_ f2_ f3_; have f4_ := f1_.symm; have f5_ := f3_.symm; clear f1_ f2_ f3_; subst f4_; subst f5_))
    refine hK.out _ _ ⟨(blk_cell BK30012.out 0).trans rfl, (blk_cell BK30012.out 1).trans rfl, (blk_cell BK30001.out 0).trans rfl, (blk_cell BK30001.out 1).trans rfl⟩ (fun hHeld => ?_)
    clear hK K
    refine norm_ (a' := ?_) ?_ ?_
    rotate_left
    ·show Act.put _ (some 24) _ = _
     simp only [Act.put, List.setIfInBounds_toArray, List.set_cons_zero, List.set_cons_succ, i64_w, i32_w]
     rfl
    refine one_ (i := 3) (N := some 25) #[true, true, true, true, false] rfl rfl (by kernel_rfl) (by decide) (fun K hK => ?_)
    refine goes_ Try.func38 (by kernel_rfl) rfl #[.agg #[.int .i64 t30008, .slice Ao41 t30009.length co41], .agg #[.int .i64 t30014, .slice Ao45 t30015.length co45]] (by rfl) rfl rfl (by (try simp only [List.map_toArray, List.map_cons, List.map_nil]); first | done | rfl | (simp only [List.length_drop, List.length_take]; rfl)) ?_
    with_reducible refine (laws_eqMatroid.calls k t30008 _ _ t30009 t30014 _ _ t30015 true _ ?side1 ?side2 ?side3 ?side4 A27.out).mono ?_
    (case side1 => repeat (first | exact (Kd.R_reads' HO30011.out).2.2 | (with_reducible refine Kd.C_alloc ?_ _) | (with_reducible refine Kd.C_drewN ?_ _) | (with_reducible refine Kd.C_drew ?_)))
    (case side2 => exact (Kd.R_reads' HO30011.out).2.1)
    (case side3 => repeat (first | exact (Kd.R_reads' HO30017.out).2.2 | (with_reducible refine Kd.C_alloc ?_ _) | (with_reducible refine Kd.C_drewN ?_ _) | (with_reducible refine Kd.C_drew ?_)))
    (case side4 => exact (Kd.R_reads' HO30017.out).2.1)
    rintro e w46 ⟨rfl, hb⟩
    refine ⟨_, rfl, ?_⟩
    have n0_ := aQ (Kd.R_below (by (with_reducible repeat (first | apply Kd.R_alloc | apply Kd.R_drewN | apply Kd.R_drew)); exact HO30006.out) hb)
    have n1_ := aQ (Kd.R_below (by (with_reducible repeat (first | apply Kd.R_alloc | apply Kd.R_drewN | apply Kd.R_drew)); exact HO30011.out) hb)
    have n2_ := aQ (Kd.R_below (by (with_reducible repeat (first | apply Kd.R_alloc | apply Kd.R_drewN | apply Kd.R_drew)); exact HO30017.out) hb)
    have n3_ := aQ (blk_below (g := gb30001) (o := .cells #[.int .i64 a0_0, .slice A0_1 l0_1.length c0_1] 24 (0, 0)) (by (with_reducible repeat (first | refine blk_drewN ?_ _ | refine blk_drew ?_ | refine blk_alloc ?_ _)); exact BK30001.out) hb)
    have n4_ := aQ (blk_below (g := gb30012) (o := .cells #[.int .i64 t30008, .slice Ao41 t30009.length co41] 28 (0, 0)) (by (with_reducible repeat (first | refine blk_drewN ?_ _ | refine blk_drew ?_ | refine blk_alloc ?_ _)); exact BK30012.out) hb)
    have n5_ := aQ (below_step (by repeat (first | (with_reducible first | exact HB.out | apply below_alloc | apply pw_below_drewN | apply below_drew1 | refine below_set ?_ GE30001.out | refine below_set ?_ GE30012.out) | exact HB.out)) hb)
    clear HO30006
    clear HO30011
    clear HO30017
    clear BK30001
    clear BK30012
    clear HB
    have HO30006 := n0_
    have HO30011 := n1_
    have HO30017 := n2_
    have BK30001 := n3_
    have BK30012 := n4_
    have HB := n5_
    clear n0_ n1_ n2_ n3_ n4_ n5_
    (try clear hb)
    (try clear hb2)
    (try clear hk)
    (try clear hi)
    refine hK.out _ _ ⟨(blk_cell BK30012.out 0).trans rfl, (blk_cell BK30012.out 1).trans rfl, (blk_cell BK30001.out 0).trans rfl, (blk_cell BK30001.out 1).trans rfl⟩ (fun hHeld => ?_)
    clear hK K
    refine norm_ (a' := ?_) ?_ ?_
    rotate_left
    ·show Act.put _ (some 25) _ = _
     simp only [Act.put, List.setIfInBounds_toArray, List.set_cons_zero, List.set_cons_succ, i64_w, i32_w]
     rfl
    refine pure_ (i := 4) (N := some 26) (v := ?_) (a' := ?_) #[true, true, true, true, true] rfl rfl (by kernel_rfl) (fun _ _ _ h => h) (Or.inl ⟨by rfl, ?_⟩) ?_ ?_
    rotate_left
    ·intro w'
     go_simp
     with_reducible rfl
    rotate_left
    ·simp only [Act.put, List.setIfInBounds_toArray, List.set_cons_zero, List.set_cons_succ, i64_w, i32_w]
     rfl
    refine done_ (by kernel_rfl) ?_
    try go_wp2
    go_ret
    exact ⟨by first | rfl | (simp [errW_none, errW_some] <;> rfl) | (simp [*, errW_none, errW_some] <;> rfl), by repeat (first | (with_reducible first | exact HB.out | apply below_alloc | apply pw_below_drewN | apply below_drew1 | refine below_set ?_ GE30001.out | refine below_set ?_ GE30012.out) | exact HB.out)⟩
   ·replace c28 := Bool.eq_false_iff.mpr c28
    subst c28
    have H1 : (some false) = some true := by rw [if_neg (show ¬ (false = true) by decide)] at H; exact H
    clear H
    have H := H1
    clear H1
    exact absurd (Option.some.inj H) (by decide)
end Go.Proofs.Ytinoamehdhgpgaa.A
