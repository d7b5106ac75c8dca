/- The machine side of the law FnExactTruncate, laid by a program of this work over the kit's print and contracts by hand: Go functions as Lean functions, and proofs that calls come to what these tell. Conditions: those in each theorem. -/
import Derived.Test.YtagncnjllpebjaaMFnExactTruncate0
import Derived.Test.YtagncnjllpebjaaMFnExactTruncate1
import Derived.Test.YtagncnjllpebjaaMFnExactTruncate2
import Derived.Test.YtagncnjllpebjaaMFnExactTruncate3
import Derived.Test.YtagncnjllpebjaaMFnExactTruncate4
namespace Go.Proofs.Ytagncnjllpebjaa.A
open Go.RowKit Go.Proofs.YtagncnjllpebjaaW.PrintWords Go.Proofs.YtagncnjllpebjaaW.PrintLast Go.Proofs.YtagncnjllpebjaaW.PrintMore
attribute [local go_sem] max2_int min2_int max_two min_two max_three min_three max_four min_four   -- for this text's walks alone
set_option linter.unusedVariables false
set_option linter.unusedSimpArgs false

/-! ### laws_FnExactTruncate: function 3 -/
mutual
def laws_FnExactTruncate.j0 : Nat → Int → Bool → Bool → Bool → Int → List Int → Int → List Int → Int → List Int → Int → List Int → Option (Bool)
 | 0, _, _, _, _, _, _, _, _, _, _, _, _ => none
 | k + 1, x1, x7, x10, x44, x4002000, x4002001, x4013000, x4013001, x4018000, x4018001, x4024000, x4024001 => if x44 = true then (some false) else ((laws_toMatroid.f k x4002000 x4002001).bind fun bt4025 => ((laws_eqMatroid.f k x4018000 x4018001 bt4025.1 bt4025.2).bind fun t4029 => (if t4029 = true then ((laws_markMatroid.f k x4018000 x4018001 1).bind fun bt4030 => (if bt4030.1 < 0 then (laws_FnExactTruncate.j1 k x1 x7 true x4002000 x4002001 x4013000 x4013001 x4024000 x4024001) else ((laws_eqMatroid.f k x4024000 x4024001 x4013000 x4013001).bind fun t4032 => (if t4032 = true then (laws_FnExactTruncate.j1 k x1 x7 (x10 != x7) x4002000 x4002001 x4013000 x4013001 x4024000 x4024001) else (laws_FnExactTruncate.j1 k x1 x7 true x4002000 x4002001 x4013000 x4013001 x4024000 x4024001))))) else (some false))))
def laws_FnExactTruncate.j1 : Nat → Int → Bool → Bool → Int → List Int → Int → List Int → Int → List Int → Option (Bool)
 | 0, _, _, _, _, _, _, _, _, _ => none
 | k + 1, x1, x7, x65, x4002000, x4002001, x4013000, x4013001, x4024000, x4024001 => if x65 = true then (some false) else ((laws_markMatroid.f k x4024000 x4024001 1).bind fun bt4033 => ((laws_heldMatroid.f k x4024000 bt4033.2 1).bind fun t4035 => (if t4035 < 0 then (some false) else (if t4035 = bt4033.1 then ((laws_toMatroid.f k x4002000 x4002001).bind fun bt4036 => ((impl_Truncate.f k bt4036.1 bt4036.2 x1).bind fun bt4040 => ((laws_eqMatroid.f k bt4040.1 bt4040.2.1 x4013000 x4013001).bind fun t4046 => (if t4046 = true then (laws_FnExactTruncate.j2 k bt4033.1 (bt4040.2.2 != x7) x4024000 bt4033.2) else (laws_FnExactTruncate.j2 k bt4033.1 true x4024000 bt4033.2))))) else (some false)))))
def laws_FnExactTruncate.j2 : Nat → Int → Bool → Int → List Int → Option (Bool)
 | 0, _, _, _, _ => none
 | k + 1, x12, x92, x4024000, x4024001 => if x92 = true then (some false) else ((laws_heldMatroid.f k x4024000 x4024001 1).bind fun t4047 => (if t4047 < 0 then (some false) else (if t4047 = x12 then (some true) else (some false))))
end
def laws_FnExactTruncate.f (k : Nat) (a0_0 : Int) (l0_1 : List Int) (a1 : Int) : Option (Bool) := (laws_szMatroid.f a0_0 l0_1 1048576).bind fun t4002 => (if t4002 < 0 then (some true) else ((laws_toMatroid.f k a0_0 l0_1).bind fun bt4003 => ((spec_Truncate.f k bt4003.1 bt4003.2 a1).bind fun bt4007 => ((laws_toMatroid.f k a0_0 l0_1).bind fun bt4013 => ((impl_Truncate.f k bt4013.1 bt4013.2 a1).bind fun bt4018 => ((laws_eqMatroid.f k bt4018.1 bt4018.2.1 bt4007.1 bt4007.2.1).bind fun t4024 => (if t4024 = true then (laws_FnExactTruncate.j0 k a1 bt4007.2.2 bt4018.2.2 (bt4018.2.2 != bt4007.2.2) a0_0 l0_1 bt4007.1 bt4007.2.1 bt4013.1 bt4013.2 bt4018.1 bt4018.2.1) else (laws_FnExactTruncate.j0 k a1 bt4007.2.2 bt4018.2.2 true a0_0 l0_1 bt4007.1 bt4007.2.1 bt4013.1 bt4013.2 bt4018.1 bt4018.2.1))))))))
theorem laws_FnExactTruncate.mono_l : ∀ k, (∀ y0 y1 y2 y3 y4 y5 y6 y7 y8 y9 y10 y11, LeO (laws_FnExactTruncate.j0 k y0 y1 y2 y3 y4 y5 y6 y7 y8 y9 y10 y11) (laws_FnExactTruncate.j0 (k + 1) y0 y1 y2 y3 y4 y5 y6 y7 y8 y9 y10 y11)) ∧ (∀ y0 y1 y2 y3 y4 y5 y6 y7 y8, LeO (laws_FnExactTruncate.j1 k y0 y1 y2 y3 y4 y5 y6 y7 y8) (laws_FnExactTruncate.j1 (k + 1) y0 y1 y2 y3 y4 y5 y6 y7 y8)) ∧ (∀ y0 y1 y2 y3, LeO (laws_FnExactTruncate.j2 k y0 y1 y2 y3) (laws_FnExactTruncate.j2 (k + 1) y0 y1 y2 y3))
 | 0 => ⟨fun _ _ _ _ _ _ _ _ _ _ _ _ r h => by simp [laws_FnExactTruncate.j0] at h, fun _ _ _ _ _ _ _ _ _ r h => by simp [laws_FnExactTruncate.j1] at h, fun _ _ _ _ r h => by simp [laws_FnExactTruncate.j2] at h⟩
 | k + 1 => by
  obtain ⟨ih0, ih1, ih2⟩ := laws_FnExactTruncate.mono_l k
  refine ⟨?_, ?_, ?_⟩
  ·intro y0 y1 y2 y3 y4 y5 y6 y7 y8 y9 y10 y11
   unfold laws_FnExactTruncate.j0
   repeat' first
   | (with_reducible exact ih0 _ _ _ _ _ _ _ _ _ _ _ _)
   | (with_reducible exact ih1 _ _ _ _ _ _ _ _ _)
   | (with_reducible exact ih2 _ _ _ _)
   | (with_reducible exact impl_Truncate.mono _ _ _ _)
   | (with_reducible exact laws_eqMatroid.mono _ _ _ _ _)
   | (with_reducible exact laws_heldMatroid.mono _ _ _ _)
   | (with_reducible exact laws_markMatroid.mono _ _ _ _)
   | (with_reducible exact laws_toMatroid.mono _ _ _)
   | (with_reducible exact spec_Truncate.mono _ _ _ _)
   | (with_reducible exact LeO.refl _)
   | (with_reducible exact LeO.none _)
   | (with_reducible refine LeO.ite ?_ ?_)
   | (with_reducible refine LeO.bind ?_ (fun _ => ?_))
   | exact ih0 _ _ _ _ _ _ _ _ _ _ _ _
   | exact ih1 _ _ _ _ _ _ _ _ _
   | exact ih2 _ _ _ _
   | exact impl_Truncate.mono _ _ _ _
   | exact laws_eqMatroid.mono _ _ _ _ _
   | exact laws_heldMatroid.mono _ _ _ _
   | exact laws_markMatroid.mono _ _ _ _
   | exact laws_toMatroid.mono _ _ _
   | exact spec_Truncate.mono _ _ _ _
   | exact LeO.none _
   | refine LeO.ite ?_ ?_
   | refine LeO.bind ?_ (fun _ => ?_)
  ·intro y0 y1 y2 y3 y4 y5 y6 y7 y8
   unfold laws_FnExactTruncate.j1
   repeat' first
   | (with_reducible exact ih0 _ _ _ _ _ _ _ _ _ _ _ _)
   | (with_reducible exact ih1 _ _ _ _ _ _ _ _ _)
   | (with_reducible exact ih2 _ _ _ _)
   | (with_reducible exact impl_Truncate.mono _ _ _ _)
   | (with_reducible exact laws_eqMatroid.mono _ _ _ _ _)
   | (with_reducible exact laws_heldMatroid.mono _ _ _ _)
   | (with_reducible exact laws_markMatroid.mono _ _ _ _)
   | (with_reducible exact laws_toMatroid.mono _ _ _)
   | (with_reducible exact spec_Truncate.mono _ _ _ _)
   | (with_reducible exact LeO.refl _)
   | (with_reducible exact LeO.none _)
   | (with_reducible refine LeO.ite ?_ ?_)
   | (with_reducible refine LeO.bind ?_ (fun _ => ?_))
   | exact ih0 _ _ _ _ _ _ _ _ _ _ _ _
   | exact ih1 _ _ _ _ _ _ _ _ _
   | exact ih2 _ _ _ _
   | exact impl_Truncate.mono _ _ _ _
   | exact laws_eqMatroid.mono _ _ _ _ _
   | exact laws_heldMatroid.mono _ _ _ _
   | exact laws_markMatroid.mono _ _ _ _
   | exact laws_toMatroid.mono _ _ _
   | exact spec_Truncate.mono _ _ _ _
   | exact LeO.none _
   | refine LeO.ite ?_ ?_
   | refine LeO.bind ?_ (fun _ => ?_)
  ·intro y0 y1 y2 y3
   unfold laws_FnExactTruncate.j2
   repeat' first
   | (with_reducible exact ih0 _ _ _ _ _ _ _ _ _ _ _ _)
   | (with_reducible exact ih1 _ _ _ _ _ _ _ _ _)
   | (with_reducible exact ih2 _ _ _ _)
   | (with_reducible exact impl_Truncate.mono _ _ _ _)
   | (with_reducible exact laws_eqMatroid.mono _ _ _ _ _)
   | (with_reducible exact laws_heldMatroid.mono _ _ _ _)
   | (with_reducible exact laws_markMatroid.mono _ _ _ _)
   | (with_reducible exact laws_toMatroid.mono _ _ _)
   | (with_reducible exact spec_Truncate.mono _ _ _ _)
   | (with_reducible exact LeO.refl _)
   | (with_reducible exact LeO.none _)
   | (with_reducible refine LeO.ite ?_ ?_)
   | (with_reducible refine LeO.bind ?_ (fun _ => ?_))
   | exact ih0 _ _ _ _ _ _ _ _ _ _ _ _
   | exact ih1 _ _ _ _ _ _ _ _ _
   | exact ih2 _ _ _ _
   | exact impl_Truncate.mono _ _ _ _
   | exact laws_eqMatroid.mono _ _ _ _ _
   | exact laws_heldMatroid.mono _ _ _ _
   | exact laws_markMatroid.mono _ _ _ _
   | exact laws_toMatroid.mono _ _ _
   | exact spec_Truncate.mono _ _ _ _
   | exact LeO.none _
   | refine LeO.ite ?_ ?_
   | refine LeO.bind ?_ (fun _ => ?_)
theorem laws_FnExactTruncate.mono : ∀ a0 a1 a2 k, LeO (laws_FnExactTruncate.f k a0 a1 a2) (laws_FnExactTruncate.f (k + 1) a0 a1 a2) := by
 intro a0 a1 a2 k
 obtain ⟨ih0, ih1, ih2⟩ := laws_FnExactTruncate.mono_l k
 unfold laws_FnExactTruncate.f
 repeat' first
   | (with_reducible exact ih0 _ _ _ _ _ _ _ _ _ _ _ _)
   | (with_reducible exact ih1 _ _ _ _ _ _ _ _ _)
   | (with_reducible exact ih2 _ _ _ _)
   | (with_reducible exact impl_Truncate.mono _ _ _ _)
   | (with_reducible exact laws_eqMatroid.mono _ _ _ _ _)
   | (with_reducible exact laws_heldMatroid.mono _ _ _ _)
   | (with_reducible exact laws_markMatroid.mono _ _ _ _)
   | (with_reducible exact laws_toMatroid.mono _ _ _)
   | (with_reducible exact spec_Truncate.mono _ _ _ _)
   | (with_reducible exact LeO.refl _)
   | (with_reducible exact LeO.none _)
   | (with_reducible refine LeO.ite ?_ ?_)
   | (with_reducible refine LeO.bind ?_ (fun _ => ?_))
   | exact ih0 _ _ _ _ _ _ _ _ _ _ _ _
   | exact ih1 _ _ _ _ _ _ _ _ _
   | exact ih2 _ _ _ _
   | exact impl_Truncate.mono _ _ _ _
   | exact laws_eqMatroid.mono _ _ _ _ _
   | exact laws_heldMatroid.mono _ _ _ _
   | exact laws_markMatroid.mono _ _ _ _
   | exact laws_toMatroid.mono _ _ _
   | exact spec_Truncate.mono _ _ _ _
   | exact LeO.none _
   | refine LeO.ite ?_ ?_
   | refine LeO.bind ?_ (fun _ => ?_)
set_option maxHeartbeats 8000000 in
set_option maxRecDepth 100000 in
theorem laws_FnExactTruncate.calls (k : Nat) (a0_0 : Int) (A0_1 : Option Addr) (c0_1 : Nat) (l0_1 : List Int) (a1 : Int) (w : World) (hr0_1 : Kd.C (Kd.int .i64) w A0_1 l0_1.length l0_1) (hc0_1 : l0_1.length ≤ c0_1) (h : laws_FnExactTruncate.f k a0_0 l0_1 a1 = some true) :
  Calls Try.prog 3 #[.agg #[.int .i64 a0_0, .slice A0_1 l0_1.length c0_1], .int .i64 a1] w fun e w' => e = .returned (.bool true) ∧ Below w.heap.size w w' := by
 have hu24 := Try.underlying24
 have hu26 := Try.underlying26
 have HR0_1 := aQ hr0_1
 have HC0_1 := aQ hc0_1
 clear hr0_1 hc0_1
 have HB := aQ (Below.refl w.heap.size w)
 have H : ((laws_szMatroid.f a0_0 l0_1 1048576).bind fun t4002 => (if t4002 < 0 then (some true) else ((laws_toMatroid.f k a0_0 l0_1).bind fun bt4003 => ((spec_Truncate.f k bt4003.1 bt4003.2 a1).bind fun bt4007 => ((laws_toMatroid.f k a0_0 l0_1).bind fun bt4013 => ((impl_Truncate.f k bt4013.1 bt4013.2 a1).bind fun bt4018 => ((laws_eqMatroid.f k bt4018.1 bt4018.2.1 bt4007.1 bt4007.2.1).bind fun t4024 => (if t4024 = true then (laws_FnExactTruncate.j0 k a1 bt4007.2.2 bt4018.2.2 (bt4018.2.2 != bt4007.2.2) a0_0 l0_1 bt4007.1 bt4007.2.1 bt4013.1 bt4013.2 bt4018.1 bt4018.2.1) else (laws_FnExactTruncate.j0 k a1 bt4007.2.2 bt4018.2.2 true a0_0 l0_1 bt4007.1 bt4007.2.1 bt4013.1 bt4013.2 bt4018.1 bt4018.2.1))))))))) = some true := h
 clear h
 replace H := Option.bind_eq_some_iff.mp H
 obtain ⟨t4002, A30, H⟩ := H
 replace H : (if t4002 < 0 then (some true) else ((laws_toMatroid.f k a0_0 l0_1).bind fun bt4003 => ((spec_Truncate.f k bt4003.1 bt4003.2 a1).bind fun bt4007 => ((laws_toMatroid.f k a0_0 l0_1).bind fun bt4013 => ((impl_Truncate.f k bt4013.1 bt4013.2 a1).bind fun bt4018 => ((laws_eqMatroid.f k bt4018.1 bt4018.2.1 bt4007.1 bt4007.2.1).bind fun t4024 => (if t4024 = true then (laws_FnExactTruncate.j0 k a1 bt4007.2.2 bt4018.2.2 (bt4018.2.2 != bt4007.2.2) a0_0 l0_1 bt4007.1 bt4007.2.1 bt4013.1 bt4013.2 bt4018.1 bt4018.2.1) else (laws_FnExactTruncate.j0 k a1 bt4007.2.2 bt4018.2.2 true a0_0 l0_1 bt4007.1 bt4007.2.1 bt4013.1 bt4013.2 bt4018.1 bt4018.2.1)))))))) = some true := H
 have A3 := aQ A30
 clear A30
 by_cases c4 : t4002 < 0
 ·rw [if_pos c4] at H
  have c4b0 : decide (t4002 < 0) = true := decide_eq_true c4
  clear c4
  clear H
  go_enter Try.func3, Try.ntmps3
  go_wp2_with (first | ((with_reducible refine gate_dst (N := 2) rfl ?_); refine box_event ?hg (N := 2) ?hd (cs := #[.int .i64 a0_0, .slice A0_1 l0_1.length c0_1]) (t := 24) ?hr ?_; (case hd => rfl); (case hg => rfl); (case hr => first | (go_simp; done) | (go_simp; rfl)); intro gb4001 hg w5 hbox hb; have BK4001 := aQ (hbox); have GW4001 := aQ ((by rw [hg]; exact (below_size (by repeat (first | (with_reducible first | exact HB.out | apply below_alloc | apply pw_below_drewN | apply below_drew1) | exact HB.out))) : w.heap.size ≤ gb4001)); have GE4001 := aQ ((by rw [hg]; exact (below_size (by repeat (first | (with_reducible first | exact HB.out | apply below_alloc | apply pw_below_drewN | apply below_drew1) | exact HB.out))) : w.heap.size ≤ gb4001)); replace HB := aQ (below_step (by repeat (first | (with_reducible first | exact HB.out | apply below_alloc | apply pw_below_drewN | apply below_drew1) | exact HB.out)) hb); clear hb hbox hg; have hcz6_0 : w5.cell? ⟨gb4001, 0, none⟩ = some (.int .i64 a0_0) := (blk_cell BK4001.out 0).trans rfl; have hcz6_1 : w5.cell? ⟨gb4001, 1, none⟩ = some (.slice A0_1 l0_1.length c0_1) := (blk_cell BK4001.out 1).trans rfl; have hfz6_0 := blk_frozen BK4001.out 0; have hfz6_1 := blk_frozen BK4001.out 1) | ((with_reducible refine gate_callee (f := 16) rfl ?_); refine goesL_ (some 18) rfl rfl Try.func16 (by kernel_rfl) rfl #[.agg #[.int .i64 a0_0, .slice A0_1 l0_1.length c0_1], .int .i64 1048576] rfl (by (try simp only [List.map_toArray, List.map_cons, List.map_nil]); first | done | rfl | (simp only [List.length_drop, List.length_take]; rfl)) ?_; (with_reducible refine (laws_szMatroid.calls a0_0 _ _ l0_1 1048576 t4002 _ ?side1 ?side2 A3.out).mono ?_); (case side1 => repeat (first | exact (Kd.C_below HR0_1.out HB.out) | (with_reducible refine Kd.C_alloc ?_ _) | (with_reducible refine Kd.C_drewN ?_ _) | (with_reducible refine Kd.C_drew ?_))); (case side2 => exact HC0_1.out); rintro e w7 ⟨rfl, hb⟩; refine ⟨_, rfl, ?_⟩; replace BK4001 := aQ (blk_below (g := gb4001) (o := .cells #[.int .i64 a0_0, .slice A0_1 l0_1.length c0_1] 24 (0, 0)) (by (with_reducible repeat (first | refine blk_drewN ?_ _ | refine blk_drew ?_ | refine blk_alloc ?_ _)); exact BK4001.out) hb); replace HB := aQ (below_step (by repeat (first | (with_reducible first | exact HB.out | apply below_alloc | apply pw_below_drewN | apply below_drew1 | refine below_set ?_ GE4001.out) | exact HB.out)) hb); (try clear hb); (try clear hb2); (try clear hk); (try clear hi)))
  go_ret
  exact ⟨by first | rfl | (simp [errW_none, errW_some] <;> rfl) | (simp [*, errW_none, errW_some] <;> rfl), by repeat (first | (with_reducible first | exact HB.out | apply below_alloc | apply pw_below_drewN | apply below_drew1 | refine below_set ?_ GE4001.out) | exact HB.out)⟩
 ·rw [if_neg c4] at H
  have c4b0 : decide (t4002 < 0) = false := decide_eq_false c4
  clear c4
  replace H := Option.bind_eq_some_iff.mp H
  obtain ⟨⟨t4003, t4004⟩, A80, H⟩ := H
  replace H : ((spec_Truncate.f k t4003 t4004 a1).bind fun bt4007 => ((laws_toMatroid.f k a0_0 l0_1).bind fun bt4013 => ((impl_Truncate.f k bt4013.1 bt4013.2 a1).bind fun bt4018 => ((laws_eqMatroid.f k bt4018.1 bt4018.2.1 bt4007.1 bt4007.2.1).bind fun t4024 => (if t4024 = true then (laws_FnExactTruncate.j0 k a1 bt4007.2.2 bt4018.2.2 (bt4018.2.2 != bt4007.2.2) a0_0 l0_1 bt4007.1 bt4007.2.1 bt4013.1 bt4013.2 bt4018.1 bt4018.2.1) else (laws_FnExactTruncate.j0 k a1 bt4007.2.2 bt4018.2.2 true a0_0 l0_1 bt4007.1 bt4007.2.1 bt4013.1 bt4013.2 bt4018.1 bt4018.2.1)))))) = some true := H
  have A8 := aQ A80
  clear A80
  replace H := Option.bind_eq_some_iff.mp H
  obtain ⟨⟨t4007, t4008, t4011⟩, A90, H⟩ := H
  replace H : ((laws_toMatroid.f k a0_0 l0_1).bind fun bt4013 => ((impl_Truncate.f k bt4013.1 bt4013.2 a1).bind fun bt4018 => ((laws_eqMatroid.f k bt4018.1 bt4018.2.1 t4007 t4008).bind fun t4024 => (if t4024 = true then (laws_FnExactTruncate.j0 k a1 t4011 bt4018.2.2 (bt4018.2.2 != t4011) a0_0 l0_1 t4007 t4008 bt4013.1 bt4013.2 bt4018.1 bt4018.2.1) else (laws_FnExactTruncate.j0 k a1 t4011 bt4018.2.2 true a0_0 l0_1 t4007 t4008 bt4013.1 bt4013.2 bt4018.1 bt4018.2.1))))) = some true := H
  have A9 := aQ A90
  clear A90
  replace H := Option.bind_eq_some_iff.mp H
  obtain ⟨⟨t4013, t4014⟩, A100, H⟩ := H
  replace H : ((impl_Truncate.f k t4013 t4014 a1).bind fun bt4018 => ((laws_eqMatroid.f k bt4018.1 bt4018.2.1 t4007 t4008).bind fun t4024 => (if t4024 = true then (laws_FnExactTruncate.j0 k a1 t4011 bt4018.2.2 (bt4018.2.2 != t4011) a0_0 l0_1 t4007 t4008 t4013 t4014 bt4018.1 bt4018.2.1) else (laws_FnExactTruncate.j0 k a1 t4011 bt4018.2.2 true a0_0 l0_1 t4007 t4008 t4013 t4014 bt4018.1 bt4018.2.1)))) = some true := H
  have A10 := aQ A100
  clear A100
  replace H := Option.bind_eq_some_iff.mp H
  obtain ⟨⟨t4018, t4019, t4022⟩, A110, H⟩ := H
  replace H : ((laws_eqMatroid.f k t4018 t4019 t4007 t4008).bind fun t4024 => (if t4024 = true then (laws_FnExactTruncate.j0 k a1 t4011 t4022 (t4022 != t4011) a0_0 l0_1 t4007 t4008 t4013 t4014 t4018 t4019) else (laws_FnExactTruncate.j0 k a1 t4011 t4022 true a0_0 l0_1 t4007 t4008 t4013 t4014 t4018 t4019))) = some true := H
  have A11 := aQ A110
  clear A110
  have HC12 := aQ H
  clear H
  go_enter Try.func3, Try.ntmps3
  go_upto_region 8 with (first | ((with_reducible refine gate_dst (N := 2) rfl ?_); refine box_event ?hg (N := 2) ?hd (cs := #[.int .i64 a0_0, .slice A0_1 l0_1.length c0_1]) (t := 24) ?hr ?_; (case hd => rfl); (case hg => rfl); (case hr => first | (go_simp; done) | (go_simp; rfl)); intro gb4001 hg w13 hbox hb; have BK4001 := aQ (hbox); have GW4001 := aQ ((by rw [hg]; exact (below_size (by repeat (first | (with_reducible first | exact HB.out | apply below_alloc | apply pw_below_drewN | apply below_drew1) | exact HB.out))) : w.heap.size ≤ gb4001)); have GE4001 := aQ ((by rw [hg]; exact (below_size (by repeat (first | (with_reducible first | exact HB.out | apply below_alloc | apply pw_below_drewN | apply below_drew1) | exact HB.out))) : w.heap.size ≤ gb4001)); replace HB := aQ (below_step (by repeat (first | (with_reducible first | exact HB.out | apply below_alloc | apply pw_below_drewN | apply below_drew1) | exact HB.out)) hb); clear hb hbox hg; have hcz14_0 : w13.cell? ⟨gb4001, 0, none⟩ = some (.int .i64 a0_0) := (blk_cell BK4001.out 0).trans rfl; have hcz14_1 : w13.cell? ⟨gb4001, 1, none⟩ = some (.slice A0_1 l0_1.length c0_1) := (blk_cell BK4001.out 1).trans rfl; have hfz14_0 := blk_frozen BK4001.out 0; have hfz14_1 := blk_frozen BK4001.out 1) | ((with_reducible refine gate_callee (f := 16) rfl ?_); refine goesL_ (some 18) rfl rfl Try.func16 (by kernel_rfl) rfl #[.agg #[.int .i64 a0_0, .slice A0_1 l0_1.length c0_1], .int .i64 1048576] rfl (by (try simp only [List.map_toArray, List.map_cons, List.map_nil]); first | done | rfl | (simp only [List.length_drop, List.length_take]; rfl)) ?_; (with_reducible refine (laws_szMatroid.calls a0_0 _ _ l0_1 1048576 t4002 _ ?side1 ?side2 A3.out).mono ?_); (case side1 => repeat (first | exact (Kd.C_below HR0_1.out HB.out) | (with_reducible refine Kd.C_alloc ?_ _) | (with_reducible refine Kd.C_drewN ?_ _) | (with_reducible refine Kd.C_drew ?_))); (case side2 => exact HC0_1.out); rintro e w15 ⟨rfl, hb⟩; refine ⟨_, rfl, ?_⟩; replace BK4001 := aQ (blk_below (g := gb4001) (o := .cells #[.int .i64 a0_0, .slice A0_1 l0_1.length c0_1] 24 (0, 0)) (by (with_reducible repeat (first | refine blk_drewN ?_ _ | refine blk_drew ?_ | refine blk_alloc ?_ _)); exact BK4001.out) hb); replace HB := aQ (below_step (by repeat (first | (with_reducible first | exact HB.out | apply below_alloc | apply pw_below_drewN | apply below_drew1 | refine below_set ?_ GE4001.out) | exact HB.out)) hb); (try clear hb); (try clear hb2); (try clear hk); (try clear hi); have hcz16_0 : w15.cell? ⟨gb4001, 0, none⟩ = some (.int .i64 a0_0) := (blk_cell BK4001.out 0).trans rfl; have hcz16_1 : w15.cell? ⟨gb4001, 1, none⟩ = some (.slice A0_1 l0_1.length c0_1) := (blk_cell BK4001.out 1).trans rfl; have hfz16_0 := blk_frozen BK4001.out 0; have hfz16_1 := blk_frozen BK4001.out 1) | ((with_reducible refine gate_callee (f := 18) rfl ?_); refine goesL_ (some 23) rfl rfl Try.func18 (by kernel_rfl) rfl #[.agg #[.int .i64 a0_0, .slice A0_1 l0_1.length c0_1]] rfl (by (try simp only [List.map_toArray, List.map_cons, List.map_nil]); first | done | rfl | (simp only [List.length_drop, List.length_take]; rfl)) ?_; (with_reducible refine (laws_toMatroid.calls k a0_0 _ _ l0_1 t4003 t4004 _ ?side1 ?side2 A8.out).mono ?_); (case side1 => repeat (first | exact (Kd.C_below HR0_1.out HB.out) | (with_reducible refine Kd.C_alloc ?_ _) | (with_reducible refine Kd.C_drewN ?_ _) | (with_reducible refine Kd.C_drew ?_))); (case side2 => exact HC0_1.out); rintro e w17 ⟨v4005, rfl, ho0, hb⟩; refine ⟨_, rfl, ?_⟩; have HO4006 := aQ (Kd.R_lower ho0 (below_size (by repeat (first | (with_reducible first | exact HB.out | apply below_alloc | apply pw_below_drewN | apply below_drew1 | refine below_set ?_ GE4001.out) | exact HB.out)))); replace BK4001 := aQ (blk_below (g := gb4001) (o := .cells #[.int .i64 a0_0, .slice A0_1 l0_1.length c0_1] 24 (0, 0)) (by (with_reducible repeat (first | refine blk_drewN ?_ _ | refine blk_drew ?_ | refine blk_alloc ?_ _)); exact BK4001.out) hb); replace HB := aQ (below_step (by repeat (first | (with_reducible first | exact HB.out | apply below_alloc | apply pw_below_drewN | apply below_drew1 | refine below_set ?_ GE4001.out) | exact HB.out)) hb); (try clear hb); (try clear hb2); (try clear hk); (try clear hi); (try clear ho0); obtain ⟨Ao18, co18, eo18⟩ := Kd.R_slice HO4006.out; subst eo18) | ((with_reducible refine gate_callee (f := 17) rfl ?_); refine goesL_ (some 25) rfl rfl Try.func17 (by kernel_rfl) rfl #[.agg #[.int .i64 t4003, .slice Ao18 t4004.length co18], .int .i64 a1] rfl (by (try simp only [List.map_toArray, List.map_cons, List.map_nil]); first | done | rfl | (simp only [List.length_drop, List.length_take]; rfl)) ?_; (with_reducible refine (spec_Truncate.calls k t4003 _ _ t4004 a1 t4007 t4008 t4011 _ ?side1 ?side2 A9.out).mono ?_); (case side1 => repeat (first | exact (Kd.R_reads' HO4006.out).2.2 | (with_reducible refine Kd.C_alloc ?_ _) | (with_reducible refine Kd.C_drewN ?_ _) | (with_reducible refine Kd.C_drew ?_))); (case side2 => exact (Kd.R_reads' HO4006.out).2.1); rintro e w19 ⟨v4009, rfl, ho0, hb⟩; refine ⟨_, rfl, ?_⟩; have HO4010 := aQ (Kd.R_lower (Kd.R_new' ho0 (Kd.R_lt (by (with_reducible repeat (first | apply Kd.R_alloc | apply Kd.R_drewN | apply Kd.R_drew)); exact HO4006.out))) (below_size (by repeat (first | (with_reducible first | exact HB.out | apply below_alloc | apply pw_below_drewN | apply below_drew1 | refine below_set ?_ GE4001.out) | exact HB.out)))); replace HO4006 := aQ (Kd.R_elder' (by (with_reducible repeat (first | apply Kd.R_alloc | apply Kd.R_drewN | apply Kd.R_drew)); exact HO4006.out) (Kd.R_base ho0) hb); replace BK4001 := aQ (blk_below (g := gb4001) (o := .cells #[.int .i64 a0_0, .slice A0_1 l0_1.length c0_1] 24 (0, 0)) (by (with_reducible repeat (first | refine blk_drewN ?_ _ | refine blk_drew ?_ | refine blk_alloc ?_ _)); exact BK4001.out) hb); replace HB := aQ (below_step (by repeat (first | (with_reducible first | exact HB.out | apply below_alloc | apply pw_below_drewN | apply below_drew1 | refine below_set ?_ GE4001.out) | exact HB.out)) hb); (try clear hb); (try clear hb2); (try clear hk); (try clear hi); (try clear ho0)) | ((with_reducible refine gate_dst (N := 6) rfl ?_); refine box_event ?hg (N := 6) ?hd (cs := #[.int .i64 0, .slice none 0 0]) (t := 26) ?hr ?_; (case hd => rfl); (case hg => rfl); (case hr => first | (go_simp; done) | (go_simp; rfl)); intro gb4012 hg w20 hbox hb; replace HO4006 := aQ (Kd.R_below (by (with_reducible repeat (first | apply Kd.R_alloc | apply Kd.R_drewN | apply Kd.R_drew)); exact HO4006.out) hb); replace HO4010 := aQ (Kd.R_below (by (with_reducible repeat (first | apply Kd.R_alloc | apply Kd.R_drewN | apply Kd.R_drew)); exact HO4010.out) hb); have BK4012 := aQ (hbox); have GW4012 := aQ ((by rw [hg]; exact (below_size (by repeat (first | (with_reducible first | exact HB.out | apply below_alloc | apply pw_below_drewN | apply below_drew1 | refine below_set ?_ GE4001.out) | exact HB.out))) : w.heap.size ≤ gb4012)); have GE4012 := aQ ((by rw [hg]; exact (below_size (by repeat (first | (with_reducible first | exact HB.out | apply below_alloc | apply pw_below_drewN | apply below_drew1 | refine below_set ?_ GE4001.out) | exact HB.out))) : w.heap.size ≤ gb4012)); replace HB := aQ (below_step (by repeat (first | (with_reducible first | exact HB.out | apply below_alloc | apply pw_below_drewN | apply below_drew1 | refine below_set ?_ GE4001.out) | exact HB.out)) hb); have NB4001_4012 := aQ ((by rw [hg]; exact Nat.ne_of_lt (blk_lt (g := gb4001) (o := .cells #[.int .i64 a0_0, .slice A0_1 l0_1.length c0_1] 24 (0, 0)) (by (with_reducible repeat (first | refine blk_drewN ?_ _ | refine blk_drew ?_ | refine blk_alloc ?_ _)); exact BK4001.out)) : gb4001 ≠ gb4012)); have NB4012_4001 := aQ ((by rw [hg]; exact Nat.ne_of_gt (blk_lt (g := gb4001) (o := .cells #[.int .i64 a0_0, .slice A0_1 l0_1.length c0_1] 24 (0, 0)) (by (with_reducible repeat (first | refine blk_drewN ?_ _ | refine blk_drew ?_ | refine blk_alloc ?_ _)); exact BK4001.out)) : gb4012 ≠ gb4001)); replace BK4001 := aQ (blk_below (g := gb4001) (o := .cells #[.int .i64 a0_0, .slice A0_1 l0_1.length c0_1] 24 (0, 0)) (by (with_reducible repeat (first | refine blk_drewN ?_ _ | refine blk_drew ?_ | refine blk_alloc ?_ _)); exact BK4001.out) hb); clear hb hbox hg; have hnb21 := NB4012_4001.out; have hnc21 := NB4001_4012.out; have hcz22_0 : w20.cell? ⟨gb4012, 0, none⟩ = some (.int .i64 0) := (blk_cell BK4012.out 0).trans rfl; have hcz22_1 : w20.cell? ⟨gb4012, 1, none⟩ = some (.slice none 0 0) := (blk_cell BK4012.out 1).trans rfl; have hfz22_0 := blk_frozen BK4012.out 0; have hfz22_1 := blk_frozen BK4012.out 1; obtain ⟨Ao23, co23, eo23⟩ := Kd.R_slice HO4010.out; subst eo23; have hcz24_0 : w20.cell? ⟨gb4001, 0, none⟩ = some (.int .i64 a0_0) := (blk_cell BK4001.out 0).trans rfl; have hcz24_1 : w20.cell? ⟨gb4001, 1, none⟩ = some (.slice A0_1 l0_1.length c0_1) := (blk_cell BK4001.out 1).trans rfl; have hfz24_0 := blk_frozen BK4001.out 0; have hfz24_1 := blk_frozen BK4001.out 1) | ((with_reducible refine gate_callee (f := 18) rfl ?_); refine goesL_ (some 29) rfl rfl Try.func18 (by kernel_rfl) rfl #[.agg #[.int .i64 a0_0, .slice A0_1 l0_1.length c0_1]] rfl (by (try simp only [List.map_toArray, List.map_cons, List.map_nil]); first | done | rfl | (simp only [List.length_drop, List.length_take]; rfl)) ?_; (with_reducible refine (laws_toMatroid.calls k a0_0 _ _ l0_1 t4013 t4014 _ ?side1 ?side2 A10.out).mono ?_); (case side1 => exact Kd.C_below HR0_1.out (by repeat (first | (with_reducible first | exact HB.out | apply below_alloc | apply pw_below_drewN | apply below_drew1 | refine below_set ?_ GE4001.out | refine below_set ?_ GE4012.out) | exact HB.out))); (case side2 => exact HC0_1.out); rintro e w25 ⟨v4015, rfl, ho0, hb⟩; refine ⟨_, rfl, ?_⟩; have HO4016 := aQ (Kd.R_lower (Kd.R_new' (Kd.R_new' ho0 (Kd.R_lt (by (with_reducible repeat (first | apply Kd.R_alloc | apply Kd.R_drewN | apply Kd.R_drew)); exact (Kd.R_mono (Kd.R_far (p := ⟨gb4012, 1, none⟩) (Kd.R_far (p := ⟨gb4012, 0, none⟩) (Kd.R_types HO4006.out BK4012.out (by decide)) (fun _ hk => hk.2) (.int .i64 t4007)) (fun _ hk => hk.2) (.slice Ao23 t4008.length co23)) (fun _ h_ => h_.1))))) (Kd.R_lt (by (with_reducible repeat (first | apply Kd.R_alloc | apply Kd.R_drewN | apply Kd.R_drew)); exact (Kd.R_mono (Kd.R_far (p := ⟨gb4012, 1, none⟩) (Kd.R_far (p := ⟨gb4012, 0, none⟩) (Kd.R_types HO4010.out BK4012.out (by decide)) (fun _ hk => hk.2) (.int .i64 t4007)) (fun _ hk => hk.2) (.slice Ao23 t4008.length co23)) (fun _ h_ => h_.1))))) (below_size (by repeat (first | (with_reducible first | exact HB.out | apply below_alloc | apply pw_below_drewN | apply below_drew1 | refine below_set ?_ GE4001.out | refine below_set ?_ GE4012.out) | exact HB.out)))); replace HO4006 := aQ (Kd.R_elder' (by (with_reducible repeat (first | apply Kd.R_alloc | apply Kd.R_drewN | apply Kd.R_drew)); exact (Kd.R_mono (Kd.R_far (p := ⟨gb4012, 1, none⟩) (Kd.R_far (p := ⟨gb4012, 0, none⟩) (Kd.R_types HO4006.out BK4012.out (by decide)) (fun _ hk => hk.2) (.int .i64 t4007)) (fun _ hk => hk.2) (.slice Ao23 t4008.length co23)) (fun _ h_ => h_.1))) (Kd.R_base ho0) hb); replace HO4010 := aQ (Kd.R_elder' (by (with_reducible repeat (first | apply Kd.R_alloc | apply Kd.R_drewN | apply Kd.R_drew)); exact (Kd.R_mono (Kd.R_far (p := ⟨gb4012, 1, none⟩) (Kd.R_far (p := ⟨gb4012, 0, none⟩) (Kd.R_types HO4010.out BK4012.out (by decide)) (fun _ hk => hk.2) (.int .i64 t4007)) (fun _ hk => hk.2) (.slice Ao23 t4008.length co23)) (fun _ h_ => h_.1))) (Kd.R_base ho0) hb); replace BK4001 := aQ (blk_below (g := gb4001) (o := .cells #[.int .i64 a0_0, .slice A0_1 l0_1.length c0_1] 24 (0, 0)) (by (with_reducible repeat (first | refine blk_drewN ?_ _ | refine blk_drew ?_ | refine blk_alloc ?_ _)); refine blk_far ?_ NB4001_4012.out _; (with_reducible repeat (first | refine blk_drewN ?_ _ | refine blk_drew ?_ | refine blk_alloc ?_ _)); refine blk_far ?_ NB4001_4012.out _; (with_reducible repeat (first | refine blk_drewN ?_ _ | refine blk_drew ?_ | refine blk_alloc ?_ _)); exact BK4001.out) hb); replace BK4012 := aQ (blk_below (g := gb4012) (o := .cells #[.int .i64 t4007, .slice Ao23 t4008.length co23] 26 (0, 0)) (by (with_reducible repeat (first | refine blk_drewN ?_ _ | refine blk_drew ?_ | refine blk_alloc ?_ _)); refine blk_put (cs := #[.int .i64 t4007, .slice none 0 0]) ?_ 1 _ rfl; (with_reducible repeat (first | refine blk_drewN ?_ _ | refine blk_drew ?_ | refine blk_alloc ?_ _)); refine blk_put (cs := #[.int .i64 0, .slice none 0 0]) ?_ 0 _ rfl; (with_reducible repeat (first | refine blk_drewN ?_ _ | refine blk_drew ?_ | refine blk_alloc ?_ _)); exact BK4012.out) hb); replace HB := aQ (below_step (by repeat (first | (with_reducible first | exact HB.out | apply below_alloc | apply pw_below_drewN | apply below_drew1 | refine below_set ?_ GE4001.out | refine below_set ?_ GE4012.out) | exact HB.out)) hb); (try clear hb); (try clear hb2); (try clear hk); (try clear hi); (try clear ho0)) | ((with_reducible refine gate_dst (N := 8) rfl ?_); refine box_event ?hg (N := 8) ?hd (cs := #[.int .i64 0, .slice none 0 0]) (t := 26) ?hr ?_; (case hd => rfl); (case hg => rfl); (case hr => first | (go_simp; done) | (go_simp; rfl)); intro gb4017 hg w26 hbox hb; replace HO4006 := aQ (Kd.R_below (by (with_reducible repeat (first | apply Kd.R_alloc | apply Kd.R_drewN | apply Kd.R_drew)); exact HO4006.out) hb); replace HO4010 := aQ (Kd.R_below (by (with_reducible repeat (first | apply Kd.R_alloc | apply Kd.R_drewN | apply Kd.R_drew)); exact HO4010.out) hb); replace HO4016 := aQ (Kd.R_below (by (with_reducible repeat (first | apply Kd.R_alloc | apply Kd.R_drewN | apply Kd.R_drew)); exact HO4016.out) hb); have BK4017 := aQ (hbox); have GW4017 := aQ ((by rw [hg]; exact (below_size (by repeat (first | (with_reducible first | exact HB.out | apply below_alloc | apply pw_below_drewN | apply below_drew1 | refine below_set ?_ GE4001.out | refine below_set ?_ GE4012.out) | exact HB.out))) : w.heap.size ≤ gb4017)); have GE4017 := aQ ((by rw [hg]; exact (below_size (by repeat (first | (with_reducible first | exact HB.out | apply below_alloc | apply pw_below_drewN | apply below_drew1 | refine below_set ?_ GE4001.out | refine below_set ?_ GE4012.out) | exact HB.out))) : w.heap.size ≤ gb4017)); replace HB := aQ (below_step (by repeat (first | (with_reducible first | exact HB.out | apply below_alloc | apply pw_below_drewN | apply below_drew1 | refine below_set ?_ GE4001.out | refine below_set ?_ GE4012.out) | exact HB.out)) hb); have NB4001_4017 := aQ ((by rw [hg]; exact Nat.ne_of_lt (blk_lt (g := gb4001) (o := .cells #[.int .i64 a0_0, .slice A0_1 l0_1.length c0_1] 24 (0, 0)) (by (with_reducible repeat (first | refine blk_drewN ?_ _ | refine blk_drew ?_ | refine blk_alloc ?_ _)); exact BK4001.out)) : gb4001 ≠ gb4017)); have NB4017_4001 := aQ ((by rw [hg]; exact Nat.ne_of_gt (blk_lt (g := gb4001) (o := .cells #[.int .i64 a0_0, .slice A0_1 l0_1.length c0_1] 24 (0, 0)) (by (with_reducible repeat (first | refine blk_drewN ?_ _ | refine blk_drew ?_ | refine blk_alloc ?_ _)); exact BK4001.out)) : gb4017 ≠ gb4001)); replace BK4001 := aQ (blk_below (g := gb4001) (o := .cells #[.int .i64 a0_0, .slice A0_1 l0_1.length c0_1] 24 (0, 0)) (by (with_reducible repeat (first | refine blk_drewN ?_ _ | refine blk_drew ?_ | refine blk_alloc ?_ _)); exact BK4001.out) hb); have NB4012_4017 := aQ ((by rw [hg]; exact Nat.ne_of_lt (blk_lt (g := gb4012) (o := .cells #[.int .i64 t4007, .slice Ao23 t4008.length co23] 26 (0, 0)) (by (with_reducible repeat (first | refine blk_drewN ?_ _ | refine blk_drew ?_ | refine blk_alloc ?_ _)); exact BK4012.out)) : gb4012 ≠ gb4017)); have NB4017_4012 := aQ ((by rw [hg]; exact Nat.ne_of_gt (blk_lt (g := gb4012) (o := .cells #[.int .i64 t4007, .slice Ao23 t4008.length co23] 26 (0, 0)) (by (with_reducible repeat (first | refine blk_drewN ?_ _ | refine blk_drew ?_ | refine blk_alloc ?_ _)); exact BK4012.out)) : gb4017 ≠ gb4012)); replace BK4012 := aQ (blk_below (g := gb4012) (o := .cells #[.int .i64 t4007, .slice Ao23 t4008.length co23] 26 (0, 0)) (by (with_reducible repeat (first | refine blk_drewN ?_ _ | refine blk_drew ?_ | refine blk_alloc ?_ _)); exact BK4012.out) hb); clear hb hbox hg; have hnb27 := NB4017_4001.out; have hnc27 := NB4001_4017.out; have hnb28 := NB4017_4012.out; have hnc28 := NB4012_4017.out; have hcz29_0 : w26.cell? ⟨gb4017, 0, none⟩ = some (.int .i64 0) := (blk_cell BK4017.out 0).trans rfl; have hcz29_1 : w26.cell? ⟨gb4017, 1, none⟩ = some (.slice none 0 0) := (blk_cell BK4017.out 1).trans rfl; have hfz29_0 := blk_frozen BK4017.out 0; have hfz29_1 := blk_frozen BK4017.out 1; obtain ⟨Ao30, co30, eo30⟩ := Kd.R_slice HO4016.out; subst eo30) | ((with_reducible refine gate_callee (f := 19) rfl ?_); refine goesL_ (some 33) rfl rfl Try.func19 (by kernel_rfl) rfl #[.agg #[.int .i64 t4013, .slice Ao30 t4014.length co30], .int .i64 a1] rfl (by (try simp only [List.map_toArray, List.map_cons, List.map_nil]); first | done | rfl | (simp only [List.length_drop, List.length_take]; rfl)) ?_; (with_reducible refine (impl_Truncate.calls k t4013 _ _ t4014 a1 t4018 t4019 t4022 _ ?side1 ?side2 A11.out).mono ?_); (case side1 => refine (Kd.R_reads' (e := 3) (base := w.heap.size) (ok := fun k_ => ((True ∧ some k_ ≠ (.slice Ao18 t4004.length co18 : Value).ownBlock) ∧ some k_ ≠ (.slice Ao23 t4008.length co23 : Value).ownBlock)) (n := t4014.length) (c := co30) ?_).2.2; exact (by (with_reducible repeat (first | apply Kd.R_alloc | apply Kd.R_drewN | apply Kd.R_drew)); exact (Kd.R_mono (Kd.R_far (p := ⟨gb4017, 1, none⟩) (Kd.R_far (p := ⟨gb4017, 0, none⟩) (Kd.R_types HO4016.out BK4017.out (by decide)) (fun _ hk => hk.2) (.int .i64 t4013)) (fun _ hk => hk.2) (.slice Ao30 t4014.length co30)) (fun _ h_ => h_.1)))); (case side2 => exact (Kd.R_reads' HO4016.out).2.1); rintro e w31 ⟨v4020, rfl, ho0, hb⟩; refine ⟨_, rfl, ?_⟩; have HO4021 := aQ (Kd.R_lower (Kd.R_new' (Kd.R_new' (Kd.R_new' ho0 (Kd.R_lt (by (with_reducible repeat (first | apply Kd.R_alloc | apply Kd.R_drewN | apply Kd.R_drew)); exact (Kd.R_mono (Kd.R_far (p := ⟨gb4017, 1, none⟩) (Kd.R_far (p := ⟨gb4017, 0, none⟩) (Kd.R_types HO4006.out BK4017.out (by decide)) (fun _ hk => hk.2) (.int .i64 t4013)) (fun _ hk => hk.2) (.slice Ao30 t4014.length co30)) (fun _ h_ => h_.1))))) (Kd.R_lt (by (with_reducible repeat (first | apply Kd.R_alloc | apply Kd.R_drewN | apply Kd.R_drew)); exact (Kd.R_mono (Kd.R_far (p := ⟨gb4017, 1, none⟩) (Kd.R_far (p := ⟨gb4017, 0, none⟩) (Kd.R_types HO4010.out BK4017.out (by decide)) (fun _ hk => hk.2) (.int .i64 t4013)) (fun _ hk => hk.2) (.slice Ao30 t4014.length co30)) (fun _ h_ => h_.1))))) (Kd.R_lt (by (with_reducible repeat (first | apply Kd.R_alloc | apply Kd.R_drewN | apply Kd.R_drew)); exact (Kd.R_mono (Kd.R_far (p := ⟨gb4017, 1, none⟩) (Kd.R_far (p := ⟨gb4017, 0, none⟩) (Kd.R_types HO4016.out BK4017.out (by decide)) (fun _ hk => hk.2) (.int .i64 t4013)) (fun _ hk => hk.2) (.slice Ao30 t4014.length co30)) (fun _ h_ => h_.1))))) (below_size (by repeat (first | (with_reducible first | exact HB.out | apply below_alloc | apply pw_below_drewN | apply below_drew1 | refine below_set ?_ GE4001.out | refine below_set ?_ GE4012.out | refine below_set ?_ GE4017.out) | exact HB.out)))); replace HO4006 := aQ (Kd.R_elder' (by (with_reducible repeat (first | apply Kd.R_alloc | apply Kd.R_drewN | apply Kd.R_drew)); exact (Kd.R_mono (Kd.R_far (p := ⟨gb4017, 1, none⟩) (Kd.R_far (p := ⟨gb4017, 0, none⟩) (Kd.R_types HO4006.out BK4017.out (by decide)) (fun _ hk => hk.2) (.int .i64 t4013)) (fun _ hk => hk.2) (.slice Ao30 t4014.length co30)) (fun _ h_ => h_.1))) (Kd.R_base ho0) hb); replace HO4010 := aQ (Kd.R_elder' (by (with_reducible repeat (first | apply Kd.R_alloc | apply Kd.R_drewN | apply Kd.R_drew)); exact (Kd.R_mono (Kd.R_far (p := ⟨gb4017, 1, none⟩) (Kd.R_far (p := ⟨gb4017, 0, none⟩) (Kd.R_types HO4010.out BK4017.out (by decide)) (fun _ hk => hk.2) (.int .i64 t4013)) (fun _ hk => hk.2) (.slice Ao30 t4014.length co30)) (fun _ h_ => h_.1))) (Kd.R_base ho0) hb); replace HO4016 := aQ (Kd.R_elder' (by (with_reducible repeat (first | apply Kd.R_alloc | apply Kd.R_drewN | apply Kd.R_drew)); exact (Kd.R_mono (Kd.R_far (p := ⟨gb4017, 1, none⟩) (Kd.R_far (p := ⟨gb4017, 0, none⟩) (Kd.R_types HO4016.out BK4017.out (by decide)) (fun _ hk => hk.2) (.int .i64 t4013)) (fun _ hk => hk.2) (.slice Ao30 t4014.length co30)) (fun _ h_ => h_.1))) (Kd.R_base ho0) hb); replace BK4001 := aQ (blk_below (g := gb4001) (o := .cells #[.int .i64 a0_0, .slice A0_1 l0_1.length c0_1] 24 (0, 0)) (by (with_reducible repeat (first | refine blk_drewN ?_ _ | refine blk_drew ?_ | refine blk_alloc ?_ _)); refine blk_far ?_ NB4001_4017.out _; (with_reducible repeat (first | refine blk_drewN ?_ _ | refine blk_drew ?_ | refine blk_alloc ?_ _)); refine blk_far ?_ NB4001_4017.out _; (with_reducible repeat (first | refine blk_drewN ?_ _ | refine blk_drew ?_ | refine blk_alloc ?_ _)); exact BK4001.out) hb); replace BK4012 := aQ (blk_below (g := gb4012) (o := .cells #[.int .i64 t4007, .slice Ao23 t4008.length co23] 26 (0, 0)) (by (with_reducible repeat (first | refine blk_drewN ?_ _ | refine blk_drew ?_ | refine blk_alloc ?_ _)); refine blk_far ?_ NB4012_4017.out _; (with_reducible repeat (first | refine blk_drewN ?_ _ | refine blk_drew ?_ | refine blk_alloc ?_ _)); refine blk_far ?_ NB4012_4017.out _; (with_reducible repeat (first | refine blk_drewN ?_ _ | refine blk_drew ?_ | refine blk_alloc ?_ _)); exact BK4012.out) hb); replace BK4017 := aQ (blk_below (g := gb4017) (o := .cells #[.int .i64 t4013, .slice Ao30 t4014.length co30] 26 (0, 0)) (by (with_reducible repeat (first | refine blk_drewN ?_ _ | refine blk_drew ?_ | refine blk_alloc ?_ _)); refine blk_put (cs := #[.int .i64 t4013, .slice none 0 0]) ?_ 1 _ rfl; (with_reducible repeat (first | refine blk_drewN ?_ _ | refine blk_drew ?_ | refine blk_alloc ?_ _)); refine blk_put (cs := #[.int .i64 0, .slice none 0 0]) ?_ 0 _ rfl; (with_reducible repeat (first | refine blk_drewN ?_ _ | refine blk_drew ?_ | refine blk_alloc ?_ _)); exact BK4017.out) hb); replace HB := aQ (below_step (by repeat (first | (with_reducible first | exact HB.out | apply below_alloc | apply pw_below_drewN | apply below_drew1 | refine below_set ?_ GE4001.out | refine below_set ?_ GE4012.out | refine below_set ?_ GE4017.out) | exact HB.out)) hb); (try clear hb); (try clear hb2); (try clear hk); (try clear hi); (try clear ho0)) | ((with_reducible refine gate_dst (N := 9) rfl ?_); refine box_event ?hg (N := 9) ?hd (cs := #[.int .i64 0, .slice none 0 0]) (t := 26) ?hr ?_; (case hd => rfl); (case hg => rfl); (case hr => first | (go_simp; done) | (go_simp; rfl)); intro gb4023 hg w32 hbox hb; replace HO4006 := aQ (Kd.R_below (by (with_reducible repeat (first | apply Kd.R_alloc | apply Kd.R_drewN | apply Kd.R_drew)); exact HO4006.out) hb); replace HO4010 := aQ (Kd.R_below (by (with_reducible repeat (first | apply Kd.R_alloc | apply Kd.R_drewN | apply Kd.R_drew)); exact HO4010.out) hb); replace HO4016 := aQ (Kd.R_below (by (with_reducible repeat (first | apply Kd.R_alloc | apply Kd.R_drewN | apply Kd.R_drew)); exact HO4016.out) hb); replace HO4021 := aQ (Kd.R_below (by (with_reducible repeat (first | apply Kd.R_alloc | apply Kd.R_drewN | apply Kd.R_drew)); exact HO4021.out) hb); have BK4023 := aQ (hbox); have GW4023 := aQ ((by rw [hg]; exact (below_size (by repeat (first | (with_reducible first | exact HB.out | apply below_alloc | apply pw_below_drewN | apply below_drew1 | refine below_set ?_ GE4001.out | refine below_set ?_ GE4012.out | refine below_set ?_ GE4017.out) | exact HB.out))) : w.heap.size ≤ gb4023)); have GE4023 := aQ ((by rw [hg]; exact (below_size (by repeat (first | (with_reducible first | exact HB.out | apply below_alloc | apply pw_below_drewN | apply below_drew1 | refine below_set ?_ GE4001.out | refine below_set ?_ GE4012.out | refine below_set ?_ GE4017.out) | exact HB.out))) : w.heap.size ≤ gb4023)); replace HB := aQ (below_step (by repeat (first | (with_reducible first | exact HB.out | apply below_alloc | apply pw_below_drewN | apply below_drew1 | refine below_set ?_ GE4001.out | refine below_set ?_ GE4012.out | refine below_set ?_ GE4017.out) | exact HB.out)) hb); have NB4001_4023 := aQ ((by rw [hg]; exact Nat.ne_of_lt (blk_lt (g := gb4001) (o := .cells #[.int .i64 a0_0, .slice A0_1 l0_1.length c0_1] 24 (0, 0)) (by (with_reducible repeat (first | refine blk_drewN ?_ _ | refine blk_drew ?_ | refine blk_alloc ?_ _)); exact BK4001.out)) : gb4001 ≠ gb4023)); have NB4023_4001 := aQ ((by rw [hg]; exact Nat.ne_of_gt (blk_lt (g := gb4001) (o := .cells #[.int .i64 a0_0, .slice A0_1 l0_1.length c0_1] 24 (0, 0)) (by (with_reducible repeat (first | refine blk_drewN ?_ _ | refine blk_drew ?_ | refine blk_alloc ?_ _)); exact BK4001.out)) : gb4023 ≠ gb4001)); replace BK4001 := aQ (blk_below (g := gb4001) (o := .cells #[.int .i64 a0_0, .slice A0_1 l0_1.length c0_1] 24 (0, 0)) (by (with_reducible repeat (first | refine blk_drewN ?_ _ | refine blk_drew ?_ | refine blk_alloc ?_ _)); exact BK4001.out) hb); have NB4012_4023 := aQ ((by rw [hg]; exact Nat.ne_of_lt (blk_lt (g := gb4012) (o := .cells #[.int .i64 t4007, .slice Ao23 t4008.length co23] 26 (0, 0)) (by (with_reducible repeat (first | refine blk_drewN ?_ _ | refine blk_drew ?_ | refine blk_alloc ?_ _)); exact BK4012.out)) : gb4012 ≠ gb4023)); have NB4023_4012 := aQ ((by rw [hg]; exact Nat.ne_of_gt (blk_lt (g := gb4012) (o := .cells #[.int .i64 t4007, .slice Ao23 t4008.length co23] 26 (0, 0)) (by (with_reducible repeat (first | refine blk_drewN ?_ _ | refine blk_drew ?_ | refine blk_alloc ?_ _)); exact BK4012.out)) : gb4023 ≠ gb4012)); replace BK4012 := aQ (blk_below (g := gb4012) (o := .cells #[.int .i64 t4007, .slice Ao23 t4008.length co23] 26 (0, 0)) (by (with_reducible repeat (first | refine blk_drewN ?_ _ | refine blk_drew ?_ | refine blk_alloc ?_ _)); exact BK4012.out) hb); have NB4017_4023 := aQ ((by rw [hg]; exact Nat.ne_of_lt (blk_lt (g := gb4017) (o := .cells #[.int .i64 t4013, .slice Ao30 t4014.length co30] 26 (0, 0)) (by (with_reducible repeat (first | refine blk_drewN ?_ _ | refine blk_drew ?_ | refine blk_alloc ?_ _)); exact BK4017.out)) : gb4017 ≠ gb4023)); have NB4023_4017 := aQ ((by rw [hg]; exact Nat.ne_of_gt (blk_lt (g := gb4017) (o := .cells #[.int .i64 t4013, .slice Ao30 t4014.length co30] 26 (0, 0)) (by (with_reducible repeat (first | refine blk_drewN ?_ _ | refine blk_drew ?_ | refine blk_alloc ?_ _)); exact BK4017.out)) : gb4023 ≠ gb4017)); replace BK4017 := aQ (blk_below (g := gb4017) (o := .cells #[.int .i64 t4013, .slice Ao30 t4014.length co30] 26 (0, 0)) (by (with_reducible repeat (first | refine blk_drewN ?_ _ | refine blk_drew ?_ | refine blk_alloc ?_ _)); exact BK4017.out) hb); clear hb hbox hg; have hnb33 := NB4023_4001.out; have hnc33 := NB4001_4023.out; have hnb34 := NB4023_4012.out; have hnc34 := NB4012_4023.out; have hnb35 := NB4023_4017.out; have hnc35 := NB4017_4023.out; have hcz36_0 : w32.cell? ⟨gb4023, 0, none⟩ = some (.int .i64 0) := (blk_cell BK4023.out 0).trans rfl; have hcz36_1 : w32.cell? ⟨gb4023, 1, none⟩ = some (.slice none 0 0) := (blk_cell BK4023.out 1).trans rfl; have hfz36_0 := blk_frozen BK4023.out 0; have hfz36_1 := blk_frozen BK4023.out 1; obtain ⟨Ao37, co37, eo37⟩ := Kd.R_slice HO4021.out; subst eo37))
  (try simp only [Act.put, List.setIfInBounds_toArray, List.set_cons_zero, List.set_cons_succ])
  go_cut [44] (fun v44 wc => ∃ (kq : Nat) (x44_11 : Bool), v44 = .bool x44_11 ∧ Aside0 (laws_FnExactTruncate.j0 kq a1 t4011 t4022 x44_11 a0_0 l0_1 t4007 t4008 t4013 t4014 t4018 t4019 = some true) ∧ Aside0 (kq ≤ k) ∧ Aside0 (Kd.R (Kd.int .i64) 3 wc w.heap.size (fun k_ => some k_ ≠ ((.slice Ao30 t4014.length co30) : Value).ownBlock ∧ some k_ ≠ ((.slice Ao37 t4019.length co37) : Value).ownBlock) (.slice Ao23 t4008.length co23) t4008) ∧ Aside0 (Kd.R (Kd.int .i64) 3 wc w.heap.size (fun k_ => some k_ ≠ ((.slice Ao23 t4008.length co23) : Value).ownBlock ∧ some k_ ≠ ((.slice Ao37 t4019.length co37) : Value).ownBlock) (.slice Ao30 t4014.length co30) t4014) ∧ Aside0 (Kd.R (Kd.int .i64) 3 wc w.heap.size (fun k_ => some k_ ≠ ((.slice Ao23 t4008.length co23) : Value).ownBlock ∧ some k_ ≠ ((.slice Ao30 t4014.length co30) : Value).ownBlock) (.slice Ao37 t4019.length co37) t4019) ∧ Aside0 (wc.heap[gb4001]? = some (.cells #[.int .i64 a0_0, (.slice A0_1 l0_1.length c0_1)] 24 (0, 0))) ∧ Aside0 (wc.heap[gb4012]? = some (.cells #[.int .i64 t4007, (.slice Ao23 t4008.length co23)] 26 (0, 0))) ∧ Aside0 (wc.heap[gb4017]? = some (.cells #[.int .i64 t4013, (.slice Ao30 t4014.length co30)] 26 (0, 0))) ∧ Aside0 (wc.heap[gb4023]? = some (.cells #[.int .i64 t4018, (.slice Ao37 t4019.length co37)] 26 (0, 0))) ∧ Aside0 (Below w.heap.size w wc))
  case first =>
   have H := HC12.out
   clear HC12
   replace H := Option.bind_eq_some_iff.mp H
   obtain ⟨t4024, A380, H⟩ := H
   replace H : (if t4024 = true then (laws_FnExactTruncate.j0 k a1 t4011 t4022 (t4022 != t4011) a0_0 l0_1 t4007 t4008 t4013 t4014 t4018 t4019) else (laws_FnExactTruncate.j0 k a1 t4011 t4022 true a0_0 l0_1 t4007 t4008 t4013 t4014 t4018 t4019)) = some true := H
   have A38 := aQ A380
   clear A380
   by_cases c39 : t4024 = true
   ·subst c39
    have H1 : (laws_FnExactTruncate.j0 k a1 t4011 t4022 (t4022 != t4011) a0_0 l0_1 t4007 t4008 t4013 t4014 t4018 t4019) = some true := by rw [if_pos rfl] at H; exact H
    clear H
    have H := H1
    clear H1
    have H' := aQ H
    clear H
    have hnb40 := NB4023_4001.out
    have hnc40 := NB4001_4023.out
    have hnb41 := NB4023_4012.out
    have hnc41 := NB4012_4023.out
    have hnb42 := NB4023_4017.out
    have hnc42 := NB4017_4023.out
    have hcz43_0 : w32.cell? ⟨gb4023, 0, none⟩ = some (.int .i64 0) := (blk_cell BK4023.out 0).trans rfl
    have hcz43_1 : w32.cell? ⟨gb4023, 1, none⟩ = some (.slice none 0 0) := (blk_cell BK4023.out 1).trans rfl
    have hfz43_0 := blk_frozen BK4023.out 0
    have hfz43_1 := blk_frozen BK4023.out 1
    have hnb44 := NB4012_4001.out
    have hnc44 := NB4001_4012.out
    have hnb45 := NB4012_4017.out
    have hnc45 := NB4017_4012.out
    have hcz46_0 : w32.cell? ⟨gb4012, 0, none⟩ = some (.int .i64 t4007) := (blk_cell BK4012.out 0).trans rfl
    have hcz46_1 : w32.cell? ⟨gb4012, 1, none⟩ = some (.slice Ao23 t4008.length co23) := (blk_cell BK4012.out 1).trans rfl
    have hfz46_0 := blk_frozen BK4012.out 0
    have hfz46_1 := blk_frozen BK4012.out 1
    go_wp2_with (first | ((with_reducible refine gate_callee (f := 20) rfl ?_); refine goesL_ (some 38) rfl rfl Try.func20 (by kernel_rfl) rfl #[.agg #[.int .i64 t4018, .slice Ao37 t4019.length co37], .agg #[.int .i64 t4007, .slice Ao23 t4008.length co23]] rfl (by (try simp only [List.map_toArray, List.map_cons, List.map_nil]); first | done | rfl | (simp only [List.length_drop, List.length_take]; rfl)) ?_; (with_reducible refine (laws_eqMatroid.calls k t4018 _ _ t4019 t4007 _ _ t4008 true _ ?side1 ?side2 ?side3 ?side4 A38.out).mono ?_); (case side1 => refine (Kd.R_reads' (e := 3) (base := w.heap.size) (ok := fun k_ => (((True ∧ some k_ ≠ (.slice Ao18 t4004.length co18 : Value).ownBlock) ∧ some k_ ≠ (.slice Ao23 t4008.length co23 : Value).ownBlock) ∧ some k_ ≠ (.slice Ao30 t4014.length co30 : Value).ownBlock)) (n := t4019.length) (c := co37) ?_).2.2; exact (by (with_reducible repeat (first | apply Kd.R_alloc | apply Kd.R_drewN | apply Kd.R_drew)); exact (Kd.R_mono (Kd.R_far (p := ⟨gb4023, 1, none⟩) (Kd.R_far (p := ⟨gb4023, 0, none⟩) (Kd.R_types HO4021.out BK4023.out (by decide)) (fun _ hk => hk.2) (.int .i64 t4018)) (fun _ hk => hk.2) (.slice Ao37 t4019.length co37)) (fun _ h_ => h_.1)))); (case side2 => exact (Kd.R_reads' HO4021.out).2.1); (case side3 => refine (Kd.R_reads' (e := 3) (base := w.heap.size) (ok := fun k_ => (((True ∧ some k_ ≠ (.slice Ao18 t4004.length co18 : Value).ownBlock) ∧ some k_ ≠ (.slice Ao30 t4014.length co30 : Value).ownBlock) ∧ some k_ ≠ (.slice Ao37 t4019.length co37 : Value).ownBlock)) (n := t4008.length) (c := co23) ?_).2.2; exact (by (with_reducible repeat (first | apply Kd.R_alloc | apply Kd.R_drewN | apply Kd.R_drew)); exact (Kd.R_mono (Kd.R_far (p := ⟨gb4023, 1, none⟩) (Kd.R_far (p := ⟨gb4023, 0, none⟩) (Kd.R_types HO4010.out BK4023.out (by decide)) (fun _ hk => hk.2) (.int .i64 t4018)) (fun _ hk => hk.2) (.slice Ao37 t4019.length co37)) (fun _ h_ => h_.1)))); (case side4 => exact (Kd.R_reads' HO4010.out).2.1); rintro e w47 ⟨rfl, hb⟩; refine ⟨_, rfl, ?_⟩; replace HO4006 := aQ (Kd.R_below (by (with_reducible repeat (first | apply Kd.R_alloc | apply Kd.R_drewN | apply Kd.R_drew)); exact (Kd.R_mono (Kd.R_far (p := ⟨gb4023, 1, none⟩) (Kd.R_far (p := ⟨gb4023, 0, none⟩) (Kd.R_types HO4006.out BK4023.out (by decide)) (fun _ hk => hk.2) (.int .i64 t4018)) (fun _ hk => hk.2) (.slice Ao37 t4019.length co37)) (fun _ h_ => h_.1))) hb); replace HO4010 := aQ (Kd.R_below (by (with_reducible repeat (first | apply Kd.R_alloc | apply Kd.R_drewN | apply Kd.R_drew)); exact (Kd.R_mono (Kd.R_far (p := ⟨gb4023, 1, none⟩) (Kd.R_far (p := ⟨gb4023, 0, none⟩) (Kd.R_types HO4010.out BK4023.out (by decide)) (fun _ hk => hk.2) (.int .i64 t4018)) (fun _ hk => hk.2) (.slice Ao37 t4019.length co37)) (fun _ h_ => h_.1))) hb); replace HO4016 := aQ (Kd.R_below (by (with_reducible repeat (first | apply Kd.R_alloc | apply Kd.R_drewN | apply Kd.R_drew)); exact (Kd.R_mono (Kd.R_far (p := ⟨gb4023, 1, none⟩) (Kd.R_far (p := ⟨gb4023, 0, none⟩) (Kd.R_types HO4016.out BK4023.out (by decide)) (fun _ hk => hk.2) (.int .i64 t4018)) (fun _ hk => hk.2) (.slice Ao37 t4019.length co37)) (fun _ h_ => h_.1))) hb); replace HO4021 := aQ (Kd.R_below (by (with_reducible repeat (first | apply Kd.R_alloc | apply Kd.R_drewN | apply Kd.R_drew)); exact (Kd.R_mono (Kd.R_far (p := ⟨gb4023, 1, none⟩) (Kd.R_far (p := ⟨gb4023, 0, none⟩) (Kd.R_types HO4021.out BK4023.out (by decide)) (fun _ hk => hk.2) (.int .i64 t4018)) (fun _ hk => hk.2) (.slice Ao37 t4019.length co37)) (fun _ h_ => h_.1))) hb); replace BK4001 := aQ (blk_below (g := gb4001) (o := .cells #[.int .i64 a0_0, .slice A0_1 l0_1.length c0_1] 24 (0, 0)) (by (with_reducible repeat (first | refine blk_drewN ?_ _ | refine blk_drew ?_ | refine blk_alloc ?_ _)); refine blk_far ?_ NB4001_4023.out _; (with_reducible repeat (first | refine blk_drewN ?_ _ | refine blk_drew ?_ | refine blk_alloc ?_ _)); refine blk_far ?_ NB4001_4023.out _; (with_reducible repeat (first | refine blk_drewN ?_ _ | refine blk_drew ?_ | refine blk_alloc ?_ _)); exact BK4001.out) hb); replace BK4012 := aQ (blk_below (g := gb4012) (o := .cells #[.int .i64 t4007, .slice Ao23 t4008.length co23] 26 (0, 0)) (by (with_reducible repeat (first | refine blk_drewN ?_ _ | refine blk_drew ?_ | refine blk_alloc ?_ _)); refine blk_far ?_ NB4012_4023.out _; (with_reducible repeat (first | refine blk_drewN ?_ _ | refine blk_drew ?_ | refine blk_alloc ?_ _)); refine blk_far ?_ NB4012_4023.out _; (with_reducible repeat (first | refine blk_drewN ?_ _ | refine blk_drew ?_ | refine blk_alloc ?_ _)); exact BK4012.out) hb); replace BK4017 := aQ (blk_below (g := gb4017) (o := .cells #[.int .i64 t4013, .slice Ao30 t4014.length co30] 26 (0, 0)) (by (with_reducible repeat (first | refine blk_drewN ?_ _ | refine blk_drew ?_ | refine blk_alloc ?_ _)); refine blk_far ?_ NB4017_4023.out _; (with_reducible repeat (first | refine blk_drewN ?_ _ | refine blk_drew ?_ | refine blk_alloc ?_ _)); refine blk_far ?_ NB4017_4023.out _; (with_reducible repeat (first | refine blk_drewN ?_ _ | refine blk_drew ?_ | refine blk_alloc ?_ _)); exact BK4017.out) hb); replace BK4023 := aQ (blk_below (g := gb4023) (o := .cells #[.int .i64 t4018, .slice Ao37 t4019.length co37] 26 (0, 0)) (by (with_reducible repeat (first | refine blk_drewN ?_ _ | refine blk_drew ?_ | refine blk_alloc ?_ _)); refine blk_put (cs := #[.int .i64 t4018, .slice none 0 0]) ?_ 1 _ rfl; (with_reducible repeat (first | refine blk_drewN ?_ _ | refine blk_drew ?_ | refine blk_alloc ?_ _)); refine blk_put (cs := #[.int .i64 0, .slice none 0 0]) ?_ 0 _ rfl; (with_reducible repeat (first | refine blk_drewN ?_ _ | refine blk_drew ?_ | refine blk_alloc ?_ _)); exact BK4023.out) hb); replace HB := aQ (below_step (by repeat (first | (with_reducible first | exact HB.out | apply below_alloc | apply pw_below_drewN | apply below_drew1 | refine below_set ?_ GE4001.out | refine below_set ?_ GE4012.out | refine below_set ?_ GE4017.out | refine below_set ?_ GE4023.out) | exact HB.out)) hb); (try clear hb); (try clear hb2); (try clear hk); (try clear hi)))
    go_meet
    case rel => exact ⟨_, ((t4022 != t4011)), (by first | rfl | (simp; done) | (simp [*]; done)), H', ⟨by first | omega | exact Nat.le_refl _⟩, ⟨by (with_reducible repeat (first | apply Kd.R_alloc | apply Kd.R_drewN | apply Kd.R_drew)); exact Kd.R_mono HO4010.out (fun _ hk => ⟨hk.1.2, hk.2⟩)⟩, ⟨by (with_reducible repeat (first | apply Kd.R_alloc | apply Kd.R_drewN | apply Kd.R_drew)); exact Kd.R_mono HO4016.out (fun _ hk => ⟨hk.1.2, hk.2⟩)⟩, ⟨by (with_reducible repeat (first | apply Kd.R_alloc | apply Kd.R_drewN | apply Kd.R_drew)); exact Kd.R_mono HO4021.out (fun _ hk => ⟨hk.1.2, hk.2⟩)⟩, ⟨by (with_reducible repeat (first | refine blk_drewN ?_ _ | refine blk_drew ?_ | refine blk_alloc ?_ _)); exact BK4001.out⟩, ⟨by (with_reducible repeat (first | refine blk_drewN ?_ _ | refine blk_drew ?_ | refine blk_alloc ?_ _)); exact BK4012.out⟩, ⟨by (with_reducible repeat (first | refine blk_drewN ?_ _ | refine blk_drew ?_ | refine blk_alloc ?_ _)); exact BK4017.out⟩, ⟨by (with_reducible repeat (first | refine blk_drewN ?_ _ | refine blk_drew ?_ | refine blk_alloc ?_ _)); exact BK4023.out⟩, ⟨by repeat (first | (with_reducible first | exact HB.out | apply below_alloc | apply pw_below_drewN | apply below_drew1 | refine below_set ?_ GE4001.out | refine below_set ?_ GE4012.out | refine below_set ?_ GE4017.out | refine below_set ?_ GE4023.out) | exact HB.out)⟩⟩
   ·replace c39 := Bool.eq_false_iff.mpr c39
    subst c39
    have H1 : (laws_FnExactTruncate.j0 k a1 t4011 t4022 true a0_0 l0_1 t4007 t4008 t4013 t4014 t4018 t4019) = some true := by rw [if_neg (show ¬ (false = true) by decide)] at H; exact H
    clear H
    have H := H1
    clear H1
    have H' := aQ H
    clear H
    have hnb48 := NB4023_4001.out
    have hnc48 := NB4001_4023.out
    have hnb49 := NB4023_4012.out
    have hnc49 := NB4012_4023.out
    have hnb50 := NB4023_4017.out
    have hnc50 := NB4017_4023.out
    have hcz51_0 : w32.cell? ⟨gb4023, 0, none⟩ = some (.int .i64 0) := (blk_cell BK4023.out 0).trans rfl
    have hcz51_1 : w32.cell? ⟨gb4023, 1, none⟩ = some (.slice none 0 0) := (blk_cell BK4023.out 1).trans rfl
    have hfz51_0 := blk_frozen BK4023.out 0
    have hfz51_1 := blk_frozen BK4023.out 1
    have hnb52 := NB4012_4001.out
    have hnc52 := NB4001_4012.out
    have hnb53 := NB4012_4017.out
    have hnc53 := NB4017_4012.out
    have hcz54_0 : w32.cell? ⟨gb4012, 0, none⟩ = some (.int .i64 t4007) := (blk_cell BK4012.out 0).trans rfl
    have hcz54_1 : w32.cell? ⟨gb4012, 1, none⟩ = some (.slice Ao23 t4008.length co23) := (blk_cell BK4012.out 1).trans rfl
    have hfz54_0 := blk_frozen BK4012.out 0
    have hfz54_1 := blk_frozen BK4012.out 1
    go_wp2_with (first | ((with_reducible refine gate_callee (f := 20) rfl ?_); refine goesL_ (some 38) rfl rfl Try.func20 (by kernel_rfl) rfl #[.agg #[.int .i64 t4018, .slice Ao37 t4019.length co37], .agg #[.int .i64 t4007, .slice Ao23 t4008.length co23]] rfl (by (try simp only [List.map_toArray, List.map_cons, List.map_nil]); first | done | rfl | (simp only [List.length_drop, List.length_take]; rfl)) ?_; (with_reducible refine (laws_eqMatroid.calls k t4018 _ _ t4019 t4007 _ _ t4008 false _ ?side1 ?side2 ?side3 ?side4 A38.out).mono ?_); (case side1 => refine (Kd.R_reads' (e := 3) (base := w.heap.size) (ok := fun k_ => (((True ∧ some k_ ≠ (.slice Ao18 t4004.length co18 : Value).ownBlock) ∧ some k_ ≠ (.slice Ao23 t4008.length co23 : Value).ownBlock) ∧ some k_ ≠ (.slice Ao30 t4014.length co30 : Value).ownBlock)) (n := t4019.length) (c := co37) ?_).2.2; exact (by (with_reducible repeat (first | apply Kd.R_alloc | apply Kd.R_drewN | apply Kd.R_drew)); exact (Kd.R_mono (Kd.R_far (p := ⟨gb4023, 1, none⟩) (Kd.R_far (p := ⟨gb4023, 0, none⟩) (Kd.R_types HO4021.out BK4023.out (by decide)) (fun _ hk => hk.2) (.int .i64 t4018)) (fun _ hk => hk.2) (.slice Ao37 t4019.length co37)) (fun _ h_ => h_.1)))); (case side2 => exact (Kd.R_reads' HO4021.out).2.1); (case side3 => refine (Kd.R_reads' (e := 3) (base := w.heap.size) (ok := fun k_ => (((True ∧ some k_ ≠ (.slice Ao18 t4004.length co18 : Value).ownBlock) ∧ some k_ ≠ (.slice Ao30 t4014.length co30 : Value).ownBlock) ∧ some k_ ≠ (.slice Ao37 t4019.length co37 : Value).ownBlock)) (n := t4008.length) (c := co23) ?_).2.2; exact (by (with_reducible repeat (first | apply Kd.R_alloc | apply Kd.R_drewN | apply Kd.R_drew)); exact (Kd.R_mono (Kd.R_far (p := ⟨gb4023, 1, none⟩) (Kd.R_far (p := ⟨gb4023, 0, none⟩) (Kd.R_types HO4010.out BK4023.out (by decide)) (fun _ hk => hk.2) (.int .i64 t4018)) (fun _ hk => hk.2) (.slice Ao37 t4019.length co37)) (fun _ h_ => h_.1)))); (case side4 => exact (Kd.R_reads' HO4010.out).2.1); rintro e w55 ⟨rfl, hb⟩; refine ⟨_, rfl, ?_⟩; replace HO4006 := aQ (Kd.R_below (by (with_reducible repeat (first | apply Kd.R_alloc | apply Kd.R_drewN | apply Kd.R_drew)); exact (Kd.R_mono (Kd.R_far (p := ⟨gb4023, 1, none⟩) (Kd.R_far (p := ⟨gb4023, 0, none⟩) (Kd.R_types HO4006.out BK4023.out (by decide)) (fun _ hk => hk.2) (.int .i64 t4018)) (fun _ hk => hk.2) (.slice Ao37 t4019.length co37)) (fun _ h_ => h_.1))) hb); replace HO4010 := aQ (Kd.R_below (by (with_reducible repeat (first | apply Kd.R_alloc | apply Kd.R_drewN | apply Kd.R_drew)); exact (Kd.R_mono (Kd.R_far (p := ⟨gb4023, 1, none⟩) (Kd.R_far (p := ⟨gb4023, 0, none⟩) (Kd.R_types HO4010.out BK4023.out (by decide)) (fun _ hk => hk.2) (.int .i64 t4018)) (fun _ hk => hk.2) (.slice Ao37 t4019.length co37)) (fun _ h_ => h_.1))) hb); replace HO4016 := aQ (Kd.R_below (by (with_reducible repeat (first | apply Kd.R_alloc | apply Kd.R_drewN | apply Kd.R_drew)); exact (Kd.R_mono (Kd.R_far (p := ⟨gb4023, 1, none⟩) (Kd.R_far (p := ⟨gb4023, 0, none⟩) (Kd.R_types HO4016.out BK4023.out (by decide)) (fun _ hk => hk.2) (.int .i64 t4018)) (fun _ hk => hk.2) (.slice Ao37 t4019.length co37)) (fun _ h_ => h_.1))) hb); replace HO4021 := aQ (Kd.R_below (by (with_reducible repeat (first | apply Kd.R_alloc | apply Kd.R_drewN | apply Kd.R_drew)); exact (Kd.R_mono (Kd.R_far (p := ⟨gb4023, 1, none⟩) (Kd.R_far (p := ⟨gb4023, 0, none⟩) (Kd.R_types HO4021.out BK4023.out (by decide)) (fun _ hk => hk.2) (.int .i64 t4018)) (fun _ hk => hk.2) (.slice Ao37 t4019.length co37)) (fun _ h_ => h_.1))) hb); replace BK4001 := aQ (blk_below (g := gb4001) (o := .cells #[.int .i64 a0_0, .slice A0_1 l0_1.length c0_1] 24 (0, 0)) (by (with_reducible repeat (first | refine blk_drewN ?_ _ | refine blk_drew ?_ | refine blk_alloc ?_ _)); refine blk_far ?_ NB4001_4023.out _; (with_reducible repeat (first | refine blk_drewN ?_ _ | refine blk_drew ?_ | refine blk_alloc ?_ _)); refine blk_far ?_ NB4001_4023.out _; (with_reducible repeat (first | refine blk_drewN ?_ _ | refine blk_drew ?_ | refine blk_alloc ?_ _)); exact BK4001.out) hb); replace BK4012 := aQ (blk_below (g := gb4012) (o := .cells #[.int .i64 t4007, .slice Ao23 t4008.length co23] 26 (0, 0)) (by (with_reducible repeat (first | refine blk_drewN ?_ _ | refine blk_drew ?_ | refine blk_alloc ?_ _)); refine blk_far ?_ NB4012_4023.out _; (with_reducible repeat (first | refine blk_drewN ?_ _ | refine blk_drew ?_ | refine blk_alloc ?_ _)); refine blk_far ?_ NB4012_4023.out _; (with_reducible repeat (first | refine blk_drewN ?_ _ | refine blk_drew ?_ | refine blk_alloc ?_ _)); exact BK4012.out) hb); replace BK4017 := aQ (blk_below (g := gb4017) (o := .cells #[.int .i64 t4013, .slice Ao30 t4014.length co30] 26 (0, 0)) (by (with_reducible repeat (first | refine blk_drewN ?_ _ | refine blk_drew ?_ | refine blk_alloc ?_ _)); refine blk_far ?_ NB4017_4023.out _; (with_reducible repeat (first | refine blk_drewN ?_ _ | refine blk_drew ?_ | refine blk_alloc ?_ _)); refine blk_far ?_ NB4017_4023.out _; (with_reducible repeat (first | refine blk_drewN ?_ _ | refine blk_drew ?_ | refine blk_alloc ?_ _)); exact BK4017.out) hb); replace BK4023 := aQ (blk_below (g := gb4023) (o := .cells #[.int .i64 t4018, .slice Ao37 t4019.length co37] 26 (0, 0)) (by (with_reducible repeat (first | refine blk_drewN ?_ _ | refine blk_drew ?_ | refine blk_alloc ?_ _)); refine blk_put (cs := #[.int .i64 t4018, .slice none 0 0]) ?_ 1 _ rfl; (with_reducible repeat (first | refine blk_drewN ?_ _ | refine blk_drew ?_ | refine blk_alloc ?_ _)); refine blk_put (cs := #[.int .i64 0, .slice none 0 0]) ?_ 0 _ rfl; (with_reducible repeat (first | refine blk_drewN ?_ _ | refine blk_drew ?_ | refine blk_alloc ?_ _)); exact BK4023.out) hb); replace HB := aQ (below_step (by repeat (first | (with_reducible first | exact HB.out | apply below_alloc | apply pw_below_drewN | apply below_drew1 | refine below_set ?_ GE4001.out | refine below_set ?_ GE4012.out | refine below_set ?_ GE4017.out | refine below_set ?_ GE4023.out) | exact HB.out)) hb); (try clear hb); (try clear hb2); (try clear hk); (try clear hi)))
    go_meet
    case rel => exact ⟨_, (true), (by first | rfl | (simp; done) | (simp [*]; done)), H', ⟨by first | omega | exact Nat.le_refl _⟩, ⟨by (with_reducible repeat (first | apply Kd.R_alloc | apply Kd.R_drewN | apply Kd.R_drew)); exact Kd.R_mono HO4010.out (fun _ hk => ⟨hk.1.2, hk.2⟩)⟩, ⟨by (with_reducible repeat (first | apply Kd.R_alloc | apply Kd.R_drewN | apply Kd.R_drew)); exact Kd.R_mono HO4016.out (fun _ hk => ⟨hk.1.2, hk.2⟩)⟩, ⟨by (with_reducible repeat (first | apply Kd.R_alloc | apply Kd.R_drewN | apply Kd.R_drew)); exact Kd.R_mono HO4021.out (fun _ hk => ⟨hk.1.2, hk.2⟩)⟩, ⟨by (with_reducible repeat (first | refine blk_drewN ?_ _ | refine blk_drew ?_ | refine blk_alloc ?_ _)); exact BK4001.out⟩, ⟨by (with_reducible repeat (first | refine blk_drewN ?_ _ | refine blk_drew ?_ | refine blk_alloc ?_ _)); exact BK4012.out⟩, ⟨by (with_reducible repeat (first | refine blk_drewN ?_ _ | refine blk_drew ?_ | refine blk_alloc ?_ _)); exact BK4017.out⟩, ⟨by (with_reducible repeat (first | refine blk_drewN ?_ _ | refine blk_drew ?_ | refine blk_alloc ?_ _)); exact BK4023.out⟩, ⟨by repeat (first | (with_reducible first | exact HB.out | apply below_alloc | apply pw_below_drewN | apply below_drew1 | refine below_set ?_ GE4001.out | refine below_set ?_ GE4012.out | refine below_set ?_ GE4017.out | refine below_set ?_ GE4023.out) | exact HB.out)⟩⟩
  case rest =>
   clear HC12
   try clear c1
   try clear c2
   try clear p2
   try clear c3
   try clear c4
   try clear c4b0
   try clear c5
   try clear c16
   try clear c17
   try clear c18
   try clear c19
   try clear c20
   try clear c21
   try clear c27
   try clear c28
   try clear c33
   try clear c34
   try clear c35
   try clear c39
   try clear c40
   try clear c41
   try clear c42
   try clear c44
   try clear c45
   try clear c48
   try clear c49
   try clear c50
   try clear c52
   try clear c53
   try clear hcz14_0
   try clear hcz14_1
   try clear hcz16_0
   try clear hcz16_1
   try clear hcz22_0
   try clear hcz22_1
   try clear hcz24_0
   try clear hcz24_1
   try clear hcz29_0
   try clear hcz29_1
   try clear hcz36_0
   try clear hcz36_1
   try clear hcz43_0
   try clear hcz43_1
   try clear hcz46_0
   try clear hcz46_1
   try clear hcz51_0
   try clear hcz51_1
   try clear hcz54_0
   try clear hcz54_1
   try clear hcz6_0
   try clear hcz6_1
   try clear hfz14_0
   try clear hfz14_1
   try clear hfz16_0
   try clear hfz16_1
   try clear hfz22_0
   try clear hfz22_1
   try clear hfz24_0
   try clear hfz24_1
   try clear hfz29_0
   try clear hfz29_1
   try clear hfz36_0
   try clear hfz36_1
   try clear hfz43_0
   try clear hfz43_1
   try clear hfz46_0
   try clear hfz46_1
   try clear hfz51_0
   try clear hfz51_1
   try clear hfz54_0
   try clear hfz54_1
   try clear hfz6_0
   try clear hfz6_1
   obtain ⟨kq, x44_11, rfl, HA, HJ11, HO_4013001, HO_4018001, HO_4024001, BK4001, BK4012, BK4017, BK4023, HB⟩ := hcut
   cases kq with
   | zero => exact absurd HA.out (by simp [laws_FnExactTruncate.j0])
   | succ kj11 =>
    have H := HA.out
    clear HA
    simp only [laws_FnExactTruncate.j0] at H
    by_cases c56 : x44_11 = true
    ·subst c56
     have H1 : (some false) = some true := by rw [if_pos rfl] at H; exact H
     clear H
     have H := H1
     clear H1
     exact absurd (Option.some.inj H) (by decide)
    ·replace c56 := Bool.eq_false_iff.mpr c56
     subst c56
     have H1 : ((laws_toMatroid.f kj11 a0_0 l0_1).bind fun bt4025 => ((laws_eqMatroid.f kj11 t4013 t4014 bt4025.1 bt4025.2).bind fun t4029 => (if t4029 = true then ((laws_markMatroid.f kj11 t4013 t4014 1).bind fun bt4030 => (if bt4030.1 < 0 then (laws_FnExactTruncate.j1 kj11 a1 t4011 true a0_0 l0_1 t4007 t4008 t4018 t4019) else ((laws_eqMatroid.f kj11 t4018 t4019 t4007 t4008).bind fun t4032 => (if t4032 = true then (laws_FnExactTruncate.j1 kj11 a1 t4011 (t4022 != t4011) a0_0 l0_1 t4007 t4008 t4018 t4019) else (laws_FnExactTruncate.j1 kj11 a1 t4011 true a0_0 l0_1 t4007 t4008 t4018 t4019))))) else (some false)))) = some true := by rw [if_neg (show ¬ (false = true) by decide)] at H; exact H
     clear H
     have H := H1
     clear H1
     replace H := Option.bind_eq_some_iff.mp H
     obtain ⟨⟨t4025, t4026⟩, A570, H⟩ := H
     replace H : ((laws_eqMatroid.f kj11 t4013 t4014 t4025 t4026).bind fun t4029 => (if t4029 = true then ((laws_markMatroid.f kj11 t4013 t4014 1).bind fun bt4030 => (if bt4030.1 < 0 then (laws_FnExactTruncate.j1 kj11 a1 t4011 true a0_0 l0_1 t4007 t4008 t4018 t4019) else ((laws_eqMatroid.f kj11 t4018 t4019 t4007 t4008).bind fun t4032 => (if t4032 = true then (laws_FnExactTruncate.j1 kj11 a1 t4011 (t4022 != t4011) a0_0 l0_1 t4007 t4008 t4018 t4019) else (laws_FnExactTruncate.j1 kj11 a1 t4011 true a0_0 l0_1 t4007 t4008 t4018 t4019))))) else (some false))) = some true := H
     have A57 := aQ A570
     clear A570
     replace H := Option.bind_eq_some_iff.mp H
     obtain ⟨t4029, A580, H⟩ := H
     replace H : (if t4029 = true then ((laws_markMatroid.f kj11 t4013 t4014 1).bind fun bt4030 => (if bt4030.1 < 0 then (laws_FnExactTruncate.j1 kj11 a1 t4011 true a0_0 l0_1 t4007 t4008 t4018 t4019) else ((laws_eqMatroid.f kj11 t4018 t4019 t4007 t4008).bind fun t4032 => (if t4032 = true then (laws_FnExactTruncate.j1 kj11 a1 t4011 (t4022 != t4011) a0_0 l0_1 t4007 t4008 t4018 t4019) else (laws_FnExactTruncate.j1 kj11 a1 t4011 true a0_0 l0_1 t4007 t4008 t4018 t4019))))) else (some false)) = some true := H
     have A58 := aQ A580
     clear A580
     by_cases c59 : t4029 = true
     ·subst c59
      have H1 : ((laws_markMatroid.f kj11 t4013 t4014 1).bind fun bt4030 => (if bt4030.1 < 0 then (laws_FnExactTruncate.j1 kj11 a1 t4011 true a0_0 l0_1 t4007 t4008 t4018 t4019) else ((laws_eqMatroid.f kj11 t4018 t4019 t4007 t4008).bind fun t4032 => (if t4032 = true then (laws_FnExactTruncate.j1 kj11 a1 t4011 (t4022 != t4011) a0_0 l0_1 t4007 t4008 t4018 t4019) else (laws_FnExactTruncate.j1 kj11 a1 t4011 true a0_0 l0_1 t4007 t4008 t4018 t4019))))) = some true := by rw [if_pos rfl] at H; exact H
      clear H
      have H := H1
      clear H1
      replace H := Option.bind_eq_some_iff.mp H
      obtain ⟨⟨t4030, t4031⟩, A600, H⟩ := H
      replace H : (if t4030 < 0 then (laws_FnExactTruncate.j1 kj11 a1 t4011 true a0_0 l0_1 t4007 t4008 t4018 t4019) else ((laws_eqMatroid.f kj11 t4018 t4019 t4007 t4008).bind fun t4032 => (if t4032 = true then (laws_FnExactTruncate.j1 kj11 a1 t4011 (t4022 != t4011) a0_0 l0_1 t4007 t4008 t4018 t4019) else (laws_FnExactTruncate.j1 kj11 a1 t4011 true a0_0 l0_1 t4007 t4008 t4018 t4019)))) = some true := H
      have A60 := aQ A600
      clear A600
      have HC61 := aQ H
      clear H
      try go_wp2
      have n0_ := aQ (Kd.R_drew HO_4013001.out)
      have n1_ := aQ (Kd.R_drew HO_4018001.out)
      have n2_ := aQ (Kd.R_drew HO_4024001.out)
      have n3_ := aQ (blk_drew BK4001.out)
      have n4_ := aQ (blk_drew BK4012.out)
      have n5_ := aQ (blk_drew BK4017.out)
      have n6_ := aQ (blk_drew BK4023.out)
      have n7_ := aQ (below_drew1 HB.out)
      clear HO_4013001
      clear HO_4018001
      clear HO_4024001
      clear BK4001
      clear BK4012
      clear BK4017
      clear BK4023
      clear HB
      have HO_4013001 := n0_
      have HO_4018001 := n1_
      have HO_4024001 := n2_
      have BK4001 := n3_
      have BK4012 := n4_
      have BK4017 := n5_
      have BK4023 := n6_
      have HB := n7_
      clear n0_ n1_ n2_ n3_ n4_ n5_ n6_ n7_
      refine start_ (n := 5) (S := fun w' => w'.cell? ⟨gb4017, 0, none⟩ = some (.int .i64 t4013) ∧ w'.cell? ⟨gb4017, 1, none⟩ = some (.slice Ao30 t4014.length co30) ∧ w'.cell? ⟨gb4001, 0, none⟩ = some (.int .i64 a0_0) ∧ w'.cell? ⟨gb4001, 1, none⟩ = some (.slice A0_1 l0_1.length c0_1)) (ds := []) #[false, false, false, false, false] (by kernel_rfl) rfl rfl ⟨(blk_cell BK4017.out 0).trans rfl, (blk_cell BK4017.out 1).trans rfl, (blk_cell BK4001.out 0).trans rfl, (blk_cell BK4001.out 1).trans rfl⟩ (fun hHeld => ?_)
      generalize wc.drew = w62 at HO_4013001 HO_4018001 HO_4024001 BK4001 BK4012 BK4017 BK4023 HB hHeld ⊢
      refine take_ (i := 0) (N := some 45) (v := ?_) (a' := ?_) #[true, false, false, false, false] rfl rfl (by kernel_rfl) (fun _ _ _ h => h) (Or.inl ⟨by rfl, ?_⟩) hHeld ?_ ?_
      rotate_left
      ·rintro w' ⟨s0, s1, s2, s3⟩
       go_simp
       with_reducible rfl
      rotate_left
      ·simp only [Act.put, List.setIfInBounds_toArray, List.set_cons_zero, List.set_cons_succ, i64_w, i32_w]
       rfl
      refine take_ (i := 1) (N := some 46) (v := ?_) (a' := ?_) #[true, true, false, false, false] rfl rfl (by kernel_rfl) (fun _ _ _ h => h) (Or.inl ⟨by rfl, ?_⟩) hHeld ?_ ?_
      rotate_left
      ·rintro w' ⟨s0, s1, s2, s3⟩
       go_simp
       with_reducible rfl
      rotate_left
      ·simp only [Act.put, List.setIfInBounds_toArray, List.set_cons_zero, List.set_cons_succ, i64_w, i32_w]
       rfl
      refine one_ (i := 2) (N := some 47) #[true, true, true, false, false] rfl rfl (by kernel_rfl) (by decide) (fun K hK => ?_)
      refine goes_ Try.func18 (by kernel_rfl) rfl #[.agg #[.int .i64 a0_0, .slice A0_1 l0_1.length c0_1]] (by rfl) rfl rfl (by (try simp only [List.map_toArray, List.map_cons, List.map_nil]); first | done | rfl | (simp only [List.length_drop, List.length_take]; rfl)) ?_
      with_reducible refine (laws_toMatroid.calls kj11 a0_0 _ _ l0_1 t4025 t4026 _ ?side1 ?side2 A57.out).mono ?_
      (case side1 => repeat (first | exact (Kd.C_below HR0_1.out HB.out) | (with_reducible refine Kd.C_alloc ?_ _) | (with_reducible refine Kd.C_drewN ?_ _) | (with_reducible refine Kd.C_drew ?_)))
      (case side2 => exact HC0_1.out)
      rintro e w63 ⟨v4027, rfl, ho0, hb⟩
      refine ⟨_, rfl, ?_⟩
      have n0_ := aQ (Kd.R_elder' (by (with_reducible repeat (first | apply Kd.R_alloc | apply Kd.R_drewN | apply Kd.R_drew)); exact HO_4013001.out) (Kd.R_base ho0) hb)
      have n1_ := aQ (Kd.R_elder' (by (with_reducible repeat (first | apply Kd.R_alloc | apply Kd.R_drewN | apply Kd.R_drew)); exact HO_4018001.out) (Kd.R_base ho0) hb)
      have n2_ := aQ (Kd.R_elder' (by (with_reducible repeat (first | apply Kd.R_alloc | apply Kd.R_drewN | apply Kd.R_drew)); exact HO_4024001.out) (Kd.R_base ho0) hb)
      have n3_ := aQ (Kd.R_lower (Kd.R_new' (Kd.R_new' (Kd.R_new' ho0 (Kd.R_lt (by (with_reducible repeat (first | apply Kd.R_alloc | apply Kd.R_drewN | apply Kd.R_drew)); exact HO_4013001.out))) (Kd.R_lt (by (with_reducible repeat (first | apply Kd.R_alloc | apply Kd.R_drewN | apply Kd.R_drew)); exact HO_4018001.out))) (Kd.R_lt (by (with_reducible repeat (first | apply Kd.R_alloc | apply Kd.R_drewN | apply Kd.R_drew)); exact HO_4024001.out))) (below_size (by repeat (first | (with_reducible first | exact HB.out | apply below_alloc | apply pw_below_drewN | apply below_drew1 | refine below_set ?_ GE4001.out | refine below_set ?_ GE4012.out | refine below_set ?_ GE4017.out | refine below_set ?_ GE4023.out) | exact HB.out))))
      have n4_ := aQ (blk_below (g := gb4001) (o := .cells #[.int .i64 a0_0, .slice A0_1 l0_1.length c0_1] 24 (0, 0)) (by (with_reducible repeat (first | refine blk_drewN ?_ _ | refine blk_drew ?_ | refine blk_alloc ?_ _)); exact BK4001.out) hb)
      have n5_ := aQ (blk_below (g := gb4012) (o := .cells #[.int .i64 t4007, .slice Ao23 t4008.length co23] 26 (0, 0)) (by (with_reducible repeat (first | refine blk_drewN ?_ _ | refine blk_drew ?_ | refine blk_alloc ?_ _)); exact BK4012.out) hb)
      have n6_ := aQ (blk_below (g := gb4017) (o := .cells #[.int .i64 t4013, .slice Ao30 t4014.length co30] 26 (0, 0)) (by (with_reducible repeat (first | refine blk_drewN ?_ _ | refine blk_drew ?_ | refine blk_alloc ?_ _)); exact BK4017.out) hb)
      have n7_ := aQ (blk_below (g := gb4023) (o := .cells #[.int .i64 t4018, .slice Ao37 t4019.length co37] 26 (0, 0)) (by (with_reducible repeat (first | refine blk_drewN ?_ _ | refine blk_drew ?_ | refine blk_alloc ?_ _)); exact BK4023.out) hb)
      have n8_ := aQ (below_step (by repeat (first | (with_reducible first | exact HB.out | apply below_alloc | apply pw_below_drewN | apply below_drew1 | refine below_set ?_ GE4001.out | refine below_set ?_ GE4012.out | refine below_set ?_ GE4017.out | refine below_set ?_ GE4023.out) | exact HB.out)) hb)
      clear HO_4013001
      clear HO_4018001
      clear HO_4024001
      clear BK4001
      clear BK4012
      clear BK4017
      clear BK4023
      clear HB
      have HO_4013001 := n0_
      have HO_4018001 := n1_
      have HO_4024001 := n2_
      have HO4028 := n3_
      have BK4001 := n4_
      have BK4012 := n5_
      have BK4017 := n6_
      have BK4023 := n7_
      have HB := n8_
      clear n0_ n1_ n2_ n3_ n4_ n5_ n6_ n7_ n8_
      (try clear hb)
      (try clear hb2)
      (try clear hk)
      (try clear hi)
      (try clear ho0)
      obtain ⟨Ao64, co64, eo64⟩ := Kd.R_slice HO4028.out
      (first | subst eo64 | (injection eo64 with f1_ f2_ f3_; have f4_ := f1_.symm; have f5_ := f3_.symm; clear f1_ f2_ f3_; subst f4_; subst f5_))
      refine hK.out _ _ ⟨(blk_cell BK4017.out 0).trans rfl, (blk_cell BK4017.out 1).trans rfl, (blk_cell BK4001.out 0).trans rfl, (blk_cell BK4001.out 1).trans rfl⟩ (fun hHeld => ?_)
      clear hK K
      refine norm_ (a' := ?_) ?_ ?_
      rotate_left
      ·show Act.put _ (some 47) _ = _
       simp only [Act.put, List.setIfInBounds_toArray, List.set_cons_zero, List.set_cons_succ, i64_w, i32_w]
       rfl
      refine one_ (i := 3) (N := some 48) #[true, true, true, true, false] rfl rfl (by kernel_rfl) (by decide) (fun K hK => ?_)
      refine goes_ Try.func20 (by kernel_rfl) rfl #[.agg #[.int .i64 t4013, .slice Ao30 t4014.length co30], .agg #[.int .i64 t4025, .slice Ao64 t4026.length co64]] (by rfl) rfl rfl (by (try simp only [List.map_toArray, List.map_cons, List.map_nil]); first | done | rfl | (simp only [List.length_drop, List.length_take]; rfl)) ?_
      with_reducible refine (laws_eqMatroid.calls kj11 t4013 _ _ t4014 t4025 _ _ t4026 true _ ?side1 ?side2 ?side3 ?side4 A58.out).mono ?_
      (case side1 => repeat (first | exact (Kd.R_reads' HO_4018001.out).2.2 | (with_reducible refine Kd.C_alloc ?_ _) | (with_reducible refine Kd.C_drewN ?_ _) | (with_reducible refine Kd.C_drew ?_)))
      (case side2 => exact (Kd.R_reads' HO_4018001.out).2.1)
      (case side3 => repeat (first | exact (Kd.R_reads' HO4028.out).2.2 | (with_reducible refine Kd.C_alloc ?_ _) | (with_reducible refine Kd.C_drewN ?_ _) | (with_reducible refine Kd.C_drew ?_)))
      (case side4 => exact (Kd.R_reads' HO4028.out).2.1)
      rintro e w65 ⟨rfl, hb⟩
      refine ⟨_, rfl, ?_⟩
      have n0_ := aQ (Kd.R_below (by (with_reducible repeat (first | apply Kd.R_alloc | apply Kd.R_drewN | apply Kd.R_drew)); exact HO_4013001.out) hb)
      have n1_ := aQ (Kd.R_below (by (with_reducible repeat (first | apply Kd.R_alloc | apply Kd.R_drewN | apply Kd.R_drew)); exact HO_4018001.out) hb)
      have n2_ := aQ (Kd.R_below (by (with_reducible repeat (first | apply Kd.R_alloc | apply Kd.R_drewN | apply Kd.R_drew)); exact HO_4024001.out) hb)
      have n3_ := aQ (Kd.R_below (by (with_reducible repeat (first | apply Kd.R_alloc | apply Kd.R_drewN | apply Kd.R_drew)); exact HO4028.out) hb)
      have n4_ := aQ (blk_below (g := gb4001) (o := .cells #[.int .i64 a0_0, .slice A0_1 l0_1.length c0_1] 24 (0, 0)) (by (with_reducible repeat (first | refine blk_drewN ?_ _ | refine blk_drew ?_ | refine blk_alloc ?_ _)); exact BK4001.out) hb)
      have n5_ := aQ (blk_below (g := gb4012) (o := .cells #[.int .i64 t4007, .slice Ao23 t4008.length co23] 26 (0, 0)) (by (with_reducible repeat (first | refine blk_drewN ?_ _ | refine blk_drew ?_ | refine blk_alloc ?_ _)); exact BK4012.out) hb)
      have n6_ := aQ (blk_below (g := gb4017) (o := .cells #[.int .i64 t4013, .slice Ao30 t4014.length co30] 26 (0, 0)) (by (with_reducible repeat (first | refine blk_drewN ?_ _ | refine blk_drew ?_ | refine blk_alloc ?_ _)); exact BK4017.out) hb)
      have n7_ := aQ (blk_below (g := gb4023) (o := .cells #[.int .i64 t4018, .slice Ao37 t4019.length co37] 26 (0, 0)) (by (with_reducible repeat (first | refine blk_drewN ?_ _ | refine blk_drew ?_ | refine blk_alloc ?_ _)); exact BK4023.out) hb)
      have n8_ := aQ (below_step (by repeat (first | (with_reducible first | exact HB.out | apply below_alloc | apply pw_below_drewN | apply below_drew1 | refine below_set ?_ GE4001.out | refine below_set ?_ GE4012.out | refine below_set ?_ GE4017.out | refine below_set ?_ GE4023.out) | exact HB.out)) hb)
      clear HO_4013001
      clear HO_4018001
      clear HO_4024001
      clear HO4028
      clear BK4001
      clear BK4012
      clear BK4017
      clear BK4023
      clear HB
      have HO_4013001 := n0_
      have HO_4018001 := n1_
      have HO_4024001 := n2_
      have HO4028 := n3_
      have BK4001 := n4_
      have BK4012 := n5_
      have BK4017 := n6_
      have BK4023 := n7_
      have HB := n8_
      clear n0_ n1_ n2_ n3_ n4_ n5_ n6_ n7_ n8_
      (try clear hb)
      (try clear hb2)
      (try clear hk)
      (try clear hi)
      refine hK.out _ _ ⟨(blk_cell BK4017.out 0).trans rfl, (blk_cell BK4017.out 1).trans rfl, (blk_cell BK4001.out 0).trans rfl, (blk_cell BK4001.out 1).trans rfl⟩ (fun hHeld => ?_)
      clear hK K
      refine norm_ (a' := ?_) ?_ ?_
      rotate_left
      ·show Act.put _ (some 48) _ = _
       simp only [Act.put, List.setIfInBounds_toArray, List.set_cons_zero, List.set_cons_succ, i64_w, i32_w]
       rfl
      refine pure_ (i := 4) (N := some 49) (v := ?_) (a' := ?_) #[true, true, true, true, true] rfl rfl (by kernel_rfl) (fun _ _ _ h => h) (Or.inl ⟨by rfl, ?_⟩) ?_ ?_
      rotate_left
      ·intro w'
       go_simp
       with_reducible rfl
      rotate_left
      ·simp only [Act.put, List.setIfInBounds_toArray, List.set_cons_zero, List.set_cons_succ, i64_w, i32_w]
       rfl
      refine done_ (by kernel_rfl) ?_
      have hnb66 := NB4017_4001.out
      have hnc66 := NB4001_4017.out
      have hnb67 := NB4017_4012.out
      have hnc67 := NB4012_4017.out
      have hnb68 := NB4017_4023.out
      have hnc68 := NB4023_4017.out
      have hcz69_0 : w65.cell? ⟨gb4017, 0, none⟩ = some (.int .i64 t4013) := (blk_cell BK4017.out 0).trans rfl
      have hcz69_1 : w65.cell? ⟨gb4017, 1, none⟩ = some (.slice Ao30 t4014.length co30) := (blk_cell BK4017.out 1).trans rfl
      have hfz69_0 := blk_frozen BK4017.out 0
      have hfz69_1 := blk_frozen BK4017.out 1
      go_upto_region 14 with (first | ((with_reducible refine gate_callee (f := 21) rfl ?_); refine goesL_ (some 52) rfl rfl Try.func21 (by kernel_rfl) rfl #[.agg #[.int .i64 t4013, .slice Ao30 t4014.length co30], .int .i64 1] rfl (by (try simp only [List.map_toArray, List.map_cons, List.map_nil]); first | done | rfl | (simp only [List.length_drop, List.length_take]; rfl)) ?_; (with_reducible refine (laws_markMatroid.calls kj11 t4013 (fun k_ => some k_ = (.slice Ao30 t4014.length co30 : Value).ownBlock) (.slice Ao30 t4014.length co30) t4014 1 t4030 t4031 w _ ?side1 ?side2 A60.out).mono ?_); (case side1 => repeat (first | (with_reducible first | exact HB.out | apply below_alloc | apply pw_below_drewN | apply below_drew1 | refine below_set ?_ GE4001.out | refine below_set ?_ GE4012.out | refine below_set ?_ GE4017.out | refine below_set ?_ GE4023.out) | exact HB.out)); (case side2 => exact Kd.R_tight rfl HO_4018001.out); rintro e w70 ⟨rfl, hy0, hb, hkp⟩; refine ⟨_, rfl, ?_⟩; replace HO_4013001 := aQ (Kd.R_mono (ok' := fun k_ => some k_ ≠ (.slice Ao30 t4014.length co30 : Value).ownBlock ∧ some k_ ≠ (.slice Ao37 t4019.length co37 : Value).ownBlock ∧ some k_ ≠ (.slice Ao64 t4026.length co64 : Value).ownBlock) (Kd.R_keptB (HO_4013001.out) hkp (fun k_ hk_ hs_ => (hk_.1.1) hs_)) (fun k_ hk_ => ⟨hk_.1.1.1, hk_.1.1.2, hk_.1.2⟩)); replace HO_4024001 := aQ (Kd.R_mono (ok' := fun k_ => some k_ ≠ (.slice Ao23 t4008.length co23 : Value).ownBlock ∧ some k_ ≠ (.slice Ao30 t4014.length co30 : Value).ownBlock ∧ some k_ ≠ (.slice Ao64 t4026.length co64 : Value).ownBlock) (Kd.R_keptB (HO_4024001.out) hkp (fun k_ hk_ hs_ => (hk_.1.2) hs_)) (fun k_ hk_ => ⟨hk_.1.1.1, hk_.1.1.2, hk_.1.2⟩)); replace BK4001 := aQ (blk_kept (by (with_reducible repeat (first | refine blk_drewN ?_ _ | refine blk_drew ?_ | refine blk_alloc ?_ _)); exact BK4001.out) hkp (fun hs_ => (fun e_ => (Kd.R_ne HO_4018001.out BK4001.out (by decide)) e_) hs_)); replace BK4012 := aQ (blk_kept (by (with_reducible repeat (first | refine blk_drewN ?_ _ | refine blk_drew ?_ | refine blk_alloc ?_ _)); exact BK4012.out) hkp (fun hs_ => (fun e_ => (Kd.R_ne HO_4018001.out BK4012.out (by decide)) e_) hs_)); replace BK4017 := aQ (blk_kept (by (with_reducible repeat (first | refine blk_drewN ?_ _ | refine blk_drew ?_ | refine blk_alloc ?_ _)); exact BK4017.out) hkp (fun hs_ => (fun e_ => (Kd.R_ne HO_4018001.out BK4017.out (by decide)) e_) hs_)); replace BK4023 := aQ (blk_kept (by (with_reducible repeat (first | refine blk_drewN ?_ _ | refine blk_drew ?_ | refine blk_alloc ?_ _)); exact BK4023.out) hkp (fun hs_ => (fun e_ => (Kd.R_ne HO_4018001.out BK4023.out (by decide)) e_) hs_)); replace HO_4018001 := aQ (Kd.R_reok rfl hy0 (fun k_ e_ => HO_4018001.out.1 k_ e_)); replace HO4028 := aQ (Kd.R_mono (ok' := fun k_ => some k_ ≠ (.slice Ao23 t4008.length co23 : Value).ownBlock ∧ some k_ ≠ (.slice Ao30 t4014.length co30 : Value).ownBlock ∧ some k_ ≠ (.slice Ao37 t4019.length co37 : Value).ownBlock) (Kd.R_keptB (HO4028.out) hkp (fun k_ hk_ hs_ => (hk_.1.2) hs_)) (fun k_ hk_ => ⟨hk_.1.1.1.2, hk_.1.1.2, hk_.1.2⟩)); replace HB := aQ (hb); (try clear hb); (try clear hkp); (try clear hy0)))
      (try simp only [Act.put, List.setIfInBounds_toArray, List.set_cons_zero, List.set_cons_succ])
      go_cut [65] (fun v65 wc => ∃ (kq : Nat) (x65_60 : Bool), v65 = .bool x65_60 ∧ Aside0 (laws_FnExactTruncate.j1 kq a1 t4011 x65_60 a0_0 l0_1 t4007 t4008 t4018 t4019 = some true) ∧ Aside0 (kq ≤ kj11) ∧ Aside0 (Kd.R (Kd.int .i64) 3 wc w.heap.size (fun k_ => some k_ ≠ ((.slice Ao30 t4014.length co30) : Value).ownBlock ∧ some k_ ≠ ((.slice Ao37 t4019.length co37) : Value).ownBlock) (.slice Ao23 t4008.length co23) t4008) ∧ Aside0 (Kd.R (Kd.int .i64) 3 wc w.heap.size (fun k_ => some k_ ≠ ((.slice Ao23 t4008.length co23) : Value).ownBlock ∧ some k_ ≠ ((.slice Ao37 t4019.length co37) : Value).ownBlock) (.slice Ao30 t4014.length co30) t4031) ∧ Aside0 (Kd.R (Kd.int .i64) 3 wc w.heap.size (fun k_ => some k_ ≠ ((.slice Ao23 t4008.length co23) : Value).ownBlock ∧ some k_ ≠ ((.slice Ao30 t4014.length co30) : Value).ownBlock) (.slice Ao37 t4019.length co37) t4019) ∧ Aside0 (wc.heap[gb4001]? = some (.cells #[.int .i64 a0_0, (.slice A0_1 l0_1.length c0_1)] 24 (0, 0))) ∧ Aside0 (wc.heap[gb4012]? = some (.cells #[.int .i64 t4007, (.slice Ao23 t4008.length co23)] 26 (0, 0))) ∧ Aside0 (wc.heap[gb4017]? = some (.cells #[.int .i64 t4013, (.slice Ao30 t4014.length co30)] 26 (0, 0))) ∧ Aside0 (wc.heap[gb4023]? = some (.cells #[.int .i64 t4018, (.slice Ao37 t4019.length co37)] 26 (0, 0))) ∧ Aside0 (Below w.heap.size w wc))
      case first =>
       have H := HC61.out
       clear HC61
       by_cases c71 : t4030 < 0
       ·rw [if_pos c71] at H
        have c71b0 : decide (t4030 < 0) = true := decide_eq_true c71
        clear c71
        (first | rw [c71b0] | (simp only [i64_w, i32_w]; rw [c71b0]) | skip)
        have H' := aQ H
        clear H
        go_wp2
        go_meet
        case rel => exact ⟨_, (true), (by first | rfl | (simp; done) | (simp [*]; done)), H', ⟨by have := HJ11.out; first | omega | exact Nat.le_refl _⟩, ⟨by (with_reducible repeat (first | apply Kd.R_alloc | apply Kd.R_drewN | apply Kd.R_drew)); exact Kd.R_mono HO_4013001.out (fun _ hk => ⟨hk.1, hk.2.1⟩)⟩, ⟨by (with_reducible repeat (first | apply Kd.R_alloc | apply Kd.R_drewN | apply Kd.R_drew)); exact Kd.R_mono HO_4018001.out (fun _ hk => ⟨hk.1.1, hk.1.2⟩)⟩, ⟨by (with_reducible repeat (first | apply Kd.R_alloc | apply Kd.R_drewN | apply Kd.R_drew)); exact Kd.R_mono HO_4024001.out (fun _ hk => ⟨hk.1, hk.2.1⟩)⟩, ⟨by (with_reducible repeat (first | refine blk_drewN ?_ _ | refine blk_drew ?_ | refine blk_alloc ?_ _)); exact BK4001.out⟩, ⟨by (with_reducible repeat (first | refine blk_drewN ?_ _ | refine blk_drew ?_ | refine blk_alloc ?_ _)); exact BK4012.out⟩, ⟨by (with_reducible repeat (first | refine blk_drewN ?_ _ | refine blk_drew ?_ | refine blk_alloc ?_ _)); exact BK4017.out⟩, ⟨by (with_reducible repeat (first | refine blk_drewN ?_ _ | refine blk_drew ?_ | refine blk_alloc ?_ _)); exact BK4023.out⟩, ⟨by repeat (first | (with_reducible first | exact HB.out | apply below_alloc | apply pw_below_drewN | apply below_drew1 | refine below_set ?_ GE4001.out | refine below_set ?_ GE4012.out | refine below_set ?_ GE4017.out | refine below_set ?_ GE4023.out) | exact HB.out)⟩⟩
       ·rw [if_neg c71] at H
        have c71b0 : decide (t4030 < 0) = false := decide_eq_false c71
        clear c71
        (first | rw [c71b0] | (simp only [i64_w, i32_w]; rw [c71b0]) | skip)
        replace H := Option.bind_eq_some_iff.mp H
        obtain ⟨t4032, A720, H⟩ := H
        replace H : (if t4032 = true then (laws_FnExactTruncate.j1 kj11 a1 t4011 (t4022 != t4011) a0_0 l0_1 t4007 t4008 t4018 t4019) else (laws_FnExactTruncate.j1 kj11 a1 t4011 true a0_0 l0_1 t4007 t4008 t4018 t4019)) = some true := H
        have A72 := aQ A720
        clear A720
        by_cases c73 : t4032 = true
        ·subst c73
         have H1 : (laws_FnExactTruncate.j1 kj11 a1 t4011 (t4022 != t4011) a0_0 l0_1 t4007 t4008 t4018 t4019) = some true := by rw [if_pos rfl] at H; exact H
         clear H
         have H := H1
         clear H1
         have H' := aQ H
         clear H
         have hnb74 := NB4023_4001.out
         have hnc74 := NB4001_4023.out
         have hnb75 := NB4023_4012.out
         have hnc75 := NB4012_4023.out
         have hnb76 := NB4023_4017.out
         have hnc76 := NB4017_4023.out
         have hcz77_0 : w70.cell? ⟨gb4023, 0, none⟩ = some (.int .i64 t4018) := (blk_cell BK4023.out 0).trans rfl
         have hcz77_1 : w70.cell? ⟨gb4023, 1, none⟩ = some (.slice Ao37 t4019.length co37) := (blk_cell BK4023.out 1).trans rfl
         have hfz77_0 := blk_frozen BK4023.out 0
         have hfz77_1 := blk_frozen BK4023.out 1
         have hnb78 := NB4012_4001.out
         have hnc78 := NB4001_4012.out
         have hnb79 := NB4012_4017.out
         have hnc79 := NB4017_4012.out
         have hcz80_0 : w70.cell? ⟨gb4012, 0, none⟩ = some (.int .i64 t4007) := (blk_cell BK4012.out 0).trans rfl
         have hcz80_1 : w70.cell? ⟨gb4012, 1, none⟩ = some (.slice Ao23 t4008.length co23) := (blk_cell BK4012.out 1).trans rfl
         have hfz80_0 := blk_frozen BK4012.out 0
         have hfz80_1 := blk_frozen BK4012.out 1
         go_wp2_with (first | (go_at_call 20; (with_reducible refine (laws_eqMatroid.calls kj11 t4018 _ _ t4019 t4007 _ _ t4008 true _ ?side1 ?side2 ?side3 ?side4 A72.out).mono ?_); (case side1 => repeat (first | exact (Kd.R_reads' HO_4024001.out).2.2 | (with_reducible refine Kd.C_alloc ?_ _) | (with_reducible refine Kd.C_drewN ?_ _) | (with_reducible refine Kd.C_drew ?_))); (case side2 => exact (Kd.R_reads' HO_4024001.out).2.1); (case side3 => repeat (first | exact (Kd.R_reads' HO_4013001.out).2.2 | (with_reducible refine Kd.C_alloc ?_ _) | (with_reducible refine Kd.C_drewN ?_ _) | (with_reducible refine Kd.C_drew ?_))); (case side4 => exact (Kd.R_reads' HO_4013001.out).2.1); rintro e w81 ⟨rfl, hb⟩; replace HO_4013001 := aQ (Kd.R_below (by (with_reducible repeat (first | apply Kd.R_alloc | apply Kd.R_drewN | apply Kd.R_drew)); exact HO_4013001.out) hb); replace HO_4018001 := aQ (Kd.R_below (by (with_reducible repeat (first | apply Kd.R_alloc | apply Kd.R_drewN | apply Kd.R_drew)); exact HO_4018001.out) hb); replace HO_4024001 := aQ (Kd.R_below (by (with_reducible repeat (first | apply Kd.R_alloc | apply Kd.R_drewN | apply Kd.R_drew)); exact HO_4024001.out) hb); replace HO4028 := aQ (Kd.R_below (by (with_reducible repeat (first | apply Kd.R_alloc | apply Kd.R_drewN | apply Kd.R_drew)); exact HO4028.out) hb); replace BK4001 := aQ (blk_below (g := gb4001) (o := .cells #[.int .i64 a0_0, .slice A0_1 l0_1.length c0_1] 24 (0, 0)) (by (with_reducible repeat (first | refine blk_drewN ?_ _ | refine blk_drew ?_ | refine blk_alloc ?_ _)); exact BK4001.out) hb); replace BK4012 := aQ (blk_below (g := gb4012) (o := .cells #[.int .i64 t4007, .slice Ao23 t4008.length co23] 26 (0, 0)) (by (with_reducible repeat (first | refine blk_drewN ?_ _ | refine blk_drew ?_ | refine blk_alloc ?_ _)); exact BK4012.out) hb); replace BK4017 := aQ (blk_below (g := gb4017) (o := .cells #[.int .i64 t4013, .slice Ao30 t4014.length co30] 26 (0, 0)) (by (with_reducible repeat (first | refine blk_drewN ?_ _ | refine blk_drew ?_ | refine blk_alloc ?_ _)); exact BK4017.out) hb); replace BK4023 := aQ (blk_below (g := gb4023) (o := .cells #[.int .i64 t4018, .slice Ao37 t4019.length co37] 26 (0, 0)) (by (with_reducible repeat (first | refine blk_drewN ?_ _ | refine blk_drew ?_ | refine blk_alloc ?_ _)); exact BK4023.out) hb); replace HB := aQ (below_step (by repeat (first | (with_reducible first | exact HB.out | apply below_alloc | apply pw_below_drewN | apply below_drew1 | refine below_set ?_ GE4001.out | refine below_set ?_ GE4012.out | refine below_set ?_ GE4017.out | refine below_set ?_ GE4023.out) | exact HB.out)) hb); (try clear hb); (try clear hb2); (try clear hk); (try clear hi)))
         go_meet
         case rel => exact ⟨_, ((t4022 != t4011)), (by first | rfl | (simp; done) | (simp [*]; done)), H', ⟨by have := HJ11.out; first | omega | exact Nat.le_refl _⟩, ⟨by (with_reducible repeat (first | apply Kd.R_alloc | apply Kd.R_drewN | apply Kd.R_drew)); exact Kd.R_mono HO_4013001.out (fun _ hk => ⟨hk.1, hk.2.1⟩)⟩, ⟨by (with_reducible repeat (first | apply Kd.R_alloc | apply Kd.R_drewN | apply Kd.R_drew)); exact Kd.R_mono HO_4018001.out (fun _ hk => ⟨hk.1.1, hk.1.2⟩)⟩, ⟨by (with_reducible repeat (first | apply Kd.R_alloc | apply Kd.R_drewN | apply Kd.R_drew)); exact Kd.R_mono HO_4024001.out (fun _ hk => ⟨hk.1, hk.2.1⟩)⟩, ⟨by (with_reducible repeat (first | refine blk_drewN ?_ _ | refine blk_drew ?_ | refine blk_alloc ?_ _)); exact BK4001.out⟩, ⟨by (with_reducible repeat (first | refine blk_drewN ?_ _ | refine blk_drew ?_ | refine blk_alloc ?_ _)); exact BK4012.out⟩, ⟨by (with_reducible repeat (first | refine blk_drewN ?_ _ | refine blk_drew ?_ | refine blk_alloc ?_ _)); exact BK4017.out⟩, ⟨by (with_reducible repeat (first | refine blk_drewN ?_ _ | refine blk_drew ?_ | refine blk_alloc ?_ _)); exact BK4023.out⟩, ⟨by repeat (first | (with_reducible first | exact HB.out | apply below_alloc | apply pw_below_drewN | apply below_drew1 | refine below_set ?_ GE4001.out | refine below_set ?_ GE4012.out | refine below_set ?_ GE4017.out | refine below_set ?_ GE4023.out) | exact HB.out)⟩⟩
        ·replace c73 := Bool.eq_false_iff.mpr c73
         subst c73
         have H1 : (laws_FnExactTruncate.j1 kj11 a1 t4011 true a0_0 l0_1 t4007 t4008 t4018 t4019) = some true := by rw [if_neg (show ¬ (false = true) by decide)] at H; exact H
         clear H
         have H := H1
         clear H1
         have H' := aQ H
         clear H
         have hnb82 := NB4023_4001.out
         have hnc82 := NB4001_4023.out
         have hnb83 := NB4023_4012.out
         have hnc83 := NB4012_4023.out
         have hnb84 := NB4023_4017.out
         have hnc84 := NB4017_4023.out
         have hcz85_0 : w70.cell? ⟨gb4023, 0, none⟩ = some (.int .i64 t4018) := (blk_cell BK4023.out 0).trans rfl
         have hcz85_1 : w70.cell? ⟨gb4023, 1, none⟩ = some (.slice Ao37 t4019.length co37) := (blk_cell BK4023.out 1).trans rfl
         have hfz85_0 := blk_frozen BK4023.out 0
         have hfz85_1 := blk_frozen BK4023.out 1
         have hnb86 := NB4012_4001.out
         have hnc86 := NB4001_4012.out
         have hnb87 := NB4012_4017.out
         have hnc87 := NB4017_4012.out
         have hcz88_0 : w70.cell? ⟨gb4012, 0, none⟩ = some (.int .i64 t4007) := (blk_cell BK4012.out 0).trans rfl
         have hcz88_1 : w70.cell? ⟨gb4012, 1, none⟩ = some (.slice Ao23 t4008.length co23) := (blk_cell BK4012.out 1).trans rfl
         have hfz88_0 := blk_frozen BK4012.out 0
         have hfz88_1 := blk_frozen BK4012.out 1
         go_wp2_with (first | (go_at_call 20; (with_reducible refine (laws_eqMatroid.calls kj11 t4018 _ _ t4019 t4007 _ _ t4008 false _ ?side1 ?side2 ?side3 ?side4 A72.out).mono ?_); (case side1 => repeat (first | exact (Kd.R_reads' HO_4024001.out).2.2 | (with_reducible refine Kd.C_alloc ?_ _) | (with_reducible refine Kd.C_drewN ?_ _) | (with_reducible refine Kd.C_drew ?_))); (case side2 => exact (Kd.R_reads' HO_4024001.out).2.1); (case side3 => repeat (first | exact (Kd.R_reads' HO_4013001.out).2.2 | (with_reducible refine Kd.C_alloc ?_ _) | (with_reducible refine Kd.C_drewN ?_ _) | (with_reducible refine Kd.C_drew ?_))); (case side4 => exact (Kd.R_reads' HO_4013001.out).2.1); rintro e w89 ⟨rfl, hb⟩; replace HO_4013001 := aQ (Kd.R_below (by (with_reducible repeat (first | apply Kd.R_alloc | apply Kd.R_drewN | apply Kd.R_drew)); exact HO_4013001.out) hb); replace HO_4018001 := aQ (Kd.R_below (by (with_reducible repeat (first | apply Kd.R_alloc | apply Kd.R_drewN | apply Kd.R_drew)); exact HO_4018001.out) hb); replace HO_4024001 := aQ (Kd.R_below (by (with_reducible repeat (first | apply Kd.R_alloc | apply Kd.R_drewN | apply Kd.R_drew)); exact HO_4024001.out) hb); replace HO4028 := aQ (Kd.R_below (by (with_reducible repeat (first | apply Kd.R_alloc | apply Kd.R_drewN | apply Kd.R_drew)); exact HO4028.out) hb); replace BK4001 := aQ (blk_below (g := gb4001) (o := .cells #[.int .i64 a0_0, .slice A0_1 l0_1.length c0_1] 24 (0, 0)) (by (with_reducible repeat (first | refine blk_drewN ?_ _ | refine blk_drew ?_ | refine blk_alloc ?_ _)); exact BK4001.out) hb); replace BK4012 := aQ (blk_below (g := gb4012) (o := .cells #[.int .i64 t4007, .slice Ao23 t4008.length co23] 26 (0, 0)) (by (with_reducible repeat (first | refine blk_drewN ?_ _ | refine blk_drew ?_ | refine blk_alloc ?_ _)); exact BK4012.out) hb); replace BK4017 := aQ (blk_below (g := gb4017) (o := .cells #[.int .i64 t4013, .slice Ao30 t4014.length co30] 26 (0, 0)) (by (with_reducible repeat (first | refine blk_drewN ?_ _ | refine blk_drew ?_ | refine blk_alloc ?_ _)); exact BK4017.out) hb); replace BK4023 := aQ (blk_below (g := gb4023) (o := .cells #[.int .i64 t4018, .slice Ao37 t4019.length co37] 26 (0, 0)) (by (with_reducible repeat (first | refine blk_drewN ?_ _ | refine blk_drew ?_ | refine blk_alloc ?_ _)); exact BK4023.out) hb); replace HB := aQ (below_step (by repeat (first | (with_reducible first | exact HB.out | apply below_alloc | apply pw_below_drewN | apply below_drew1 | refine below_set ?_ GE4001.out | refine below_set ?_ GE4012.out | refine below_set ?_ GE4017.out | refine below_set ?_ GE4023.out) | exact HB.out)) hb); (try clear hb); (try clear hb2); (try clear hk); (try clear hi)))
         go_meet
         case rel => exact ⟨_, (true), (by first | rfl | (simp; done) | (simp [*]; done)), H', ⟨by have := HJ11.out; first | omega | exact Nat.le_refl _⟩, ⟨by (with_reducible repeat (first | apply Kd.R_alloc | apply Kd.R_drewN | apply Kd.R_drew)); exact Kd.R_mono HO_4013001.out (fun _ hk => ⟨hk.1, hk.2.1⟩)⟩, ⟨by (with_reducible repeat (first | apply Kd.R_alloc | apply Kd.R_drewN | apply Kd.R_drew)); exact Kd.R_mono HO_4018001.out (fun _ hk => ⟨hk.1.1, hk.1.2⟩)⟩, ⟨by (with_reducible repeat (first | apply Kd.R_alloc | apply Kd.R_drewN | apply Kd.R_drew)); exact Kd.R_mono HO_4024001.out (fun _ hk => ⟨hk.1, hk.2.1⟩)⟩, ⟨by (with_reducible repeat (first | refine blk_drewN ?_ _ | refine blk_drew ?_ | refine blk_alloc ?_ _)); exact BK4001.out⟩, ⟨by (with_reducible repeat (first | refine blk_drewN ?_ _ | refine blk_drew ?_ | refine blk_alloc ?_ _)); exact BK4012.out⟩, ⟨by (with_reducible repeat (first | refine blk_drewN ?_ _ | refine blk_drew ?_ | refine blk_alloc ?_ _)); exact BK4017.out⟩, ⟨by (with_reducible repeat (first | refine blk_drewN ?_ _ | refine blk_drew ?_ | refine blk_alloc ?_ _)); exact BK4023.out⟩, ⟨by repeat (first | (with_reducible first | exact HB.out | apply below_alloc | apply pw_below_drewN | apply below_drew1 | refine below_set ?_ GE4001.out | refine below_set ?_ GE4012.out | refine below_set ?_ GE4017.out | refine below_set ?_ GE4023.out) | exact HB.out)⟩⟩
      case rest =>
       clear HC61
       try clear c1
       try clear c2
       try clear p2
       try clear c3
       try clear c4
       try clear c4b0
       try clear c5
       try clear c6
       try clear c7
       try clear c8
       try clear c16
       try clear c17
       try clear c18
       try clear c19
       try clear c20
       try clear c21
       try clear c27
       try clear c28
       try clear c33
       try clear c34
       try clear c35
       try clear c39
       try clear c40
       try clear c41
       try clear c42
       try clear c44
       try clear c45
       try clear c48
       try clear c49
       try clear c50
       try clear c52
       try clear c53
       try clear c56
       try clear c59
       try clear c66
       try clear c67
       try clear c68
       try clear c71
       try clear c71b0
       try clear c73
       try clear c74
       try clear c75
       try clear c76
       try clear c78
       try clear c79
       try clear c82
       try clear c83
       try clear c84
       try clear c86
       try clear c87
       try clear hcz14_0
       try clear hcz14_1
       try clear hcz16_0
       try clear hcz16_1
       try clear hcz22_0
       try clear hcz22_1
       try clear hcz24_0
       try clear hcz24_1
       try clear hcz29_0
       try clear hcz29_1
       try clear hcz36_0
       try clear hcz36_1
       try clear hcz43_0
       try clear hcz43_1
       try clear hcz46_0
       try clear hcz46_1
       try clear hcz51_0
       try clear hcz51_1
       try clear hcz54_0
       try clear hcz54_1
       try clear hcz69_0
       try clear hcz69_1
       try clear hcz6_0
       try clear hcz6_1
       try clear hcz77_0
       try clear hcz77_1
       try clear hcz80_0
       try clear hcz80_1
       try clear hcz85_0
       try clear hcz85_1
       try clear hcz88_0
       try clear hcz88_1
       try clear hfz14_0
       try clear hfz14_1
       try clear hfz16_0
       try clear hfz16_1
       try clear hfz22_0
       try clear hfz22_1
       try clear hfz24_0
       try clear hfz24_1
       try clear hfz29_0
       try clear hfz29_1
       try clear hfz36_0
       try clear hfz36_1
       try clear hfz43_0
       try clear hfz43_1
       try clear hfz46_0
       try clear hfz46_1
       try clear hfz51_0
       try clear hfz51_1
       try clear hfz54_0
       try clear hfz54_1
       try clear hfz69_0
       try clear hfz69_1
       try clear hfz6_0
       try clear hfz6_1
       try clear hfz77_0
       try clear hfz77_1
       try clear hfz80_0
       try clear hfz80_1
       try clear hfz85_0
       try clear hfz85_1
       try clear hfz88_0
       try clear hfz88_1
       try clear p2
       obtain ⟨kq, x65_60, rfl, HA, HJ60, HO_4013001, HO_4018001, HO_4024001, BK4001, BK4012, BK4017, BK4023, HB⟩ := hcut
       have hl4018001_60 := (Kd.R_reads' HO_4018001.out).1
       rw [hl4018001_60] at HO_4018001
       (try simp only [hl4018001_60])
       (try simp only [hl4018001_60] at BK4001)
       (try simp only [hl4018001_60] at BK4012)
       (try simp only [hl4018001_60] at BK4017)
       (try simp only [hl4018001_60] at BK4023)
       (try simp only [hl4018001_60] at HO_4013001)
       (try simp only [hl4018001_60] at HO_4024001)
       cases kq with
       | zero => exact absurd HA.out (by simp [laws_FnExactTruncate.j1])
       | succ kj60 =>
        have H := HA.out
        clear HA
        simp only [laws_FnExactTruncate.j1] at H
        by_cases c90 : x65_60 = true
        ·subst c90
         have H1 : (some false) = some true := by rw [if_pos rfl] at H; exact H
         clear H
         have H := H1
         clear H1
         exact absurd (Option.some.inj H) (by decide)
        ·replace c90 := Bool.eq_false_iff.mpr c90
         subst c90
         have H1 : ((laws_markMatroid.f kj60 t4018 t4019 1).bind fun bt4033 => ((laws_heldMatroid.f kj60 t4018 bt4033.2 1).bind fun t4035 => (if t4035 < 0 then (some false) else (if t4035 = bt4033.1 then ((laws_toMatroid.f kj60 a0_0 l0_1).bind fun bt4036 => ((impl_Truncate.f kj60 bt4036.1 bt4036.2 a1).bind fun bt4040 => ((laws_eqMatroid.f kj60 bt4040.1 bt4040.2.1 t4007 t4008).bind fun t4046 => (if t4046 = true then (laws_FnExactTruncate.j2 kj60 bt4033.1 (bt4040.2.2 != t4011) t4018 bt4033.2) else (laws_FnExactTruncate.j2 kj60 bt4033.1 true t4018 bt4033.2))))) else (some false))))) = some true := by rw [if_neg (show ¬ (false = true) by decide)] at H; exact H
         clear H
         have H := H1
         clear H1
         replace H := Option.bind_eq_some_iff.mp H
         obtain ⟨⟨t4033, t4034⟩, A910, H⟩ := H
         replace H : ((laws_heldMatroid.f kj60 t4018 t4034 1).bind fun t4035 => (if t4035 < 0 then (some false) else (if t4035 = t4033 then ((laws_toMatroid.f kj60 a0_0 l0_1).bind fun bt4036 => ((impl_Truncate.f kj60 bt4036.1 bt4036.2 a1).bind fun bt4040 => ((laws_eqMatroid.f kj60 bt4040.1 bt4040.2.1 t4007 t4008).bind fun t4046 => (if t4046 = true then (laws_FnExactTruncate.j2 kj60 t4033 (bt4040.2.2 != t4011) t4018 t4034) else (laws_FnExactTruncate.j2 kj60 t4033 true t4018 t4034))))) else (some false)))) = some true := H
         have A91 := aQ A910
         clear A910
         replace H := Option.bind_eq_some_iff.mp H
         obtain ⟨t4035, A920, H⟩ := H
         replace H : (if t4035 < 0 then (some false) else (if t4035 = t4033 then ((laws_toMatroid.f kj60 a0_0 l0_1).bind fun bt4036 => ((impl_Truncate.f kj60 bt4036.1 bt4036.2 a1).bind fun bt4040 => ((laws_eqMatroid.f kj60 bt4040.1 bt4040.2.1 t4007 t4008).bind fun t4046 => (if t4046 = true then (laws_FnExactTruncate.j2 kj60 t4033 (bt4040.2.2 != t4011) t4018 t4034) else (laws_FnExactTruncate.j2 kj60 t4033 true t4018 t4034))))) else (some false))) = some true := H
         have A92 := aQ A920
         clear A920
         by_cases c93 : t4035 < 0
         ·rw [if_pos c93] at H
          have c93b0 : decide (t4035 < 0) = true := decide_eq_true c93
          clear c93
          exact absurd (Option.some.inj H) (by decide)
         ·rw [if_neg c93] at H
          have c93b0 : decide (t4035 < 0) = false := decide_eq_false c93
          clear c93
          by_cases c101 : t4035 = t4033
          ·rw [if_pos c101] at H
           have c101b0 : (t4035 == t4033) = true := beq_iff_eq.mpr c101
           have c101b1 : (t4035 != t4033) = false := bne_eq_false_iff_eq.mpr c101
           clear c101
           replace H := Option.bind_eq_some_iff.mp H
           obtain ⟨⟨t4036, t4037⟩, A1020, H⟩ := H
           replace H : ((impl_Truncate.f kj60 t4036 t4037 a1).bind fun bt4040 => ((laws_eqMatroid.f kj60 bt4040.1 bt4040.2.1 t4007 t4008).bind fun t4046 => (if t4046 = true then (laws_FnExactTruncate.j2 kj60 t4033 (bt4040.2.2 != t4011) t4018 t4034) else (laws_FnExactTruncate.j2 kj60 t4033 true t4018 t4034)))) = some true := H
           have A102 := aQ A1020
           clear A1020
           replace H := Option.bind_eq_some_iff.mp H
           obtain ⟨⟨t4040, t4041, t4044⟩, A1030, H⟩ := H
           replace H : ((laws_eqMatroid.f kj60 t4040 t4041 t4007 t4008).bind fun t4046 => (if t4046 = true then (laws_FnExactTruncate.j2 kj60 t4033 (t4044 != t4011) t4018 t4034) else (laws_FnExactTruncate.j2 kj60 t4033 true t4018 t4034))) = some true := H
           have A103 := aQ A1030
           clear A1030
           have HC104 := aQ H
           clear H
           have hnb105 := NB4023_4001.out
           have hnc105 := NB4001_4023.out
           have hnb106 := NB4023_4012.out
           have hnc106 := NB4012_4023.out
           have hnb107 := NB4023_4017.out
           have hnc107 := NB4017_4023.out
           have hcz108_0 : wc.cell? ⟨gb4023, 0, none⟩ = some (.int .i64 t4018) := (blk_cell BK4023.out 0).trans rfl
           have hcz108_1 : wc.cell? ⟨gb4023, 1, none⟩ = some (.slice Ao37 t4019.length co37) := (blk_cell BK4023.out 1).trans rfl
           have hfz108_0 := blk_frozen BK4023.out 0
           have hfz108_1 := blk_frozen BK4023.out 1
           go_upto_region 25 with (first | ((with_reducible refine gate_callee (f := 21) rfl ?_); refine goesL_ (some 68) rfl rfl Try.func21 (by kernel_rfl) rfl #[.agg #[.int .i64 t4018, .slice Ao37 t4019.length co37], .int .i64 1] rfl (by (try simp only [List.map_toArray, List.map_cons, List.map_nil]); first | done | rfl | (simp only [List.length_drop, List.length_take]; rfl)) ?_; (with_reducible refine (laws_markMatroid.calls kj60 t4018 (fun k_ => some k_ = (.slice Ao37 t4019.length co37 : Value).ownBlock) (.slice Ao37 t4019.length co37) t4019 1 t4033 t4034 w _ ?side1 ?side2 A91.out).mono ?_); (case side1 => repeat (first | (with_reducible first | exact HB.out | apply below_alloc | apply pw_below_drewN | apply below_drew1 | refine below_set ?_ GE4001.out | refine below_set ?_ GE4012.out | refine below_set ?_ GE4017.out | refine below_set ?_ GE4023.out) | exact HB.out)); (case side2 => exact Kd.R_tight rfl HO_4024001.out); rintro e w109 ⟨rfl, hy0, hb, hkp⟩; refine ⟨_, rfl, ?_⟩; replace HO_4013001 := aQ (Kd.R_mono (ok' := fun k_ => some k_ ≠ (.slice Ao30 t4031.length co30 : Value).ownBlock ∧ some k_ ≠ (.slice Ao37 t4019.length co37 : Value).ownBlock) (Kd.R_keptB (HO_4013001.out) hkp (fun k_ hk_ hs_ => (hk_.2) hs_)) (fun k_ hk_ => ⟨hk_.1.1, hk_.1.2⟩)); replace HO_4018001 := aQ (Kd.R_mono (ok' := fun k_ => some k_ ≠ (.slice Ao23 t4008.length co23 : Value).ownBlock ∧ some k_ ≠ (.slice Ao37 t4019.length co37 : Value).ownBlock) (Kd.R_keptB (HO_4018001.out) hkp (fun k_ hk_ hs_ => (hk_.2) hs_)) (fun k_ hk_ => ⟨hk_.1.1, hk_.1.2⟩)); replace BK4001 := aQ (blk_kept (by (with_reducible repeat (first | refine blk_drewN ?_ _ | refine blk_drew ?_ | refine blk_alloc ?_ _)); exact BK4001.out) hkp (fun hs_ => (fun e_ => (Kd.R_ne HO_4024001.out BK4001.out (by decide)) e_) hs_)); replace BK4012 := aQ (blk_kept (by (with_reducible repeat (first | refine blk_drewN ?_ _ | refine blk_drew ?_ | refine blk_alloc ?_ _)); exact BK4012.out) hkp (fun hs_ => (fun e_ => (Kd.R_ne HO_4024001.out BK4012.out (by decide)) e_) hs_)); replace BK4017 := aQ (blk_kept (by (with_reducible repeat (first | refine blk_drewN ?_ _ | refine blk_drew ?_ | refine blk_alloc ?_ _)); exact BK4017.out) hkp (fun hs_ => (fun e_ => (Kd.R_ne HO_4024001.out BK4017.out (by decide)) e_) hs_)); replace BK4023 := aQ (blk_kept (by (with_reducible repeat (first | refine blk_drewN ?_ _ | refine blk_drew ?_ | refine blk_alloc ?_ _)); exact BK4023.out) hkp (fun hs_ => (fun e_ => (Kd.R_ne HO_4024001.out BK4023.out (by decide)) e_) hs_)); replace HO_4024001 := aQ (Kd.R_reok rfl hy0 (fun k_ e_ => HO_4024001.out.1 k_ e_)); replace HB := aQ (hb); (try clear hb); (try clear hkp); (try clear hy0); have hcz110_0 : w109.cell? ⟨gb4023, 0, none⟩ = some (.int .i64 t4018) := (blk_cell BK4023.out 0).trans rfl; have hcz110_1 : w109.cell? ⟨gb4023, 1, none⟩ = some (.slice Ao37 t4019.length co37) := (blk_cell BK4023.out 1).trans rfl; have hfz110_0 := blk_frozen BK4023.out 0; have hfz110_1 := blk_frozen BK4023.out 1) | ((with_reducible refine gate_callee (f := 22) rfl ?_); refine goesL_ (some 71) rfl rfl Try.func22 (by kernel_rfl) rfl #[.agg #[.int .i64 t4018, .slice Ao37 t4034.length co37], .int .i64 1] rfl (by (try simp only [List.map_toArray, List.map_cons, List.map_nil]); first | done | (rw [show t4034.length = t4019.length from (Kd.R_reads' HO_4024001.out).1.symm] <;> rfl) | rfl | (simp only [List.length_drop, List.length_take]; rfl)) ?_; (with_reducible refine (laws_heldMatroid.calls kj60 t4018 _ _ t4034 1 t4035 _ ?side1 ?side2 A92.out).mono ?_); (case side1 => repeat (first | exact (Kd.R_reads' HO_4024001.out).2.2 | (with_reducible refine Kd.C_alloc ?_ _) | (with_reducible refine Kd.C_drewN ?_ _) | (with_reducible refine Kd.C_drew ?_))); (case side2 => rw [show t4034.length = t4019.length from (Kd.R_reads' HO_4024001.out).1.symm]; exact (Kd.R_reads' HO_4024001.out).2.1); rintro e w111 ⟨rfl, hb⟩; refine ⟨_, rfl, ?_⟩; replace HO_4013001 := aQ (Kd.R_below (by (with_reducible repeat (first | apply Kd.R_alloc | apply Kd.R_drewN | apply Kd.R_drew)); exact HO_4013001.out) hb); replace HO_4018001 := aQ (Kd.R_below (by (with_reducible repeat (first | apply Kd.R_alloc | apply Kd.R_drewN | apply Kd.R_drew)); exact HO_4018001.out) hb); replace HO_4024001 := aQ (Kd.R_below (by (with_reducible repeat (first | apply Kd.R_alloc | apply Kd.R_drewN | apply Kd.R_drew)); exact HO_4024001.out) hb); replace BK4001 := aQ (blk_below (g := gb4001) (o := .cells #[.int .i64 a0_0, .slice A0_1 l0_1.length c0_1] 24 (0, 0)) (by (with_reducible repeat (first | refine blk_drewN ?_ _ | refine blk_drew ?_ | refine blk_alloc ?_ _)); exact BK4001.out) hb); replace BK4012 := aQ (blk_below (g := gb4012) (o := .cells #[.int .i64 t4007, .slice Ao23 t4008.length co23] 26 (0, 0)) (by (with_reducible repeat (first | refine blk_drewN ?_ _ | refine blk_drew ?_ | refine blk_alloc ?_ _)); exact BK4012.out) hb); replace BK4017 := aQ (blk_below (g := gb4017) (o := .cells #[.int .i64 t4013, .slice Ao30 t4031.length co30] 26 (0, 0)) (by (with_reducible repeat (first | refine blk_drewN ?_ _ | refine blk_drew ?_ | refine blk_alloc ?_ _)); exact BK4017.out) hb); replace BK4023 := aQ (blk_below (g := gb4023) (o := .cells #[.int .i64 t4018, .slice Ao37 t4019.length co37] 26 (0, 0)) (by (with_reducible repeat (first | refine blk_drewN ?_ _ | refine blk_drew ?_ | refine blk_alloc ?_ _)); exact BK4023.out) hb); replace HB := aQ (below_step (by repeat (first | (with_reducible first | exact HB.out | apply below_alloc | apply pw_below_drewN | apply below_drew1 | refine below_set ?_ GE4001.out | refine below_set ?_ GE4012.out | refine below_set ?_ GE4017.out | refine below_set ?_ GE4023.out) | exact HB.out)) hb); (try clear hb); (try clear hb2); (try clear hk); (try clear hi); have hnb112 := NB4001_4012.out; have hnc112 := NB4012_4001.out; have hnb113 := NB4001_4017.out; have hnc113 := NB4017_4001.out; have hcz114_0 : w111.cell? ⟨gb4001, 0, none⟩ = some (.int .i64 a0_0) := (blk_cell BK4001.out 0).trans rfl; have hcz114_1 : w111.cell? ⟨gb4001, 1, none⟩ = some (.slice A0_1 l0_1.length c0_1) := (blk_cell BK4001.out 1).trans rfl; have hfz114_0 := blk_frozen BK4001.out 0; have hfz114_1 := blk_frozen BK4001.out 1) | ((with_reducible refine gate_callee (f := 18) rfl ?_); refine goesL_ (some 79) rfl rfl Try.func18 (by kernel_rfl) rfl #[.agg #[.int .i64 a0_0, .slice A0_1 l0_1.length c0_1]] rfl (by (try simp only [List.map_toArray, List.map_cons, List.map_nil]); first | done | rfl | (simp only [List.length_drop, List.length_take]; rfl)) ?_; (with_reducible refine (laws_toMatroid.calls kj60 a0_0 _ _ l0_1 t4036 t4037 _ ?side1 ?side2 A102.out).mono ?_); (case side1 => repeat (first | exact (Kd.C_below HR0_1.out HB.out) | (with_reducible refine Kd.C_alloc ?_ _) | (with_reducible refine Kd.C_drewN ?_ _) | (with_reducible refine Kd.C_drew ?_))); (case side2 => exact HC0_1.out); rintro e w115 ⟨v4038, rfl, ho0, hb⟩; refine ⟨_, rfl, ?_⟩; have HO4039 := aQ (Kd.R_lower (Kd.R_new' (Kd.R_new' (Kd.R_new' ho0 (Kd.R_lt (by (with_reducible repeat (first | apply Kd.R_alloc | apply Kd.R_drewN | apply Kd.R_drew)); exact HO_4013001.out))) (Kd.R_lt (by (with_reducible repeat (first | apply Kd.R_alloc | apply Kd.R_drewN | apply Kd.R_drew)); exact HO_4018001.out))) (Kd.R_lt (by (with_reducible repeat (first | apply Kd.R_alloc | apply Kd.R_drewN | apply Kd.R_drew)); exact HO_4024001.out))) (below_size (by repeat (first | (with_reducible first | exact HB.out | apply below_alloc | apply pw_below_drewN | apply below_drew1 | refine below_set ?_ GE4001.out | refine below_set ?_ GE4012.out | refine below_set ?_ GE4017.out | refine below_set ?_ GE4023.out) | exact HB.out)))); replace HO_4013001 := aQ (Kd.R_elder' (by (with_reducible repeat (first | apply Kd.R_alloc | apply Kd.R_drewN | apply Kd.R_drew)); exact HO_4013001.out) (Kd.R_base ho0) hb); replace HO_4018001 := aQ (Kd.R_elder' (by (with_reducible repeat (first | apply Kd.R_alloc | apply Kd.R_drewN | apply Kd.R_drew)); exact HO_4018001.out) (Kd.R_base ho0) hb); replace HO_4024001 := aQ (Kd.R_elder' (by (with_reducible repeat (first | apply Kd.R_alloc | apply Kd.R_drewN | apply Kd.R_drew)); exact HO_4024001.out) (Kd.R_base ho0) hb); replace BK4001 := aQ (blk_below (g := gb4001) (o := .cells #[.int .i64 a0_0, .slice A0_1 l0_1.length c0_1] 24 (0, 0)) (by (with_reducible repeat (first | refine blk_drewN ?_ _ | refine blk_drew ?_ | refine blk_alloc ?_ _)); exact BK4001.out) hb); replace BK4012 := aQ (blk_below (g := gb4012) (o := .cells #[.int .i64 t4007, .slice Ao23 t4008.length co23] 26 (0, 0)) (by (with_reducible repeat (first | refine blk_drewN ?_ _ | refine blk_drew ?_ | refine blk_alloc ?_ _)); exact BK4012.out) hb); replace BK4017 := aQ (blk_below (g := gb4017) (o := .cells #[.int .i64 t4013, .slice Ao30 t4031.length co30] 26 (0, 0)) (by (with_reducible repeat (first | refine blk_drewN ?_ _ | refine blk_drew ?_ | refine blk_alloc ?_ _)); exact BK4017.out) hb); replace BK4023 := aQ (blk_below (g := gb4023) (o := .cells #[.int .i64 t4018, .slice Ao37 t4019.length co37] 26 (0, 0)) (by (with_reducible repeat (first | refine blk_drewN ?_ _ | refine blk_drew ?_ | refine blk_alloc ?_ _)); exact BK4023.out) hb); replace HB := aQ (below_step (by repeat (first | (with_reducible first | exact HB.out | apply below_alloc | apply pw_below_drewN | apply below_drew1 | refine below_set ?_ GE4001.out | refine below_set ?_ GE4012.out | refine below_set ?_ GE4017.out | refine below_set ?_ GE4023.out) | exact HB.out)) hb); (try clear hb); (try clear hb2); (try clear hk); (try clear hi); (try clear ho0); obtain ⟨Ao116, co116, eo116⟩ := Kd.R_slice HO4039.out; subst eo116) | ((with_reducible refine gate_callee (f := 19) rfl ?_); refine goesL_ (some 81) rfl rfl Try.func19 (by kernel_rfl) rfl #[.agg #[.int .i64 t4036, .slice Ao116 t4037.length co116], .int .i64 a1] rfl (by (try simp only [List.map_toArray, List.map_cons, List.map_nil]); first | done | rfl | (simp only [List.length_drop, List.length_take]; rfl)) ?_; (with_reducible refine (impl_Truncate.calls kj60 t4036 _ _ t4037 a1 t4040 t4041 t4044 _ ?side1 ?side2 A103.out).mono ?_); (case side1 => repeat (first | exact (Kd.R_reads' HO4039.out).2.2 | (with_reducible refine Kd.C_alloc ?_ _) | (with_reducible refine Kd.C_drewN ?_ _) | (with_reducible refine Kd.C_drew ?_))); (case side2 => exact (Kd.R_reads' HO4039.out).2.1); rintro e w117 ⟨v4042, rfl, ho0, hb⟩; refine ⟨_, rfl, ?_⟩; have HO4043 := aQ (Kd.R_lower (Kd.R_new' (Kd.R_new' (Kd.R_new' (Kd.R_new' ho0 (Kd.R_lt (by (with_reducible repeat (first | apply Kd.R_alloc | apply Kd.R_drewN | apply Kd.R_drew)); exact HO_4013001.out))) (Kd.R_lt (by (with_reducible repeat (first | apply Kd.R_alloc | apply Kd.R_drewN | apply Kd.R_drew)); exact HO_4018001.out))) (Kd.R_lt (by (with_reducible repeat (first | apply Kd.R_alloc | apply Kd.R_drewN | apply Kd.R_drew)); exact HO_4024001.out))) (Kd.R_lt (by (with_reducible repeat (first | apply Kd.R_alloc | apply Kd.R_drewN | apply Kd.R_drew)); exact HO4039.out))) (below_size (by repeat (first | (with_reducible first | exact HB.out | apply below_alloc | apply pw_below_drewN | apply below_drew1 | refine below_set ?_ GE4001.out | refine below_set ?_ GE4012.out | refine below_set ?_ GE4017.out | refine below_set ?_ GE4023.out) | exact HB.out)))); replace HO_4013001 := aQ (Kd.R_elder' (by (with_reducible repeat (first | apply Kd.R_alloc | apply Kd.R_drewN | apply Kd.R_drew)); exact HO_4013001.out) (Kd.R_base ho0) hb); replace HO_4018001 := aQ (Kd.R_elder' (by (with_reducible repeat (first | apply Kd.R_alloc | apply Kd.R_drewN | apply Kd.R_drew)); exact HO_4018001.out) (Kd.R_base ho0) hb); replace HO_4024001 := aQ (Kd.R_elder' (by (with_reducible repeat (first | apply Kd.R_alloc | apply Kd.R_drewN | apply Kd.R_drew)); exact HO_4024001.out) (Kd.R_base ho0) hb); replace HO4039 := aQ (Kd.R_elder' (by (with_reducible repeat (first | apply Kd.R_alloc | apply Kd.R_drewN | apply Kd.R_drew)); exact HO4039.out) (Kd.R_base ho0) hb); replace BK4001 := aQ (blk_below (g := gb4001) (o := .cells #[.int .i64 a0_0, .slice A0_1 l0_1.length c0_1] 24 (0, 0)) (by (with_reducible repeat (first | refine blk_drewN ?_ _ | refine blk_drew ?_ | refine blk_alloc ?_ _)); exact BK4001.out) hb); replace BK4012 := aQ (blk_below (g := gb4012) (o := .cells #[.int .i64 t4007, .slice Ao23 t4008.length co23] 26 (0, 0)) (by (with_reducible repeat (first | refine blk_drewN ?_ _ | refine blk_drew ?_ | refine blk_alloc ?_ _)); exact BK4012.out) hb); replace BK4017 := aQ (blk_below (g := gb4017) (o := .cells #[.int .i64 t4013, .slice Ao30 t4031.length co30] 26 (0, 0)) (by (with_reducible repeat (first | refine blk_drewN ?_ _ | refine blk_drew ?_ | refine blk_alloc ?_ _)); exact BK4017.out) hb); replace BK4023 := aQ (blk_below (g := gb4023) (o := .cells #[.int .i64 t4018, .slice Ao37 t4019.length co37] 26 (0, 0)) (by (with_reducible repeat (first | refine blk_drewN ?_ _ | refine blk_drew ?_ | refine blk_alloc ?_ _)); exact BK4023.out) hb); replace HB := aQ (below_step (by repeat (first | (with_reducible first | exact HB.out | apply below_alloc | apply pw_below_drewN | apply below_drew1 | refine below_set ?_ GE4001.out | refine below_set ?_ GE4012.out | refine below_set ?_ GE4017.out | refine below_set ?_ GE4023.out) | exact HB.out)) hb); (try clear hb); (try clear hb2); (try clear hk); (try clear hi); (try clear ho0)) | ((with_reducible refine gate_dst (N := 14) rfl ?_); refine box_event ?hg (N := 14) ?hd (cs := #[.int .i64 0, .slice none 0 0]) (t := 26) ?hr ?_; (case hd => rfl); (case hg => rfl); (case hr => first | (go_simp; done) | (go_simp; rfl)); intro gb4045 hg w118 hbox hb; replace HO_4013001 := aQ (Kd.R_below (by (with_reducible repeat (first | apply Kd.R_alloc | apply Kd.R_drewN | apply Kd.R_drew)); exact HO_4013001.out) hb); replace HO_4018001 := aQ (Kd.R_below (by (with_reducible repeat (first | apply Kd.R_alloc | apply Kd.R_drewN | apply Kd.R_drew)); exact HO_4018001.out) hb); replace HO_4024001 := aQ (Kd.R_below (by (with_reducible repeat (first | apply Kd.R_alloc | apply Kd.R_drewN | apply Kd.R_drew)); exact HO_4024001.out) hb); replace HO4039 := aQ (Kd.R_below (by (with_reducible repeat (first | apply Kd.R_alloc | apply Kd.R_drewN | apply Kd.R_drew)); exact HO4039.out) hb); replace HO4043 := aQ (Kd.R_below (by (with_reducible repeat (first | apply Kd.R_alloc | apply Kd.R_drewN | apply Kd.R_drew)); exact HO4043.out) hb); have BK4045 := aQ (hbox); have GW4045 := aQ ((by rw [hg]; exact (below_size (by repeat (first | (with_reducible first | exact HB.out | apply below_alloc | apply pw_below_drewN | apply below_drew1 | refine below_set ?_ GE4001.out | refine below_set ?_ GE4012.out | refine below_set ?_ GE4017.out | refine below_set ?_ GE4023.out) | exact HB.out))) : w.heap.size ≤ gb4045)); have GE4045 := aQ ((by rw [hg]; exact (below_size (by repeat (first | (with_reducible first | exact HB.out | apply below_alloc | apply pw_below_drewN | apply below_drew1 | refine below_set ?_ GE4001.out | refine below_set ?_ GE4012.out | refine below_set ?_ GE4017.out | refine below_set ?_ GE4023.out) | exact HB.out))) : w.heap.size ≤ gb4045)); replace HB := aQ (below_step (by repeat (first | (with_reducible first | exact HB.out | apply below_alloc | apply pw_below_drewN | apply below_drew1 | refine below_set ?_ GE4001.out | refine below_set ?_ GE4012.out | refine below_set ?_ GE4017.out | refine below_set ?_ GE4023.out) | exact HB.out)) hb); have NB4001_4045 := aQ ((by rw [hg]; exact Nat.ne_of_lt (blk_lt (g := gb4001) (o := .cells #[.int .i64 a0_0, .slice A0_1 l0_1.length c0_1] 24 (0, 0)) (by (with_reducible repeat (first | refine blk_drewN ?_ _ | refine blk_drew ?_ | refine blk_alloc ?_ _)); exact BK4001.out)) : gb4001 ≠ gb4045)); have NB4045_4001 := aQ ((by rw [hg]; exact Nat.ne_of_gt (blk_lt (g := gb4001) (o := .cells #[.int .i64 a0_0, .slice A0_1 l0_1.length c0_1] 24 (0, 0)) (by (with_reducible repeat (first | refine blk_drewN ?_ _ | refine blk_drew ?_ | refine blk_alloc ?_ _)); exact BK4001.out)) : gb4045 ≠ gb4001)); replace BK4001 := aQ (blk_below (g := gb4001) (o := .cells #[.int .i64 a0_0, .slice A0_1 l0_1.length c0_1] 24 (0, 0)) (by (with_reducible repeat (first | refine blk_drewN ?_ _ | refine blk_drew ?_ | refine blk_alloc ?_ _)); exact BK4001.out) hb); have NB4012_4045 := aQ ((by rw [hg]; exact Nat.ne_of_lt (blk_lt (g := gb4012) (o := .cells #[.int .i64 t4007, .slice Ao23 t4008.length co23] 26 (0, 0)) (by (with_reducible repeat (first | refine blk_drewN ?_ _ | refine blk_drew ?_ | refine blk_alloc ?_ _)); exact BK4012.out)) : gb4012 ≠ gb4045)); have NB4045_4012 := aQ ((by rw [hg]; exact Nat.ne_of_gt (blk_lt (g := gb4012) (o := .cells #[.int .i64 t4007, .slice Ao23 t4008.length co23] 26 (0, 0)) (by (with_reducible repeat (first | refine blk_drewN ?_ _ | refine blk_drew ?_ | refine blk_alloc ?_ _)); exact BK4012.out)) : gb4045 ≠ gb4012)); replace BK4012 := aQ (blk_below (g := gb4012) (o := .cells #[.int .i64 t4007, .slice Ao23 t4008.length co23] 26 (0, 0)) (by (with_reducible repeat (first | refine blk_drewN ?_ _ | refine blk_drew ?_ | refine blk_alloc ?_ _)); exact BK4012.out) hb); have NB4017_4045 := aQ ((by rw [hg]; exact Nat.ne_of_lt (blk_lt (g := gb4017) (o := .cells #[.int .i64 t4013, .slice Ao30 t4031.length co30] 26 (0, 0)) (by (with_reducible repeat (first | refine blk_drewN ?_ _ | refine blk_drew ?_ | refine blk_alloc ?_ _)); exact BK4017.out)) : gb4017 ≠ gb4045)); have NB4045_4017 := aQ ((by rw [hg]; exact Nat.ne_of_gt (blk_lt (g := gb4017) (o := .cells #[.int .i64 t4013, .slice Ao30 t4031.length co30] 26 (0, 0)) (by (with_reducible repeat (first | refine blk_drewN ?_ _ | refine blk_drew ?_ | refine blk_alloc ?_ _)); exact BK4017.out)) : gb4045 ≠ gb4017)); replace BK4017 := aQ (blk_below (g := gb4017) (o := .cells #[.int .i64 t4013, .slice Ao30 t4031.length co30] 26 (0, 0)) (by (with_reducible repeat (first | refine blk_drewN ?_ _ | refine blk_drew ?_ | refine blk_alloc ?_ _)); exact BK4017.out) hb); have NB4023_4045 := aQ ((by rw [hg]; exact Nat.ne_of_lt (blk_lt (g := gb4023) (o := .cells #[.int .i64 t4018, .slice Ao37 t4019.length co37] 26 (0, 0)) (by (with_reducible repeat (first | refine blk_drewN ?_ _ | refine blk_drew ?_ | refine blk_alloc ?_ _)); exact BK4023.out)) : gb4023 ≠ gb4045)); have NB4045_4023 := aQ ((by rw [hg]; exact Nat.ne_of_gt (blk_lt (g := gb4023) (o := .cells #[.int .i64 t4018, .slice Ao37 t4019.length co37] 26 (0, 0)) (by (with_reducible repeat (first | refine blk_drewN ?_ _ | refine blk_drew ?_ | refine blk_alloc ?_ _)); exact BK4023.out)) : gb4045 ≠ gb4023)); replace BK4023 := aQ (blk_below (g := gb4023) (o := .cells #[.int .i64 t4018, .slice Ao37 t4019.length co37] 26 (0, 0)) (by (with_reducible repeat (first | refine blk_drewN ?_ _ | refine blk_drew ?_ | refine blk_alloc ?_ _)); exact BK4023.out) hb); clear hb hbox hg; have hnb119 := NB4045_4001.out; have hnc119 := NB4001_4045.out; have hnb120 := NB4045_4012.out; have hnc120 := NB4012_4045.out; have hnb121 := NB4045_4017.out; have hnc121 := NB4017_4045.out; have hnb122 := NB4045_4023.out; have hnc122 := NB4023_4045.out; have hcz123_0 : w118.cell? ⟨gb4045, 0, none⟩ = some (.int .i64 0) := (blk_cell BK4045.out 0).trans rfl; have hcz123_1 : w118.cell? ⟨gb4045, 1, none⟩ = some (.slice none 0 0) := (blk_cell BK4045.out 1).trans rfl; have hfz123_0 := blk_frozen BK4045.out 0; have hfz123_1 := blk_frozen BK4045.out 1; obtain ⟨Ao124, co124, eo124⟩ := Kd.R_slice HO4043.out; subst eo124))
           (try simp only [Act.put, List.setIfInBounds_toArray, List.set_cons_zero, List.set_cons_succ])
           go_cut [92] (fun v92 wc => ∃ (kq : Nat) (x92_103 : Bool), v92 = .bool x92_103 ∧ Aside0 (laws_FnExactTruncate.j2 kq t4033 x92_103 t4018 t4034 = some true) ∧ Aside0 (kq ≤ kj60) ∧ Aside0 (Kd.R (Kd.int .i64) 3 wc w.heap.size (fun k_ => some k_ ≠ ((.slice Ao30 t4031.length co30) : Value).ownBlock ∧ some k_ ≠ ((.slice Ao37 t4019.length co37) : Value).ownBlock ∧ some k_ ≠ ((.slice Ao124 t4041.length co124) : Value).ownBlock) (.slice Ao23 t4008.length co23) t4008) ∧ Aside0 (Kd.R (Kd.int .i64) 3 wc w.heap.size (fun k_ => some k_ ≠ ((.slice Ao23 t4008.length co23) : Value).ownBlock ∧ some k_ ≠ ((.slice Ao37 t4019.length co37) : Value).ownBlock ∧ some k_ ≠ ((.slice Ao124 t4041.length co124) : Value).ownBlock) (.slice Ao30 t4031.length co30) t4031) ∧ Aside0 (Kd.R (Kd.int .i64) 3 wc w.heap.size (fun k_ => some k_ ≠ ((.slice Ao23 t4008.length co23) : Value).ownBlock ∧ some k_ ≠ ((.slice Ao30 t4031.length co30) : Value).ownBlock ∧ some k_ ≠ ((.slice Ao124 t4041.length co124) : Value).ownBlock) (.slice Ao37 t4019.length co37) t4034) ∧ Aside0 (Kd.R (Kd.int .i64) 3 wc w.heap.size (fun k_ => some k_ ≠ ((.slice Ao23 t4008.length co23) : Value).ownBlock ∧ some k_ ≠ ((.slice Ao30 t4031.length co30) : Value).ownBlock ∧ some k_ ≠ ((.slice Ao37 t4019.length co37) : Value).ownBlock) (.slice Ao124 t4041.length co124) t4041) ∧ Aside0 (wc.heap[gb4001]? = some (.cells #[.int .i64 a0_0, (.slice A0_1 l0_1.length c0_1)] 24 (0, 0))) ∧ Aside0 (wc.heap[gb4012]? = some (.cells #[.int .i64 t4007, (.slice Ao23 t4008.length co23)] 26 (0, 0))) ∧ Aside0 (wc.heap[gb4017]? = some (.cells #[.int .i64 t4013, (.slice Ao30 t4031.length co30)] 26 (0, 0))) ∧ Aside0 (wc.heap[gb4023]? = some (.cells #[.int .i64 t4018, (.slice Ao37 t4019.length co37)] 26 (0, 0))) ∧ Aside0 (wc.heap[gb4045]? = some (.cells #[.int .i64 t4040, (.slice Ao124 t4041.length co124)] 26 (0, 0))) ∧ Aside0 (Below w.heap.size w wc))
           case first =>
            have H := HC104.out
            clear HC104
            replace H := Option.bind_eq_some_iff.mp H
            obtain ⟨t4046, A1250, H⟩ := H
            replace H : (if t4046 = true then (laws_FnExactTruncate.j2 kj60 t4033 (t4044 != t4011) t4018 t4034) else (laws_FnExactTruncate.j2 kj60 t4033 true t4018 t4034)) = some true := H
            have A125 := aQ A1250
            clear A1250
            by_cases c126 : t4046 = true
            ·subst c126
             have H1 : (laws_FnExactTruncate.j2 kj60 t4033 (t4044 != t4011) t4018 t4034) = some true := by rw [if_pos rfl] at H; exact H
             clear H
             have H := H1
             clear H1
             have H' := aQ H
             clear H
             have hnb127 := NB4045_4001.out
             have hnc127 := NB4001_4045.out
             have hnb128 := NB4045_4012.out
             have hnc128 := NB4012_4045.out
             have hnb129 := NB4045_4017.out
             have hnc129 := NB4017_4045.out
             have hnb130 := NB4045_4023.out
             have hnc130 := NB4023_4045.out
             have hcz131_0 : w118.cell? ⟨gb4045, 0, none⟩ = some (.int .i64 0) := (blk_cell BK4045.out 0).trans rfl
             have hcz131_1 : w118.cell? ⟨gb4045, 1, none⟩ = some (.slice none 0 0) := (blk_cell BK4045.out 1).trans rfl
             have hfz131_0 := blk_frozen BK4045.out 0
             have hfz131_1 := blk_frozen BK4045.out 1
             have hnb132 := NB4012_4001.out
             have hnc132 := NB4001_4012.out
             have hnb133 := NB4012_4017.out
             have hnc133 := NB4017_4012.out
             have hnb134 := NB4012_4023.out
             have hnc134 := NB4023_4012.out
             have hcz135_0 : w118.cell? ⟨gb4012, 0, none⟩ = some (.int .i64 t4007) := (blk_cell BK4012.out 0).trans rfl
             have hcz135_1 : w118.cell? ⟨gb4012, 1, none⟩ = some (.slice Ao23 t4008.length co23) := (blk_cell BK4012.out 1).trans rfl
             have hfz135_0 := blk_frozen BK4012.out 0
             have hfz135_1 := blk_frozen BK4012.out 1
             go_wp2_with (first | ((with_reducible refine gate_callee (f := 20) rfl ?_); refine goesL_ (some 86) rfl rfl Try.func20 (by kernel_rfl) rfl #[.agg #[.int .i64 t4040, .slice Ao124 t4041.length co124], .agg #[.int .i64 t4007, .slice Ao23 t4008.length co23]] rfl (by (try simp only [List.map_toArray, List.map_cons, List.map_nil]); first | done | rfl | (simp only [List.length_drop, List.length_take]; rfl)) ?_; (with_reducible refine (laws_eqMatroid.calls kj60 t4040 _ _ t4041 t4007 _ _ t4008 true _ ?side1 ?side2 ?side3 ?side4 A125.out).mono ?_); (case side1 => refine (Kd.R_reads' (e := 3) (base := w.heap.size) (ok := fun k_ => ((((True ∧ some k_ ≠ (.slice Ao23 t4008.length co23 : Value).ownBlock) ∧ some k_ ≠ (.slice Ao30 t4031.length co30 : Value).ownBlock) ∧ some k_ ≠ (.slice Ao37 t4019.length co37 : Value).ownBlock) ∧ some k_ ≠ (.slice Ao116 t4037.length co116 : Value).ownBlock)) (n := t4041.length) (c := co124) ?_).2.2; exact (by (with_reducible repeat (first | apply Kd.R_alloc | apply Kd.R_drewN | apply Kd.R_drew)); exact (Kd.R_mono (Kd.R_far (p := ⟨gb4045, 1, none⟩) (Kd.R_far (p := ⟨gb4045, 0, none⟩) (Kd.R_types HO4043.out BK4045.out (by decide)) (fun _ hk => hk.2) (.int .i64 t4040)) (fun _ hk => hk.2) (.slice Ao124 t4041.length co124)) (fun _ h_ => h_.1)))); (case side2 => exact (Kd.R_reads' HO4043.out).2.1); (case side3 => refine (Kd.R_reads' (e := 3) (base := w.heap.size) (ok := fun k_ => (((some k_ ≠ (.slice Ao30 t4031.length co30 : Value).ownBlock ∧ some k_ ≠ (.slice Ao37 t4019.length co37 : Value).ownBlock) ∧ some k_ ≠ (.slice Ao116 t4037.length co116 : Value).ownBlock) ∧ some k_ ≠ (.slice Ao124 t4041.length co124 : Value).ownBlock)) (n := t4008.length) (c := co23) ?_).2.2; exact (by (with_reducible repeat (first | apply Kd.R_alloc | apply Kd.R_drewN | apply Kd.R_drew)); exact (Kd.R_mono (Kd.R_far (p := ⟨gb4045, 1, none⟩) (Kd.R_far (p := ⟨gb4045, 0, none⟩) (Kd.R_types HO_4013001.out BK4045.out (by decide)) (fun _ hk => hk.2) (.int .i64 t4040)) (fun _ hk => hk.2) (.slice Ao124 t4041.length co124)) (fun _ h_ => h_.1)))); (case side4 => exact (Kd.R_reads' HO_4013001.out).2.1); rintro e w136 ⟨rfl, hb⟩; refine ⟨_, rfl, ?_⟩; replace HO_4013001 := aQ (Kd.R_below (by (with_reducible repeat (first | apply Kd.R_alloc | apply Kd.R_drewN | apply Kd.R_drew)); exact (Kd.R_mono (Kd.R_far (p := ⟨gb4045, 1, none⟩) (Kd.R_far (p := ⟨gb4045, 0, none⟩) (Kd.R_types HO_4013001.out BK4045.out (by decide)) (fun _ hk => hk.2) (.int .i64 t4040)) (fun _ hk => hk.2) (.slice Ao124 t4041.length co124)) (fun _ h_ => h_.1))) hb); replace HO_4018001 := aQ (Kd.R_below (by (with_reducible repeat (first | apply Kd.R_alloc | apply Kd.R_drewN | apply Kd.R_drew)); exact (Kd.R_mono (Kd.R_far (p := ⟨gb4045, 1, none⟩) (Kd.R_far (p := ⟨gb4045, 0, none⟩) (Kd.R_types HO_4018001.out BK4045.out (by decide)) (fun _ hk => hk.2) (.int .i64 t4040)) (fun _ hk => hk.2) (.slice Ao124 t4041.length co124)) (fun _ h_ => h_.1))) hb); replace HO_4024001 := aQ (Kd.R_below (by (with_reducible repeat (first | apply Kd.R_alloc | apply Kd.R_drewN | apply Kd.R_drew)); exact (Kd.R_mono (Kd.R_far (p := ⟨gb4045, 1, none⟩) (Kd.R_far (p := ⟨gb4045, 0, none⟩) (Kd.R_types HO_4024001.out BK4045.out (by decide)) (fun _ hk => hk.2) (.int .i64 t4040)) (fun _ hk => hk.2) (.slice Ao124 t4041.length co124)) (fun _ h_ => h_.1))) hb); replace HO4039 := aQ (Kd.R_below (by (with_reducible repeat (first | apply Kd.R_alloc | apply Kd.R_drewN | apply Kd.R_drew)); exact (Kd.R_mono (Kd.R_far (p := ⟨gb4045, 1, none⟩) (Kd.R_far (p := ⟨gb4045, 0, none⟩) (Kd.R_types HO4039.out BK4045.out (by decide)) (fun _ hk => hk.2) (.int .i64 t4040)) (fun _ hk => hk.2) (.slice Ao124 t4041.length co124)) (fun _ h_ => h_.1))) hb); replace HO4043 := aQ (Kd.R_below (by (with_reducible repeat (first | apply Kd.R_alloc | apply Kd.R_drewN | apply Kd.R_drew)); exact (Kd.R_mono (Kd.R_far (p := ⟨gb4045, 1, none⟩) (Kd.R_far (p := ⟨gb4045, 0, none⟩) (Kd.R_types HO4043.out BK4045.out (by decide)) (fun _ hk => hk.2) (.int .i64 t4040)) (fun _ hk => hk.2) (.slice Ao124 t4041.length co124)) (fun _ h_ => h_.1))) hb); replace BK4001 := aQ (blk_below (g := gb4001) (o := .cells #[.int .i64 a0_0, .slice A0_1 l0_1.length c0_1] 24 (0, 0)) (by (with_reducible repeat (first | refine blk_drewN ?_ _ | refine blk_drew ?_ | refine blk_alloc ?_ _)); refine blk_far ?_ NB4001_4045.out _; (with_reducible repeat (first | refine blk_drewN ?_ _ | refine blk_drew ?_ | refine blk_alloc ?_ _)); refine blk_far ?_ NB4001_4045.out _; (with_reducible repeat (first | refine blk_drewN ?_ _ | refine blk_drew ?_ | refine blk_alloc ?_ _)); exact BK4001.out) hb); replace BK4012 := aQ (blk_below (g := gb4012) (o := .cells #[.int .i64 t4007, .slice Ao23 t4008.length co23] 26 (0, 0)) (by (with_reducible repeat (first | refine blk_drewN ?_ _ | refine blk_drew ?_ | refine blk_alloc ?_ _)); refine blk_far ?_ NB4012_4045.out _; (with_reducible repeat (first | refine blk_drewN ?_ _ | refine blk_drew ?_ | refine blk_alloc ?_ _)); refine blk_far ?_ NB4012_4045.out _; (with_reducible repeat (first | refine blk_drewN ?_ _ | refine blk_drew ?_ | refine blk_alloc ?_ _)); exact BK4012.out) hb); replace BK4017 := aQ (blk_below (g := gb4017) (o := .cells #[.int .i64 t4013, .slice Ao30 t4031.length co30] 26 (0, 0)) (by (with_reducible repeat (first | refine blk_drewN ?_ _ | refine blk_drew ?_ | refine blk_alloc ?_ _)); refine blk_far ?_ NB4017_4045.out _; (with_reducible repeat (first | refine blk_drewN ?_ _ | refine blk_drew ?_ | refine blk_alloc ?_ _)); refine blk_far ?_ NB4017_4045.out _; (with_reducible repeat (first | refine blk_drewN ?_ _ | refine blk_drew ?_ | refine blk_alloc ?_ _)); exact BK4017.out) hb); replace BK4023 := aQ (blk_below (g := gb4023) (o := .cells #[.int .i64 t4018, .slice Ao37 t4019.length co37] 26 (0, 0)) (by (with_reducible repeat (first | refine blk_drewN ?_ _ | refine blk_drew ?_ | refine blk_alloc ?_ _)); refine blk_far ?_ NB4023_4045.out _; (with_reducible repeat (first | refine blk_drewN ?_ _ | refine blk_drew ?_ | refine blk_alloc ?_ _)); refine blk_far ?_ NB4023_4045.out _; (with_reducible repeat (first | refine blk_drewN ?_ _ | refine blk_drew ?_ | refine blk_alloc ?_ _)); exact BK4023.out) hb); replace BK4045 := aQ (blk_below (g := gb4045) (o := .cells #[.int .i64 t4040, .slice Ao124 t4041.length co124] 26 (0, 0)) (by (with_reducible repeat (first | refine blk_drewN ?_ _ | refine blk_drew ?_ | refine blk_alloc ?_ _)); refine blk_put (cs := #[.int .i64 t4040, .slice none 0 0]) ?_ 1 _ rfl; (with_reducible repeat (first | refine blk_drewN ?_ _ | refine blk_drew ?_ | refine blk_alloc ?_ _)); refine blk_put (cs := #[.int .i64 0, .slice none 0 0]) ?_ 0 _ rfl; (with_reducible repeat (first | refine blk_drewN ?_ _ | refine blk_drew ?_ | refine blk_alloc ?_ _)); exact BK4045.out) hb); replace HB := aQ (below_step (by repeat (first | (with_reducible first | exact HB.out | apply below_alloc | apply pw_below_drewN | apply below_drew1 | refine below_set ?_ GE4001.out | refine below_set ?_ GE4012.out | refine below_set ?_ GE4017.out | refine below_set ?_ GE4023.out | refine below_set ?_ GE4045.out) | exact HB.out)) hb); (try clear hb); (try clear hb2); (try clear hk); (try clear hi)))
             go_meet
             case rel => exact ⟨_, ((t4044 != t4011)), (by first | rfl | (simp; done) | (simp [*]; done)), H', ⟨by have := HJ11.out; have := HJ60.out; first | omega | exact Nat.le_refl _⟩, ⟨by (try simp only [hl4018001_60]); (with_reducible repeat (first | apply Kd.R_alloc | apply Kd.R_drewN | apply Kd.R_drew)); exact Kd.R_mono HO_4013001.out (fun _ hk => ⟨hk.1.1.1, ⟨hk.1.1.2, hk.2⟩⟩)⟩, ⟨by (try simp only [hl4018001_60]); (with_reducible repeat (first | apply Kd.R_alloc | apply Kd.R_drewN | apply Kd.R_drew)); exact Kd.R_mono HO_4018001.out (fun _ hk => ⟨hk.1.1.1, ⟨hk.1.1.2, hk.2⟩⟩)⟩, ⟨by (try simp only [hl4018001_60]); (with_reducible repeat (first | apply Kd.R_alloc | apply Kd.R_drewN | apply Kd.R_drew)); exact Kd.R_mono HO_4024001.out (fun _ hk => ⟨hk.1.1.1, ⟨hk.1.1.2, hk.2⟩⟩)⟩, ⟨by (try simp only [hl4018001_60]); (with_reducible repeat (first | apply Kd.R_alloc | apply Kd.R_drewN | apply Kd.R_drew)); exact Kd.R_mono HO4043.out (fun _ hk => ⟨hk.1.1.1.2, ⟨hk.1.1.2, hk.1.2⟩⟩)⟩, ⟨by (try simp only [hl4018001_60]); (with_reducible repeat (first | refine blk_drewN ?_ _ | refine blk_drew ?_ | refine blk_alloc ?_ _)); exact BK4001.out⟩, ⟨by (try simp only [hl4018001_60]); (with_reducible repeat (first | refine blk_drewN ?_ _ | refine blk_drew ?_ | refine blk_alloc ?_ _)); exact BK4012.out⟩, ⟨by (try simp only [hl4018001_60]); (with_reducible repeat (first | refine blk_drewN ?_ _ | refine blk_drew ?_ | refine blk_alloc ?_ _)); exact BK4017.out⟩, ⟨by (try simp only [hl4018001_60]); (with_reducible repeat (first | refine blk_drewN ?_ _ | refine blk_drew ?_ | refine blk_alloc ?_ _)); exact BK4023.out⟩, ⟨by (try simp only [hl4018001_60]); (with_reducible repeat (first | refine blk_drewN ?_ _ | refine blk_drew ?_ | refine blk_alloc ?_ _)); exact BK4045.out⟩, ⟨by repeat (first | (with_reducible first | exact HB.out | apply below_alloc | apply pw_below_drewN | apply below_drew1 | refine below_set ?_ GE4001.out | refine below_set ?_ GE4012.out | refine below_set ?_ GE4017.out | refine below_set ?_ GE4023.out | refine below_set ?_ GE4045.out) | exact HB.out)⟩⟩
            ·replace c126 := Bool.eq_false_iff.mpr c126
             subst c126
             have H1 : (laws_FnExactTruncate.j2 kj60 t4033 true t4018 t4034) = some true := by rw [if_neg (show ¬ (false = true) by decide)] at H; exact H
             clear H
             have H := H1
             clear H1
             have H' := aQ H
             clear H
             have hnb137 := NB4045_4001.out
             have hnc137 := NB4001_4045.out
             have hnb138 := NB4045_4012.out
             have hnc138 := NB4012_4045.out
             have hnb139 := NB4045_4017.out
             have hnc139 := NB4017_4045.out
             have hnb140 := NB4045_4023.out
             have hnc140 := NB4023_4045.out
             have hcz141_0 : w118.cell? ⟨gb4045, 0, none⟩ = some (.int .i64 0) := (blk_cell BK4045.out 0).trans rfl
             have hcz141_1 : w118.cell? ⟨gb4045, 1, none⟩ = some (.slice none 0 0) := (blk_cell BK4045.out 1).trans rfl
             have hfz141_0 := blk_frozen BK4045.out 0
             have hfz141_1 := blk_frozen BK4045.out 1
             have hnb142 := NB4012_4001.out
             have hnc142 := NB4001_4012.out
             have hnb143 := NB4012_4017.out
             have hnc143 := NB4017_4012.out
             have hnb144 := NB4012_4023.out
             have hnc144 := NB4023_4012.out
             have hcz145_0 : w118.cell? ⟨gb4012, 0, none⟩ = some (.int .i64 t4007) := (blk_cell BK4012.out 0).trans rfl
             have hcz145_1 : w118.cell? ⟨gb4012, 1, none⟩ = some (.slice Ao23 t4008.length co23) := (blk_cell BK4012.out 1).trans rfl
             have hfz145_0 := blk_frozen BK4012.out 0
             have hfz145_1 := blk_frozen BK4012.out 1
             go_wp2_with (first | ((with_reducible refine gate_callee (f := 20) rfl ?_); refine goesL_ (some 86) rfl rfl Try.func20 (by kernel_rfl) rfl #[.agg #[.int .i64 t4040, .slice Ao124 t4041.length co124], .agg #[.int .i64 t4007, .slice Ao23 t4008.length co23]] rfl (by (try simp only [List.map_toArray, List.map_cons, List.map_nil]); first | done | rfl | (simp only [List.length_drop, List.length_take]; rfl)) ?_; (with_reducible refine (laws_eqMatroid.calls kj60 t4040 _ _ t4041 t4007 _ _ t4008 false _ ?side1 ?side2 ?side3 ?side4 A125.out).mono ?_); (case side1 => refine (Kd.R_reads' (e := 3) (base := w.heap.size) (ok := fun k_ => ((((True ∧ some k_ ≠ (.slice Ao23 t4008.length co23 : Value).ownBlock) ∧ some k_ ≠ (.slice Ao30 t4031.length co30 : Value).ownBlock) ∧ some k_ ≠ (.slice Ao37 t4019.length co37 : Value).ownBlock) ∧ some k_ ≠ (.slice Ao116 t4037.length co116 : Value).ownBlock)) (n := t4041.length) (c := co124) ?_).2.2; exact (by (with_reducible repeat (first | apply Kd.R_alloc | apply Kd.R_drewN | apply Kd.R_drew)); exact (Kd.R_mono (Kd.R_far (p := ⟨gb4045, 1, none⟩) (Kd.R_far (p := ⟨gb4045, 0, none⟩) (Kd.R_types HO4043.out BK4045.out (by decide)) (fun _ hk => hk.2) (.int .i64 t4040)) (fun _ hk => hk.2) (.slice Ao124 t4041.length co124)) (fun _ h_ => h_.1)))); (case side2 => exact (Kd.R_reads' HO4043.out).2.1); (case side3 => refine (Kd.R_reads' (e := 3) (base := w.heap.size) (ok := fun k_ => (((some k_ ≠ (.slice Ao30 t4031.length co30 : Value).ownBlock ∧ some k_ ≠ (.slice Ao37 t4019.length co37 : Value).ownBlock) ∧ some k_ ≠ (.slice Ao116 t4037.length co116 : Value).ownBlock) ∧ some k_ ≠ (.slice Ao124 t4041.length co124 : Value).ownBlock)) (n := t4008.length) (c := co23) ?_).2.2; exact (by (with_reducible repeat (first | apply Kd.R_alloc | apply Kd.R_drewN | apply Kd.R_drew)); exact (Kd.R_mono (Kd.R_far (p := ⟨gb4045, 1, none⟩) (Kd.R_far (p := ⟨gb4045, 0, none⟩) (Kd.R_types HO_4013001.out BK4045.out (by decide)) (fun _ hk => hk.2) (.int .i64 t4040)) (fun _ hk => hk.2) (.slice Ao124 t4041.length co124)) (fun _ h_ => h_.1)))); (case side4 => exact (Kd.R_reads' HO_4013001.out).2.1); rintro e w146 ⟨rfl, hb⟩; refine ⟨_, rfl, ?_⟩; replace HO_4013001 := aQ (Kd.R_below (by (with_reducible repeat (first | apply Kd.R_alloc | apply Kd.R_drewN | apply Kd.R_drew)); exact (Kd.R_mono (Kd.R_far (p := ⟨gb4045, 1, none⟩) (Kd.R_far (p := ⟨gb4045, 0, none⟩) (Kd.R_types HO_4013001.out BK4045.out (by decide)) (fun _ hk => hk.2) (.int .i64 t4040)) (fun _ hk => hk.2) (.slice Ao124 t4041.length co124)) (fun _ h_ => h_.1))) hb); replace HO_4018001 := aQ (Kd.R_below (by (with_reducible repeat (first | apply Kd.R_alloc | apply Kd.R_drewN | apply Kd.R_drew)); exact (Kd.R_mono (Kd.R_far (p := ⟨gb4045, 1, none⟩) (Kd.R_far (p := ⟨gb4045, 0, none⟩) (Kd.R_types HO_4018001.out BK4045.out (by decide)) (fun _ hk => hk.2) (.int .i64 t4040)) (fun _ hk => hk.2) (.slice Ao124 t4041.length co124)) (fun _ h_ => h_.1))) hb); replace HO_4024001 := aQ (Kd.R_below (by (with_reducible repeat (first | apply Kd.R_alloc | apply Kd.R_drewN | apply Kd.R_drew)); exact (Kd.R_mono (Kd.R_far (p := ⟨gb4045, 1, none⟩) (Kd.R_far (p := ⟨gb4045, 0, none⟩) (Kd.R_types HO_4024001.out BK4045.out (by decide)) (fun _ hk => hk.2) (.int .i64 t4040)) (fun _ hk => hk.2) (.slice Ao124 t4041.length co124)) (fun _ h_ => h_.1))) hb); replace HO4039 := aQ (Kd.R_below (by (with_reducible repeat (first | apply Kd.R_alloc | apply Kd.R_drewN | apply Kd.R_drew)); exact (Kd.R_mono (Kd.R_far (p := ⟨gb4045, 1, none⟩) (Kd.R_far (p := ⟨gb4045, 0, none⟩) (Kd.R_types HO4039.out BK4045.out (by decide)) (fun _ hk => hk.2) (.int .i64 t4040)) (fun _ hk => hk.2) (.slice Ao124 t4041.length co124)) (fun _ h_ => h_.1))) hb); replace HO4043 := aQ (Kd.R_below (by (with_reducible repeat (first | apply Kd.R_alloc | apply Kd.R_drewN | apply Kd.R_drew)); exact (Kd.R_mono (Kd.R_far (p := ⟨gb4045, 1, none⟩) (Kd.R_far (p := ⟨gb4045, 0, none⟩) (Kd.R_types HO4043.out BK4045.out (by decide)) (fun _ hk => hk.2) (.int .i64 t4040)) (fun _ hk => hk.2) (.slice Ao124 t4041.length co124)) (fun _ h_ => h_.1))) hb); replace BK4001 := aQ (blk_below (g := gb4001) (o := .cells #[.int .i64 a0_0, .slice A0_1 l0_1.length c0_1] 24 (0, 0)) (by (with_reducible repeat (first | refine blk_drewN ?_ _ | refine blk_drew ?_ | refine blk_alloc ?_ _)); refine blk_far ?_ NB4001_4045.out _; (with_reducible repeat (first | refine blk_drewN ?_ _ | refine blk_drew ?_ | refine blk_alloc ?_ _)); refine blk_far ?_ NB4001_4045.out _; (with_reducible repeat (first | refine blk_drewN ?_ _ | refine blk_drew ?_ | refine blk_alloc ?_ _)); exact BK4001.out) hb); replace BK4012 := aQ (blk_below (g := gb4012) (o := .cells #[.int .i64 t4007, .slice Ao23 t4008.length co23] 26 (0, 0)) (by (with_reducible repeat (first | refine blk_drewN ?_ _ | refine blk_drew ?_ | refine blk_alloc ?_ _)); refine blk_far ?_ NB4012_4045.out _; (with_reducible repeat (first | refine blk_drewN ?_ _ | refine blk_drew ?_ | refine blk_alloc ?_ _)); refine blk_far ?_ NB4012_4045.out _; (with_reducible repeat (first | refine blk_drewN ?_ _ | refine blk_drew ?_ | refine blk_alloc ?_ _)); exact BK4012.out) hb); replace BK4017 := aQ (blk_below (g := gb4017) (o := .cells #[.int .i64 t4013, .slice Ao30 t4031.length co30] 26 (0, 0)) (by (with_reducible repeat (first | refine blk_drewN ?_ _ | refine blk_drew ?_ | refine blk_alloc ?_ _)); refine blk_far ?_ NB4017_4045.out _; (with_reducible repeat (first | refine blk_drewN ?_ _ | refine blk_drew ?_ | refine blk_alloc ?_ _)); refine blk_far ?_ NB4017_4045.out _; (with_reducible repeat (first | refine blk_drewN ?_ _ | refine blk_drew ?_ | refine blk_alloc ?_ _)); exact BK4017.out) hb); replace BK4023 := aQ (blk_below (g := gb4023) (o := .cells #[.int .i64 t4018, .slice Ao37 t4019.length co37] 26 (0, 0)) (by (with_reducible repeat (first | refine blk_drewN ?_ _ | refine blk_drew ?_ | refine blk_alloc ?_ _)); refine blk_far ?_ NB4023_4045.out _; (with_reducible repeat (first | refine blk_drewN ?_ _ | refine blk_drew ?_ | refine blk_alloc ?_ _)); refine blk_far ?_ NB4023_4045.out _; (with_reducible repeat (first | refine blk_drewN ?_ _ | refine blk_drew ?_ | refine blk_alloc ?_ _)); exact BK4023.out) hb); replace BK4045 := aQ (blk_below (g := gb4045) (o := .cells #[.int .i64 t4040, .slice Ao124 t4041.length co124] 26 (0, 0)) (by (with_reducible repeat (first | refine blk_drewN ?_ _ | refine blk_drew ?_ | refine blk_alloc ?_ _)); refine blk_put (cs := #[.int .i64 t4040, .slice none 0 0]) ?_ 1 _ rfl; (with_reducible repeat (first | refine blk_drewN ?_ _ | refine blk_drew ?_ | refine blk_alloc ?_ _)); refine blk_put (cs := #[.int .i64 0, .slice none 0 0]) ?_ 0 _ rfl; (with_reducible repeat (first | refine blk_drewN ?_ _ | refine blk_drew ?_ | refine blk_alloc ?_ _)); exact BK4045.out) hb); replace HB := aQ (below_step (by repeat (first | (with_reducible first | exact HB.out | apply below_alloc | apply pw_below_drewN | apply below_drew1 | refine below_set ?_ GE4001.out | refine below_set ?_ GE4012.out | refine below_set ?_ GE4017.out | refine below_set ?_ GE4023.out | refine below_set ?_ GE4045.out) | exact HB.out)) hb); (try clear hb); (try clear hb2); (try clear hk); (try clear hi)))
             go_meet
             case rel => exact ⟨_, (true), (by first | rfl | (simp; done) | (simp [*]; done)), H', ⟨by have := HJ11.out; have := HJ60.out; first | omega | exact Nat.le_refl _⟩, ⟨by (try simp only [hl4018001_60]); (with_reducible repeat (first | apply Kd.R_alloc | apply Kd.R_drewN | apply Kd.R_drew)); exact Kd.R_mono HO_4013001.out (fun _ hk => ⟨hk.1.1.1, ⟨hk.1.1.2, hk.2⟩⟩)⟩, ⟨by (try simp only [hl4018001_60]); (with_reducible repeat (first | apply Kd.R_alloc | apply Kd.R_drewN | apply Kd.R_drew)); exact Kd.R_mono HO_4018001.out (fun _ hk => ⟨hk.1.1.1, ⟨hk.1.1.2, hk.2⟩⟩)⟩, ⟨by (try simp only [hl4018001_60]); (with_reducible repeat (first | apply Kd.R_alloc | apply Kd.R_drewN | apply Kd.R_drew)); exact Kd.R_mono HO_4024001.out (fun _ hk => ⟨hk.1.1.1, ⟨hk.1.1.2, hk.2⟩⟩)⟩, ⟨by (try simp only [hl4018001_60]); (with_reducible repeat (first | apply Kd.R_alloc | apply Kd.R_drewN | apply Kd.R_drew)); exact Kd.R_mono HO4043.out (fun _ hk => ⟨hk.1.1.1.2, ⟨hk.1.1.2, hk.1.2⟩⟩)⟩, ⟨by (try simp only [hl4018001_60]); (with_reducible repeat (first | refine blk_drewN ?_ _ | refine blk_drew ?_ | refine blk_alloc ?_ _)); exact BK4001.out⟩, ⟨by (try simp only [hl4018001_60]); (with_reducible repeat (first | refine blk_drewN ?_ _ | refine blk_drew ?_ | refine blk_alloc ?_ _)); exact BK4012.out⟩, ⟨by (try simp only [hl4018001_60]); (with_reducible repeat (first | refine blk_drewN ?_ _ | refine blk_drew ?_ | refine blk_alloc ?_ _)); exact BK4017.out⟩, ⟨by (try simp only [hl4018001_60]); (with_reducible repeat (first | refine blk_drewN ?_ _ | refine blk_drew ?_ | refine blk_alloc ?_ _)); exact BK4023.out⟩, ⟨by (try simp only [hl4018001_60]); (with_reducible repeat (first | refine blk_drewN ?_ _ | refine blk_drew ?_ | refine blk_alloc ?_ _)); exact BK4045.out⟩, ⟨by repeat (first | (with_reducible first | exact HB.out | apply below_alloc | apply pw_below_drewN | apply below_drew1 | refine below_set ?_ GE4001.out | refine below_set ?_ GE4012.out | refine below_set ?_ GE4017.out | refine below_set ?_ GE4023.out | refine below_set ?_ GE4045.out) | exact HB.out)⟩⟩
           case rest =>
            clear HC104
            try clear c1
            try clear c2
            try clear p2
            try clear c3
            try clear c4
            try clear c4b0
            try clear c5
            try clear c6
            try clear c7
            try clear c8
            try clear c9
            try clear c10
            try clear c11
            try clear c12
            try clear c13
            try clear c14
            try clear c16
            try clear c17
            try clear c18
            try clear c19
            try clear c20
            try clear c21
            try clear c22
            try clear c27
            try clear c28
            try clear c33
            try clear c34
            try clear c35
            try clear c39
            try clear c40
            try clear c41
            try clear c42
            try clear c44
            try clear c45
            try clear c48
            try clear c49
            try clear c50
            try clear c52
            try clear c53
            try clear c56
            try clear c59
            try clear c66
            try clear c67
            try clear c68
            try clear c71
            try clear c71b0
            try clear c73
            try clear c74
            try clear c75
            try clear c76
            try clear c78
            try clear c79
            try clear c82
            try clear c83
            try clear c84
            try clear c86
            try clear c87
            try clear c90
            try clear c93
            try clear c93b0
            try clear c94
            try clear c95
            try clear c96
            try clear c101
            try clear c101b0
            try clear c101b1
            try clear c105
            try clear c106
            try clear c107
            try clear c112
            try clear c113
            try clear c119
            try clear c120
            try clear c121
            try clear c122
            try clear c126
            try clear c127
            try clear c128
            try clear c129
            try clear c130
            try clear c132
            try clear c133
            try clear c134
            try clear c137
            try clear c138
            try clear c139
            try clear c140
            try clear c142
            try clear c143
            try clear c144
            try clear hcz108_0
            try clear hcz108_1
            try clear hcz110_0
            try clear hcz110_1
            try clear hcz114_0
            try clear hcz114_1
            try clear hcz123_0
            try clear hcz123_1
            try clear hcz131_0
            try clear hcz131_1
            try clear hcz135_0
            try clear hcz135_1
            try clear hcz141_0
            try clear hcz141_1
            try clear hcz145_0
            try clear hcz145_1
            try clear hcz14_0
            try clear hcz14_1
            try clear hcz16_0
            try clear hcz16_1
            try clear hcz22_0
            try clear hcz22_1
            try clear hcz24_0
            try clear hcz24_1
            try clear hcz29_0
            try clear hcz29_1
            try clear hcz36_0
            try clear hcz36_1
            try clear hcz43_0
            try clear hcz43_1
            try clear hcz46_0
            try clear hcz46_1
            try clear hcz51_0
            try clear hcz51_1
            try clear hcz54_0
            try clear hcz54_1
            try clear hcz69_0
            try clear hcz69_1
            try clear hcz6_0
            try clear hcz6_1
            try clear hcz77_0
            try clear hcz77_1
            try clear hcz80_0
            try clear hcz80_1
            try clear hcz85_0
            try clear hcz85_1
            try clear hcz88_0
            try clear hcz88_1
            try clear hcz97_0
            try clear hcz97_1
            try clear hcz99_0
            try clear hcz99_1
            try clear hfz108_0
            try clear hfz108_1
            try clear hfz110_0
            try clear hfz110_1
            try clear hfz114_0
            try clear hfz114_1
            try clear hfz123_0
            try clear hfz123_1
            try clear hfz131_0
            try clear hfz131_1
            try clear hfz135_0
            try clear hfz135_1
            try clear hfz141_0
            try clear hfz141_1
            try clear hfz145_0
            try clear hfz145_1
            try clear hfz14_0
            try clear hfz14_1
            try clear hfz16_0
            try clear hfz16_1
            try clear hfz22_0
            try clear hfz22_1
            try clear hfz24_0
            try clear hfz24_1
            try clear hfz29_0
            try clear hfz29_1
            try clear hfz36_0
            try clear hfz36_1
            try clear hfz43_0
            try clear hfz43_1
            try clear hfz46_0
            try clear hfz46_1
            try clear hfz51_0
            try clear hfz51_1
            try clear hfz54_0
            try clear hfz54_1
            try clear hfz69_0
            try clear hfz69_1
            try clear hfz6_0
            try clear hfz6_1
            try clear hfz77_0
            try clear hfz77_1
            try clear hfz80_0
            try clear hfz80_1
            try clear hfz85_0
            try clear hfz85_1
            try clear hfz88_0
            try clear hfz88_1
            try clear hfz97_0
            try clear hfz97_1
            try clear hfz99_0
            try clear hfz99_1
            try clear p2
            obtain ⟨kq, x92_103, rfl, HA, HJ103, HO_4013001, HO_4018001, HO_4024001, HO_4046001, BK4001, BK4012, BK4017, BK4023, BK4045, HB⟩ := hcut
            have hl4024001_103 := (Kd.R_reads' HO_4024001.out).1
            rw [hl4024001_103] at HO_4024001
            (try simp only [hl4024001_103])
            (try simp only [hl4024001_103] at BK4001)
            (try simp only [hl4024001_103] at BK4012)
            (try simp only [hl4024001_103] at BK4017)
            (try simp only [hl4024001_103] at BK4023)
            (try simp only [hl4024001_103] at BK4045)
            (try simp only [hl4024001_103] at HO_4013001)
            (try simp only [hl4024001_103] at HO_4018001)
            (try simp only [hl4024001_103] at HO_4046001)
            cases kq with
            | zero => exact absurd HA.out (by simp [laws_FnExactTruncate.j2])
            | succ kj103 =>
             have H := HA.out
             clear HA
             simp only [laws_FnExactTruncate.j2] at H
             by_cases c147 : x92_103 = true
             ·subst c147
              have H1 : (some false) = some true := by rw [if_pos rfl] at H; exact H
              clear H
              have H := H1
              clear H1
              exact absurd (Option.some.inj H) (by decide)
             ·replace c147 := Bool.eq_false_iff.mpr c147
              subst c147
              have H1 : ((laws_heldMatroid.f kj103 t4018 t4034 1).bind fun t4047 => (if t4047 < 0 then (some false) else (if t4047 = t4033 then (some true) else (some false)))) = some true := by rw [if_neg (show ¬ (false = true) by decide)] at H; exact H
              clear H
              have H := H1
              clear H1
              replace H := Option.bind_eq_some_iff.mp H
              obtain ⟨t4047, A1480, H⟩ := H
              replace H : (if t4047 < 0 then (some false) else (if t4047 = t4033 then (some true) else (some false))) = some true := H
              have A148 := aQ A1480
              clear A1480
              by_cases c149 : t4047 < 0
              ·rw [if_pos c149] at H
               have c149b0 : decide (t4047 < 0) = true := decide_eq_true c149
               clear c149
               exact absurd (Option.some.inj H) (by decide)
              ·rw [if_neg c149] at H
               have c149b0 : decide (t4047 < 0) = false := decide_eq_false c149
               clear c149
               by_cases c156 : t4047 = t4033
               ·rw [if_pos c156] at H
                have c156b0 : (t4047 == t4033) = true := beq_iff_eq.mpr c156
                have c156b1 : (t4047 != t4033) = false := bne_eq_false_iff_eq.mpr c156
                clear c156
                clear H
                have hnb157 := NB4023_4001.out
                have hnc157 := NB4001_4023.out
                have hnb158 := NB4023_4012.out
                have hnc158 := NB4012_4023.out
                have hnb159 := NB4023_4017.out
                have hnc159 := NB4017_4023.out
                have hnb160 := NB4023_4045.out
                have hnc160 := NB4045_4023.out
                have hcz161_0 : wc.cell? ⟨gb4023, 0, none⟩ = some (.int .i64 t4018) := (blk_cell BK4023.out 0).trans rfl
                have hcz161_1 : wc.cell? ⟨gb4023, 1, none⟩ = some (.slice Ao37 t4034.length co37) := (blk_cell BK4023.out 1).trans rfl
                have hfz161_0 := blk_frozen BK4023.out 0
                have hfz161_1 := blk_frozen BK4023.out 1
                go_wp2_with (first | ((with_reducible refine gate_callee (f := 22) rfl ?_); refine goesL_ (some 95) rfl rfl Try.func22 (by kernel_rfl) rfl #[.agg #[.int .i64 t4018, .slice Ao37 t4034.length co37], .int .i64 1] rfl (by (try simp only [List.map_toArray, List.map_cons, List.map_nil]); first | done | rfl | (simp only [List.length_drop, List.length_take]; rfl)) ?_; (with_reducible refine (laws_heldMatroid.calls kj103 t4018 _ _ t4034 1 t4047 _ ?side1 ?side2 A148.out).mono ?_); (case side1 => repeat (first | exact (Kd.R_reads' HO_4024001.out).2.2 | (with_reducible refine Kd.C_alloc ?_ _) | (with_reducible refine Kd.C_drewN ?_ _) | (with_reducible refine Kd.C_drew ?_))); (case side2 => exact (Kd.R_reads' HO_4024001.out).2.1); rintro e w162 ⟨rfl, hb⟩; refine ⟨_, rfl, ?_⟩; replace HO_4013001 := aQ (Kd.R_below (by (with_reducible repeat (first | apply Kd.R_alloc | apply Kd.R_drewN | apply Kd.R_drew)); exact HO_4013001.out) hb); replace HO_4018001 := aQ (Kd.R_below (by (with_reducible repeat (first | apply Kd.R_alloc | apply Kd.R_drewN | apply Kd.R_drew)); exact HO_4018001.out) hb); replace HO_4024001 := aQ (Kd.R_below (by (with_reducible repeat (first | apply Kd.R_alloc | apply Kd.R_drewN | apply Kd.R_drew)); exact HO_4024001.out) hb); replace HO_4046001 := aQ (Kd.R_below (by (with_reducible repeat (first | apply Kd.R_alloc | apply Kd.R_drewN | apply Kd.R_drew)); exact HO_4046001.out) hb); replace BK4001 := aQ (blk_below (g := gb4001) (o := .cells #[.int .i64 a0_0, .slice A0_1 l0_1.length c0_1] 24 (0, 0)) (by (with_reducible repeat (first | refine blk_drewN ?_ _ | refine blk_drew ?_ | refine blk_alloc ?_ _)); exact BK4001.out) hb); replace BK4012 := aQ (blk_below (g := gb4012) (o := .cells #[.int .i64 t4007, .slice Ao23 t4008.length co23] 26 (0, 0)) (by (with_reducible repeat (first | refine blk_drewN ?_ _ | refine blk_drew ?_ | refine blk_alloc ?_ _)); exact BK4012.out) hb); replace BK4017 := aQ (blk_below (g := gb4017) (o := .cells #[.int .i64 t4013, .slice Ao30 t4031.length co30] 26 (0, 0)) (by (with_reducible repeat (first | refine blk_drewN ?_ _ | refine blk_drew ?_ | refine blk_alloc ?_ _)); exact BK4017.out) hb); replace BK4023 := aQ (blk_below (g := gb4023) (o := .cells #[.int .i64 t4018, .slice Ao37 t4034.length co37] 26 (0, 0)) (by (with_reducible repeat (first | refine blk_drewN ?_ _ | refine blk_drew ?_ | refine blk_alloc ?_ _)); exact BK4023.out) hb); replace BK4045 := aQ (blk_below (g := gb4045) (o := .cells #[.int .i64 t4040, .slice Ao124 t4041.length co124] 26 (0, 0)) (by (with_reducible repeat (first | refine blk_drewN ?_ _ | refine blk_drew ?_ | refine blk_alloc ?_ _)); exact BK4045.out) hb); replace HB := aQ (below_step (by repeat (first | (with_reducible first | exact HB.out | apply below_alloc | apply pw_below_drewN | apply below_drew1 | refine below_set ?_ GE4001.out | refine below_set ?_ GE4012.out | refine below_set ?_ GE4017.out | refine below_set ?_ GE4023.out | refine below_set ?_ GE4045.out) | exact HB.out)) hb); (try clear hb); (try clear hb2); (try clear hk); (try clear hi)))
                go_ret
                exact ⟨by first | rfl | (simp [errW_none, errW_some] <;> rfl) | (simp [*, errW_none, errW_some] <;> rfl), by repeat (first | (with_reducible first | exact HB.out | apply below_alloc | apply pw_below_drewN | apply below_drew1 | refine below_set ?_ GE4001.out | refine below_set ?_ GE4012.out | refine below_set ?_ GE4017.out | refine below_set ?_ GE4023.out | refine below_set ?_ GE4045.out) | exact HB.out)⟩
               ·rw [if_neg c156] at H
                have c156b0 : (t4047 == t4033) = false := beq_eq_false_iff_ne.mpr c156
                have c156b1 : (t4047 != t4033) = true := bne_iff_ne.mpr c156
                exact absurd (Option.some.inj H) (by decide)
          ·rw [if_neg c101] at H
           have c101b0 : (t4035 == t4033) = false := beq_eq_false_iff_ne.mpr c101
           have c101b1 : (t4035 != t4033) = true := bne_iff_ne.mpr c101
           exact absurd (Option.some.inj H) (by decide)
     ·replace c59 := Bool.eq_false_iff.mpr c59
      subst c59
      have H1 : (some false) = some true := by rw [if_neg (show ¬ (false = true) by decide)] at H; exact H
      clear H
      have H := H1
      clear H1
      exact absurd (Option.some.inj H) (by decide)
end Go.Proofs.Ytagncnjllpebjaa.A
