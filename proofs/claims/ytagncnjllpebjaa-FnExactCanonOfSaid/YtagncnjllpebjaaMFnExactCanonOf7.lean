/- Machine side of the law FnExactCanonOf: Go functions as Lean functions, and proofs that calls come to what these tell. Conditions: those in each theorem. -/
import Derived.Test.YtagncnjllpebjaaMFnExactCanonOf0
import Derived.Test.YtagncnjllpebjaaMFnExactCanonOf1
import Derived.Test.YtagncnjllpebjaaMFnExactCanonOf2
import Derived.Test.YtagncnjllpebjaaMFnExactCanonOf5
import Derived.Test.YtagncnjllpebjaaMFnExactCanonOf6
namespace Go.Proofs.Ytagncnjllpebjaa.A
open Go.RowKit Go.Proofs.YtagncnjllpebjaaW.PrintWords Go.Proofs.YtagncnjllpebjaaW.PrintLast Go.Proofs.YtagncnjllpebjaaW.PrintMore
attribute [local go_sem] max2_int min2_int max_two min_two max_three min_three max_four min_four
set_option linter.unusedVariables false
set_option linter.unusedSimpArgs false
/-! ### laws_FnExactCanonOf: function 12 -/
mutual
def laws_FnExactCanonOf.j0 : Nat → Bool → Bool → Bool → Int → List Int → Int → List Int → Int → List Int → Int → List Int → Option (Bool)
 | 0, _, _, _, _, _, _, _, _, _, _, _ => none
 | k + 1, x5, x8, x40, x13002000, x13002001, x13013000, x13013001, x13018000, x13018001, x13024000, x13024001 => if x40 = true then (some false) else ((laws_toMatroid.f k x13002000 x13002001).bind fun bt13025 => ((laws_eqMatroid.f k x13018000 x13018001 bt13025.1 bt13025.2).bind fun t13029 => (if t13029 = true then ((laws_markMatroid.f k x13018000 x13018001 1).bind fun bt13030 => (if bt13030.1 < 0 then (laws_FnExactCanonOf.j1 k x5 true x13002000 x13002001 x13013000 x13013001 x13024000 x13024001) else ((laws_eqMatroid.f k x13024000 x13024001 x13013000 x13013001).bind fun t13032 => (if t13032 = true then (laws_FnExactCanonOf.j1 k x5 (x8 != x5) x13002000 x13002001 x13013000 x13013001 x13024000 x13024001) else (laws_FnExactCanonOf.j1 k x5 true x13002000 x13002001 x13013000 x13013001 x13024000 x13024001))))) else (some false))))
def laws_FnExactCanonOf.j1 : Nat → Bool → Bool → Int → List Int → Int → List Int → Int → List Int → Option (Bool)
 | 0, _, _, _, _, _, _, _, _ => none
 | k + 1, x5, x61, x13002000, x13002001, x13013000, x13013001, x13024000, x13024001 => if x61 = true then (some false) else ((laws_markMatroid.f k x13024000 x13024001 1).bind fun bt13033 => ((laws_heldMatroid.f k x13024000 bt13033.2 1).bind fun t13035 => (if t13035 < 0 then (some false) else (if t13035 = bt13033.1 then ((laws_toMatroid.f k x13002000 x13002001).bind fun bt13036 => ((impl_CanonOf.f k bt13036.1 bt13036.2).bind fun bt13040 => ((laws_eqMatroid.f k bt13040.1 bt13040.2.1 x13013000 x13013001).bind fun t13046 => (if t13046 = true then (laws_FnExactCanonOf.j2 k bt13033.1 (bt13040.2.2 != x5) x13024000 bt13033.2) else (laws_FnExactCanonOf.j2 k bt13033.1 true x13024000 bt13033.2))))) else (some false)))))
def laws_FnExactCanonOf.j2 : Nat → Int → Bool → Int → List Int → Option (Bool)
 | 0, _, _, _, _ => none
 | k + 1, x10, x87, x13024000, x13024001 => if x87 = true then (some false) else ((laws_heldMatroid.f k x13024000 x13024001 1).bind fun t13047 => (if t13047 < 0 then (some false) else (if t13047 = x10 then (some true) else (some false))))
end
def laws_FnExactCanonOf.f (k : Nat) (a0_0 : Int) (l0_1 : List Int) : Option (Bool) := (laws_szMatroid.f a0_0 l0_1 1048576).bind fun t13002 => (if t13002 < 0 then (some true) else ((laws_toMatroid.f k a0_0 l0_1).bind fun bt13003 => ((spec_CanonOf.f k bt13003.1 bt13003.2).bind fun bt13007 => ((laws_toMatroid.f k a0_0 l0_1).bind fun bt13013 => ((impl_CanonOf.f k bt13013.1 bt13013.2).bind fun bt13018 => ((laws_eqMatroid.f k bt13018.1 bt13018.2.1 bt13007.1 bt13007.2.1).bind fun t13024 => (if t13024 = true then (laws_FnExactCanonOf.j0 k bt13007.2.2 bt13018.2.2 (bt13018.2.2 != bt13007.2.2) a0_0 l0_1 bt13007.1 bt13007.2.1 bt13013.1 bt13013.2 bt13018.1 bt13018.2.1) else (laws_FnExactCanonOf.j0 k bt13007.2.2 bt13018.2.2 true a0_0 l0_1 bt13007.1 bt13007.2.1 bt13013.1 bt13013.2 bt13018.1 bt13018.2.1))))))))
theorem laws_FnExactCanonOf.mono_l : ∀ k, (∀ y0 y1 y2 y3 y4 y5 y6 y7 y8 y9 y10, LeO (laws_FnExactCanonOf.j0 k y0 y1 y2 y3 y4 y5 y6 y7 y8 y9 y10) (laws_FnExactCanonOf.j0 (k + 1) y0 y1 y2 y3 y4 y5 y6 y7 y8 y9 y10)) ∧ (∀ y0 y1 y2 y3 y4 y5 y6 y7, LeO (laws_FnExactCanonOf.j1 k y0 y1 y2 y3 y4 y5 y6 y7) (laws_FnExactCanonOf.j1 (k + 1) y0 y1 y2 y3 y4 y5 y6 y7)) ∧ (∀ y0 y1 y2 y3, LeO (laws_FnExactCanonOf.j2 k y0 y1 y2 y3) (laws_FnExactCanonOf.j2 (k + 1) y0 y1 y2 y3))
 | 0 => ⟨fun _ _ _ _ _ _ _ _ _ _ _ r h => by simp [laws_FnExactCanonOf.j0] at h, fun _ _ _ _ _ _ _ _ r h => by simp [laws_FnExactCanonOf.j1] at h, fun _ _ _ _ r h => by simp [laws_FnExactCanonOf.j2] at h⟩
 | k + 1 => by
  obtain ⟨ih0, ih1, ih2⟩ := laws_FnExactCanonOf.mono_l k
  refine ⟨?_, ?_, ?_⟩
  ·intro y0 y1 y2 y3 y4 y5 y6 y7 y8 y9 y10
   unfold laws_FnExactCanonOf.j0
   repeat' first
   | (with_reducible exact ih0 _ _ _ _ _ _ _ _ _ _ _)
   | (with_reducible exact ih1 _ _ _ _ _ _ _ _)
   | (with_reducible exact ih2 _ _ _ _)
   | (with_reducible exact impl_CanonOf.mono _ _ _)
   | (with_reducible exact laws_eqMatroid.mono _ _ _ _ _)
   | (with_reducible exact laws_heldMatroid.mono _ _ _ _)
   | (with_reducible exact laws_markMatroid.mono _ _ _ _)
   | (with_reducible exact laws_toMatroid.mono _ _ _)
   | (with_reducible exact spec_CanonOf.mono _ _ _)
   | (with_reducible exact LeO.refl _)
   | (with_reducible exact LeO.none _)
   | (with_reducible refine LeO.ite ?_ ?_)
   | (with_reducible refine LeO.bind ?_ (fun _ => ?_))
   | exact ih0 _ _ _ _ _ _ _ _ _ _ _
   | exact ih1 _ _ _ _ _ _ _ _
   | exact ih2 _ _ _ _
   | exact impl_CanonOf.mono _ _ _
   | exact laws_eqMatroid.mono _ _ _ _ _
   | exact laws_heldMatroid.mono _ _ _ _
   | exact laws_markMatroid.mono _ _ _ _
   | exact laws_toMatroid.mono _ _ _
   | exact spec_CanonOf.mono _ _ _
   | exact LeO.none _
   | refine LeO.ite ?_ ?_
   | refine LeO.bind ?_ (fun _ => ?_)
  ·intro y0 y1 y2 y3 y4 y5 y6 y7
   unfold laws_FnExactCanonOf.j1
   repeat' first
   | (with_reducible exact ih0 _ _ _ _ _ _ _ _ _ _ _)
   | (with_reducible exact ih1 _ _ _ _ _ _ _ _)
   | (with_reducible exact ih2 _ _ _ _)
   | (with_reducible exact impl_CanonOf.mono _ _ _)
   | (with_reducible exact laws_eqMatroid.mono _ _ _ _ _)
   | (with_reducible exact laws_heldMatroid.mono _ _ _ _)
   | (with_reducible exact laws_markMatroid.mono _ _ _ _)
   | (with_reducible exact laws_toMatroid.mono _ _ _)
   | (with_reducible exact spec_CanonOf.mono _ _ _)
   | (with_reducible exact LeO.refl _)
   | (with_reducible exact LeO.none _)
   | (with_reducible refine LeO.ite ?_ ?_)
   | (with_reducible refine LeO.bind ?_ (fun _ => ?_))
   | exact ih0 _ _ _ _ _ _ _ _ _ _ _
   | exact ih1 _ _ _ _ _ _ _ _
   | exact ih2 _ _ _ _
   | exact impl_CanonOf.mono _ _ _
   | exact laws_eqMatroid.mono _ _ _ _ _
   | exact laws_heldMatroid.mono _ _ _ _
   | exact laws_markMatroid.mono _ _ _ _
   | exact laws_toMatroid.mono _ _ _
   | exact spec_CanonOf.mono _ _ _
   | exact LeO.none _
   | refine LeO.ite ?_ ?_
   | refine LeO.bind ?_ (fun _ => ?_)
  ·intro y0 y1 y2 y3
   unfold laws_FnExactCanonOf.j2
   repeat' first
   | (with_reducible exact ih0 _ _ _ _ _ _ _ _ _ _ _)
   | (with_reducible exact ih1 _ _ _ _ _ _ _ _)
   | (with_reducible exact ih2 _ _ _ _)
   | (with_reducible exact impl_CanonOf.mono _ _ _)
   | (with_reducible exact laws_eqMatroid.mono _ _ _ _ _)
   | (with_reducible exact laws_heldMatroid.mono _ _ _ _)
   | (with_reducible exact laws_markMatroid.mono _ _ _ _)
   | (with_reducible exact laws_toMatroid.mono _ _ _)
   | (with_reducible exact spec_CanonOf.mono _ _ _)
   | (with_reducible exact LeO.refl _)
   | (with_reducible exact LeO.none _)
   | (with_reducible refine LeO.ite ?_ ?_)
   | (with_reducible refine LeO.bind ?_ (fun _ => ?_))
   | exact ih0 _ _ _ _ _ _ _ _ _ _ _
   | exact ih1 _ _ _ _ _ _ _ _
   | exact ih2 _ _ _ _
   | exact impl_CanonOf.mono _ _ _
   | exact laws_eqMatroid.mono _ _ _ _ _
   | exact laws_heldMatroid.mono _ _ _ _
   | exact laws_markMatroid.mono _ _ _ _
   | exact laws_toMatroid.mono _ _ _
   | exact spec_CanonOf.mono _ _ _
   | exact LeO.none _
   | refine LeO.ite ?_ ?_
   | refine LeO.bind ?_ (fun _ => ?_)
theorem laws_FnExactCanonOf.mono : ∀ a0 a1 k, LeO (laws_FnExactCanonOf.f k a0 a1) (laws_FnExactCanonOf.f (k + 1) a0 a1) := by
 intro a0 a1 k
 obtain ⟨ih0, ih1, ih2⟩ := laws_FnExactCanonOf.mono_l k
 unfold laws_FnExactCanonOf.f
 repeat' first
   | (with_reducible exact ih0 _ _ _ _ _ _ _ _ _ _ _)
   | (with_reducible exact ih1 _ _ _ _ _ _ _ _)
   | (with_reducible exact ih2 _ _ _ _)
   | (with_reducible exact impl_CanonOf.mono _ _ _)
   | (with_reducible exact laws_eqMatroid.mono _ _ _ _ _)
   | (with_reducible exact laws_heldMatroid.mono _ _ _ _)
   | (with_reducible exact laws_markMatroid.mono _ _ _ _)
   | (with_reducible exact laws_toMatroid.mono _ _ _)
   | (with_reducible exact spec_CanonOf.mono _ _ _)
   | (with_reducible exact LeO.refl _)
   | (with_reducible exact LeO.none _)
   | (with_reducible refine LeO.ite ?_ ?_)
   | (with_reducible refine LeO.bind ?_ (fun _ => ?_))
   | exact ih0 _ _ _ _ _ _ _ _ _ _ _
   | exact ih1 _ _ _ _ _ _ _ _
   | exact ih2 _ _ _ _
   | exact impl_CanonOf.mono _ _ _
   | exact laws_eqMatroid.mono _ _ _ _ _
   | exact laws_heldMatroid.mono _ _ _ _
   | exact laws_markMatroid.mono _ _ _ _
   | exact laws_toMatroid.mono _ _ _
   | exact spec_CanonOf.mono _ _ _
   | exact LeO.none _
   | refine LeO.ite ?_ ?_
   | refine LeO.bind ?_ (fun _ => ?_)
set_option maxHeartbeats 8000000 in
set_option maxRecDepth 100000 in
theorem laws_FnExactCanonOf.calls (k : Nat) (a0_0 : Int) (A0_1 : Option Addr) (c0_1 : Nat) (l0_1 : List Int) (w : World) (hr0_1 : Kd.C (Kd.int .i64) w A0_1 l0_1.length l0_1) (hc0_1 : l0_1.length ≤ c0_1) (h : laws_FnExactCanonOf.f k a0_0 l0_1 = some true) :
  Calls Try.prog 12 #[.agg #[.int .i64 a0_0, .slice A0_1 l0_1.length c0_1]] w fun e w' => e = .returned (.bool true) ∧ Below w.heap.size w w' := by
 have hu24 := Try.underlying24
 have hu26 := Try.underlying26
 have HR0_1 := aQ hr0_1
 have HC0_1 := aQ hc0_1
 clear hr0_1 hc0_1
 have HB := aQ (Below.refl w.heap.size w)
 have H : ((laws_szMatroid.f a0_0 l0_1 1048576).bind fun t13002 => (if t13002 < 0 then (some true) else ((laws_toMatroid.f k a0_0 l0_1).bind fun bt13003 => ((spec_CanonOf.f k bt13003.1 bt13003.2).bind fun bt13007 => ((laws_toMatroid.f k a0_0 l0_1).bind fun bt13013 => ((impl_CanonOf.f k bt13013.1 bt13013.2).bind fun bt13018 => ((laws_eqMatroid.f k bt13018.1 bt13018.2.1 bt13007.1 bt13007.2.1).bind fun t13024 => (if t13024 = true then (laws_FnExactCanonOf.j0 k bt13007.2.2 bt13018.2.2 (bt13018.2.2 != bt13007.2.2) a0_0 l0_1 bt13007.1 bt13007.2.1 bt13013.1 bt13013.2 bt13018.1 bt13018.2.1) else (laws_FnExactCanonOf.j0 k bt13007.2.2 bt13018.2.2 true a0_0 l0_1 bt13007.1 bt13007.2.1 bt13013.1 bt13013.2 bt13018.1 bt13018.2.1))))))))) = some true := h
 clear h
 replace H := Option.bind_eq_some_iff.mp H
 obtain ⟨t13002, A20, H⟩ := H
 replace H : (if t13002 < 0 then (some true) else ((laws_toMatroid.f k a0_0 l0_1).bind fun bt13003 => ((spec_CanonOf.f k bt13003.1 bt13003.2).bind fun bt13007 => ((laws_toMatroid.f k a0_0 l0_1).bind fun bt13013 => ((impl_CanonOf.f k bt13013.1 bt13013.2).bind fun bt13018 => ((laws_eqMatroid.f k bt13018.1 bt13018.2.1 bt13007.1 bt13007.2.1).bind fun t13024 => (if t13024 = true then (laws_FnExactCanonOf.j0 k bt13007.2.2 bt13018.2.2 (bt13018.2.2 != bt13007.2.2) a0_0 l0_1 bt13007.1 bt13007.2.1 bt13013.1 bt13013.2 bt13018.1 bt13018.2.1) else (laws_FnExactCanonOf.j0 k bt13007.2.2 bt13018.2.2 true a0_0 l0_1 bt13007.1 bt13007.2.1 bt13013.1 bt13013.2 bt13018.1 bt13018.2.1)))))))) = some true := H
 have A2 := aQ A20
 clear A20
 by_cases c3 : t13002 < 0
 ·rw [if_pos c3] at H
  have c3b0 : decide (t13002 < 0) = true := decide_eq_true c3
  clear c3
  clear H
  go_enter Try.func12, Try.ntmps12
  go_wp2_with (first | ((with_reducible refine gate_dst (N := 1) rfl ?_); refine box_event ?hg (N := 1) ?hd (cs := #[.int .i64 a0_0, .slice A0_1 l0_1.length c0_1]) (t := 24) ?hr ?_; (case hd => rfl); (case hg => rfl); (case hr => first | (go_simp; done) | (go_simp; rfl)); intro gb13001 hg w4 hbox hb; have BK13001 := aQ (hbox); have GW13001 := aQ ((by rw [hg]; exact (below_size (by repeat (first | (with_reducible first | exact HB.out | apply below_alloc | apply pw_below_drewN | apply below_drew1) | exact HB.out))) : w.heap.size ≤ gb13001)); have GE13001 := aQ ((by rw [hg]; exact (below_size (by repeat (first | (with_reducible first | exact HB.out | apply below_alloc | apply pw_below_drewN | apply below_drew1) | exact HB.out))) : w.heap.size ≤ gb13001)); replace HB := aQ (below_step (by repeat (first | (with_reducible first | exact HB.out | apply below_alloc | apply pw_below_drewN | apply below_drew1) | exact HB.out)) hb); clear hb hbox hg; have hcz5_0 : w4.cell? ⟨gb13001, 0, none⟩ = some (.int .i64 a0_0) := (blk_cell BK13001.out 0).trans rfl; have hcz5_1 : w4.cell? ⟨gb13001, 1, none⟩ = some (.slice A0_1 l0_1.length c0_1) := (blk_cell BK13001.out 1).trans rfl; have hfz5_0 := blk_frozen BK13001.out 0; have hfz5_1 := blk_frozen BK13001.out 1) | ((with_reducible refine gate_callee (f := 16) rfl ?_); refine goesL_ (some 16) rfl rfl Try.func16 (by kernel_rfl) rfl #[.agg #[.int .i64 a0_0, .slice A0_1 l0_1.length c0_1], .int .i64 1048576] rfl (by (try simp only [List.map_toArray, List.map_cons, List.map_nil]); first | done | rfl | (simp only [List.length_drop, List.length_take]; rfl)) ?_; (with_reducible refine (laws_szMatroid.calls a0_0 _ _ l0_1 1048576 t13002 _ ?side1 ?side2 A2.out).mono ?_); (case side1 => repeat (first | exact (Kd.C_below HR0_1.out HB.out) | (with_reducible refine Kd.C_alloc ?_ _) | (with_reducible refine Kd.C_drewN ?_ _) | (with_reducible refine Kd.C_drew ?_))); (case side2 => exact HC0_1.out); rintro e w6 ⟨rfl, hb⟩; refine ⟨_, rfl, ?_⟩; replace BK13001 := aQ (blk_below (g := gb13001) (o := .cells #[.int .i64 a0_0, .slice A0_1 l0_1.length c0_1] 24 (0, 0)) (by (with_reducible repeat (first | refine blk_drewN ?_ _ | refine blk_drew ?_ | refine blk_alloc ?_ _)); exact BK13001.out) hb); replace HB := aQ (below_step (by repeat (first | (with_reducible first | exact HB.out | apply below_alloc | apply pw_below_drewN | apply below_drew1 | refine below_set ?_ GE13001.out) | exact HB.out)) hb); (try clear hb); (try clear hb2); (try clear hk); (try clear hi)))
  go_ret
  exact ⟨by first | rfl | (simp [errW_none, errW_some] <;> rfl) | (simp [*, errW_none, errW_some] <;> rfl), by repeat (first | (with_reducible first | exact HB.out | apply below_alloc | apply pw_below_drewN | apply below_drew1 | refine below_set ?_ GE13001.out) | exact HB.out)⟩
 ·rw [if_neg c3] at H
  have c3b0 : decide (t13002 < 0) = false := decide_eq_false c3
  clear c3
  replace H := Option.bind_eq_some_iff.mp H
  obtain ⟨⟨t13003, t13004⟩, A70, H⟩ := H
  replace H : ((spec_CanonOf.f k t13003 t13004).bind fun bt13007 => ((laws_toMatroid.f k a0_0 l0_1).bind fun bt13013 => ((impl_CanonOf.f k bt13013.1 bt13013.2).bind fun bt13018 => ((laws_eqMatroid.f k bt13018.1 bt13018.2.1 bt13007.1 bt13007.2.1).bind fun t13024 => (if t13024 = true then (laws_FnExactCanonOf.j0 k bt13007.2.2 bt13018.2.2 (bt13018.2.2 != bt13007.2.2) a0_0 l0_1 bt13007.1 bt13007.2.1 bt13013.1 bt13013.2 bt13018.1 bt13018.2.1) else (laws_FnExactCanonOf.j0 k bt13007.2.2 bt13018.2.2 true a0_0 l0_1 bt13007.1 bt13007.2.1 bt13013.1 bt13013.2 bt13018.1 bt13018.2.1)))))) = some true := H
  have A7 := aQ A70
  clear A70
  replace H := Option.bind_eq_some_iff.mp H
  obtain ⟨⟨t13007, t13008, t13011⟩, A80, H⟩ := H
  replace H : ((laws_toMatroid.f k a0_0 l0_1).bind fun bt13013 => ((impl_CanonOf.f k bt13013.1 bt13013.2).bind fun bt13018 => ((laws_eqMatroid.f k bt13018.1 bt13018.2.1 t13007 t13008).bind fun t13024 => (if t13024 = true then (laws_FnExactCanonOf.j0 k t13011 bt13018.2.2 (bt13018.2.2 != t13011) a0_0 l0_1 t13007 t13008 bt13013.1 bt13013.2 bt13018.1 bt13018.2.1) else (laws_FnExactCanonOf.j0 k t13011 bt13018.2.2 true a0_0 l0_1 t13007 t13008 bt13013.1 bt13013.2 bt13018.1 bt13018.2.1))))) = some true := H
  have A8 := aQ A80
  clear A80
  replace H := Option.bind_eq_some_iff.mp H
  obtain ⟨⟨t13013, t13014⟩, A90, H⟩ := H
  replace H : ((impl_CanonOf.f k t13013 t13014).bind fun bt13018 => ((laws_eqMatroid.f k bt13018.1 bt13018.2.1 t13007 t13008).bind fun t13024 => (if t13024 = true then (laws_FnExactCanonOf.j0 k t13011 bt13018.2.2 (bt13018.2.2 != t13011) a0_0 l0_1 t13007 t13008 t13013 t13014 bt13018.1 bt13018.2.1) else (laws_FnExactCanonOf.j0 k t13011 bt13018.2.2 true a0_0 l0_1 t13007 t13008 t13013 t13014 bt13018.1 bt13018.2.1)))) = some true := H
  have A9 := aQ A90
  clear A90
  replace H := Option.bind_eq_some_iff.mp H
  obtain ⟨⟨t13018, t13019, t13022⟩, A100, H⟩ := H
  replace H : ((laws_eqMatroid.f k t13018 t13019 t13007 t13008).bind fun t13024 => (if t13024 = true then (laws_FnExactCanonOf.j0 k t13011 t13022 (t13022 != t13011) a0_0 l0_1 t13007 t13008 t13013 t13014 t13018 t13019) else (laws_FnExactCanonOf.j0 k t13011 t13022 true a0_0 l0_1 t13007 t13008 t13013 t13014 t13018 t13019))) = some true := H
  have A10 := aQ A100
  clear A100
  have HC11 := aQ H
  clear H
  go_enter Try.func12, Try.ntmps12
  go_upto_region 8 with (first | ((with_reducible refine gate_dst (N := 1) rfl ?_); refine box_event ?hg (N := 1) ?hd (cs := #[.int .i64 a0_0, .slice A0_1 l0_1.length c0_1]) (t := 24) ?hr ?_; (case hd => rfl); (case hg => rfl); (case hr => first | (go_simp; done) | (go_simp; rfl)); intro gb13001 hg w12 hbox hb; have BK13001 := aQ (hbox); have GW13001 := aQ ((by rw [hg]; exact (below_size (by repeat (first | (with_reducible first | exact HB.out | apply below_alloc | apply pw_below_drewN | apply below_drew1) | exact HB.out))) : w.heap.size ≤ gb13001)); have GE13001 := aQ ((by rw [hg]; exact (below_size (by repeat (first | (with_reducible first | exact HB.out | apply below_alloc | apply pw_below_drewN | apply below_drew1) | exact HB.out))) : w.heap.size ≤ gb13001)); replace HB := aQ (below_step (by repeat (first | (with_reducible first | exact HB.out | apply below_alloc | apply pw_below_drewN | apply below_drew1) | exact HB.out)) hb); clear hb hbox hg; have hcz13_0 : w12.cell? ⟨gb13001, 0, none⟩ = some (.int .i64 a0_0) := (blk_cell BK13001.out 0).trans rfl; have hcz13_1 : w12.cell? ⟨gb13001, 1, none⟩ = some (.slice A0_1 l0_1.length c0_1) := (blk_cell BK13001.out 1).trans rfl; have hfz13_0 := blk_frozen BK13001.out 0; have hfz13_1 := blk_frozen BK13001.out 1) | ((with_reducible refine gate_callee (f := 16) rfl ?_); refine goesL_ (some 16) rfl rfl Try.func16 (by kernel_rfl) rfl #[.agg #[.int .i64 a0_0, .slice A0_1 l0_1.length c0_1], .int .i64 1048576] rfl (by (try simp only [List.map_toArray, List.map_cons, List.map_nil]); first | done | rfl | (simp only [List.length_drop, List.length_take]; rfl)) ?_; (with_reducible refine (laws_szMatroid.calls a0_0 _ _ l0_1 1048576 t13002 _ ?side1 ?side2 A2.out).mono ?_); (case side1 => repeat (first | exact (Kd.C_below HR0_1.out HB.out) | (with_reducible refine Kd.C_alloc ?_ _) | (with_reducible refine Kd.C_drewN ?_ _) | (with_reducible refine Kd.C_drew ?_))); (case side2 => exact HC0_1.out); rintro e w14 ⟨rfl, hb⟩; refine ⟨_, rfl, ?_⟩; replace BK13001 := aQ (blk_below (g := gb13001) (o := .cells #[.int .i64 a0_0, .slice A0_1 l0_1.length c0_1] 24 (0, 0)) (by (with_reducible repeat (first | refine blk_drewN ?_ _ | refine blk_drew ?_ | refine blk_alloc ?_ _)); exact BK13001.out) hb); replace HB := aQ (below_step (by repeat (first | (with_reducible first | exact HB.out | apply below_alloc | apply pw_below_drewN | apply below_drew1 | refine below_set ?_ GE13001.out) | exact HB.out)) hb); (try clear hb); (try clear hb2); (try clear hk); (try clear hi); have hcz15_0 : w14.cell? ⟨gb13001, 0, none⟩ = some (.int .i64 a0_0) := (blk_cell BK13001.out 0).trans rfl; have hcz15_1 : w14.cell? ⟨gb13001, 1, none⟩ = some (.slice A0_1 l0_1.length c0_1) := (blk_cell BK13001.out 1).trans rfl; have hfz15_0 := blk_frozen BK13001.out 0; have hfz15_1 := blk_frozen BK13001.out 1) | ((with_reducible refine gate_callee (f := 18) rfl ?_); refine goesL_ (some 21) rfl rfl Try.func18 (by kernel_rfl) rfl #[.agg #[.int .i64 a0_0, .slice A0_1 l0_1.length c0_1]] rfl (by (try simp only [List.map_toArray, List.map_cons, List.map_nil]); first | done | rfl | (simp only [List.length_drop, List.length_take]; rfl)) ?_; (with_reducible refine (laws_toMatroid.calls k a0_0 _ _ l0_1 t13003 t13004 _ ?side1 ?side2 A7.out).mono ?_); (case side1 => repeat (first | exact (Kd.C_below HR0_1.out HB.out) | (with_reducible refine Kd.C_alloc ?_ _) | (with_reducible refine Kd.C_drewN ?_ _) | (with_reducible refine Kd.C_drew ?_))); (case side2 => exact HC0_1.out); rintro e w16 ⟨v13005, rfl, ho0, hb⟩; refine ⟨_, rfl, ?_⟩; have HO13006 := aQ (Kd.R_lower ho0 (below_size (by repeat (first | (with_reducible first | exact HB.out | apply below_alloc | apply pw_below_drewN | apply below_drew1 | refine below_set ?_ GE13001.out) | exact HB.out)))); replace BK13001 := aQ (blk_below (g := gb13001) (o := .cells #[.int .i64 a0_0, .slice A0_1 l0_1.length c0_1] 24 (0, 0)) (by (with_reducible repeat (first | refine blk_drewN ?_ _ | refine blk_drew ?_ | refine blk_alloc ?_ _)); exact BK13001.out) hb); replace HB := aQ (below_step (by repeat (first | (with_reducible first | exact HB.out | apply below_alloc | apply pw_below_drewN | apply below_drew1 | refine below_set ?_ GE13001.out) | exact HB.out)) hb); (try clear hb); (try clear hb2); (try clear hk); (try clear hi); (try clear ho0); obtain ⟨Ao17, co17, eo17⟩ := Kd.R_slice HO13006.out; subst eo17) | ((with_reducible refine gate_callee (f := 43) rfl ?_); refine goesL_ (some 22) rfl rfl Try.func43 (by kernel_rfl) rfl #[.agg #[.int .i64 t13003, .slice Ao17 t13004.length co17]] rfl (by (try simp only [List.map_toArray, List.map_cons, List.map_nil]); first | done | rfl | (simp only [List.length_drop, List.length_take]; rfl)) ?_; (with_reducible refine (spec_CanonOf.calls k t13003 _ _ t13004 t13007 t13008 t13011 _ ?side1 ?side2 A8.out).mono ?_); (case side1 => repeat (first | exact (Kd.R_reads' HO13006.out).2.2 | (with_reducible refine Kd.C_alloc ?_ _) | (with_reducible refine Kd.C_drewN ?_ _) | (with_reducible refine Kd.C_drew ?_))); (case side2 => exact (Kd.R_reads' HO13006.out).2.1); rintro e w18 ⟨v13009, rfl, ho0, hb⟩; refine ⟨_, rfl, ?_⟩; have HO13010 := aQ (Kd.R_lower (Kd.R_new' ho0 (Kd.R_lt (by (with_reducible repeat (first | apply Kd.R_alloc | apply Kd.R_drewN | apply Kd.R_drew)); exact HO13006.out))) (below_size (by repeat (first | (with_reducible first | exact HB.out | apply below_alloc | apply pw_below_drewN | apply below_drew1 | refine below_set ?_ GE13001.out) | exact HB.out)))); replace HO13006 := aQ (Kd.R_elder' (by (with_reducible repeat (first | apply Kd.R_alloc | apply Kd.R_drewN | apply Kd.R_drew)); exact HO13006.out) (Kd.R_base ho0) hb); replace BK13001 := aQ (blk_below (g := gb13001) (o := .cells #[.int .i64 a0_0, .slice A0_1 l0_1.length c0_1] 24 (0, 0)) (by (with_reducible repeat (first | refine blk_drewN ?_ _ | refine blk_drew ?_ | refine blk_alloc ?_ _)); exact BK13001.out) hb); replace HB := aQ (below_step (by repeat (first | (with_reducible first | exact HB.out | apply below_alloc | apply pw_below_drewN | apply below_drew1 | refine below_set ?_ GE13001.out) | exact HB.out)) hb); (try clear hb); (try clear hb2); (try clear hk); (try clear hi); (try clear ho0)) | ((with_reducible refine gate_dst (N := 4) rfl ?_); refine box_event ?hg (N := 4) ?hd (cs := #[.int .i64 0, .slice none 0 0]) (t := 26) ?hr ?_; (case hd => rfl); (case hg => rfl); (case hr => first | (go_simp; done) | (go_simp; rfl)); intro gb13012 hg w19 hbox hb; replace HO13006 := aQ (Kd.R_below (by (with_reducible repeat (first | apply Kd.R_alloc | apply Kd.R_drewN | apply Kd.R_drew)); exact HO13006.out) hb); replace HO13010 := aQ (Kd.R_below (by (with_reducible repeat (first | apply Kd.R_alloc | apply Kd.R_drewN | apply Kd.R_drew)); exact HO13010.out) hb); have BK13012 := aQ (hbox); have GW13012 := aQ ((by rw [hg]; exact (below_size (by repeat (first | (with_reducible first | exact HB.out | apply below_alloc | apply pw_below_drewN | apply below_drew1 | refine below_set ?_ GE13001.out) | exact HB.out))) : w.heap.size ≤ gb13012)); have GE13012 := aQ ((by rw [hg]; exact (below_size (by repeat (first | (with_reducible first | exact HB.out | apply below_alloc | apply pw_below_drewN | apply below_drew1 | refine below_set ?_ GE13001.out) | exact HB.out))) : w.heap.size ≤ gb13012)); replace HB := aQ (below_step (by repeat (first | (with_reducible first | exact HB.out | apply below_alloc | apply pw_below_drewN | apply below_drew1 | refine below_set ?_ GE13001.out) | exact HB.out)) hb); have NB13001_13012 := aQ ((by rw [hg]; exact Nat.ne_of_lt (blk_lt (g := gb13001) (o := .cells #[.int .i64 a0_0, .slice A0_1 l0_1.length c0_1] 24 (0, 0)) (by (with_reducible repeat (first | refine blk_drewN ?_ _ | refine blk_drew ?_ | refine blk_alloc ?_ _)); exact BK13001.out)) : gb13001 ≠ gb13012)); have NB13012_13001 := aQ ((by rw [hg]; exact Nat.ne_of_gt (blk_lt (g := gb13001) (o := .cells #[.int .i64 a0_0, .slice A0_1 l0_1.length c0_1] 24 (0, 0)) (by (with_reducible repeat (first | refine blk_drewN ?_ _ | refine blk_drew ?_ | refine blk_alloc ?_ _)); exact BK13001.out)) : gb13012 ≠ gb13001)); replace BK13001 := aQ (blk_below (g := gb13001) (o := .cells #[.int .i64 a0_0, .slice A0_1 l0_1.length c0_1] 24 (0, 0)) (by (with_reducible repeat (first | refine blk_drewN ?_ _ | refine blk_drew ?_ | refine blk_alloc ?_ _)); exact BK13001.out) hb); clear hb hbox hg; have hnb20 := NB13012_13001.out; have hnc20 := NB13001_13012.out; have hcz21_0 : w19.cell? ⟨gb13012, 0, none⟩ = some (.int .i64 0) := (blk_cell BK13012.out 0).trans rfl; have hcz21_1 : w19.cell? ⟨gb13012, 1, none⟩ = some (.slice none 0 0) := (blk_cell BK13012.out 1).trans rfl; have hfz21_0 := blk_frozen BK13012.out 0; have hfz21_1 := blk_frozen BK13012.out 1; obtain ⟨Ao22, co22, eo22⟩ := Kd.R_slice HO13010.out; subst eo22; have hcz23_0 : w19.cell? ⟨gb13001, 0, none⟩ = some (.int .i64 a0_0) := (blk_cell BK13001.out 0).trans rfl; have hcz23_1 : w19.cell? ⟨gb13001, 1, none⟩ = some (.slice A0_1 l0_1.length c0_1) := (blk_cell BK13001.out 1).trans rfl; have hfz23_0 := blk_frozen BK13001.out 0; have hfz23_1 := blk_frozen BK13001.out 1) | ((with_reducible refine gate_callee (f := 18) rfl ?_); refine goesL_ (some 26) rfl rfl Try.func18 (by kernel_rfl) rfl #[.agg #[.int .i64 a0_0, .slice A0_1 l0_1.length c0_1]] rfl (by (try simp only [List.map_toArray, List.map_cons, List.map_nil]); first | done | rfl | (simp only [List.length_drop, List.length_take]; rfl)) ?_; (with_reducible refine (laws_toMatroid.calls k a0_0 _ _ l0_1 t13013 t13014 _ ?side1 ?side2 A9.out).mono ?_); (case side1 => exact Kd.C_below HR0_1.out (by repeat (first | (with_reducible first | exact HB.out | apply below_alloc | apply pw_below_drewN | apply below_drew1 | refine below_set ?_ GE13001.out | refine below_set ?_ GE13012.out) | exact HB.out))); (case side2 => exact HC0_1.out); rintro e w24 ⟨v13015, rfl, ho0, hb⟩; refine ⟨_, rfl, ?_⟩; have HO13016 := aQ (Kd.R_lower (Kd.R_new' (Kd.R_new' ho0 (Kd.R_lt (by (with_reducible repeat (first | apply Kd.R_alloc | apply Kd.R_drewN | apply Kd.R_drew)); exact (Kd.R_mono (Kd.R_far (p := ⟨gb13012, 1, none⟩) (Kd.R_far (p := ⟨gb13012, 0, none⟩) (Kd.R_types HO13006.out BK13012.out (by decide)) (fun _ hk => hk.2) (.int .i64 t13007)) (fun _ hk => hk.2) (.slice Ao22 t13008.length co22)) (fun _ h_ => h_.1))))) (Kd.R_lt (by (with_reducible repeat (first | apply Kd.R_alloc | apply Kd.R_drewN | apply Kd.R_drew)); exact (Kd.R_mono (Kd.R_far (p := ⟨gb13012, 1, none⟩) (Kd.R_far (p := ⟨gb13012, 0, none⟩) (Kd.R_types HO13010.out BK13012.out (by decide)) (fun _ hk => hk.2) (.int .i64 t13007)) (fun _ hk => hk.2) (.slice Ao22 t13008.length co22)) (fun _ h_ => h_.1))))) (below_size (by repeat (first | (with_reducible first | exact HB.out | apply below_alloc | apply pw_below_drewN | apply below_drew1 | refine below_set ?_ GE13001.out | refine below_set ?_ GE13012.out) | exact HB.out)))); replace HO13006 := aQ (Kd.R_elder' (by (with_reducible repeat (first | apply Kd.R_alloc | apply Kd.R_drewN | apply Kd.R_drew)); exact (Kd.R_mono (Kd.R_far (p := ⟨gb13012, 1, none⟩) (Kd.R_far (p := ⟨gb13012, 0, none⟩) (Kd.R_types HO13006.out BK13012.out (by decide)) (fun _ hk => hk.2) (.int .i64 t13007)) (fun _ hk => hk.2) (.slice Ao22 t13008.length co22)) (fun _ h_ => h_.1))) (Kd.R_base ho0) hb); replace HO13010 := aQ (Kd.R_elder' (by (with_reducible repeat (first | apply Kd.R_alloc | apply Kd.R_drewN | apply Kd.R_drew)); exact (Kd.R_mono (Kd.R_far (p := ⟨gb13012, 1, none⟩) (Kd.R_far (p := ⟨gb13012, 0, none⟩) (Kd.R_types HO13010.out BK13012.out (by decide)) (fun _ hk => hk.2) (.int .i64 t13007)) (fun _ hk => hk.2) (.slice Ao22 t13008.length co22)) (fun _ h_ => h_.1))) (Kd.R_base ho0) hb); replace BK13001 := aQ (blk_below (g := gb13001) (o := .cells #[.int .i64 a0_0, .slice A0_1 l0_1.length c0_1] 24 (0, 0)) (by (with_reducible repeat (first | refine blk_drewN ?_ _ | refine blk_drew ?_ | refine blk_alloc ?_ _)); refine blk_far ?_ NB13001_13012.out _; (with_reducible repeat (first | refine blk_drewN ?_ _ | refine blk_drew ?_ | refine blk_alloc ?_ _)); refine blk_far ?_ NB13001_13012.out _; (with_reducible repeat (first | refine blk_drewN ?_ _ | refine blk_drew ?_ | refine blk_alloc ?_ _)); exact BK13001.out) hb); replace BK13012 := aQ (blk_below (g := gb13012) (o := .cells #[.int .i64 t13007, .slice Ao22 t13008.length co22] 26 (0, 0)) (by (with_reducible repeat (first | refine blk_drewN ?_ _ | refine blk_drew ?_ | refine blk_alloc ?_ _)); refine blk_put (cs := #[.int .i64 t13007, .slice none 0 0]) ?_ 1 _ rfl; (with_reducible repeat (first | refine blk_drewN ?_ _ | refine blk_drew ?_ | refine blk_alloc ?_ _)); refine blk_put (cs := #[.int .i64 0, .slice none 0 0]) ?_ 0 _ rfl; (with_reducible repeat (first | refine blk_drewN ?_ _ | refine blk_drew ?_ | refine blk_alloc ?_ _)); exact BK13012.out) hb); replace HB := aQ (below_step (by repeat (first | (with_reducible first | exact HB.out | apply below_alloc | apply pw_below_drewN | apply below_drew1 | refine below_set ?_ GE13001.out | refine below_set ?_ GE13012.out) | exact HB.out)) hb); (try clear hb); (try clear hb2); (try clear hk); (try clear hi); (try clear ho0)) | ((with_reducible refine gate_dst (N := 6) rfl ?_); refine box_event ?hg (N := 6) ?hd (cs := #[.int .i64 0, .slice none 0 0]) (t := 26) ?hr ?_; (case hd => rfl); (case hg => rfl); (case hr => first | (go_simp; done) | (go_simp; rfl)); intro gb13017 hg w25 hbox hb; replace HO13006 := aQ (Kd.R_below (by (with_reducible repeat (first | apply Kd.R_alloc | apply Kd.R_drewN | apply Kd.R_drew)); exact HO13006.out) hb); replace HO13010 := aQ (Kd.R_below (by (with_reducible repeat (first | apply Kd.R_alloc | apply Kd.R_drewN | apply Kd.R_drew)); exact HO13010.out) hb); replace HO13016 := aQ (Kd.R_below (by (with_reducible repeat (first | apply Kd.R_alloc | apply Kd.R_drewN | apply Kd.R_drew)); exact HO13016.out) hb); have BK13017 := aQ (hbox); have GW13017 := aQ ((by rw [hg]; exact (below_size (by repeat (first | (with_reducible first | exact HB.out | apply below_alloc | apply pw_below_drewN | apply below_drew1 | refine below_set ?_ GE13001.out | refine below_set ?_ GE13012.out) | exact HB.out))) : w.heap.size ≤ gb13017)); have GE13017 := aQ ((by rw [hg]; exact (below_size (by repeat (first | (with_reducible first | exact HB.out | apply below_alloc | apply pw_below_drewN | apply below_drew1 | refine below_set ?_ GE13001.out | refine below_set ?_ GE13012.out) | exact HB.out))) : w.heap.size ≤ gb13017)); replace HB := aQ (below_step (by repeat (first | (with_reducible first | exact HB.out | apply below_alloc | apply pw_below_drewN | apply below_drew1 | refine below_set ?_ GE13001.out | refine below_set ?_ GE13012.out) | exact HB.out)) hb); have NB13001_13017 := aQ ((by rw [hg]; exact Nat.ne_of_lt (blk_lt (g := gb13001) (o := .cells #[.int .i64 a0_0, .slice A0_1 l0_1.length c0_1] 24 (0, 0)) (by (with_reducible repeat (first | refine blk_drewN ?_ _ | refine blk_drew ?_ | refine blk_alloc ?_ _)); exact BK13001.out)) : gb13001 ≠ gb13017)); have NB13017_13001 := aQ ((by rw [hg]; exact Nat.ne_of_gt (blk_lt (g := gb13001) (o := .cells #[.int .i64 a0_0, .slice A0_1 l0_1.length c0_1] 24 (0, 0)) (by (with_reducible repeat (first | refine blk_drewN ?_ _ | refine blk_drew ?_ | refine blk_alloc ?_ _)); exact BK13001.out)) : gb13017 ≠ gb13001)); replace BK13001 := aQ (blk_below (g := gb13001) (o := .cells #[.int .i64 a0_0, .slice A0_1 l0_1.length c0_1] 24 (0, 0)) (by (with_reducible repeat (first | refine blk_drewN ?_ _ | refine blk_drew ?_ | refine blk_alloc ?_ _)); exact BK13001.out) hb); have NB13012_13017 := aQ ((by rw [hg]; exact Nat.ne_of_lt (blk_lt (g := gb13012) (o := .cells #[.int .i64 t13007, .slice Ao22 t13008.length co22] 26 (0, 0)) (by (with_reducible repeat (first | refine blk_drewN ?_ _ | refine blk_drew ?_ | refine blk_alloc ?_ _)); exact BK13012.out)) : gb13012 ≠ gb13017)); have NB13017_13012 := aQ ((by rw [hg]; exact Nat.ne_of_gt (blk_lt (g := gb13012) (o := .cells #[.int .i64 t13007, .slice Ao22 t13008.length co22] 26 (0, 0)) (by (with_reducible repeat (first | refine blk_drewN ?_ _ | refine blk_drew ?_ | refine blk_alloc ?_ _)); exact BK13012.out)) : gb13017 ≠ gb13012)); replace BK13012 := aQ (blk_below (g := gb13012) (o := .cells #[.int .i64 t13007, .slice Ao22 t13008.length co22] 26 (0, 0)) (by (with_reducible repeat (first | refine blk_drewN ?_ _ | refine blk_drew ?_ | refine blk_alloc ?_ _)); exact BK13012.out) hb); clear hb hbox hg; have hnb26 := NB13017_13001.out; have hnc26 := NB13001_13017.out; have hnb27 := NB13017_13012.out; have hnc27 := NB13012_13017.out; have hcz28_0 : w25.cell? ⟨gb13017, 0, none⟩ = some (.int .i64 0) := (blk_cell BK13017.out 0).trans rfl; have hcz28_1 : w25.cell? ⟨gb13017, 1, none⟩ = some (.slice none 0 0) := (blk_cell BK13017.out 1).trans rfl; have hfz28_0 := blk_frozen BK13017.out 0; have hfz28_1 := blk_frozen BK13017.out 1; obtain ⟨Ao29, co29, eo29⟩ := Kd.R_slice HO13016.out; subst eo29) | ((with_reducible refine gate_callee (f := 44) rfl ?_); refine goesL_ (some 29) rfl rfl Try.func44 (by kernel_rfl) rfl #[.agg #[.int .i64 t13013, .slice Ao29 t13014.length co29]] rfl (by (try simp only [List.map_toArray, List.map_cons, List.map_nil]); first | done | rfl | (simp only [List.length_drop, List.length_take]; rfl)) ?_; (with_reducible refine (impl_CanonOf.calls k t13013 _ _ t13014 t13018 t13019 t13022 _ ?side1 ?side2 A10.out).mono ?_); (case side1 => refine (Kd.R_reads' (e := 3) (base := w.heap.size) (ok := fun k_ => ((True ∧ some k_ ≠ (.slice Ao17 t13004.length co17 : Value).ownBlock) ∧ some k_ ≠ (.slice Ao22 t13008.length co22 : Value).ownBlock)) (n := t13014.length) (c := co29) ?_).2.2; exact (by (with_reducible repeat (first | apply Kd.R_alloc | apply Kd.R_drewN | apply Kd.R_drew)); exact (Kd.R_mono (Kd.R_far (p := ⟨gb13017, 1, none⟩) (Kd.R_far (p := ⟨gb13017, 0, none⟩) (Kd.R_types HO13016.out BK13017.out (by decide)) (fun _ hk => hk.2) (.int .i64 t13013)) (fun _ hk => hk.2) (.slice Ao29 t13014.length co29)) (fun _ h_ => h_.1)))); (case side2 => exact (Kd.R_reads' HO13016.out).2.1); rintro e w30 ⟨v13020, rfl, ho0, hb⟩; refine ⟨_, rfl, ?_⟩; have HO13021 := aQ (Kd.R_lower (Kd.R_new' (Kd.R_new' (Kd.R_new' ho0 (Kd.R_lt (by (with_reducible repeat (first | apply Kd.R_alloc | apply Kd.R_drewN | apply Kd.R_drew)); exact (Kd.R_mono (Kd.R_far (p := ⟨gb13017, 1, none⟩) (Kd.R_far (p := ⟨gb13017, 0, none⟩) (Kd.R_types HO13006.out BK13017.out (by decide)) (fun _ hk => hk.2) (.int .i64 t13013)) (fun _ hk => hk.2) (.slice Ao29 t13014.length co29)) (fun _ h_ => h_.1))))) (Kd.R_lt (by (with_reducible repeat (first | apply Kd.R_alloc | apply Kd.R_drewN | apply Kd.R_drew)); exact (Kd.R_mono (Kd.R_far (p := ⟨gb13017, 1, none⟩) (Kd.R_far (p := ⟨gb13017, 0, none⟩) (Kd.R_types HO13010.out BK13017.out (by decide)) (fun _ hk => hk.2) (.int .i64 t13013)) (fun _ hk => hk.2) (.slice Ao29 t13014.length co29)) (fun _ h_ => h_.1))))) (Kd.R_lt (by (with_reducible repeat (first | apply Kd.R_alloc | apply Kd.R_drewN | apply Kd.R_drew)); exact (Kd.R_mono (Kd.R_far (p := ⟨gb13017, 1, none⟩) (Kd.R_far (p := ⟨gb13017, 0, none⟩) (Kd.R_types HO13016.out BK13017.out (by decide)) (fun _ hk => hk.2) (.int .i64 t13013)) (fun _ hk => hk.2) (.slice Ao29 t13014.length co29)) (fun _ h_ => h_.1))))) (below_size (by repeat (first | (with_reducible first | exact HB.out | apply below_alloc | apply pw_below_drewN | apply below_drew1 | refine below_set ?_ GE13001.out | refine below_set ?_ GE13012.out | refine below_set ?_ GE13017.out) | exact HB.out)))); replace HO13006 := aQ (Kd.R_elder' (by (with_reducible repeat (first | apply Kd.R_alloc | apply Kd.R_drewN | apply Kd.R_drew)); exact (Kd.R_mono (Kd.R_far (p := ⟨gb13017, 1, none⟩) (Kd.R_far (p := ⟨gb13017, 0, none⟩) (Kd.R_types HO13006.out BK13017.out (by decide)) (fun _ hk => hk.2) (.int .i64 t13013)) (fun _ hk => hk.2) (.slice Ao29 t13014.length co29)) (fun _ h_ => h_.1))) (Kd.R_base ho0) hb); replace HO13010 := aQ (Kd.R_elder' (by (with_reducible repeat (first | apply Kd.R_alloc | apply Kd.R_drewN | apply Kd.R_drew)); exact (Kd.R_mono (Kd.R_far (p := ⟨gb13017, 1, none⟩) (Kd.R_far (p := ⟨gb13017, 0, none⟩) (Kd.R_types HO13010.out BK13017.out (by decide)) (fun _ hk => hk.2) (.int .i64 t13013)) (fun _ hk => hk.2) (.slice Ao29 t13014.length co29)) (fun _ h_ => h_.1))) (Kd.R_base ho0) hb); replace HO13016 := aQ (Kd.R_elder' (by (with_reducible repeat (first | apply Kd.R_alloc | apply Kd.R_drewN | apply Kd.R_drew)); exact (Kd.R_mono (Kd.R_far (p := ⟨gb13017, 1, none⟩) (Kd.R_far (p := ⟨gb13017, 0, none⟩) (Kd.R_types HO13016.out BK13017.out (by decide)) (fun _ hk => hk.2) (.int .i64 t13013)) (fun _ hk => hk.2) (.slice Ao29 t13014.length co29)) (fun _ h_ => h_.1))) (Kd.R_base ho0) hb); replace BK13001 := aQ (blk_below (g := gb13001) (o := .cells #[.int .i64 a0_0, .slice A0_1 l0_1.length c0_1] 24 (0, 0)) (by (with_reducible repeat (first | refine blk_drewN ?_ _ | refine blk_drew ?_ | refine blk_alloc ?_ _)); refine blk_far ?_ NB13001_13017.out _; (with_reducible repeat (first | refine blk_drewN ?_ _ | refine blk_drew ?_ | refine blk_alloc ?_ _)); refine blk_far ?_ NB13001_13017.out _; (with_reducible repeat (first | refine blk_drewN ?_ _ | refine blk_drew ?_ | refine blk_alloc ?_ _)); exact BK13001.out) hb); replace BK13012 := aQ (blk_below (g := gb13012) (o := .cells #[.int .i64 t13007, .slice Ao22 t13008.length co22] 26 (0, 0)) (by (with_reducible repeat (first | refine blk_drewN ?_ _ | refine blk_drew ?_ | refine blk_alloc ?_ _)); refine blk_far ?_ NB13012_13017.out _; (with_reducible repeat (first | refine blk_drewN ?_ _ | refine blk_drew ?_ | refine blk_alloc ?_ _)); refine blk_far ?_ NB13012_13017.out _; (with_reducible repeat (first | refine blk_drewN ?_ _ | refine blk_drew ?_ | refine blk_alloc ?_ _)); exact BK13012.out) hb); replace BK13017 := aQ (blk_below (g := gb13017) (o := .cells #[.int .i64 t13013, .slice Ao29 t13014.length co29] 26 (0, 0)) (by (with_reducible repeat (first | refine blk_drewN ?_ _ | refine blk_drew ?_ | refine blk_alloc ?_ _)); refine blk_put (cs := #[.int .i64 t13013, .slice none 0 0]) ?_ 1 _ rfl; (with_reducible repeat (first | refine blk_drewN ?_ _ | refine blk_drew ?_ | refine blk_alloc ?_ _)); refine blk_put (cs := #[.int .i64 0, .slice none 0 0]) ?_ 0 _ rfl; (with_reducible repeat (first | refine blk_drewN ?_ _ | refine blk_drew ?_ | refine blk_alloc ?_ _)); exact BK13017.out) hb); replace HB := aQ (below_step (by repeat (first | (with_reducible first | exact HB.out | apply below_alloc | apply pw_below_drewN | apply below_drew1 | refine below_set ?_ GE13001.out | refine below_set ?_ GE13012.out | refine below_set ?_ GE13017.out) | exact HB.out)) hb); (try clear hb); (try clear hb2); (try clear hk); (try clear hi); (try clear ho0)) | ((with_reducible refine gate_dst (N := 7) rfl ?_); refine box_event ?hg (N := 7) ?hd (cs := #[.int .i64 0, .slice none 0 0]) (t := 26) ?hr ?_; (case hd => rfl); (case hg => rfl); (case hr => first | (go_simp; done) | (go_simp; rfl)); intro gb13023 hg w31 hbox hb; replace HO13006 := aQ (Kd.R_below (by (with_reducible repeat (first | apply Kd.R_alloc | apply Kd.R_drewN | apply Kd.R_drew)); exact HO13006.out) hb); replace HO13010 := aQ (Kd.R_below (by (with_reducible repeat (first | apply Kd.R_alloc | apply Kd.R_drewN | apply Kd.R_drew)); exact HO13010.out) hb); replace HO13016 := aQ (Kd.R_below (by (with_reducible repeat (first | apply Kd.R_alloc | apply Kd.R_drewN | apply Kd.R_drew)); exact HO13016.out) hb); replace HO13021 := aQ (Kd.R_below (by (with_reducible repeat (first | apply Kd.R_alloc | apply Kd.R_drewN | apply Kd.R_drew)); exact HO13021.out) hb); have BK13023 := aQ (hbox); have GW13023 := aQ ((by rw [hg]; exact (below_size (by repeat (first | (with_reducible first | exact HB.out | apply below_alloc | apply pw_below_drewN | apply below_drew1 | refine below_set ?_ GE13001.out | refine below_set ?_ GE13012.out | refine below_set ?_ GE13017.out) | exact HB.out))) : w.heap.size ≤ gb13023)); have GE13023 := aQ ((by rw [hg]; exact (below_size (by repeat (first | (with_reducible first | exact HB.out | apply below_alloc | apply pw_below_drewN | apply below_drew1 | refine below_set ?_ GE13001.out | refine below_set ?_ GE13012.out | refine below_set ?_ GE13017.out) | exact HB.out))) : w.heap.size ≤ gb13023)); replace HB := aQ (below_step (by repeat (first | (with_reducible first | exact HB.out | apply below_alloc | apply pw_below_drewN | apply below_drew1 | refine below_set ?_ GE13001.out | refine below_set ?_ GE13012.out | refine below_set ?_ GE13017.out) | exact HB.out)) hb); have NB13001_13023 := aQ ((by rw [hg]; exact Nat.ne_of_lt (blk_lt (g := gb13001) (o := .cells #[.int .i64 a0_0, .slice A0_1 l0_1.length c0_1] 24 (0, 0)) (by (with_reducible repeat (first | refine blk_drewN ?_ _ | refine blk_drew ?_ | refine blk_alloc ?_ _)); exact BK13001.out)) : gb13001 ≠ gb13023)); have NB13023_13001 := aQ ((by rw [hg]; exact Nat.ne_of_gt (blk_lt (g := gb13001) (o := .cells #[.int .i64 a0_0, .slice A0_1 l0_1.length c0_1] 24 (0, 0)) (by (with_reducible repeat (first | refine blk_drewN ?_ _ | refine blk_drew ?_ | refine blk_alloc ?_ _)); exact BK13001.out)) : gb13023 ≠ gb13001)); replace BK13001 := aQ (blk_below (g := gb13001) (o := .cells #[.int .i64 a0_0, .slice A0_1 l0_1.length c0_1] 24 (0, 0)) (by (with_reducible repeat (first | refine blk_drewN ?_ _ | refine blk_drew ?_ | refine blk_alloc ?_ _)); exact BK13001.out) hb); have NB13012_13023 := aQ ((by rw [hg]; exact Nat.ne_of_lt (blk_lt (g := gb13012) (o := .cells #[.int .i64 t13007, .slice Ao22 t13008.length co22] 26 (0, 0)) (by (with_reducible repeat (first | refine blk_drewN ?_ _ | refine blk_drew ?_ | refine blk_alloc ?_ _)); exact BK13012.out)) : gb13012 ≠ gb13023)); have NB13023_13012 := aQ ((by rw [hg]; exact Nat.ne_of_gt (blk_lt (g := gb13012) (o := .cells #[.int .i64 t13007, .slice Ao22 t13008.length co22] 26 (0, 0)) (by (with_reducible repeat (first | refine blk_drewN ?_ _ | refine blk_drew ?_ | refine blk_alloc ?_ _)); exact BK13012.out)) : gb13023 ≠ gb13012)); replace BK13012 := aQ (blk_below (g := gb13012) (o := .cells #[.int .i64 t13007, .slice Ao22 t13008.length co22] 26 (0, 0)) (by (with_reducible repeat (first | refine blk_drewN ?_ _ | refine blk_drew ?_ | refine blk_alloc ?_ _)); exact BK13012.out) hb); have NB13017_13023 := aQ ((by rw [hg]; exact Nat.ne_of_lt (blk_lt (g := gb13017) (o := .cells #[.int .i64 t13013, .slice Ao29 t13014.length co29] 26 (0, 0)) (by (with_reducible repeat (first | refine blk_drewN ?_ _ | refine blk_drew ?_ | refine blk_alloc ?_ _)); exact BK13017.out)) : gb13017 ≠ gb13023)); have NB13023_13017 := aQ ((by rw [hg]; exact Nat.ne_of_gt (blk_lt (g := gb13017) (o := .cells #[.int .i64 t13013, .slice Ao29 t13014.length co29] 26 (0, 0)) (by (with_reducible repeat (first | refine blk_drewN ?_ _ | refine blk_drew ?_ | refine blk_alloc ?_ _)); exact BK13017.out)) : gb13023 ≠ gb13017)); replace BK13017 := aQ (blk_below (g := gb13017) (o := .cells #[.int .i64 t13013, .slice Ao29 t13014.length co29] 26 (0, 0)) (by (with_reducible repeat (first | refine blk_drewN ?_ _ | refine blk_drew ?_ | refine blk_alloc ?_ _)); exact BK13017.out) hb); clear hb hbox hg; have hnb32 := NB13023_13001.out; have hnc32 := NB13001_13023.out; have hnb33 := NB13023_13012.out; have hnc33 := NB13012_13023.out; have hnb34 := NB13023_13017.out; have hnc34 := NB13017_13023.out; have hcz35_0 : w31.cell? ⟨gb13023, 0, none⟩ = some (.int .i64 0) := (blk_cell BK13023.out 0).trans rfl; have hcz35_1 : w31.cell? ⟨gb13023, 1, none⟩ = some (.slice none 0 0) := (blk_cell BK13023.out 1).trans rfl; have hfz35_0 := blk_frozen BK13023.out 0; have hfz35_1 := blk_frozen BK13023.out 1; obtain ⟨Ao36, co36, eo36⟩ := Kd.R_slice HO13021.out; subst eo36))
  (try simp only [Act.put, List.setIfInBounds_toArray, List.set_cons_zero, List.set_cons_succ])
  go_cut [40] (fun v40 wc => ∃ (kq : Nat) (x40_10 : Bool), v40 = .bool x40_10 ∧ Aside0 (laws_FnExactCanonOf.j0 kq t13011 t13022 x40_10 a0_0 l0_1 t13007 t13008 t13013 t13014 t13018 t13019 = some true) ∧ Aside0 (kq ≤ k) ∧ Aside0 (Kd.R (Kd.int .i64) 3 wc w.heap.size (fun k_ => some k_ ≠ ((.slice Ao29 t13014.length co29) : Value).ownBlock ∧ some k_ ≠ ((.slice Ao36 t13019.length co36) : Value).ownBlock) (.slice Ao22 t13008.length co22) t13008) ∧ Aside0 (Kd.R (Kd.int .i64) 3 wc w.heap.size (fun k_ => some k_ ≠ ((.slice Ao22 t13008.length co22) : Value).ownBlock ∧ some k_ ≠ ((.slice Ao36 t13019.length co36) : Value).ownBlock) (.slice Ao29 t13014.length co29) t13014) ∧ Aside0 (Kd.R (Kd.int .i64) 3 wc w.heap.size (fun k_ => some k_ ≠ ((.slice Ao22 t13008.length co22) : Value).ownBlock ∧ some k_ ≠ ((.slice Ao29 t13014.length co29) : Value).ownBlock) (.slice Ao36 t13019.length co36) t13019) ∧ Aside0 (wc.heap[gb13001]? = some (.cells #[.int .i64 a0_0, (.slice A0_1 l0_1.length c0_1)] 24 (0, 0))) ∧ Aside0 (wc.heap[gb13012]? = some (.cells #[.int .i64 t13007, (.slice Ao22 t13008.length co22)] 26 (0, 0))) ∧ Aside0 (wc.heap[gb13017]? = some (.cells #[.int .i64 t13013, (.slice Ao29 t13014.length co29)] 26 (0, 0))) ∧ Aside0 (wc.heap[gb13023]? = some (.cells #[.int .i64 t13018, (.slice Ao36 t13019.length co36)] 26 (0, 0))) ∧ Aside0 (Below w.heap.size w wc))
  case first =>
   have H := HC11.out
   clear HC11
   replace H := Option.bind_eq_some_iff.mp H
   obtain ⟨t13024, A370, H⟩ := H
   replace H : (if t13024 = true then (laws_FnExactCanonOf.j0 k t13011 t13022 (t13022 != t13011) a0_0 l0_1 t13007 t13008 t13013 t13014 t13018 t13019) else (laws_FnExactCanonOf.j0 k t13011 t13022 true a0_0 l0_1 t13007 t13008 t13013 t13014 t13018 t13019)) = some true := H
   have A37 := aQ A370
   clear A370
   by_cases c38 : t13024 = true
   ·subst c38
    have H1 : (laws_FnExactCanonOf.j0 k t13011 t13022 (t13022 != t13011) a0_0 l0_1 t13007 t13008 t13013 t13014 t13018 t13019) = some true := by rw [if_pos rfl] at H; exact H
    clear H
    have H := H1
    clear H1
    have H' := aQ H
    clear H
    have hnb39 := NB13023_13001.out
    have hnc39 := NB13001_13023.out
    have hnb40 := NB13023_13012.out
    have hnc40 := NB13012_13023.out
    have hnb41 := NB13023_13017.out
    have hnc41 := NB13017_13023.out
    have hcz42_0 : w31.cell? ⟨gb13023, 0, none⟩ = some (.int .i64 0) := (blk_cell BK13023.out 0).trans rfl
    have hcz42_1 : w31.cell? ⟨gb13023, 1, none⟩ = some (.slice none 0 0) := (blk_cell BK13023.out 1).trans rfl
    have hfz42_0 := blk_frozen BK13023.out 0
    have hfz42_1 := blk_frozen BK13023.out 1
    have hnb43 := NB13012_13001.out
    have hnc43 := NB13001_13012.out
    have hnb44 := NB13012_13017.out
    have hnc44 := NB13017_13012.out
    have hcz45_0 : w31.cell? ⟨gb13012, 0, none⟩ = some (.int .i64 t13007) := (blk_cell BK13012.out 0).trans rfl
    have hcz45_1 : w31.cell? ⟨gb13012, 1, none⟩ = some (.slice Ao22 t13008.length co22) := (blk_cell BK13012.out 1).trans rfl
    have hfz45_0 := blk_frozen BK13012.out 0
    have hfz45_1 := blk_frozen BK13012.out 1
    go_wp2_with (first | ((with_reducible refine gate_callee (f := 20) rfl ?_); refine goesL_ (some 34) rfl rfl Try.func20 (by kernel_rfl) rfl #[.agg #[.int .i64 t13018, .slice Ao36 t13019.length co36], .agg #[.int .i64 t13007, .slice Ao22 t13008.length co22]] rfl (by (try simp only [List.map_toArray, List.map_cons, List.map_nil]); first | done | rfl | (simp only [List.length_drop, List.length_take]; rfl)) ?_; (with_reducible refine (laws_eqMatroid.calls k t13018 _ _ t13019 t13007 _ _ t13008 true _ ?side1 ?side2 ?side3 ?side4 A37.out).mono ?_); (case side1 => refine (Kd.R_reads' (e := 3) (base := w.heap.size) (ok := fun k_ => (((True ∧ some k_ ≠ (.slice Ao17 t13004.length co17 : Value).ownBlock) ∧ some k_ ≠ (.slice Ao22 t13008.length co22 : Value).ownBlock) ∧ some k_ ≠ (.slice Ao29 t13014.length co29 : Value).ownBlock)) (n := t13019.length) (c := co36) ?_).2.2; exact (by (with_reducible repeat (first | apply Kd.R_alloc | apply Kd.R_drewN | apply Kd.R_drew)); exact (Kd.R_mono (Kd.R_far (p := ⟨gb13023, 1, none⟩) (Kd.R_far (p := ⟨gb13023, 0, none⟩) (Kd.R_types HO13021.out BK13023.out (by decide)) (fun _ hk => hk.2) (.int .i64 t13018)) (fun _ hk => hk.2) (.slice Ao36 t13019.length co36)) (fun _ h_ => h_.1)))); (case side2 => exact (Kd.R_reads' HO13021.out).2.1); (case side3 => refine (Kd.R_reads' (e := 3) (base := w.heap.size) (ok := fun k_ => (((True ∧ some k_ ≠ (.slice Ao17 t13004.length co17 : Value).ownBlock) ∧ some k_ ≠ (.slice Ao29 t13014.length co29 : Value).ownBlock) ∧ some k_ ≠ (.slice Ao36 t13019.length co36 : Value).ownBlock)) (n := t13008.length) (c := co22) ?_).2.2; exact (by (with_reducible repeat (first | apply Kd.R_alloc | apply Kd.R_drewN | apply Kd.R_drew)); exact (Kd.R_mono (Kd.R_far (p := ⟨gb13023, 1, none⟩) (Kd.R_far (p := ⟨gb13023, 0, none⟩) (Kd.R_types HO13010.out BK13023.out (by decide)) (fun _ hk => hk.2) (.int .i64 t13018)) (fun _ hk => hk.2) (.slice Ao36 t13019.length co36)) (fun _ h_ => h_.1)))); (case side4 => exact (Kd.R_reads' HO13010.out).2.1); rintro e w46 ⟨rfl, hb⟩; refine ⟨_, rfl, ?_⟩; replace HO13006 := aQ (Kd.R_below (by (with_reducible repeat (first | apply Kd.R_alloc | apply Kd.R_drewN | apply Kd.R_drew)); exact (Kd.R_mono (Kd.R_far (p := ⟨gb13023, 1, none⟩) (Kd.R_far (p := ⟨gb13023, 0, none⟩) (Kd.R_types HO13006.out BK13023.out (by decide)) (fun _ hk => hk.2) (.int .i64 t13018)) (fun _ hk => hk.2) (.slice Ao36 t13019.length co36)) (fun _ h_ => h_.1))) hb); replace HO13010 := aQ (Kd.R_below (by (with_reducible repeat (first | apply Kd.R_alloc | apply Kd.R_drewN | apply Kd.R_drew)); exact (Kd.R_mono (Kd.R_far (p := ⟨gb13023, 1, none⟩) (Kd.R_far (p := ⟨gb13023, 0, none⟩) (Kd.R_types HO13010.out BK13023.out (by decide)) (fun _ hk => hk.2) (.int .i64 t13018)) (fun _ hk => hk.2) (.slice Ao36 t13019.length co36)) (fun _ h_ => h_.1))) hb); replace HO13016 := aQ (Kd.R_below (by (with_reducible repeat (first | apply Kd.R_alloc | apply Kd.R_drewN | apply Kd.R_drew)); exact (Kd.R_mono (Kd.R_far (p := ⟨gb13023, 1, none⟩) (Kd.R_far (p := ⟨gb13023, 0, none⟩) (Kd.R_types HO13016.out BK13023.out (by decide)) (fun _ hk => hk.2) (.int .i64 t13018)) (fun _ hk => hk.2) (.slice Ao36 t13019.length co36)) (fun _ h_ => h_.1))) hb); replace HO13021 := aQ (Kd.R_below (by (with_reducible repeat (first | apply Kd.R_alloc | apply Kd.R_drewN | apply Kd.R_drew)); exact (Kd.R_mono (Kd.R_far (p := ⟨gb13023, 1, none⟩) (Kd.R_far (p := ⟨gb13023, 0, none⟩) (Kd.R_types HO13021.out BK13023.out (by decide)) (fun _ hk => hk.2) (.int .i64 t13018)) (fun _ hk => hk.2) (.slice Ao36 t13019.length co36)) (fun _ h_ => h_.1))) hb); replace BK13001 := aQ (blk_below (g := gb13001) (o := .cells #[.int .i64 a0_0, .slice A0_1 l0_1.length c0_1] 24 (0, 0)) (by (with_reducible repeat (first | refine blk_drewN ?_ _ | refine blk_drew ?_ | refine blk_alloc ?_ _)); refine blk_far ?_ NB13001_13023.out _; (with_reducible repeat (first | refine blk_drewN ?_ _ | refine blk_drew ?_ | refine blk_alloc ?_ _)); refine blk_far ?_ NB13001_13023.out _; (with_reducible repeat (first | refine blk_drewN ?_ _ | refine blk_drew ?_ | refine blk_alloc ?_ _)); exact BK13001.out) hb); replace BK13012 := aQ (blk_below (g := gb13012) (o := .cells #[.int .i64 t13007, .slice Ao22 t13008.length co22] 26 (0, 0)) (by (with_reducible repeat (first | refine blk_drewN ?_ _ | refine blk_drew ?_ | refine blk_alloc ?_ _)); refine blk_far ?_ NB13012_13023.out _; (with_reducible repeat (first | refine blk_drewN ?_ _ | refine blk_drew ?_ | refine blk_alloc ?_ _)); refine blk_far ?_ NB13012_13023.out _; (with_reducible repeat (first | refine blk_drewN ?_ _ | refine blk_drew ?_ | refine blk_alloc ?_ _)); exact BK13012.out) hb); replace BK13017 := aQ (blk_below (g := gb13017) (o := .cells #[.int .i64 t13013, .slice Ao29 t13014.length co29] 26 (0, 0)) (by (with_reducible repeat (first | refine blk_drewN ?_ _ | refine blk_drew ?_ | refine blk_alloc ?_ _)); refine blk_far ?_ NB13017_13023.out _; (with_reducible repeat (first | refine blk_drewN ?_ _ | refine blk_drew ?_ | refine blk_alloc ?_ _)); refine blk_far ?_ NB13017_13023.out _; (with_reducible repeat (first | refine blk_drewN ?_ _ | refine blk_drew ?_ | refine blk_alloc ?_ _)); exact BK13017.out) hb); replace BK13023 := aQ (blk_below (g := gb13023) (o := .cells #[.int .i64 t13018, .slice Ao36 t13019.length co36] 26 (0, 0)) (by (with_reducible repeat (first | refine blk_drewN ?_ _ | refine blk_drew ?_ | refine blk_alloc ?_ _)); refine blk_put (cs := #[.int .i64 t13018, .slice none 0 0]) ?_ 1 _ rfl; (with_reducible repeat (first | refine blk_drewN ?_ _ | refine blk_drew ?_ | refine blk_alloc ?_ _)); refine blk_put (cs := #[.int .i64 0, .slice none 0 0]) ?_ 0 _ rfl; (with_reducible repeat (first | refine blk_drewN ?_ _ | refine blk_drew ?_ | refine blk_alloc ?_ _)); exact BK13023.out) hb); replace HB := aQ (below_step (by repeat (first | (with_reducible first | exact HB.out | apply below_alloc | apply pw_below_drewN | apply below_drew1 | refine below_set ?_ GE13001.out | refine below_set ?_ GE13012.out | refine below_set ?_ GE13017.out | refine below_set ?_ GE13023.out) | exact HB.out)) hb); (try clear hb); (try clear hb2); (try clear hk); (try clear hi)))
    go_meet
    case rel => exact ⟨_, ((t13022 != t13011)), (by first | rfl | (simp; done) | (simp [*]; done)), H', ⟨by first | omega | exact Nat.le_refl _⟩, ⟨by (with_reducible repeat (first | apply Kd.R_alloc | apply Kd.R_drewN | apply Kd.R_drew)); exact Kd.R_mono HO13010.out (fun _ hk => ⟨hk.1.2, hk.2⟩)⟩, ⟨by (with_reducible repeat (first | apply Kd.R_alloc | apply Kd.R_drewN | apply Kd.R_drew)); exact Kd.R_mono HO13016.out (fun _ hk => ⟨hk.1.2, hk.2⟩)⟩, ⟨by (with_reducible repeat (first | apply Kd.R_alloc | apply Kd.R_drewN | apply Kd.R_drew)); exact Kd.R_mono HO13021.out (fun _ hk => ⟨hk.1.2, hk.2⟩)⟩, ⟨by (with_reducible repeat (first | refine blk_drewN ?_ _ | refine blk_drew ?_ | refine blk_alloc ?_ _)); exact BK13001.out⟩, ⟨by (with_reducible repeat (first | refine blk_drewN ?_ _ | refine blk_drew ?_ | refine blk_alloc ?_ _)); exact BK13012.out⟩, ⟨by (with_reducible repeat (first | refine blk_drewN ?_ _ | refine blk_drew ?_ | refine blk_alloc ?_ _)); exact BK13017.out⟩, ⟨by (with_reducible repeat (first | refine blk_drewN ?_ _ | refine blk_drew ?_ | refine blk_alloc ?_ _)); exact BK13023.out⟩, ⟨by repeat (first | (with_reducible first | exact HB.out | apply below_alloc | apply pw_below_drewN | apply below_drew1 | refine below_set ?_ GE13001.out | refine below_set ?_ GE13012.out | refine below_set ?_ GE13017.out | refine below_set ?_ GE13023.out) | exact HB.out)⟩⟩
   ·replace c38 := Bool.eq_false_iff.mpr c38
    subst c38
    have H1 : (laws_FnExactCanonOf.j0 k t13011 t13022 true a0_0 l0_1 t13007 t13008 t13013 t13014 t13018 t13019) = some true := by rw [if_neg (show ¬ (false = true) by decide)] at H; exact H
    clear H
    have H := H1
    clear H1
    have H' := aQ H
    clear H
    have hnb47 := NB13023_13001.out
    have hnc47 := NB13001_13023.out
    have hnb48 := NB13023_13012.out
    have hnc48 := NB13012_13023.out
    have hnb49 := NB13023_13017.out
    have hnc49 := NB13017_13023.out
    have hcz50_0 : w31.cell? ⟨gb13023, 0, none⟩ = some (.int .i64 0) := (blk_cell BK13023.out 0).trans rfl
    have hcz50_1 : w31.cell? ⟨gb13023, 1, none⟩ = some (.slice none 0 0) := (blk_cell BK13023.out 1).trans rfl
    have hfz50_0 := blk_frozen BK13023.out 0
    have hfz50_1 := blk_frozen BK13023.out 1
    have hnb51 := NB13012_13001.out
    have hnc51 := NB13001_13012.out
    have hnb52 := NB13012_13017.out
    have hnc52 := NB13017_13012.out
    have hcz53_0 : w31.cell? ⟨gb13012, 0, none⟩ = some (.int .i64 t13007) := (blk_cell BK13012.out 0).trans rfl
    have hcz53_1 : w31.cell? ⟨gb13012, 1, none⟩ = some (.slice Ao22 t13008.length co22) := (blk_cell BK13012.out 1).trans rfl
    have hfz53_0 := blk_frozen BK13012.out 0
    have hfz53_1 := blk_frozen BK13012.out 1
    go_wp2_with (first | ((with_reducible refine gate_callee (f := 20) rfl ?_); refine goesL_ (some 34) rfl rfl Try.func20 (by kernel_rfl) rfl #[.agg #[.int .i64 t13018, .slice Ao36 t13019.length co36], .agg #[.int .i64 t13007, .slice Ao22 t13008.length co22]] rfl (by (try simp only [List.map_toArray, List.map_cons, List.map_nil]); first | done | rfl | (simp only [List.length_drop, List.length_take]; rfl)) ?_; (with_reducible refine (laws_eqMatroid.calls k t13018 _ _ t13019 t13007 _ _ t13008 false _ ?side1 ?side2 ?side3 ?side4 A37.out).mono ?_); (case side1 => refine (Kd.R_reads' (e := 3) (base := w.heap.size) (ok := fun k_ => (((True ∧ some k_ ≠ (.slice Ao17 t13004.length co17 : Value).ownBlock) ∧ some k_ ≠ (.slice Ao22 t13008.length co22 : Value).ownBlock) ∧ some k_ ≠ (.slice Ao29 t13014.length co29 : Value).ownBlock)) (n := t13019.length) (c := co36) ?_).2.2; exact (by (with_reducible repeat (first | apply Kd.R_alloc | apply Kd.R_drewN | apply Kd.R_drew)); exact (Kd.R_mono (Kd.R_far (p := ⟨gb13023, 1, none⟩) (Kd.R_far (p := ⟨gb13023, 0, none⟩) (Kd.R_types HO13021.out BK13023.out (by decide)) (fun _ hk => hk.2) (.int .i64 t13018)) (fun _ hk => hk.2) (.slice Ao36 t13019.length co36)) (fun _ h_ => h_.1)))); (case side2 => exact (Kd.R_reads' HO13021.out).2.1); (case side3 => refine (Kd.R_reads' (e := 3) (base := w.heap.size) (ok := fun k_ => (((True ∧ some k_ ≠ (.slice Ao17 t13004.length co17 : Value).ownBlock) ∧ some k_ ≠ (.slice Ao29 t13014.length co29 : Value).ownBlock) ∧ some k_ ≠ (.slice Ao36 t13019.length co36 : Value).ownBlock)) (n := t13008.length) (c := co22) ?_).2.2; exact (by (with_reducible repeat (first | apply Kd.R_alloc | apply Kd.R_drewN | apply Kd.R_drew)); exact (Kd.R_mono (Kd.R_far (p := ⟨gb13023, 1, none⟩) (Kd.R_far (p := ⟨gb13023, 0, none⟩) (Kd.R_types HO13010.out BK13023.out (by decide)) (fun _ hk => hk.2) (.int .i64 t13018)) (fun _ hk => hk.2) (.slice Ao36 t13019.length co36)) (fun _ h_ => h_.1)))); (case side4 => exact (Kd.R_reads' HO13010.out).2.1); rintro e w54 ⟨rfl, hb⟩; refine ⟨_, rfl, ?_⟩; replace HO13006 := aQ (Kd.R_below (by (with_reducible repeat (first | apply Kd.R_alloc | apply Kd.R_drewN | apply Kd.R_drew)); exact (Kd.R_mono (Kd.R_far (p := ⟨gb13023, 1, none⟩) (Kd.R_far (p := ⟨gb13023, 0, none⟩) (Kd.R_types HO13006.out BK13023.out (by decide)) (fun _ hk => hk.2) (.int .i64 t13018)) (fun _ hk => hk.2) (.slice Ao36 t13019.length co36)) (fun _ h_ => h_.1))) hb); replace HO13010 := aQ (Kd.R_below (by (with_reducible repeat (first | apply Kd.R_alloc | apply Kd.R_drewN | apply Kd.R_drew)); exact (Kd.R_mono (Kd.R_far (p := ⟨gb13023, 1, none⟩) (Kd.R_far (p := ⟨gb13023, 0, none⟩) (Kd.R_types HO13010.out BK13023.out (by decide)) (fun _ hk => hk.2) (.int .i64 t13018)) (fun _ hk => hk.2) (.slice Ao36 t13019.length co36)) (fun _ h_ => h_.1))) hb); replace HO13016 := aQ (Kd.R_below (by (with_reducible repeat (first | apply Kd.R_alloc | apply Kd.R_drewN | apply Kd.R_drew)); exact (Kd.R_mono (Kd.R_far (p := ⟨gb13023, 1, none⟩) (Kd.R_far (p := ⟨gb13023, 0, none⟩) (Kd.R_types HO13016.out BK13023.out (by decide)) (fun _ hk => hk.2) (.int .i64 t13018)) (fun _ hk => hk.2) (.slice Ao36 t13019.length co36)) (fun _ h_ => h_.1))) hb); replace HO13021 := aQ (Kd.R_below (by (with_reducible repeat (first | apply Kd.R_alloc | apply Kd.R_drewN | apply Kd.R_drew)); exact (Kd.R_mono (Kd.R_far (p := ⟨gb13023, 1, none⟩) (Kd.R_far (p := ⟨gb13023, 0, none⟩) (Kd.R_types HO13021.out BK13023.out (by decide)) (fun _ hk => hk.2) (.int .i64 t13018)) (fun _ hk => hk.2) (.slice Ao36 t13019.length co36)) (fun _ h_ => h_.1))) hb); replace BK13001 := aQ (blk_below (g := gb13001) (o := .cells #[.int .i64 a0_0, .slice A0_1 l0_1.length c0_1] 24 (0, 0)) (by (with_reducible repeat (first | refine blk_drewN ?_ _ | refine blk_drew ?_ | refine blk_alloc ?_ _)); refine blk_far ?_ NB13001_13023.out _; (with_reducible repeat (first | refine blk_drewN ?_ _ | refine blk_drew ?_ | refine blk_alloc ?_ _)); refine blk_far ?_ NB13001_13023.out _; (with_reducible repeat (first | refine blk_drewN ?_ _ | refine blk_drew ?_ | refine blk_alloc ?_ _)); exact BK13001.out) hb); replace BK13012 := aQ (blk_below (g := gb13012) (o := .cells #[.int .i64 t13007, .slice Ao22 t13008.length co22] 26 (0, 0)) (by (with_reducible repeat (first | refine blk_drewN ?_ _ | refine blk_drew ?_ | refine blk_alloc ?_ _)); refine blk_far ?_ NB13012_13023.out _; (with_reducible repeat (first | refine blk_drewN ?_ _ | refine blk_drew ?_ | refine blk_alloc ?_ _)); refine blk_far ?_ NB13012_13023.out _; (with_reducible repeat (first | refine blk_drewN ?_ _ | refine blk_drew ?_ | refine blk_alloc ?_ _)); exact BK13012.out) hb); replace BK13017 := aQ (blk_below (g := gb13017) (o := .cells #[.int .i64 t13013, .slice Ao29 t13014.length co29] 26 (0, 0)) (by (with_reducible repeat (first | refine blk_drewN ?_ _ | refine blk_drew ?_ | refine blk_alloc ?_ _)); refine blk_far ?_ NB13017_13023.out _; (with_reducible repeat (first | refine blk_drewN ?_ _ | refine blk_drew ?_ | refine blk_alloc ?_ _)); refine blk_far ?_ NB13017_13023.out _; (with_reducible repeat (first | refine blk_drewN ?_ _ | refine blk_drew ?_ | refine blk_alloc ?_ _)); exact BK13017.out) hb); replace BK13023 := aQ (blk_below (g := gb13023) (o := .cells #[.int .i64 t13018, .slice Ao36 t13019.length co36] 26 (0, 0)) (by (with_reducible repeat (first | refine blk_drewN ?_ _ | refine blk_drew ?_ | refine blk_alloc ?_ _)); refine blk_put (cs := #[.int .i64 t13018, .slice none 0 0]) ?_ 1 _ rfl; (with_reducible repeat (first | refine blk_drewN ?_ _ | refine blk_drew ?_ | refine blk_alloc ?_ _)); refine blk_put (cs := #[.int .i64 0, .slice none 0 0]) ?_ 0 _ rfl; (with_reducible repeat (first | refine blk_drewN ?_ _ | refine blk_drew ?_ | refine blk_alloc ?_ _)); exact BK13023.out) hb); replace HB := aQ (below_step (by repeat (first | (with_reducible first | exact HB.out | apply below_alloc | apply pw_below_drewN | apply below_drew1 | refine below_set ?_ GE13001.out | refine below_set ?_ GE13012.out | refine below_set ?_ GE13017.out | refine below_set ?_ GE13023.out) | exact HB.out)) hb); (try clear hb); (try clear hb2); (try clear hk); (try clear hi)))
    go_meet
    case rel => exact ⟨_, (true), (by first | rfl | (simp; done) | (simp [*]; done)), H', ⟨by first | omega | exact Nat.le_refl _⟩, ⟨by (with_reducible repeat (first | apply Kd.R_alloc | apply Kd.R_drewN | apply Kd.R_drew)); exact Kd.R_mono HO13010.out (fun _ hk => ⟨hk.1.2, hk.2⟩)⟩, ⟨by (with_reducible repeat (first | apply Kd.R_alloc | apply Kd.R_drewN | apply Kd.R_drew)); exact Kd.R_mono HO13016.out (fun _ hk => ⟨hk.1.2, hk.2⟩)⟩, ⟨by (with_reducible repeat (first | apply Kd.R_alloc | apply Kd.R_drewN | apply Kd.R_drew)); exact Kd.R_mono HO13021.out (fun _ hk => ⟨hk.1.2, hk.2⟩)⟩, ⟨by (with_reducible repeat (first | refine blk_drewN ?_ _ | refine blk_drew ?_ | refine blk_alloc ?_ _)); exact BK13001.out⟩, ⟨by (with_reducible repeat (first | refine blk_drewN ?_ _ | refine blk_drew ?_ | refine blk_alloc ?_ _)); exact BK13012.out⟩, ⟨by (with_reducible repeat (first | refine blk_drewN ?_ _ | refine blk_drew ?_ | refine blk_alloc ?_ _)); exact BK13017.out⟩, ⟨by (with_reducible repeat (first | refine blk_drewN ?_ _ | refine blk_drew ?_ | refine blk_alloc ?_ _)); exact BK13023.out⟩, ⟨by repeat (first | (with_reducible first | exact HB.out | apply below_alloc | apply pw_below_drewN | apply below_drew1 | refine below_set ?_ GE13001.out | refine below_set ?_ GE13012.out | refine below_set ?_ GE13017.out | refine below_set ?_ GE13023.out) | exact HB.out)⟩⟩
  case rest =>
   clear HC11
   try clear c1
   try clear c2
   try clear p2
   try clear c3
   try clear c3b0
   try clear c4
   try clear c5
   try clear c12
   try clear c16
   try clear c18
   try clear c20
   try clear c26
   try clear c27
   try clear c32
   try clear c33
   try clear c34
   try clear c38
   try clear c39
   try clear c40
   try clear c41
   try clear c43
   try clear c44
   try clear c47
   try clear c48
   try clear c49
   try clear c51
   try clear c52
   try clear hcz13_0
   try clear hcz13_1
   try clear hcz15_0
   try clear hcz15_1
   try clear hcz21_0
   try clear hcz21_1
   try clear hcz23_0
   try clear hcz23_1
   try clear hcz28_0
   try clear hcz28_1
   try clear hcz35_0
   try clear hcz35_1
   try clear hcz42_0
   try clear hcz42_1
   try clear hcz45_0
   try clear hcz45_1
   try clear hcz50_0
   try clear hcz50_1
   try clear hcz53_0
   try clear hcz53_1
   try clear hcz5_0
   try clear hcz5_1
   try clear hfz13_0
   try clear hfz13_1
   try clear hfz15_0
   try clear hfz15_1
   try clear hfz21_0
   try clear hfz21_1
   try clear hfz23_0
   try clear hfz23_1
   try clear hfz28_0
   try clear hfz28_1
   try clear hfz35_0
   try clear hfz35_1
   try clear hfz42_0
   try clear hfz42_1
   try clear hfz45_0
   try clear hfz45_1
   try clear hfz50_0
   try clear hfz50_1
   try clear hfz53_0
   try clear hfz53_1
   try clear hfz5_0
   try clear hfz5_1
   obtain ⟨kq, x40_10, rfl, HA, HJ10, HO_13013001, HO_13018001, HO_13024001, BK13001, BK13012, BK13017, BK13023, HB⟩ := hcut
   cases kq with
   | zero => exact absurd HA.out (by simp [laws_FnExactCanonOf.j0])
   | succ kj10 =>
    have H := HA.out
    clear HA
    simp only [laws_FnExactCanonOf.j0] at H
    by_cases c55 : x40_10 = true
    ·subst c55
     have H1 : (some false) = some true := by rw [if_pos rfl] at H; exact H
     clear H
     have H := H1
     clear H1
     exact absurd (Option.some.inj H) (by decide)
    ·replace c55 := Bool.eq_false_iff.mpr c55
     subst c55
     have H1 : ((laws_toMatroid.f kj10 a0_0 l0_1).bind fun bt13025 => ((laws_eqMatroid.f kj10 t13013 t13014 bt13025.1 bt13025.2).bind fun t13029 => (if t13029 = true then ((laws_markMatroid.f kj10 t13013 t13014 1).bind fun bt13030 => (if bt13030.1 < 0 then (laws_FnExactCanonOf.j1 kj10 t13011 true a0_0 l0_1 t13007 t13008 t13018 t13019) else ((laws_eqMatroid.f kj10 t13018 t13019 t13007 t13008).bind fun t13032 => (if t13032 = true then (laws_FnExactCanonOf.j1 kj10 t13011 (t13022 != t13011) a0_0 l0_1 t13007 t13008 t13018 t13019) else (laws_FnExactCanonOf.j1 kj10 t13011 true a0_0 l0_1 t13007 t13008 t13018 t13019))))) else (some false)))) = some true := by rw [if_neg (show ¬ (false = true) by decide)] at H; exact H
     clear H
     have H := H1
     clear H1
     replace H := Option.bind_eq_some_iff.mp H
     obtain ⟨⟨t13025, t13026⟩, A560, H⟩ := H
     replace H : ((laws_eqMatroid.f kj10 t13013 t13014 t13025 t13026).bind fun t13029 => (if t13029 = true then ((laws_markMatroid.f kj10 t13013 t13014 1).bind fun bt13030 => (if bt13030.1 < 0 then (laws_FnExactCanonOf.j1 kj10 t13011 true a0_0 l0_1 t13007 t13008 t13018 t13019) else ((laws_eqMatroid.f kj10 t13018 t13019 t13007 t13008).bind fun t13032 => (if t13032 = true then (laws_FnExactCanonOf.j1 kj10 t13011 (t13022 != t13011) a0_0 l0_1 t13007 t13008 t13018 t13019) else (laws_FnExactCanonOf.j1 kj10 t13011 true a0_0 l0_1 t13007 t13008 t13018 t13019))))) else (some false))) = some true := H
     have A56 := aQ A560
     clear A560
     replace H := Option.bind_eq_some_iff.mp H
     obtain ⟨t13029, A570, H⟩ := H
     replace H : (if t13029 = true then ((laws_markMatroid.f kj10 t13013 t13014 1).bind fun bt13030 => (if bt13030.1 < 0 then (laws_FnExactCanonOf.j1 kj10 t13011 true a0_0 l0_1 t13007 t13008 t13018 t13019) else ((laws_eqMatroid.f kj10 t13018 t13019 t13007 t13008).bind fun t13032 => (if t13032 = true then (laws_FnExactCanonOf.j1 kj10 t13011 (t13022 != t13011) a0_0 l0_1 t13007 t13008 t13018 t13019) else (laws_FnExactCanonOf.j1 kj10 t13011 true a0_0 l0_1 t13007 t13008 t13018 t13019))))) else (some false)) = some true := H
     have A57 := aQ A570
     clear A570
     by_cases c58 : t13029 = true
     ·subst c58
      have H1 : ((laws_markMatroid.f kj10 t13013 t13014 1).bind fun bt13030 => (if bt13030.1 < 0 then (laws_FnExactCanonOf.j1 kj10 t13011 true a0_0 l0_1 t13007 t13008 t13018 t13019) else ((laws_eqMatroid.f kj10 t13018 t13019 t13007 t13008).bind fun t13032 => (if t13032 = true then (laws_FnExactCanonOf.j1 kj10 t13011 (t13022 != t13011) a0_0 l0_1 t13007 t13008 t13018 t13019) else (laws_FnExactCanonOf.j1 kj10 t13011 true a0_0 l0_1 t13007 t13008 t13018 t13019))))) = some true := by rw [if_pos rfl] at H; exact H
      clear H
      have H := H1
      clear H1
      replace H := Option.bind_eq_some_iff.mp H
      obtain ⟨⟨t13030, t13031⟩, A590, H⟩ := H
      replace H : (if t13030 < 0 then (laws_FnExactCanonOf.j1 kj10 t13011 true a0_0 l0_1 t13007 t13008 t13018 t13019) else ((laws_eqMatroid.f kj10 t13018 t13019 t13007 t13008).bind fun t13032 => (if t13032 = true then (laws_FnExactCanonOf.j1 kj10 t13011 (t13022 != t13011) a0_0 l0_1 t13007 t13008 t13018 t13019) else (laws_FnExactCanonOf.j1 kj10 t13011 true a0_0 l0_1 t13007 t13008 t13018 t13019)))) = some true := H
      have A59 := aQ A590
      clear A590
      have HC60 := aQ H
      clear H
      try go_wp2
      have n0_ := aQ (Kd.R_drew HO_13013001.out)
      have n1_ := aQ (Kd.R_drew HO_13018001.out)
      have n2_ := aQ (Kd.R_drew HO_13024001.out)
      have n3_ := aQ (blk_drew BK13001.out)
      have n4_ := aQ (blk_drew BK13012.out)
      have n5_ := aQ (blk_drew BK13017.out)
      have n6_ := aQ (blk_drew BK13023.out)
      have n7_ := aQ (below_drew1 HB.out)
      clear HO_13013001
      clear HO_13018001
      clear HO_13024001
      clear BK13001
      clear BK13012
      clear BK13017
      clear BK13023
      clear HB
      have HO_13013001 := n0_
      have HO_13018001 := n1_
      have HO_13024001 := n2_
      have BK13001 := n3_
      have BK13012 := n4_
      have BK13017 := n5_
      have BK13023 := n6_
      have HB := n7_
      clear n0_ n1_ n2_ n3_ n4_ n5_ n6_ n7_
      refine start_ (n := 5) (S := fun w' => w'.cell? ⟨gb13017, 0, none⟩ = some (.int .i64 t13013) ∧ w'.cell? ⟨gb13017, 1, none⟩ = some (.slice Ao29 t13014.length co29) ∧ w'.cell? ⟨gb13001, 0, none⟩ = some (.int .i64 a0_0) ∧ w'.cell? ⟨gb13001, 1, none⟩ = some (.slice A0_1 l0_1.length c0_1)) (ds := []) #[false, false, false, false, false] (by kernel_rfl) rfl rfl ⟨(blk_cell BK13017.out 0).trans rfl, (blk_cell BK13017.out 1).trans rfl, (blk_cell BK13001.out 0).trans rfl, (blk_cell BK13001.out 1).trans rfl⟩ (fun hHeld => ?_)
      generalize wc.drew = w61 at HO_13013001 HO_13018001 HO_13024001 BK13001 BK13012 BK13017 BK13023 HB hHeld ⊢
      refine take_ (i := 0) (N := some 41) (v := ?_) (a' := ?_) #[true, false, false, false, false] rfl rfl (by kernel_rfl) (fun _ _ _ h => h) (Or.inl ⟨by rfl, ?_⟩) hHeld ?_ ?_
      rotate_left
      ·rintro w' ⟨s0, s1, s2, s3⟩
       go_simp
       with_reducible rfl
      rotate_left
      ·simp only [Act.put, List.setIfInBounds_toArray, List.set_cons_zero, List.set_cons_succ, i64_w, i32_w]
       rfl
      refine take_ (i := 1) (N := some 42) (v := ?_) (a' := ?_) #[true, true, false, false, false] rfl rfl (by kernel_rfl) (fun _ _ _ h => h) (Or.inl ⟨by rfl, ?_⟩) hHeld ?_ ?_
      rotate_left
      ·rintro w' ⟨s0, s1, s2, s3⟩
       go_simp
       with_reducible rfl
      rotate_left
      ·simp only [Act.put, List.setIfInBounds_toArray, List.set_cons_zero, List.set_cons_succ, i64_w, i32_w]
       rfl
      refine one_ (i := 2) (N := some 43) #[true, true, true, false, false] rfl rfl (by kernel_rfl) (by decide) (fun K hK => ?_)
      refine goes_ Try.func18 (by kernel_rfl) rfl #[.agg #[.int .i64 a0_0, .slice A0_1 l0_1.length c0_1]] (by rfl) rfl rfl (by (try simp only [List.map_toArray, List.map_cons, List.map_nil]); first | done | rfl | (simp only [List.length_drop, List.length_take]; rfl)) ?_
      with_reducible refine (laws_toMatroid.calls kj10 a0_0 _ _ l0_1 t13025 t13026 _ ?side1 ?side2 A56.out).mono ?_
      (case side1 => repeat (first | exact (Kd.C_below HR0_1.out HB.out) | (with_reducible refine Kd.C_alloc ?_ _) | (with_reducible refine Kd.C_drewN ?_ _) | (with_reducible refine Kd.C_drew ?_)))
      (case side2 => exact HC0_1.out)
      rintro e w62 ⟨v13027, rfl, ho0, hb⟩
      refine ⟨_, rfl, ?_⟩
      have n0_ := aQ (Kd.R_elder' (by (with_reducible repeat (first | apply Kd.R_alloc | apply Kd.R_drewN | apply Kd.R_drew)); exact HO_13013001.out) (Kd.R_base ho0) hb)
      have n1_ := aQ (Kd.R_elder' (by (with_reducible repeat (first | apply Kd.R_alloc | apply Kd.R_drewN | apply Kd.R_drew)); exact HO_13018001.out) (Kd.R_base ho0) hb)
      have n2_ := aQ (Kd.R_elder' (by (with_reducible repeat (first | apply Kd.R_alloc | apply Kd.R_drewN | apply Kd.R_drew)); exact HO_13024001.out) (Kd.R_base ho0) hb)
      have n3_ := aQ (Kd.R_lower (Kd.R_new' (Kd.R_new' (Kd.R_new' ho0 (Kd.R_lt (by (with_reducible repeat (first | apply Kd.R_alloc | apply Kd.R_drewN | apply Kd.R_drew)); exact HO_13013001.out))) (Kd.R_lt (by (with_reducible repeat (first | apply Kd.R_alloc | apply Kd.R_drewN | apply Kd.R_drew)); exact HO_13018001.out))) (Kd.R_lt (by (with_reducible repeat (first | apply Kd.R_alloc | apply Kd.R_drewN | apply Kd.R_drew)); exact HO_13024001.out))) (below_size (by repeat (first | (with_reducible first | exact HB.out | apply below_alloc | apply pw_below_drewN | apply below_drew1 | refine below_set ?_ GE13001.out | refine below_set ?_ GE13012.out | refine below_set ?_ GE13017.out | refine below_set ?_ GE13023.out) | exact HB.out))))
      have n4_ := aQ (blk_below (g := gb13001) (o := .cells #[.int .i64 a0_0, .slice A0_1 l0_1.length c0_1] 24 (0, 0)) (by (with_reducible repeat (first | refine blk_drewN ?_ _ | refine blk_drew ?_ | refine blk_alloc ?_ _)); exact BK13001.out) hb)
      have n5_ := aQ (blk_below (g := gb13012) (o := .cells #[.int .i64 t13007, .slice Ao22 t13008.length co22] 26 (0, 0)) (by (with_reducible repeat (first | refine blk_drewN ?_ _ | refine blk_drew ?_ | refine blk_alloc ?_ _)); exact BK13012.out) hb)
      have n6_ := aQ (blk_below (g := gb13017) (o := .cells #[.int .i64 t13013, .slice Ao29 t13014.length co29] 26 (0, 0)) (by (with_reducible repeat (first | refine blk_drewN ?_ _ | refine blk_drew ?_ | refine blk_alloc ?_ _)); exact BK13017.out) hb)
      have n7_ := aQ (blk_below (g := gb13023) (o := .cells #[.int .i64 t13018, .slice Ao36 t13019.length co36] 26 (0, 0)) (by (with_reducible repeat (first | refine blk_drewN ?_ _ | refine blk_drew ?_ | refine blk_alloc ?_ _)); exact BK13023.out) hb)
      have n8_ := aQ (below_step (by repeat (first | (with_reducible first | exact HB.out | apply below_alloc | apply pw_below_drewN | apply below_drew1 | refine below_set ?_ GE13001.out | refine below_set ?_ GE13012.out | refine below_set ?_ GE13017.out | refine below_set ?_ GE13023.out) | exact HB.out)) hb)
      clear HO_13013001
      clear HO_13018001
      clear HO_13024001
      clear BK13001
      clear BK13012
      clear BK13017
      clear BK13023
      clear HB
      have HO_13013001 := n0_
      have HO_13018001 := n1_
      have HO_13024001 := n2_
      have HO13028 := n3_
      have BK13001 := n4_
      have BK13012 := n5_
      have BK13017 := n6_
      have BK13023 := n7_
      have HB := n8_
      clear n0_ n1_ n2_ n3_ n4_ n5_ n6_ n7_ n8_
      (try clear hb)
      (try clear hb2)
      (try clear hk)
      (try clear hi)
      (try clear ho0)
      obtain ⟨Ao63, co63, eo63⟩ := Kd.R_slice HO13028.out
      (first | subst eo63 | (injection eo63 with f1_ f2_ f3_; have f4_ := f1_.symm; have f5_ := f3_.symm; clear f1_ f2_ f3_; subst f4_; subst f5_))
      refine hK.out _ _ ⟨(blk_cell BK13017.out 0).trans rfl, (blk_cell BK13017.out 1).trans rfl, (blk_cell BK13001.out 0).trans rfl, (blk_cell BK13001.out 1).trans rfl⟩ (fun hHeld => ?_)
      clear hK K
      refine norm_ (a' := ?_) ?_ ?_
      rotate_left
      ·show Act.put _ (some 43) _ = _
       simp only [Act.put, List.setIfInBounds_toArray, List.set_cons_zero, List.set_cons_succ, i64_w, i32_w]
       rfl
      refine one_ (i := 3) (N := some 44) #[true, true, true, true, false] rfl rfl (by kernel_rfl) (by decide) (fun K hK => ?_)
      refine goes_ Try.func20 (by kernel_rfl) rfl #[.agg #[.int .i64 t13013, .slice Ao29 t13014.length co29], .agg #[.int .i64 t13025, .slice Ao63 t13026.length co63]] (by rfl) rfl rfl (by (try simp only [List.map_toArray, List.map_cons, List.map_nil]); first | done | rfl | (simp only [List.length_drop, List.length_take]; rfl)) ?_
      with_reducible refine (laws_eqMatroid.calls kj10 t13013 _ _ t13014 t13025 _ _ t13026 true _ ?side1 ?side2 ?side3 ?side4 A57.out).mono ?_
      (case side1 => repeat (first | exact (Kd.R_reads' HO_13018001.out).2.2 | (with_reducible refine Kd.C_alloc ?_ _) | (with_reducible refine Kd.C_drewN ?_ _) | (with_reducible refine Kd.C_drew ?_)))
      (case side2 => exact (Kd.R_reads' HO_13018001.out).2.1)
      (case side3 => repeat (first | exact (Kd.R_reads' HO13028.out).2.2 | (with_reducible refine Kd.C_alloc ?_ _) | (with_reducible refine Kd.C_drewN ?_ _) | (with_reducible refine Kd.C_drew ?_)))
      (case side4 => exact (Kd.R_reads' HO13028.out).2.1)
      rintro e w64 ⟨rfl, hb⟩
      refine ⟨_, rfl, ?_⟩
      have n0_ := aQ (Kd.R_below (by (with_reducible repeat (first | apply Kd.R_alloc | apply Kd.R_drewN | apply Kd.R_drew)); exact HO_13013001.out) hb)
      have n1_ := aQ (Kd.R_below (by (with_reducible repeat (first | apply Kd.R_alloc | apply Kd.R_drewN | apply Kd.R_drew)); exact HO_13018001.out) hb)
      have n2_ := aQ (Kd.R_below (by (with_reducible repeat (first | apply Kd.R_alloc | apply Kd.R_drewN | apply Kd.R_drew)); exact HO_13024001.out) hb)
      have n3_ := aQ (Kd.R_below (by (with_reducible repeat (first | apply Kd.R_alloc | apply Kd.R_drewN | apply Kd.R_drew)); exact HO13028.out) hb)
      have n4_ := aQ (blk_below (g := gb13001) (o := .cells #[.int .i64 a0_0, .slice A0_1 l0_1.length c0_1] 24 (0, 0)) (by (with_reducible repeat (first | refine blk_drewN ?_ _ | refine blk_drew ?_ | refine blk_alloc ?_ _)); exact BK13001.out) hb)
      have n5_ := aQ (blk_below (g := gb13012) (o := .cells #[.int .i64 t13007, .slice Ao22 t13008.length co22] 26 (0, 0)) (by (with_reducible repeat (first | refine blk_drewN ?_ _ | refine blk_drew ?_ | refine blk_alloc ?_ _)); exact BK13012.out) hb)
      have n6_ := aQ (blk_below (g := gb13017) (o := .cells #[.int .i64 t13013, .slice Ao29 t13014.length co29] 26 (0, 0)) (by (with_reducible repeat (first | refine blk_drewN ?_ _ | refine blk_drew ?_ | refine blk_alloc ?_ _)); exact BK13017.out) hb)
      have n7_ := aQ (blk_below (g := gb13023) (o := .cells #[.int .i64 t13018, .slice Ao36 t13019.length co36] 26 (0, 0)) (by (with_reducible repeat (first | refine blk_drewN ?_ _ | refine blk_drew ?_ | refine blk_alloc ?_ _)); exact BK13023.out) hb)
      have n8_ := aQ (below_step (by repeat (first | (with_reducible first | exact HB.out | apply below_alloc | apply pw_below_drewN | apply below_drew1 | refine below_set ?_ GE13001.out | refine below_set ?_ GE13012.out | refine below_set ?_ GE13017.out | refine below_set ?_ GE13023.out) | exact HB.out)) hb)
      clear HO_13013001
      clear HO_13018001
      clear HO_13024001
      clear HO13028
      clear BK13001
      clear BK13012
      clear BK13017
      clear BK13023
      clear HB
      have HO_13013001 := n0_
      have HO_13018001 := n1_
      have HO_13024001 := n2_
      have HO13028 := n3_
      have BK13001 := n4_
      have BK13012 := n5_
      have BK13017 := n6_
      have BK13023 := n7_
      have HB := n8_
      clear n0_ n1_ n2_ n3_ n4_ n5_ n6_ n7_ n8_
      (try clear hb)
      (try clear hb2)
      (try clear hk)
      (try clear hi)
      refine hK.out _ _ ⟨(blk_cell BK13017.out 0).trans rfl, (blk_cell BK13017.out 1).trans rfl, (blk_cell BK13001.out 0).trans rfl, (blk_cell BK13001.out 1).trans rfl⟩ (fun hHeld => ?_)
      clear hK K
      refine norm_ (a' := ?_) ?_ ?_
      rotate_left
      ·show Act.put _ (some 44) _ = _
       simp only [Act.put, List.setIfInBounds_toArray, List.set_cons_zero, List.set_cons_succ, i64_w, i32_w]
       rfl
      refine pure_ (i := 4) (N := some 45) (v := ?_) (a' := ?_) #[true, true, true, true, true] rfl rfl (by kernel_rfl) (fun _ _ _ h => h) (Or.inl ⟨by rfl, ?_⟩) ?_ ?_
      rotate_left
      ·intro w'
       go_simp
       with_reducible rfl
      rotate_left
      ·simp only [Act.put, List.setIfInBounds_toArray, List.set_cons_zero, List.set_cons_succ, i64_w, i32_w]
       rfl
      refine done_ (by kernel_rfl) ?_
      have hnb65 := NB13017_13001.out
      have hnc65 := NB13001_13017.out
      have hnb66 := NB13017_13012.out
      have hnc66 := NB13012_13017.out
      have hnb67 := NB13017_13023.out
      have hnc67 := NB13023_13017.out
      have hcz68_0 : w64.cell? ⟨gb13017, 0, none⟩ = some (.int .i64 t13013) := (blk_cell BK13017.out 0).trans rfl
      have hcz68_1 : w64.cell? ⟨gb13017, 1, none⟩ = some (.slice Ao29 t13014.length co29) := (blk_cell BK13017.out 1).trans rfl
      have hfz68_0 := blk_frozen BK13017.out 0
      have hfz68_1 := blk_frozen BK13017.out 1
      go_upto_region 14 with (first | ((with_reducible refine gate_callee (f := 21) rfl ?_); refine goesL_ (some 48) rfl rfl Try.func21 (by kernel_rfl) rfl #[.agg #[.int .i64 t13013, .slice Ao29 t13014.length co29], .int .i64 1] rfl (by (try simp only [List.map_toArray, List.map_cons, List.map_nil]); first | done | rfl | (simp only [List.length_drop, List.length_take]; rfl)) ?_; (with_reducible refine (laws_markMatroid.calls kj10 t13013 (fun k_ => some k_ = (.slice Ao29 t13014.length co29 : Value).ownBlock) (.slice Ao29 t13014.length co29) t13014 1 t13030 t13031 w _ ?side1 ?side2 A59.out).mono ?_); (case side1 => repeat (first | (with_reducible first | exact HB.out | apply below_alloc | apply pw_below_drewN | apply below_drew1 | refine below_set ?_ GE13001.out | refine below_set ?_ GE13012.out | refine below_set ?_ GE13017.out | refine below_set ?_ GE13023.out) | exact HB.out)); (case side2 => exact Kd.R_tight rfl HO_13018001.out); rintro e w69 ⟨rfl, hy0, hb, hkp⟩; refine ⟨_, rfl, ?_⟩; replace HO_13013001 := aQ (Kd.R_mono (ok' := fun k_ => some k_ ≠ (.slice Ao29 t13014.length co29 : Value).ownBlock ∧ some k_ ≠ (.slice Ao36 t13019.length co36 : Value).ownBlock ∧ some k_ ≠ (.slice Ao63 t13026.length co63 : Value).ownBlock) (Kd.R_keptB (HO_13013001.out) hkp (fun k_ hk_ hs_ => (hk_.1.1) hs_)) (fun k_ hk_ => ⟨hk_.1.1.1, hk_.1.1.2, hk_.1.2⟩)); replace HO_13024001 := aQ (Kd.R_mono (ok' := fun k_ => some k_ ≠ (.slice Ao22 t13008.length co22 : Value).ownBlock ∧ some k_ ≠ (.slice Ao29 t13014.length co29 : Value).ownBlock ∧ some k_ ≠ (.slice Ao63 t13026.length co63 : Value).ownBlock) (Kd.R_keptB (HO_13024001.out) hkp (fun k_ hk_ hs_ => (hk_.1.2) hs_)) (fun k_ hk_ => ⟨hk_.1.1.1, hk_.1.1.2, hk_.1.2⟩)); replace BK13001 := aQ (blk_kept (by (with_reducible repeat (first | refine blk_drewN ?_ _ | refine blk_drew ?_ | refine blk_alloc ?_ _)); exact BK13001.out) hkp (fun hs_ => (fun e_ => (Kd.R_ne HO_13018001.out BK13001.out (by decide)) e_) hs_)); replace BK13012 := aQ (blk_kept (by (with_reducible repeat (first | refine blk_drewN ?_ _ | refine blk_drew ?_ | refine blk_alloc ?_ _)); exact BK13012.out) hkp (fun hs_ => (fun e_ => (Kd.R_ne HO_13018001.out BK13012.out (by decide)) e_) hs_)); replace BK13017 := aQ (blk_kept (by (with_reducible repeat (first | refine blk_drewN ?_ _ | refine blk_drew ?_ | refine blk_alloc ?_ _)); exact BK13017.out) hkp (fun hs_ => (fun e_ => (Kd.R_ne HO_13018001.out BK13017.out (by decide)) e_) hs_)); replace BK13023 := aQ (blk_kept (by (with_reducible repeat (first | refine blk_drewN ?_ _ | refine blk_drew ?_ | refine blk_alloc ?_ _)); exact BK13023.out) hkp (fun hs_ => (fun e_ => (Kd.R_ne HO_13018001.out BK13023.out (by decide)) e_) hs_)); replace HO_13018001 := aQ (Kd.R_reok rfl hy0 (fun k_ e_ => HO_13018001.out.1 k_ e_)); replace HO13028 := aQ (Kd.R_mono (ok' := fun k_ => some k_ ≠ (.slice Ao22 t13008.length co22 : Value).ownBlock ∧ some k_ ≠ (.slice Ao29 t13014.length co29 : Value).ownBlock ∧ some k_ ≠ (.slice Ao36 t13019.length co36 : Value).ownBlock) (Kd.R_keptB (HO13028.out) hkp (fun k_ hk_ hs_ => (hk_.1.2) hs_)) (fun k_ hk_ => ⟨hk_.1.1.1.2, hk_.1.1.2, hk_.1.2⟩)); replace HB := aQ (hb); (try clear hb); (try clear hkp); (try clear hy0)))
      (try simp only [Act.put, List.setIfInBounds_toArray, List.set_cons_zero, List.set_cons_succ])
      go_cut [61] (fun v61 wc => ∃ (kq : Nat) (x61_59 : Bool), v61 = .bool x61_59 ∧ Aside0 (laws_FnExactCanonOf.j1 kq t13011 x61_59 a0_0 l0_1 t13007 t13008 t13018 t13019 = some true) ∧ Aside0 (kq ≤ kj10) ∧ Aside0 (Kd.R (Kd.int .i64) 3 wc w.heap.size (fun k_ => some k_ ≠ ((.slice Ao29 t13014.length co29) : Value).ownBlock ∧ some k_ ≠ ((.slice Ao36 t13019.length co36) : Value).ownBlock) (.slice Ao22 t13008.length co22) t13008) ∧ Aside0 (Kd.R (Kd.int .i64) 3 wc w.heap.size (fun k_ => some k_ ≠ ((.slice Ao22 t13008.length co22) : Value).ownBlock ∧ some k_ ≠ ((.slice Ao36 t13019.length co36) : Value).ownBlock) (.slice Ao29 t13014.length co29) t13031) ∧ Aside0 (Kd.R (Kd.int .i64) 3 wc w.heap.size (fun k_ => some k_ ≠ ((.slice Ao22 t13008.length co22) : Value).ownBlock ∧ some k_ ≠ ((.slice Ao29 t13014.length co29) : Value).ownBlock) (.slice Ao36 t13019.length co36) t13019) ∧ Aside0 (wc.heap[gb13001]? = some (.cells #[.int .i64 a0_0, (.slice A0_1 l0_1.length c0_1)] 24 (0, 0))) ∧ Aside0 (wc.heap[gb13012]? = some (.cells #[.int .i64 t13007, (.slice Ao22 t13008.length co22)] 26 (0, 0))) ∧ Aside0 (wc.heap[gb13017]? = some (.cells #[.int .i64 t13013, (.slice Ao29 t13014.length co29)] 26 (0, 0))) ∧ Aside0 (wc.heap[gb13023]? = some (.cells #[.int .i64 t13018, (.slice Ao36 t13019.length co36)] 26 (0, 0))) ∧ Aside0 (Below w.heap.size w wc))
      case first =>
       have H := HC60.out
       clear HC60
       by_cases c70 : t13030 < 0
       ·rw [if_pos c70] at H
        have c70b0 : decide (t13030 < 0) = true := decide_eq_true c70
        clear c70
        (first | rw [c70b0] | (simp only [i64_w, i32_w]; rw [c70b0]) | skip)
        have H' := aQ H
        clear H
        go_wp2
        go_meet
        case rel => exact ⟨_, (true), (by first | rfl | (simp; done) | (simp [*]; done)), H', ⟨by have := HJ10.out; first | omega | exact Nat.le_refl _⟩, ⟨by (with_reducible repeat (first | apply Kd.R_alloc | apply Kd.R_drewN | apply Kd.R_drew)); exact Kd.R_mono HO_13013001.out (fun _ hk => ⟨hk.1, hk.2.1⟩)⟩, ⟨by (with_reducible repeat (first | apply Kd.R_alloc | apply Kd.R_drewN | apply Kd.R_drew)); exact Kd.R_mono HO_13018001.out (fun _ hk => ⟨hk.1.1, hk.1.2⟩)⟩, ⟨by (with_reducible repeat (first | apply Kd.R_alloc | apply Kd.R_drewN | apply Kd.R_drew)); exact Kd.R_mono HO_13024001.out (fun _ hk => ⟨hk.1, hk.2.1⟩)⟩, ⟨by (with_reducible repeat (first | refine blk_drewN ?_ _ | refine blk_drew ?_ | refine blk_alloc ?_ _)); exact BK13001.out⟩, ⟨by (with_reducible repeat (first | refine blk_drewN ?_ _ | refine blk_drew ?_ | refine blk_alloc ?_ _)); exact BK13012.out⟩, ⟨by (with_reducible repeat (first | refine blk_drewN ?_ _ | refine blk_drew ?_ | refine blk_alloc ?_ _)); exact BK13017.out⟩, ⟨by (with_reducible repeat (first | refine blk_drewN ?_ _ | refine blk_drew ?_ | refine blk_alloc ?_ _)); exact BK13023.out⟩, ⟨by repeat (first | (with_reducible first | exact HB.out | apply below_alloc | apply pw_below_drewN | apply below_drew1 | refine below_set ?_ GE13001.out | refine below_set ?_ GE13012.out | refine below_set ?_ GE13017.out | refine below_set ?_ GE13023.out) | exact HB.out)⟩⟩
       ·rw [if_neg c70] at H
        have c70b0 : decide (t13030 < 0) = false := decide_eq_false c70
        clear c70
        (first | rw [c70b0] | (simp only [i64_w, i32_w]; rw [c70b0]) | skip)
        replace H := Option.bind_eq_some_iff.mp H
        obtain ⟨t13032, A710, H⟩ := H
        replace H : (if t13032 = true then (laws_FnExactCanonOf.j1 kj10 t13011 (t13022 != t13011) a0_0 l0_1 t13007 t13008 t13018 t13019) else (laws_FnExactCanonOf.j1 kj10 t13011 true a0_0 l0_1 t13007 t13008 t13018 t13019)) = some true := H
        have A71 := aQ A710
        clear A710
        by_cases c72 : t13032 = true
        ·subst c72
         have H1 : (laws_FnExactCanonOf.j1 kj10 t13011 (t13022 != t13011) a0_0 l0_1 t13007 t13008 t13018 t13019) = some true := by rw [if_pos rfl] at H; exact H
         clear H
         have H := H1
         clear H1
         have H' := aQ H
         clear H
         have hnb73 := NB13023_13001.out
         have hnc73 := NB13001_13023.out
         have hnb74 := NB13023_13012.out
         have hnc74 := NB13012_13023.out
         have hnb75 := NB13023_13017.out
         have hnc75 := NB13017_13023.out
         have hcz76_0 : w69.cell? ⟨gb13023, 0, none⟩ = some (.int .i64 t13018) := (blk_cell BK13023.out 0).trans rfl
         have hcz76_1 : w69.cell? ⟨gb13023, 1, none⟩ = some (.slice Ao36 t13019.length co36) := (blk_cell BK13023.out 1).trans rfl
         have hfz76_0 := blk_frozen BK13023.out 0
         have hfz76_1 := blk_frozen BK13023.out 1
         have hnb77 := NB13012_13001.out
         have hnc77 := NB13001_13012.out
         have hnb78 := NB13012_13017.out
         have hnc78 := NB13017_13012.out
         have hcz79_0 : w69.cell? ⟨gb13012, 0, none⟩ = some (.int .i64 t13007) := (blk_cell BK13012.out 0).trans rfl
         have hcz79_1 : w69.cell? ⟨gb13012, 1, none⟩ = some (.slice Ao22 t13008.length co22) := (blk_cell BK13012.out 1).trans rfl
         have hfz79_0 := blk_frozen BK13012.out 0
         have hfz79_1 := blk_frozen BK13012.out 1
         go_wp2_with (first | (go_at_call 20; (with_reducible refine (laws_eqMatroid.calls kj10 t13018 _ _ t13019 t13007 _ _ t13008 true _ ?side1 ?side2 ?side3 ?side4 A71.out).mono ?_); (case side1 => repeat (first | exact (Kd.R_reads' HO_13024001.out).2.2 | (with_reducible refine Kd.C_alloc ?_ _) | (with_reducible refine Kd.C_drewN ?_ _) | (with_reducible refine Kd.C_drew ?_))); (case side2 => exact (Kd.R_reads' HO_13024001.out).2.1); (case side3 => repeat (first | exact (Kd.R_reads' HO_13013001.out).2.2 | (with_reducible refine Kd.C_alloc ?_ _) | (with_reducible refine Kd.C_drewN ?_ _) | (with_reducible refine Kd.C_drew ?_))); (case side4 => exact (Kd.R_reads' HO_13013001.out).2.1); rintro e w80 ⟨rfl, hb⟩; replace HO_13013001 := aQ (Kd.R_below (by (with_reducible repeat (first | apply Kd.R_alloc | apply Kd.R_drewN | apply Kd.R_drew)); exact HO_13013001.out) hb); replace HO_13018001 := aQ (Kd.R_below (by (with_reducible repeat (first | apply Kd.R_alloc | apply Kd.R_drewN | apply Kd.R_drew)); exact HO_13018001.out) hb); replace HO_13024001 := aQ (Kd.R_below (by (with_reducible repeat (first | apply Kd.R_alloc | apply Kd.R_drewN | apply Kd.R_drew)); exact HO_13024001.out) hb); replace HO13028 := aQ (Kd.R_below (by (with_reducible repeat (first | apply Kd.R_alloc | apply Kd.R_drewN | apply Kd.R_drew)); exact HO13028.out) hb); replace BK13001 := aQ (blk_below (g := gb13001) (o := .cells #[.int .i64 a0_0, .slice A0_1 l0_1.length c0_1] 24 (0, 0)) (by (with_reducible repeat (first | refine blk_drewN ?_ _ | refine blk_drew ?_ | refine blk_alloc ?_ _)); exact BK13001.out) hb); replace BK13012 := aQ (blk_below (g := gb13012) (o := .cells #[.int .i64 t13007, .slice Ao22 t13008.length co22] 26 (0, 0)) (by (with_reducible repeat (first | refine blk_drewN ?_ _ | refine blk_drew ?_ | refine blk_alloc ?_ _)); exact BK13012.out) hb); replace BK13017 := aQ (blk_below (g := gb13017) (o := .cells #[.int .i64 t13013, .slice Ao29 t13014.length co29] 26 (0, 0)) (by (with_reducible repeat (first | refine blk_drewN ?_ _ | refine blk_drew ?_ | refine blk_alloc ?_ _)); exact BK13017.out) hb); replace BK13023 := aQ (blk_below (g := gb13023) (o := .cells #[.int .i64 t13018, .slice Ao36 t13019.length co36] 26 (0, 0)) (by (with_reducible repeat (first | refine blk_drewN ?_ _ | refine blk_drew ?_ | refine blk_alloc ?_ _)); exact BK13023.out) hb); replace HB := aQ (below_step (by repeat (first | (with_reducible first | exact HB.out | apply below_alloc | apply pw_below_drewN | apply below_drew1 | refine below_set ?_ GE13001.out | refine below_set ?_ GE13012.out | refine below_set ?_ GE13017.out | refine below_set ?_ GE13023.out) | exact HB.out)) hb); (try clear hb); (try clear hb2); (try clear hk); (try clear hi)))
         go_meet
         case rel => exact ⟨_, ((t13022 != t13011)), (by first | rfl | (simp; done) | (simp [*]; done)), H', ⟨by have := HJ10.out; first | omega | exact Nat.le_refl _⟩, ⟨by (with_reducible repeat (first | apply Kd.R_alloc | apply Kd.R_drewN | apply Kd.R_drew)); exact Kd.R_mono HO_13013001.out (fun _ hk => ⟨hk.1, hk.2.1⟩)⟩, ⟨by (with_reducible repeat (first | apply Kd.R_alloc | apply Kd.R_drewN | apply Kd.R_drew)); exact Kd.R_mono HO_13018001.out (fun _ hk => ⟨hk.1.1, hk.1.2⟩)⟩, ⟨by (with_reducible repeat (first | apply Kd.R_alloc | apply Kd.R_drewN | apply Kd.R_drew)); exact Kd.R_mono HO_13024001.out (fun _ hk => ⟨hk.1, hk.2.1⟩)⟩, ⟨by (with_reducible repeat (first | refine blk_drewN ?_ _ | refine blk_drew ?_ | refine blk_alloc ?_ _)); exact BK13001.out⟩, ⟨by (with_reducible repeat (first | refine blk_drewN ?_ _ | refine blk_drew ?_ | refine blk_alloc ?_ _)); exact BK13012.out⟩, ⟨by (with_reducible repeat (first | refine blk_drewN ?_ _ | refine blk_drew ?_ | refine blk_alloc ?_ _)); exact BK13017.out⟩, ⟨by (with_reducible repeat (first | refine blk_drewN ?_ _ | refine blk_drew ?_ | refine blk_alloc ?_ _)); exact BK13023.out⟩, ⟨by repeat (first | (with_reducible first | exact HB.out | apply below_alloc | apply pw_below_drewN | apply below_drew1 | refine below_set ?_ GE13001.out | refine below_set ?_ GE13012.out | refine below_set ?_ GE13017.out | refine below_set ?_ GE13023.out) | exact HB.out)⟩⟩
        ·replace c72 := Bool.eq_false_iff.mpr c72
         subst c72
         have H1 : (laws_FnExactCanonOf.j1 kj10 t13011 true a0_0 l0_1 t13007 t13008 t13018 t13019) = some true := by rw [if_neg (show ¬ (false = true) by decide)] at H; exact H
         clear H
         have H := H1
         clear H1
         have H' := aQ H
         clear H
         have hnb81 := NB13023_13001.out
         have hnc81 := NB13001_13023.out
         have hnb82 := NB13023_13012.out
         have hnc82 := NB13012_13023.out
         have hnb83 := NB13023_13017.out
         have hnc83 := NB13017_13023.out
         have hcz84_0 : w69.cell? ⟨gb13023, 0, none⟩ = some (.int .i64 t13018) := (blk_cell BK13023.out 0).trans rfl
         have hcz84_1 : w69.cell? ⟨gb13023, 1, none⟩ = some (.slice Ao36 t13019.length co36) := (blk_cell BK13023.out 1).trans rfl
         have hfz84_0 := blk_frozen BK13023.out 0
         have hfz84_1 := blk_frozen BK13023.out 1
         have hnb85 := NB13012_13001.out
         have hnc85 := NB13001_13012.out
         have hnb86 := NB13012_13017.out
         have hnc86 := NB13017_13012.out
         have hcz87_0 : w69.cell? ⟨gb13012, 0, none⟩ = some (.int .i64 t13007) := (blk_cell BK13012.out 0).trans rfl
         have hcz87_1 : w69.cell? ⟨gb13012, 1, none⟩ = some (.slice Ao22 t13008.length co22) := (blk_cell BK13012.out 1).trans rfl
         have hfz87_0 := blk_frozen BK13012.out 0
         have hfz87_1 := blk_frozen BK13012.out 1
         go_wp2_with (first | (go_at_call 20; (with_reducible refine (laws_eqMatroid.calls kj10 t13018 _ _ t13019 t13007 _ _ t13008 false _ ?side1 ?side2 ?side3 ?side4 A71.out).mono ?_); (case side1 => repeat (first | exact (Kd.R_reads' HO_13024001.out).2.2 | (with_reducible refine Kd.C_alloc ?_ _) | (with_reducible refine Kd.C_drewN ?_ _) | (with_reducible refine Kd.C_drew ?_))); (case side2 => exact (Kd.R_reads' HO_13024001.out).2.1); (case side3 => repeat (first | exact (Kd.R_reads' HO_13013001.out).2.2 | (with_reducible refine Kd.C_alloc ?_ _) | (with_reducible refine Kd.C_drewN ?_ _) | (with_reducible refine Kd.C_drew ?_))); (case side4 => exact (Kd.R_reads' HO_13013001.out).2.1); rintro e w88 ⟨rfl, hb⟩; replace HO_13013001 := aQ (Kd.R_below (by (with_reducible repeat (first | apply Kd.R_alloc | apply Kd.R_drewN | apply Kd.R_drew)); exact HO_13013001.out) hb); replace HO_13018001 := aQ (Kd.R_below (by (with_reducible repeat (first | apply Kd.R_alloc | apply Kd.R_drewN | apply Kd.R_drew)); exact HO_13018001.out) hb); replace HO_13024001 := aQ (Kd.R_below (by (with_reducible repeat (first | apply Kd.R_alloc | apply Kd.R_drewN | apply Kd.R_drew)); exact HO_13024001.out) hb); replace HO13028 := aQ (Kd.R_below (by (with_reducible repeat (first | apply Kd.R_alloc | apply Kd.R_drewN | apply Kd.R_drew)); exact HO13028.out) hb); replace BK13001 := aQ (blk_below (g := gb13001) (o := .cells #[.int .i64 a0_0, .slice A0_1 l0_1.length c0_1] 24 (0, 0)) (by (with_reducible repeat (first | refine blk_drewN ?_ _ | refine blk_drew ?_ | refine blk_alloc ?_ _)); exact BK13001.out) hb); replace BK13012 := aQ (blk_below (g := gb13012) (o := .cells #[.int .i64 t13007, .slice Ao22 t13008.length co22] 26 (0, 0)) (by (with_reducible repeat (first | refine blk_drewN ?_ _ | refine blk_drew ?_ | refine blk_alloc ?_ _)); exact BK13012.out) hb); replace BK13017 := aQ (blk_below (g := gb13017) (o := .cells #[.int .i64 t13013, .slice Ao29 t13014.length co29] 26 (0, 0)) (by (with_reducible repeat (first | refine blk_drewN ?_ _ | refine blk_drew ?_ | refine blk_alloc ?_ _)); exact BK13017.out) hb); replace BK13023 := aQ (blk_below (g := gb13023) (o := .cells #[.int .i64 t13018, .slice Ao36 t13019.length co36] 26 (0, 0)) (by (with_reducible repeat (first | refine blk_drewN ?_ _ | refine blk_drew ?_ | refine blk_alloc ?_ _)); exact BK13023.out) hb); replace HB := aQ (below_step (by repeat (first | (with_reducible first | exact HB.out | apply below_alloc | apply pw_below_drewN | apply below_drew1 | refine below_set ?_ GE13001.out | refine below_set ?_ GE13012.out | refine below_set ?_ GE13017.out | refine below_set ?_ GE13023.out) | exact HB.out)) hb); (try clear hb); (try clear hb2); (try clear hk); (try clear hi)))
         go_meet
         case rel => exact ⟨_, (true), (by first | rfl | (simp; done) | (simp [*]; done)), H', ⟨by have := HJ10.out; first | omega | exact Nat.le_refl _⟩, ⟨by (with_reducible repeat (first | apply Kd.R_alloc | apply Kd.R_drewN | apply Kd.R_drew)); exact Kd.R_mono HO_13013001.out (fun _ hk => ⟨hk.1, hk.2.1⟩)⟩, ⟨by (with_reducible repeat (first | apply Kd.R_alloc | apply Kd.R_drewN | apply Kd.R_drew)); exact Kd.R_mono HO_13018001.out (fun _ hk => ⟨hk.1.1, hk.1.2⟩)⟩, ⟨by (with_reducible repeat (first | apply Kd.R_alloc | apply Kd.R_drewN | apply Kd.R_drew)); exact Kd.R_mono HO_13024001.out (fun _ hk => ⟨hk.1, hk.2.1⟩)⟩, ⟨by (with_reducible repeat (first | refine blk_drewN ?_ _ | refine blk_drew ?_ | refine blk_alloc ?_ _)); exact BK13001.out⟩, ⟨by (with_reducible repeat (first | refine blk_drewN ?_ _ | refine blk_drew ?_ | refine blk_alloc ?_ _)); exact BK13012.out⟩, ⟨by (with_reducible repeat (first | refine blk_drewN ?_ _ | refine blk_drew ?_ | refine blk_alloc ?_ _)); exact BK13017.out⟩, ⟨by (with_reducible repeat (first | refine blk_drewN ?_ _ | refine blk_drew ?_ | refine blk_alloc ?_ _)); exact BK13023.out⟩, ⟨by repeat (first | (with_reducible first | exact HB.out | apply below_alloc | apply pw_below_drewN | apply below_drew1 | refine below_set ?_ GE13001.out | refine below_set ?_ GE13012.out | refine below_set ?_ GE13017.out | refine below_set ?_ GE13023.out) | exact HB.out)⟩⟩
      case rest =>
       clear HC60
       try clear c1
       try clear c2
       try clear p2
       try clear c3
       try clear c3b0
       try clear c4
       try clear c5
       try clear c6
       try clear c7
       try clear c8
       try clear c12
       try clear c16
       try clear c18
       try clear c20
       try clear c21
       try clear c26
       try clear c27
       try clear c32
       try clear c33
       try clear c34
       try clear c38
       try clear c39
       try clear c40
       try clear c41
       try clear c43
       try clear c44
       try clear c47
       try clear c48
       try clear c49
       try clear c51
       try clear c52
       try clear c55
       try clear c58
       try clear c65
       try clear c66
       try clear c67
       try clear c70
       try clear c70b0
       try clear c72
       try clear c73
       try clear c74
       try clear c75
       try clear c77
       try clear c78
       try clear c81
       try clear c82
       try clear c83
       try clear c85
       try clear c86
       try clear hcz13_0
       try clear hcz13_1
       try clear hcz15_0
       try clear hcz15_1
       try clear hcz21_0
       try clear hcz21_1
       try clear hcz23_0
       try clear hcz23_1
       try clear hcz28_0
       try clear hcz28_1
       try clear hcz35_0
       try clear hcz35_1
       try clear hcz42_0
       try clear hcz42_1
       try clear hcz45_0
       try clear hcz45_1
       try clear hcz50_0
       try clear hcz50_1
       try clear hcz53_0
       try clear hcz53_1
       try clear hcz5_0
       try clear hcz5_1
       try clear hcz68_0
       try clear hcz68_1
       try clear hcz76_0
       try clear hcz76_1
       try clear hcz79_0
       try clear hcz79_1
       try clear hcz84_0
       try clear hcz84_1
       try clear hcz87_0
       try clear hcz87_1
       try clear hfz13_0
       try clear hfz13_1
       try clear hfz15_0
       try clear hfz15_1
       try clear hfz21_0
       try clear hfz21_1
       try clear hfz23_0
       try clear hfz23_1
       try clear hfz28_0
       try clear hfz28_1
       try clear hfz35_0
       try clear hfz35_1
       try clear hfz42_0
       try clear hfz42_1
       try clear hfz45_0
       try clear hfz45_1
       try clear hfz50_0
       try clear hfz50_1
       try clear hfz53_0
       try clear hfz53_1
       try clear hfz5_0
       try clear hfz5_1
       try clear hfz68_0
       try clear hfz68_1
       try clear hfz76_0
       try clear hfz76_1
       try clear hfz79_0
       try clear hfz79_1
       try clear hfz84_0
       try clear hfz84_1
       try clear hfz87_0
       try clear hfz87_1
       try clear p2
       obtain ⟨kq, x61_59, rfl, HA, HJ59, HO_13013001, HO_13018001, HO_13024001, BK13001, BK13012, BK13017, BK13023, HB⟩ := hcut
       have hl13018001_59 := (Kd.R_reads' HO_13018001.out).1
       rw [hl13018001_59] at HO_13018001
       (try simp only [hl13018001_59])
       (try simp only [hl13018001_59] at BK13001)
       (try simp only [hl13018001_59] at BK13012)
       (try simp only [hl13018001_59] at BK13017)
       (try simp only [hl13018001_59] at BK13023)
       (try simp only [hl13018001_59] at HO_13013001)
       (try simp only [hl13018001_59] at HO_13024001)
       cases kq with
       | zero => exact absurd HA.out (by simp [laws_FnExactCanonOf.j1])
       | succ kj59 =>
        have H := HA.out
        clear HA
        simp only [laws_FnExactCanonOf.j1] at H
        by_cases c89 : x61_59 = true
        ·subst c89
         have H1 : (some false) = some true := by rw [if_pos rfl] at H; exact H
         clear H
         have H := H1
         clear H1
         exact absurd (Option.some.inj H) (by decide)
        ·replace c89 := Bool.eq_false_iff.mpr c89
         subst c89
         have H1 : ((laws_markMatroid.f kj59 t13018 t13019 1).bind fun bt13033 => ((laws_heldMatroid.f kj59 t13018 bt13033.2 1).bind fun t13035 => (if t13035 < 0 then (some false) else (if t13035 = bt13033.1 then ((laws_toMatroid.f kj59 a0_0 l0_1).bind fun bt13036 => ((impl_CanonOf.f kj59 bt13036.1 bt13036.2).bind fun bt13040 => ((laws_eqMatroid.f kj59 bt13040.1 bt13040.2.1 t13007 t13008).bind fun t13046 => (if t13046 = true then (laws_FnExactCanonOf.j2 kj59 bt13033.1 (bt13040.2.2 != t13011) t13018 bt13033.2) else (laws_FnExactCanonOf.j2 kj59 bt13033.1 true t13018 bt13033.2))))) else (some false))))) = some true := by rw [if_neg (show ¬ (false = true) by decide)] at H; exact H
         clear H
         have H := H1
         clear H1
         replace H := Option.bind_eq_some_iff.mp H
         obtain ⟨⟨t13033, t13034⟩, A900, H⟩ := H
         replace H : ((laws_heldMatroid.f kj59 t13018 t13034 1).bind fun t13035 => (if t13035 < 0 then (some false) else (if t13035 = t13033 then ((laws_toMatroid.f kj59 a0_0 l0_1).bind fun bt13036 => ((impl_CanonOf.f kj59 bt13036.1 bt13036.2).bind fun bt13040 => ((laws_eqMatroid.f kj59 bt13040.1 bt13040.2.1 t13007 t13008).bind fun t13046 => (if t13046 = true then (laws_FnExactCanonOf.j2 kj59 t13033 (bt13040.2.2 != t13011) t13018 t13034) else (laws_FnExactCanonOf.j2 kj59 t13033 true t13018 t13034))))) else (some false)))) = some true := H
         have A90 := aQ A900
         clear A900
         replace H := Option.bind_eq_some_iff.mp H
         obtain ⟨t13035, A910, H⟩ := H
         replace H : (if t13035 < 0 then (some false) else (if t13035 = t13033 then ((laws_toMatroid.f kj59 a0_0 l0_1).bind fun bt13036 => ((impl_CanonOf.f kj59 bt13036.1 bt13036.2).bind fun bt13040 => ((laws_eqMatroid.f kj59 bt13040.1 bt13040.2.1 t13007 t13008).bind fun t13046 => (if t13046 = true then (laws_FnExactCanonOf.j2 kj59 t13033 (bt13040.2.2 != t13011) t13018 t13034) else (laws_FnExactCanonOf.j2 kj59 t13033 true t13018 t13034))))) else (some false))) = some true := H
         have A91 := aQ A910
         clear A910
         by_cases c92 : t13035 < 0
         ·rw [if_pos c92] at H
          have c92b0 : decide (t13035 < 0) = true := decide_eq_true c92
          clear c92
          exact absurd (Option.some.inj H) (by decide)
         ·rw [if_neg c92] at H
          have c92b0 : decide (t13035 < 0) = false := decide_eq_false c92
          clear c92
          by_cases c100 : t13035 = t13033
          ·rw [if_pos c100] at H
           have c100b0 : (t13035 == t13033) = true := beq_iff_eq.mpr c100
           have c100b1 : (t13035 != t13033) = false := bne_eq_false_iff_eq.mpr c100
           clear c100
           replace H := Option.bind_eq_some_iff.mp H
           obtain ⟨⟨t13036, t13037⟩, A1010, H⟩ := H
           replace H : ((impl_CanonOf.f kj59 t13036 t13037).bind fun bt13040 => ((laws_eqMatroid.f kj59 bt13040.1 bt13040.2.1 t13007 t13008).bind fun t13046 => (if t13046 = true then (laws_FnExactCanonOf.j2 kj59 t13033 (bt13040.2.2 != t13011) t13018 t13034) else (laws_FnExactCanonOf.j2 kj59 t13033 true t13018 t13034)))) = some true := H
           have A101 := aQ A1010
           clear A1010
           replace H := Option.bind_eq_some_iff.mp H
           obtain ⟨⟨t13040, t13041, t13044⟩, A1020, H⟩ := H
           replace H : ((laws_eqMatroid.f kj59 t13040 t13041 t13007 t13008).bind fun t13046 => (if t13046 = true then (laws_FnExactCanonOf.j2 kj59 t13033 (t13044 != t13011) t13018 t13034) else (laws_FnExactCanonOf.j2 kj59 t13033 true t13018 t13034))) = some true := H
           have A102 := aQ A1020
           clear A1020
           have HC103 := aQ H
           clear H
           have hnb104 := NB13023_13001.out
           have hnc104 := NB13001_13023.out
           have hnb105 := NB13023_13012.out
           have hnc105 := NB13012_13023.out
           have hnb106 := NB13023_13017.out
           have hnc106 := NB13017_13023.out
           have hcz107_0 : wc.cell? ⟨gb13023, 0, none⟩ = some (.int .i64 t13018) := (blk_cell BK13023.out 0).trans rfl
           have hcz107_1 : wc.cell? ⟨gb13023, 1, none⟩ = some (.slice Ao36 t13019.length co36) := (blk_cell BK13023.out 1).trans rfl
           have hfz107_0 := blk_frozen BK13023.out 0
           have hfz107_1 := blk_frozen BK13023.out 1
           go_upto_region 25 with (first | ((with_reducible refine gate_callee (f := 21) rfl ?_); refine goesL_ (some 64) rfl rfl Try.func21 (by kernel_rfl) rfl #[.agg #[.int .i64 t13018, .slice Ao36 t13019.length co36], .int .i64 1] rfl (by (try simp only [List.map_toArray, List.map_cons, List.map_nil]); first | done | rfl | (simp only [List.length_drop, List.length_take]; rfl)) ?_; (with_reducible refine (laws_markMatroid.calls kj59 t13018 (fun k_ => some k_ = (.slice Ao36 t13019.length co36 : Value).ownBlock) (.slice Ao36 t13019.length co36) t13019 1 t13033 t13034 w _ ?side1 ?side2 A90.out).mono ?_); (case side1 => repeat (first | (with_reducible first | exact HB.out | apply below_alloc | apply pw_below_drewN | apply below_drew1 | refine below_set ?_ GE13001.out | refine below_set ?_ GE13012.out | refine below_set ?_ GE13017.out | refine below_set ?_ GE13023.out) | exact HB.out)); (case side2 => exact Kd.R_tight rfl HO_13024001.out); rintro e w108 ⟨rfl, hy0, hb, hkp⟩; refine ⟨_, rfl, ?_⟩; replace HO_13013001 := aQ (Kd.R_mono (ok' := fun k_ => some k_ ≠ (.slice Ao29 t13031.length co29 : Value).ownBlock ∧ some k_ ≠ (.slice Ao36 t13019.length co36 : Value).ownBlock) (Kd.R_keptB (HO_13013001.out) hkp (fun k_ hk_ hs_ => (hk_.2) hs_)) (fun k_ hk_ => ⟨hk_.1.1, hk_.1.2⟩)); replace HO_13018001 := aQ (Kd.R_mono (ok' := fun k_ => some k_ ≠ (.slice Ao22 t13008.length co22 : Value).ownBlock ∧ some k_ ≠ (.slice Ao36 t13019.length co36 : Value).ownBlock) (Kd.R_keptB (HO_13018001.out) hkp (fun k_ hk_ hs_ => (hk_.2) hs_)) (fun k_ hk_ => ⟨hk_.1.1, hk_.1.2⟩)); replace BK13001 := aQ (blk_kept (by (with_reducible repeat (first | refine blk_drewN ?_ _ | refine blk_drew ?_ | refine blk_alloc ?_ _)); exact BK13001.out) hkp (fun hs_ => (fun e_ => (Kd.R_ne HO_13024001.out BK13001.out (by decide)) e_) hs_)); replace BK13012 := aQ (blk_kept (by (with_reducible repeat (first | refine blk_drewN ?_ _ | refine blk_drew ?_ | refine blk_alloc ?_ _)); exact BK13012.out) hkp (fun hs_ => (fun e_ => (Kd.R_ne HO_13024001.out BK13012.out (by decide)) e_) hs_)); replace BK13017 := aQ (blk_kept (by (with_reducible repeat (first | refine blk_drewN ?_ _ | refine blk_drew ?_ | refine blk_alloc ?_ _)); exact BK13017.out) hkp (fun hs_ => (fun e_ => (Kd.R_ne HO_13024001.out BK13017.out (by decide)) e_) hs_)); replace BK13023 := aQ (blk_kept (by (with_reducible repeat (first | refine blk_drewN ?_ _ | refine blk_drew ?_ | refine blk_alloc ?_ _)); exact BK13023.out) hkp (fun hs_ => (fun e_ => (Kd.R_ne HO_13024001.out BK13023.out (by decide)) e_) hs_)); replace HO_13024001 := aQ (Kd.R_reok rfl hy0 (fun k_ e_ => HO_13024001.out.1 k_ e_)); replace HB := aQ (hb); (try clear hb); (try clear hkp); (try clear hy0); have hcz109_0 : w108.cell? ⟨gb13023, 0, none⟩ = some (.int .i64 t13018) := (blk_cell BK13023.out 0).trans rfl; have hcz109_1 : w108.cell? ⟨gb13023, 1, none⟩ = some (.slice Ao36 t13019.length co36) := (blk_cell BK13023.out 1).trans rfl; have hfz109_0 := blk_frozen BK13023.out 0; have hfz109_1 := blk_frozen BK13023.out 1) | ((with_reducible refine gate_callee (f := 22) rfl ?_); refine goesL_ (some 67) rfl rfl Try.func22 (by kernel_rfl) rfl #[.agg #[.int .i64 t13018, .slice Ao36 t13034.length co36], .int .i64 1] rfl (by (try simp only [List.map_toArray, List.map_cons, List.map_nil]); first | done | (rw [show t13034.length = t13019.length from (Kd.R_reads' HO_13024001.out).1.symm] <;> rfl) | rfl | (simp only [List.length_drop, List.length_take]; rfl)) ?_; (with_reducible refine (laws_heldMatroid.calls kj59 t13018 _ _ t13034 1 t13035 _ ?side1 ?side2 A91.out).mono ?_); (case side1 => repeat (first | exact (Kd.R_reads' HO_13024001.out).2.2 | (with_reducible refine Kd.C_alloc ?_ _) | (with_reducible refine Kd.C_drewN ?_ _) | (with_reducible refine Kd.C_drew ?_))); (case side2 => rw [show t13034.length = t13019.length from (Kd.R_reads' HO_13024001.out).1.symm]; exact (Kd.R_reads' HO_13024001.out).2.1); rintro e w110 ⟨rfl, hb⟩; refine ⟨_, rfl, ?_⟩; replace HO_13013001 := aQ (Kd.R_below (by (with_reducible repeat (first | apply Kd.R_alloc | apply Kd.R_drewN | apply Kd.R_drew)); exact HO_13013001.out) hb); replace HO_13018001 := aQ (Kd.R_below (by (with_reducible repeat (first | apply Kd.R_alloc | apply Kd.R_drewN | apply Kd.R_drew)); exact HO_13018001.out) hb); replace HO_13024001 := aQ (Kd.R_below (by (with_reducible repeat (first | apply Kd.R_alloc | apply Kd.R_drewN | apply Kd.R_drew)); exact HO_13024001.out) hb); replace BK13001 := aQ (blk_below (g := gb13001) (o := .cells #[.int .i64 a0_0, .slice A0_1 l0_1.length c0_1] 24 (0, 0)) (by (with_reducible repeat (first | refine blk_drewN ?_ _ | refine blk_drew ?_ | refine blk_alloc ?_ _)); exact BK13001.out) hb); replace BK13012 := aQ (blk_below (g := gb13012) (o := .cells #[.int .i64 t13007, .slice Ao22 t13008.length co22] 26 (0, 0)) (by (with_reducible repeat (first | refine blk_drewN ?_ _ | refine blk_drew ?_ | refine blk_alloc ?_ _)); exact BK13012.out) hb); replace BK13017 := aQ (blk_below (g := gb13017) (o := .cells #[.int .i64 t13013, .slice Ao29 t13031.length co29] 26 (0, 0)) (by (with_reducible repeat (first | refine blk_drewN ?_ _ | refine blk_drew ?_ | refine blk_alloc ?_ _)); exact BK13017.out) hb); replace BK13023 := aQ (blk_below (g := gb13023) (o := .cells #[.int .i64 t13018, .slice Ao36 t13019.length co36] 26 (0, 0)) (by (with_reducible repeat (first | refine blk_drewN ?_ _ | refine blk_drew ?_ | refine blk_alloc ?_ _)); exact BK13023.out) hb); replace HB := aQ (below_step (by repeat (first | (with_reducible first | exact HB.out | apply below_alloc | apply pw_below_drewN | apply below_drew1 | refine below_set ?_ GE13001.out | refine below_set ?_ GE13012.out | refine below_set ?_ GE13017.out | refine below_set ?_ GE13023.out) | exact HB.out)) hb); (try clear hb); (try clear hb2); (try clear hk); (try clear hi); have hnb111 := NB13001_13012.out; have hnc111 := NB13012_13001.out; have hnb112 := NB13001_13017.out; have hnc112 := NB13017_13001.out; have hcz113_0 : w110.cell? ⟨gb13001, 0, none⟩ = some (.int .i64 a0_0) := (blk_cell BK13001.out 0).trans rfl; have hcz113_1 : w110.cell? ⟨gb13001, 1, none⟩ = some (.slice A0_1 l0_1.length c0_1) := (blk_cell BK13001.out 1).trans rfl; have hfz113_0 := blk_frozen BK13001.out 0; have hfz113_1 := blk_frozen BK13001.out 1) | ((with_reducible refine gate_callee (f := 18) rfl ?_); refine goesL_ (some 75) rfl rfl Try.func18 (by kernel_rfl) rfl #[.agg #[.int .i64 a0_0, .slice A0_1 l0_1.length c0_1]] rfl (by (try simp only [List.map_toArray, List.map_cons, List.map_nil]); first | done | rfl | (simp only [List.length_drop, List.length_take]; rfl)) ?_; (with_reducible refine (laws_toMatroid.calls kj59 a0_0 _ _ l0_1 t13036 t13037 _ ?side1 ?side2 A101.out).mono ?_); (case side1 => repeat (first | exact (Kd.C_below HR0_1.out HB.out) | (with_reducible refine Kd.C_alloc ?_ _) | (with_reducible refine Kd.C_drewN ?_ _) | (with_reducible refine Kd.C_drew ?_))); (case side2 => exact HC0_1.out); rintro e w114 ⟨v13038, rfl, ho0, hb⟩; refine ⟨_, rfl, ?_⟩; have HO13039 := aQ (Kd.R_lower (Kd.R_new' (Kd.R_new' (Kd.R_new' ho0 (Kd.R_lt (by (with_reducible repeat (first | apply Kd.R_alloc | apply Kd.R_drewN | apply Kd.R_drew)); exact HO_13013001.out))) (Kd.R_lt (by (with_reducible repeat (first | apply Kd.R_alloc | apply Kd.R_drewN | apply Kd.R_drew)); exact HO_13018001.out))) (Kd.R_lt (by (with_reducible repeat (first | apply Kd.R_alloc | apply Kd.R_drewN | apply Kd.R_drew)); exact HO_13024001.out))) (below_size (by repeat (first | (with_reducible first | exact HB.out | apply below_alloc | apply pw_below_drewN | apply below_drew1 | refine below_set ?_ GE13001.out | refine below_set ?_ GE13012.out | refine below_set ?_ GE13017.out | refine below_set ?_ GE13023.out) | exact HB.out)))); replace HO_13013001 := aQ (Kd.R_elder' (by (with_reducible repeat (first | apply Kd.R_alloc | apply Kd.R_drewN | apply Kd.R_drew)); exact HO_13013001.out) (Kd.R_base ho0) hb); replace HO_13018001 := aQ (Kd.R_elder' (by (with_reducible repeat (first | apply Kd.R_alloc | apply Kd.R_drewN | apply Kd.R_drew)); exact HO_13018001.out) (Kd.R_base ho0) hb); replace HO_13024001 := aQ (Kd.R_elder' (by (with_reducible repeat (first | apply Kd.R_alloc | apply Kd.R_drewN | apply Kd.R_drew)); exact HO_13024001.out) (Kd.R_base ho0) hb); replace BK13001 := aQ (blk_below (g := gb13001) (o := .cells #[.int .i64 a0_0, .slice A0_1 l0_1.length c0_1] 24 (0, 0)) (by (with_reducible repeat (first | refine blk_drewN ?_ _ | refine blk_drew ?_ | refine blk_alloc ?_ _)); exact BK13001.out) hb); replace BK13012 := aQ (blk_below (g := gb13012) (o := .cells #[.int .i64 t13007, .slice Ao22 t13008.length co22] 26 (0, 0)) (by (with_reducible repeat (first | refine blk_drewN ?_ _ | refine blk_drew ?_ | refine blk_alloc ?_ _)); exact BK13012.out) hb); replace BK13017 := aQ (blk_below (g := gb13017) (o := .cells #[.int .i64 t13013, .slice Ao29 t13031.length co29] 26 (0, 0)) (by (with_reducible repeat (first | refine blk_drewN ?_ _ | refine blk_drew ?_ | refine blk_alloc ?_ _)); exact BK13017.out) hb); replace BK13023 := aQ (blk_below (g := gb13023) (o := .cells #[.int .i64 t13018, .slice Ao36 t13019.length co36] 26 (0, 0)) (by (with_reducible repeat (first | refine blk_drewN ?_ _ | refine blk_drew ?_ | refine blk_alloc ?_ _)); exact BK13023.out) hb); replace HB := aQ (below_step (by repeat (first | (with_reducible first | exact HB.out | apply below_alloc | apply pw_below_drewN | apply below_drew1 | refine below_set ?_ GE13001.out | refine below_set ?_ GE13012.out | refine below_set ?_ GE13017.out | refine below_set ?_ GE13023.out) | exact HB.out)) hb); (try clear hb); (try clear hb2); (try clear hk); (try clear hi); (try clear ho0); obtain ⟨Ao115, co115, eo115⟩ := Kd.R_slice HO13039.out; subst eo115) | ((with_reducible refine gate_callee (f := 44) rfl ?_); refine goesL_ (some 76) rfl rfl Try.func44 (by kernel_rfl) rfl #[.agg #[.int .i64 t13036, .slice Ao115 t13037.length co115]] rfl (by (try simp only [List.map_toArray, List.map_cons, List.map_nil]); first | done | rfl | (simp only [List.length_drop, List.length_take]; rfl)) ?_; (with_reducible refine (impl_CanonOf.calls kj59 t13036 _ _ t13037 t13040 t13041 t13044 _ ?side1 ?side2 A102.out).mono ?_); (case side1 => repeat (first | exact (Kd.R_reads' HO13039.out).2.2 | (with_reducible refine Kd.C_alloc ?_ _) | (with_reducible refine Kd.C_drewN ?_ _) | (with_reducible refine Kd.C_drew ?_))); (case side2 => exact (Kd.R_reads' HO13039.out).2.1); rintro e w116 ⟨v13042, rfl, ho0, hb⟩; refine ⟨_, rfl, ?_⟩; have HO13043 := aQ (Kd.R_lower (Kd.R_new' (Kd.R_new' (Kd.R_new' (Kd.R_new' ho0 (Kd.R_lt (by (with_reducible repeat (first | apply Kd.R_alloc | apply Kd.R_drewN | apply Kd.R_drew)); exact HO_13013001.out))) (Kd.R_lt (by (with_reducible repeat (first | apply Kd.R_alloc | apply Kd.R_drewN | apply Kd.R_drew)); exact HO_13018001.out))) (Kd.R_lt (by (with_reducible repeat (first | apply Kd.R_alloc | apply Kd.R_drewN | apply Kd.R_drew)); exact HO_13024001.out))) (Kd.R_lt (by (with_reducible repeat (first | apply Kd.R_alloc | apply Kd.R_drewN | apply Kd.R_drew)); exact HO13039.out))) (below_size (by repeat (first | (with_reducible first | exact HB.out | apply below_alloc | apply pw_below_drewN | apply below_drew1 | refine below_set ?_ GE13001.out | refine below_set ?_ GE13012.out | refine below_set ?_ GE13017.out | refine below_set ?_ GE13023.out) | exact HB.out)))); replace HO_13013001 := aQ (Kd.R_elder' (by (with_reducible repeat (first | apply Kd.R_alloc | apply Kd.R_drewN | apply Kd.R_drew)); exact HO_13013001.out) (Kd.R_base ho0) hb); replace HO_13018001 := aQ (Kd.R_elder' (by (with_reducible repeat (first | apply Kd.R_alloc | apply Kd.R_drewN | apply Kd.R_drew)); exact HO_13018001.out) (Kd.R_base ho0) hb); replace HO_13024001 := aQ (Kd.R_elder' (by (with_reducible repeat (first | apply Kd.R_alloc | apply Kd.R_drewN | apply Kd.R_drew)); exact HO_13024001.out) (Kd.R_base ho0) hb); replace HO13039 := aQ (Kd.R_elder' (by (with_reducible repeat (first | apply Kd.R_alloc | apply Kd.R_drewN | apply Kd.R_drew)); exact HO13039.out) (Kd.R_base ho0) hb); replace BK13001 := aQ (blk_below (g := gb13001) (o := .cells #[.int .i64 a0_0, .slice A0_1 l0_1.length c0_1] 24 (0, 0)) (by (with_reducible repeat (first | refine blk_drewN ?_ _ | refine blk_drew ?_ | refine blk_alloc ?_ _)); exact BK13001.out) hb); replace BK13012 := aQ (blk_below (g := gb13012) (o := .cells #[.int .i64 t13007, .slice Ao22 t13008.length co22] 26 (0, 0)) (by (with_reducible repeat (first | refine blk_drewN ?_ _ | refine blk_drew ?_ | refine blk_alloc ?_ _)); exact BK13012.out) hb); replace BK13017 := aQ (blk_below (g := gb13017) (o := .cells #[.int .i64 t13013, .slice Ao29 t13031.length co29] 26 (0, 0)) (by (with_reducible repeat (first | refine blk_drewN ?_ _ | refine blk_drew ?_ | refine blk_alloc ?_ _)); exact BK13017.out) hb); replace BK13023 := aQ (blk_below (g := gb13023) (o := .cells #[.int .i64 t13018, .slice Ao36 t13019.length co36] 26 (0, 0)) (by (with_reducible repeat (first | refine blk_drewN ?_ _ | refine blk_drew ?_ | refine blk_alloc ?_ _)); exact BK13023.out) hb); replace HB := aQ (below_step (by repeat (first | (with_reducible first | exact HB.out | apply below_alloc | apply pw_below_drewN | apply below_drew1 | refine below_set ?_ GE13001.out | refine below_set ?_ GE13012.out | refine below_set ?_ GE13017.out | refine below_set ?_ GE13023.out) | exact HB.out)) hb); (try clear hb); (try clear hb2); (try clear hk); (try clear hi); (try clear ho0)) | ((with_reducible refine gate_dst (N := 12) rfl ?_); refine box_event ?hg (N := 12) ?hd (cs := #[.int .i64 0, .slice none 0 0]) (t := 26) ?hr ?_; (case hd => rfl); (case hg => rfl); (case hr => first | (go_simp; done) | (go_simp; rfl)); intro gb13045 hg w117 hbox hb; replace HO_13013001 := aQ (Kd.R_below (by (with_reducible repeat (first | apply Kd.R_alloc | apply Kd.R_drewN | apply Kd.R_drew)); exact HO_13013001.out) hb); replace HO_13018001 := aQ (Kd.R_below (by (with_reducible repeat (first | apply Kd.R_alloc | apply Kd.R_drewN | apply Kd.R_drew)); exact HO_13018001.out) hb); replace HO_13024001 := aQ (Kd.R_below (by (with_reducible repeat (first | apply Kd.R_alloc | apply Kd.R_drewN | apply Kd.R_drew)); exact HO_13024001.out) hb); replace HO13039 := aQ (Kd.R_below (by (with_reducible repeat (first | apply Kd.R_alloc | apply Kd.R_drewN | apply Kd.R_drew)); exact HO13039.out) hb); replace HO13043 := aQ (Kd.R_below (by (with_reducible repeat (first | apply Kd.R_alloc | apply Kd.R_drewN | apply Kd.R_drew)); exact HO13043.out) hb); have BK13045 := aQ (hbox); have GW13045 := aQ ((by rw [hg]; exact (below_size (by repeat (first | (with_reducible first | exact HB.out | apply below_alloc | apply pw_below_drewN | apply below_drew1 | refine below_set ?_ GE13001.out | refine below_set ?_ GE13012.out | refine below_set ?_ GE13017.out | refine below_set ?_ GE13023.out) | exact HB.out))) : w.heap.size ≤ gb13045)); have GE13045 := aQ ((by rw [hg]; exact (below_size (by repeat (first | (with_reducible first | exact HB.out | apply below_alloc | apply pw_below_drewN | apply below_drew1 | refine below_set ?_ GE13001.out | refine below_set ?_ GE13012.out | refine below_set ?_ GE13017.out | refine below_set ?_ GE13023.out) | exact HB.out))) : w.heap.size ≤ gb13045)); replace HB := aQ (below_step (by repeat (first | (with_reducible first | exact HB.out | apply below_alloc | apply pw_below_drewN | apply below_drew1 | refine below_set ?_ GE13001.out | refine below_set ?_ GE13012.out | refine below_set ?_ GE13017.out | refine below_set ?_ GE13023.out) | exact HB.out)) hb); have NB13001_13045 := aQ ((by rw [hg]; exact Nat.ne_of_lt (blk_lt (g := gb13001) (o := .cells #[.int .i64 a0_0, .slice A0_1 l0_1.length c0_1] 24 (0, 0)) (by (with_reducible repeat (first | refine blk_drewN ?_ _ | refine blk_drew ?_ | refine blk_alloc ?_ _)); exact BK13001.out)) : gb13001 ≠ gb13045)); have NB13045_13001 := aQ ((by rw [hg]; exact Nat.ne_of_gt (blk_lt (g := gb13001) (o := .cells #[.int .i64 a0_0, .slice A0_1 l0_1.length c0_1] 24 (0, 0)) (by (with_reducible repeat (first | refine blk_drewN ?_ _ | refine blk_drew ?_ | refine blk_alloc ?_ _)); exact BK13001.out)) : gb13045 ≠ gb13001)); replace BK13001 := aQ (blk_below (g := gb13001) (o := .cells #[.int .i64 a0_0, .slice A0_1 l0_1.length c0_1] 24 (0, 0)) (by (with_reducible repeat (first | refine blk_drewN ?_ _ | refine blk_drew ?_ | refine blk_alloc ?_ _)); exact BK13001.out) hb); have NB13012_13045 := aQ ((by rw [hg]; exact Nat.ne_of_lt (blk_lt (g := gb13012) (o := .cells #[.int .i64 t13007, .slice Ao22 t13008.length co22] 26 (0, 0)) (by (with_reducible repeat (first | refine blk_drewN ?_ _ | refine blk_drew ?_ | refine blk_alloc ?_ _)); exact BK13012.out)) : gb13012 ≠ gb13045)); have NB13045_13012 := aQ ((by rw [hg]; exact Nat.ne_of_gt (blk_lt (g := gb13012) (o := .cells #[.int .i64 t13007, .slice Ao22 t13008.length co22] 26 (0, 0)) (by (with_reducible repeat (first | refine blk_drewN ?_ _ | refine blk_drew ?_ | refine blk_alloc ?_ _)); exact BK13012.out)) : gb13045 ≠ gb13012)); replace BK13012 := aQ (blk_below (g := gb13012) (o := .cells #[.int .i64 t13007, .slice Ao22 t13008.length co22] 26 (0, 0)) (by (with_reducible repeat (first | refine blk_drewN ?_ _ | refine blk_drew ?_ | refine blk_alloc ?_ _)); exact BK13012.out) hb); have NB13017_13045 := aQ ((by rw [hg]; exact Nat.ne_of_lt (blk_lt (g := gb13017) (o := .cells #[.int .i64 t13013, .slice Ao29 t13031.length co29] 26 (0, 0)) (by (with_reducible repeat (first | refine blk_drewN ?_ _ | refine blk_drew ?_ | refine blk_alloc ?_ _)); exact BK13017.out)) : gb13017 ≠ gb13045)); have NB13045_13017 := aQ ((by rw [hg]; exact Nat.ne_of_gt (blk_lt (g := gb13017) (o := .cells #[.int .i64 t13013, .slice Ao29 t13031.length co29] 26 (0, 0)) (by (with_reducible repeat (first | refine blk_drewN ?_ _ | refine blk_drew ?_ | refine blk_alloc ?_ _)); exact BK13017.out)) : gb13045 ≠ gb13017)); replace BK13017 := aQ (blk_below (g := gb13017) (o := .cells #[.int .i64 t13013, .slice Ao29 t13031.length co29] 26 (0, 0)) (by (with_reducible repeat (first | refine blk_drewN ?_ _ | refine blk_drew ?_ | refine blk_alloc ?_ _)); exact BK13017.out) hb); have NB13023_13045 := aQ ((by rw [hg]; exact Nat.ne_of_lt (blk_lt (g := gb13023) (o := .cells #[.int .i64 t13018, .slice Ao36 t13019.length co36] 26 (0, 0)) (by (with_reducible repeat (first | refine blk_drewN ?_ _ | refine blk_drew ?_ | refine blk_alloc ?_ _)); exact BK13023.out)) : gb13023 ≠ gb13045)); have NB13045_13023 := aQ ((by rw [hg]; exact Nat.ne_of_gt (blk_lt (g := gb13023) (o := .cells #[.int .i64 t13018, .slice Ao36 t13019.length co36] 26 (0, 0)) (by (with_reducible repeat (first | refine blk_drewN ?_ _ | refine blk_drew ?_ | refine blk_alloc ?_ _)); exact BK13023.out)) : gb13045 ≠ gb13023)); replace BK13023 := aQ (blk_below (g := gb13023) (o := .cells #[.int .i64 t13018, .slice Ao36 t13019.length co36] 26 (0, 0)) (by (with_reducible repeat (first | refine blk_drewN ?_ _ | refine blk_drew ?_ | refine blk_alloc ?_ _)); exact BK13023.out) hb); clear hb hbox hg; have hnb118 := NB13045_13001.out; have hnc118 := NB13001_13045.out; have hnb119 := NB13045_13012.out; have hnc119 := NB13012_13045.out; have hnb120 := NB13045_13017.out; have hnc120 := NB13017_13045.out; have hnb121 := NB13045_13023.out; have hnc121 := NB13023_13045.out; have hcz122_0 : w117.cell? ⟨gb13045, 0, none⟩ = some (.int .i64 0) := (blk_cell BK13045.out 0).trans rfl; have hcz122_1 : w117.cell? ⟨gb13045, 1, none⟩ = some (.slice none 0 0) := (blk_cell BK13045.out 1).trans rfl; have hfz122_0 := blk_frozen BK13045.out 0; have hfz122_1 := blk_frozen BK13045.out 1; obtain ⟨Ao123, co123, eo123⟩ := Kd.R_slice HO13043.out; subst eo123))
           (try simp only [Act.put, List.setIfInBounds_toArray, List.set_cons_zero, List.set_cons_succ])
           go_cut [87] (fun v87 wc => ∃ (kq : Nat) (x87_102 : Bool), v87 = .bool x87_102 ∧ Aside0 (laws_FnExactCanonOf.j2 kq t13033 x87_102 t13018 t13034 = some true) ∧ Aside0 (kq ≤ kj59) ∧ Aside0 (Kd.R (Kd.int .i64) 3 wc w.heap.size (fun k_ => some k_ ≠ ((.slice Ao29 t13031.length co29) : Value).ownBlock ∧ some k_ ≠ ((.slice Ao36 t13019.length co36) : Value).ownBlock ∧ some k_ ≠ ((.slice Ao123 t13041.length co123) : Value).ownBlock) (.slice Ao22 t13008.length co22) t13008) ∧ Aside0 (Kd.R (Kd.int .i64) 3 wc w.heap.size (fun k_ => some k_ ≠ ((.slice Ao22 t13008.length co22) : Value).ownBlock ∧ some k_ ≠ ((.slice Ao36 t13019.length co36) : Value).ownBlock ∧ some k_ ≠ ((.slice Ao123 t13041.length co123) : Value).ownBlock) (.slice Ao29 t13031.length co29) t13031) ∧ Aside0 (Kd.R (Kd.int .i64) 3 wc w.heap.size (fun k_ => some k_ ≠ ((.slice Ao22 t13008.length co22) : Value).ownBlock ∧ some k_ ≠ ((.slice Ao29 t13031.length co29) : Value).ownBlock ∧ some k_ ≠ ((.slice Ao123 t13041.length co123) : Value).ownBlock) (.slice Ao36 t13019.length co36) t13034) ∧ Aside0 (Kd.R (Kd.int .i64) 3 wc w.heap.size (fun k_ => some k_ ≠ ((.slice Ao22 t13008.length co22) : Value).ownBlock ∧ some k_ ≠ ((.slice Ao29 t13031.length co29) : Value).ownBlock ∧ some k_ ≠ ((.slice Ao36 t13019.length co36) : Value).ownBlock) (.slice Ao123 t13041.length co123) t13041) ∧ Aside0 (wc.heap[gb13001]? = some (.cells #[.int .i64 a0_0, (.slice A0_1 l0_1.length c0_1)] 24 (0, 0))) ∧ Aside0 (wc.heap[gb13012]? = some (.cells #[.int .i64 t13007, (.slice Ao22 t13008.length co22)] 26 (0, 0))) ∧ Aside0 (wc.heap[gb13017]? = some (.cells #[.int .i64 t13013, (.slice Ao29 t13031.length co29)] 26 (0, 0))) ∧ Aside0 (wc.heap[gb13023]? = some (.cells #[.int .i64 t13018, (.slice Ao36 t13019.length co36)] 26 (0, 0))) ∧ Aside0 (wc.heap[gb13045]? = some (.cells #[.int .i64 t13040, (.slice Ao123 t13041.length co123)] 26 (0, 0))) ∧ Aside0 (Below w.heap.size w wc))
           case first =>
            have H := HC103.out
            clear HC103
            replace H := Option.bind_eq_some_iff.mp H
            obtain ⟨t13046, A1240, H⟩ := H
            replace H : (if t13046 = true then (laws_FnExactCanonOf.j2 kj59 t13033 (t13044 != t13011) t13018 t13034) else (laws_FnExactCanonOf.j2 kj59 t13033 true t13018 t13034)) = some true := H
            have A124 := aQ A1240
            clear A1240
            by_cases c125 : t13046 = true
            ·subst c125
             have H1 : (laws_FnExactCanonOf.j2 kj59 t13033 (t13044 != t13011) t13018 t13034) = some true := by rw [if_pos rfl] at H; exact H
             clear H
             have H := H1
             clear H1
             have H' := aQ H
             clear H
             have hnb126 := NB13045_13001.out
             have hnc126 := NB13001_13045.out
             have hnb127 := NB13045_13012.out
             have hnc127 := NB13012_13045.out
             have hnb128 := NB13045_13017.out
             have hnc128 := NB13017_13045.out
             have hnb129 := NB13045_13023.out
             have hnc129 := NB13023_13045.out
             have hcz130_0 : w117.cell? ⟨gb13045, 0, none⟩ = some (.int .i64 0) := (blk_cell BK13045.out 0).trans rfl
             have hcz130_1 : w117.cell? ⟨gb13045, 1, none⟩ = some (.slice none 0 0) := (blk_cell BK13045.out 1).trans rfl
             have hfz130_0 := blk_frozen BK13045.out 0
             have hfz130_1 := blk_frozen BK13045.out 1
             have hnb131 := NB13012_13001.out
             have hnc131 := NB13001_13012.out
             have hnb132 := NB13012_13017.out
             have hnc132 := NB13017_13012.out
             have hnb133 := NB13012_13023.out
             have hnc133 := NB13023_13012.out
             have hcz134_0 : w117.cell? ⟨gb13012, 0, none⟩ = some (.int .i64 t13007) := (blk_cell BK13012.out 0).trans rfl
             have hcz134_1 : w117.cell? ⟨gb13012, 1, none⟩ = some (.slice Ao22 t13008.length co22) := (blk_cell BK13012.out 1).trans rfl
             have hfz134_0 := blk_frozen BK13012.out 0
             have hfz134_1 := blk_frozen BK13012.out 1
             go_wp2_with (first | ((with_reducible refine gate_callee (f := 20) rfl ?_); refine goesL_ (some 81) rfl rfl Try.func20 (by kernel_rfl) rfl #[.agg #[.int .i64 t13040, .slice Ao123 t13041.length co123], .agg #[.int .i64 t13007, .slice Ao22 t13008.length co22]] rfl (by (try simp only [List.map_toArray, List.map_cons, List.map_nil]); first | done | rfl | (simp only [List.length_drop, List.length_take]; rfl)) ?_; (with_reducible refine (laws_eqMatroid.calls kj59 t13040 _ _ t13041 t13007 _ _ t13008 true _ ?side1 ?side2 ?side3 ?side4 A124.out).mono ?_); (case side1 => refine (Kd.R_reads' (e := 3) (base := w.heap.size) (ok := fun k_ => ((((True ∧ some k_ ≠ (.slice Ao22 t13008.length co22 : Value).ownBlock) ∧ some k_ ≠ (.slice Ao29 t13031.length co29 : Value).ownBlock) ∧ some k_ ≠ (.slice Ao36 t13019.length co36 : Value).ownBlock) ∧ some k_ ≠ (.slice Ao115 t13037.length co115 : Value).ownBlock)) (n := t13041.length) (c := co123) ?_).2.2; exact (by (with_reducible repeat (first | apply Kd.R_alloc | apply Kd.R_drewN | apply Kd.R_drew)); exact (Kd.R_mono (Kd.R_far (p := ⟨gb13045, 1, none⟩) (Kd.R_far (p := ⟨gb13045, 0, none⟩) (Kd.R_types HO13043.out BK13045.out (by decide)) (fun _ hk => hk.2) (.int .i64 t13040)) (fun _ hk => hk.2) (.slice Ao123 t13041.length co123)) (fun _ h_ => h_.1)))); (case side2 => exact (Kd.R_reads' HO13043.out).2.1); (case side3 => refine (Kd.R_reads' (e := 3) (base := w.heap.size) (ok := fun k_ => (((some k_ ≠ (.slice Ao29 t13031.length co29 : Value).ownBlock ∧ some k_ ≠ (.slice Ao36 t13019.length co36 : Value).ownBlock) ∧ some k_ ≠ (.slice Ao115 t13037.length co115 : Value).ownBlock) ∧ some k_ ≠ (.slice Ao123 t13041.length co123 : Value).ownBlock)) (n := t13008.length) (c := co22) ?_).2.2; exact (by (with_reducible repeat (first | apply Kd.R_alloc | apply Kd.R_drewN | apply Kd.R_drew)); exact (Kd.R_mono (Kd.R_far (p := ⟨gb13045, 1, none⟩) (Kd.R_far (p := ⟨gb13045, 0, none⟩) (Kd.R_types HO_13013001.out BK13045.out (by decide)) (fun _ hk => hk.2) (.int .i64 t13040)) (fun _ hk => hk.2) (.slice Ao123 t13041.length co123)) (fun _ h_ => h_.1)))); (case side4 => exact (Kd.R_reads' HO_13013001.out).2.1); rintro e w135 ⟨rfl, hb⟩; refine ⟨_, rfl, ?_⟩; replace HO_13013001 := aQ (Kd.R_below (by (with_reducible repeat (first | apply Kd.R_alloc | apply Kd.R_drewN | apply Kd.R_drew)); exact (Kd.R_mono (Kd.R_far (p := ⟨gb13045, 1, none⟩) (Kd.R_far (p := ⟨gb13045, 0, none⟩) (Kd.R_types HO_13013001.out BK13045.out (by decide)) (fun _ hk => hk.2) (.int .i64 t13040)) (fun _ hk => hk.2) (.slice Ao123 t13041.length co123)) (fun _ h_ => h_.1))) hb); replace HO_13018001 := aQ (Kd.R_below (by (with_reducible repeat (first | apply Kd.R_alloc | apply Kd.R_drewN | apply Kd.R_drew)); exact (Kd.R_mono (Kd.R_far (p := ⟨gb13045, 1, none⟩) (Kd.R_far (p := ⟨gb13045, 0, none⟩) (Kd.R_types HO_13018001.out BK13045.out (by decide)) (fun _ hk => hk.2) (.int .i64 t13040)) (fun _ hk => hk.2) (.slice Ao123 t13041.length co123)) (fun _ h_ => h_.1))) hb); replace HO_13024001 := aQ (Kd.R_below (by (with_reducible repeat (first | apply Kd.R_alloc | apply Kd.R_drewN | apply Kd.R_drew)); exact (Kd.R_mono (Kd.R_far (p := ⟨gb13045, 1, none⟩) (Kd.R_far (p := ⟨gb13045, 0, none⟩) (Kd.R_types HO_13024001.out BK13045.out (by decide)) (fun _ hk => hk.2) (.int .i64 t13040)) (fun _ hk => hk.2) (.slice Ao123 t13041.length co123)) (fun _ h_ => h_.1))) hb); replace HO13039 := aQ (Kd.R_below (by (with_reducible repeat (first | apply Kd.R_alloc | apply Kd.R_drewN | apply Kd.R_drew)); exact (Kd.R_mono (Kd.R_far (p := ⟨gb13045, 1, none⟩) (Kd.R_far (p := ⟨gb13045, 0, none⟩) (Kd.R_types HO13039.out BK13045.out (by decide)) (fun _ hk => hk.2) (.int .i64 t13040)) (fun _ hk => hk.2) (.slice Ao123 t13041.length co123)) (fun _ h_ => h_.1))) hb); replace HO13043 := aQ (Kd.R_below (by (with_reducible repeat (first | apply Kd.R_alloc | apply Kd.R_drewN | apply Kd.R_drew)); exact (Kd.R_mono (Kd.R_far (p := ⟨gb13045, 1, none⟩) (Kd.R_far (p := ⟨gb13045, 0, none⟩) (Kd.R_types HO13043.out BK13045.out (by decide)) (fun _ hk => hk.2) (.int .i64 t13040)) (fun _ hk => hk.2) (.slice Ao123 t13041.length co123)) (fun _ h_ => h_.1))) hb); replace BK13001 := aQ (blk_below (g := gb13001) (o := .cells #[.int .i64 a0_0, .slice A0_1 l0_1.length c0_1] 24 (0, 0)) (by (with_reducible repeat (first | refine blk_drewN ?_ _ | refine blk_drew ?_ | refine blk_alloc ?_ _)); refine blk_far ?_ NB13001_13045.out _; (with_reducible repeat (first | refine blk_drewN ?_ _ | refine blk_drew ?_ | refine blk_alloc ?_ _)); refine blk_far ?_ NB13001_13045.out _; (with_reducible repeat (first | refine blk_drewN ?_ _ | refine blk_drew ?_ | refine blk_alloc ?_ _)); exact BK13001.out) hb); replace BK13012 := aQ (blk_below (g := gb13012) (o := .cells #[.int .i64 t13007, .slice Ao22 t13008.length co22] 26 (0, 0)) (by (with_reducible repeat (first | refine blk_drewN ?_ _ | refine blk_drew ?_ | refine blk_alloc ?_ _)); refine blk_far ?_ NB13012_13045.out _; (with_reducible repeat (first | refine blk_drewN ?_ _ | refine blk_drew ?_ | refine blk_alloc ?_ _)); refine blk_far ?_ NB13012_13045.out _; (with_reducible repeat (first | refine blk_drewN ?_ _ | refine blk_drew ?_ | refine blk_alloc ?_ _)); exact BK13012.out) hb); replace BK13017 := aQ (blk_below (g := gb13017) (o := .cells #[.int .i64 t13013, .slice Ao29 t13031.length co29] 26 (0, 0)) (by (with_reducible repeat (first | refine blk_drewN ?_ _ | refine blk_drew ?_ | refine blk_alloc ?_ _)); refine blk_far ?_ NB13017_13045.out _; (with_reducible repeat (first | refine blk_drewN ?_ _ | refine blk_drew ?_ | refine blk_alloc ?_ _)); refine blk_far ?_ NB13017_13045.out _; (with_reducible repeat (first | refine blk_drewN ?_ _ | refine blk_drew ?_ | refine blk_alloc ?_ _)); exact BK13017.out) hb); replace BK13023 := aQ (blk_below (g := gb13023) (o := .cells #[.int .i64 t13018, .slice Ao36 t13019.length co36] 26 (0, 0)) (by (with_reducible repeat (first | refine blk_drewN ?_ _ | refine blk_drew ?_ | refine blk_alloc ?_ _)); refine blk_far ?_ NB13023_13045.out _; (with_reducible repeat (first | refine blk_drewN ?_ _ | refine blk_drew ?_ | refine blk_alloc ?_ _)); refine blk_far ?_ NB13023_13045.out _; (with_reducible repeat (first | refine blk_drewN ?_ _ | refine blk_drew ?_ | refine blk_alloc ?_ _)); exact BK13023.out) hb); replace BK13045 := aQ (blk_below (g := gb13045) (o := .cells #[.int .i64 t13040, .slice Ao123 t13041.length co123] 26 (0, 0)) (by (with_reducible repeat (first | refine blk_drewN ?_ _ | refine blk_drew ?_ | refine blk_alloc ?_ _)); refine blk_put (cs := #[.int .i64 t13040, .slice none 0 0]) ?_ 1 _ rfl; (with_reducible repeat (first | refine blk_drewN ?_ _ | refine blk_drew ?_ | refine blk_alloc ?_ _)); refine blk_put (cs := #[.int .i64 0, .slice none 0 0]) ?_ 0 _ rfl; (with_reducible repeat (first | refine blk_drewN ?_ _ | refine blk_drew ?_ | refine blk_alloc ?_ _)); exact BK13045.out) hb); replace HB := aQ (below_step (by repeat (first | (with_reducible first | exact HB.out | apply below_alloc | apply pw_below_drewN | apply below_drew1 | refine below_set ?_ GE13001.out | refine below_set ?_ GE13012.out | refine below_set ?_ GE13017.out | refine below_set ?_ GE13023.out | refine below_set ?_ GE13045.out) | exact HB.out)) hb); (try clear hb); (try clear hb2); (try clear hk); (try clear hi)))
             go_meet
             case rel => exact ⟨_, ((t13044 != t13011)), (by first | rfl | (simp; done) | (simp [*]; done)), H', ⟨by have := HJ10.out; have := HJ59.out; first | omega | exact Nat.le_refl _⟩, ⟨by (try simp only [hl13018001_59]); (with_reducible repeat (first | apply Kd.R_alloc | apply Kd.R_drewN | apply Kd.R_drew)); exact Kd.R_mono HO_13013001.out (fun _ hk => ⟨hk.1.1.1, ⟨hk.1.1.2, hk.2⟩⟩)⟩, ⟨by (try simp only [hl13018001_59]); (with_reducible repeat (first | apply Kd.R_alloc | apply Kd.R_drewN | apply Kd.R_drew)); exact Kd.R_mono HO_13018001.out (fun _ hk => ⟨hk.1.1.1, ⟨hk.1.1.2, hk.2⟩⟩)⟩, ⟨by (try simp only [hl13018001_59]); (with_reducible repeat (first | apply Kd.R_alloc | apply Kd.R_drewN | apply Kd.R_drew)); exact Kd.R_mono HO_13024001.out (fun _ hk => ⟨hk.1.1.1, ⟨hk.1.1.2, hk.2⟩⟩)⟩, ⟨by (try simp only [hl13018001_59]); (with_reducible repeat (first | apply Kd.R_alloc | apply Kd.R_drewN | apply Kd.R_drew)); exact Kd.R_mono HO13043.out (fun _ hk => ⟨hk.1.1.1.2, ⟨hk.1.1.2, hk.1.2⟩⟩)⟩, ⟨by (try simp only [hl13018001_59]); (with_reducible repeat (first | refine blk_drewN ?_ _ | refine blk_drew ?_ | refine blk_alloc ?_ _)); exact BK13001.out⟩, ⟨by (try simp only [hl13018001_59]); (with_reducible repeat (first | refine blk_drewN ?_ _ | refine blk_drew ?_ | refine blk_alloc ?_ _)); exact BK13012.out⟩, ⟨by (try simp only [hl13018001_59]); (with_reducible repeat (first | refine blk_drewN ?_ _ | refine blk_drew ?_ | refine blk_alloc ?_ _)); exact BK13017.out⟩, ⟨by (try simp only [hl13018001_59]); (with_reducible repeat (first | refine blk_drewN ?_ _ | refine blk_drew ?_ | refine blk_alloc ?_ _)); exact BK13023.out⟩, ⟨by (try simp only [hl13018001_59]); (with_reducible repeat (first | refine blk_drewN ?_ _ | refine blk_drew ?_ | refine blk_alloc ?_ _)); exact BK13045.out⟩, ⟨by repeat (first | (with_reducible first | exact HB.out | apply below_alloc | apply pw_below_drewN | apply below_drew1 | refine below_set ?_ GE13001.out | refine below_set ?_ GE13012.out | refine below_set ?_ GE13017.out | refine below_set ?_ GE13023.out | refine below_set ?_ GE13045.out) | exact HB.out)⟩⟩
            ·replace c125 := Bool.eq_false_iff.mpr c125
             subst c125
             have H1 : (laws_FnExactCanonOf.j2 kj59 t13033 true t13018 t13034) = some true := by rw [if_neg (show ¬ (false = true) by decide)] at H; exact H
             clear H
             have H := H1
             clear H1
             have H' := aQ H
             clear H
             have hnb136 := NB13045_13001.out
             have hnc136 := NB13001_13045.out
             have hnb137 := NB13045_13012.out
             have hnc137 := NB13012_13045.out
             have hnb138 := NB13045_13017.out
             have hnc138 := NB13017_13045.out
             have hnb139 := NB13045_13023.out
             have hnc139 := NB13023_13045.out
             have hcz140_0 : w117.cell? ⟨gb13045, 0, none⟩ = some (.int .i64 0) := (blk_cell BK13045.out 0).trans rfl
             have hcz140_1 : w117.cell? ⟨gb13045, 1, none⟩ = some (.slice none 0 0) := (blk_cell BK13045.out 1).trans rfl
             have hfz140_0 := blk_frozen BK13045.out 0
             have hfz140_1 := blk_frozen BK13045.out 1
             have hnb141 := NB13012_13001.out
             have hnc141 := NB13001_13012.out
             have hnb142 := NB13012_13017.out
             have hnc142 := NB13017_13012.out
             have hnb143 := NB13012_13023.out
             have hnc143 := NB13023_13012.out
             have hcz144_0 : w117.cell? ⟨gb13012, 0, none⟩ = some (.int .i64 t13007) := (blk_cell BK13012.out 0).trans rfl
             have hcz144_1 : w117.cell? ⟨gb13012, 1, none⟩ = some (.slice Ao22 t13008.length co22) := (blk_cell BK13012.out 1).trans rfl
             have hfz144_0 := blk_frozen BK13012.out 0
             have hfz144_1 := blk_frozen BK13012.out 1
             go_wp2_with (first | ((with_reducible refine gate_callee (f := 20) rfl ?_); refine goesL_ (some 81) rfl rfl Try.func20 (by kernel_rfl) rfl #[.agg #[.int .i64 t13040, .slice Ao123 t13041.length co123], .agg #[.int .i64 t13007, .slice Ao22 t13008.length co22]] rfl (by (try simp only [List.map_toArray, List.map_cons, List.map_nil]); first | done | rfl | (simp only [List.length_drop, List.length_take]; rfl)) ?_; (with_reducible refine (laws_eqMatroid.calls kj59 t13040 _ _ t13041 t13007 _ _ t13008 false _ ?side1 ?side2 ?side3 ?side4 A124.out).mono ?_); (case side1 => refine (Kd.R_reads' (e := 3) (base := w.heap.size) (ok := fun k_ => ((((True ∧ some k_ ≠ (.slice Ao22 t13008.length co22 : Value).ownBlock) ∧ some k_ ≠ (.slice Ao29 t13031.length co29 : Value).ownBlock) ∧ some k_ ≠ (.slice Ao36 t13019.length co36 : Value).ownBlock) ∧ some k_ ≠ (.slice Ao115 t13037.length co115 : Value).ownBlock)) (n := t13041.length) (c := co123) ?_).2.2; exact (by (with_reducible repeat (first | apply Kd.R_alloc | apply Kd.R_drewN | apply Kd.R_drew)); exact (Kd.R_mono (Kd.R_far (p := ⟨gb13045, 1, none⟩) (Kd.R_far (p := ⟨gb13045, 0, none⟩) (Kd.R_types HO13043.out BK13045.out (by decide)) (fun _ hk => hk.2) (.int .i64 t13040)) (fun _ hk => hk.2) (.slice Ao123 t13041.length co123)) (fun _ h_ => h_.1)))); (case side2 => exact (Kd.R_reads' HO13043.out).2.1); (case side3 => refine (Kd.R_reads' (e := 3) (base := w.heap.size) (ok := fun k_ => (((some k_ ≠ (.slice Ao29 t13031.length co29 : Value).ownBlock ∧ some k_ ≠ (.slice Ao36 t13019.length co36 : Value).ownBlock) ∧ some k_ ≠ (.slice Ao115 t13037.length co115 : Value).ownBlock) ∧ some k_ ≠ (.slice Ao123 t13041.length co123 : Value).ownBlock)) (n := t13008.length) (c := co22) ?_).2.2; exact (by (with_reducible repeat (first | apply Kd.R_alloc | apply Kd.R_drewN | apply Kd.R_drew)); exact (Kd.R_mono (Kd.R_far (p := ⟨gb13045, 1, none⟩) (Kd.R_far (p := ⟨gb13045, 0, none⟩) (Kd.R_types HO_13013001.out BK13045.out (by decide)) (fun _ hk => hk.2) (.int .i64 t13040)) (fun _ hk => hk.2) (.slice Ao123 t13041.length co123)) (fun _ h_ => h_.1)))); (case side4 => exact (Kd.R_reads' HO_13013001.out).2.1); rintro e w145 ⟨rfl, hb⟩; refine ⟨_, rfl, ?_⟩; replace HO_13013001 := aQ (Kd.R_below (by (with_reducible repeat (first | apply Kd.R_alloc | apply Kd.R_drewN | apply Kd.R_drew)); exact (Kd.R_mono (Kd.R_far (p := ⟨gb13045, 1, none⟩) (Kd.R_far (p := ⟨gb13045, 0, none⟩) (Kd.R_types HO_13013001.out BK13045.out (by decide)) (fun _ hk => hk.2) (.int .i64 t13040)) (fun _ hk => hk.2) (.slice Ao123 t13041.length co123)) (fun _ h_ => h_.1))) hb); replace HO_13018001 := aQ (Kd.R_below (by (with_reducible repeat (first | apply Kd.R_alloc | apply Kd.R_drewN | apply Kd.R_drew)); exact (Kd.R_mono (Kd.R_far (p := ⟨gb13045, 1, none⟩) (Kd.R_far (p := ⟨gb13045, 0, none⟩) (Kd.R_types HO_13018001.out BK13045.out (by decide)) (fun _ hk => hk.2) (.int .i64 t13040)) (fun _ hk => hk.2) (.slice Ao123 t13041.length co123)) (fun _ h_ => h_.1))) hb); replace HO_13024001 := aQ (Kd.R_below (by (with_reducible repeat (first | apply Kd.R_alloc | apply Kd.R_drewN | apply Kd.R_drew)); exact (Kd.R_mono (Kd.R_far (p := ⟨gb13045, 1, none⟩) (Kd.R_far (p := ⟨gb13045, 0, none⟩) (Kd.R_types HO_13024001.out BK13045.out (by decide)) (fun _ hk => hk.2) (.int .i64 t13040)) (fun _ hk => hk.2) (.slice Ao123 t13041.length co123)) (fun _ h_ => h_.1))) hb); replace HO13039 := aQ (Kd.R_below (by (with_reducible repeat (first | apply Kd.R_alloc | apply Kd.R_drewN | apply Kd.R_drew)); exact (Kd.R_mono (Kd.R_far (p := ⟨gb13045, 1, none⟩) (Kd.R_far (p := ⟨gb13045, 0, none⟩) (Kd.R_types HO13039.out BK13045.out (by decide)) (fun _ hk => hk.2) (.int .i64 t13040)) (fun _ hk => hk.2) (.slice Ao123 t13041.length co123)) (fun _ h_ => h_.1))) hb); replace HO13043 := aQ (Kd.R_below (by (with_reducible repeat (first | apply Kd.R_alloc | apply Kd.R_drewN | apply Kd.R_drew)); exact (Kd.R_mono (Kd.R_far (p := ⟨gb13045, 1, none⟩) (Kd.R_far (p := ⟨gb13045, 0, none⟩) (Kd.R_types HO13043.out BK13045.out (by decide)) (fun _ hk => hk.2) (.int .i64 t13040)) (fun _ hk => hk.2) (.slice Ao123 t13041.length co123)) (fun _ h_ => h_.1))) hb); replace BK13001 := aQ (blk_below (g := gb13001) (o := .cells #[.int .i64 a0_0, .slice A0_1 l0_1.length c0_1] 24 (0, 0)) (by (with_reducible repeat (first | refine blk_drewN ?_ _ | refine blk_drew ?_ | refine blk_alloc ?_ _)); refine blk_far ?_ NB13001_13045.out _; (with_reducible repeat (first | refine blk_drewN ?_ _ | refine blk_drew ?_ | refine blk_alloc ?_ _)); refine blk_far ?_ NB13001_13045.out _; (with_reducible repeat (first | refine blk_drewN ?_ _ | refine blk_drew ?_ | refine blk_alloc ?_ _)); exact BK13001.out) hb); replace BK13012 := aQ (blk_below (g := gb13012) (o := .cells #[.int .i64 t13007, .slice Ao22 t13008.length co22] 26 (0, 0)) (by (with_reducible repeat (first | refine blk_drewN ?_ _ | refine blk_drew ?_ | refine blk_alloc ?_ _)); refine blk_far ?_ NB13012_13045.out _; (with_reducible repeat (first | refine blk_drewN ?_ _ | refine blk_drew ?_ | refine blk_alloc ?_ _)); refine blk_far ?_ NB13012_13045.out _; (with_reducible repeat (first | refine blk_drewN ?_ _ | refine blk_drew ?_ | refine blk_alloc ?_ _)); exact BK13012.out) hb); replace BK13017 := aQ (blk_below (g := gb13017) (o := .cells #[.int .i64 t13013, .slice Ao29 t13031.length co29] 26 (0, 0)) (by (with_reducible repeat (first | refine blk_drewN ?_ _ | refine blk_drew ?_ | refine blk_alloc ?_ _)); refine blk_far ?_ NB13017_13045.out _; (with_reducible repeat (first | refine blk_drewN ?_ _ | refine blk_drew ?_ | refine blk_alloc ?_ _)); refine blk_far ?_ NB13017_13045.out _; (with_reducible repeat (first | refine blk_drewN ?_ _ | refine blk_drew ?_ | refine blk_alloc ?_ _)); exact BK13017.out) hb); replace BK13023 := aQ (blk_below (g := gb13023) (o := .cells #[.int .i64 t13018, .slice Ao36 t13019.length co36] 26 (0, 0)) (by (with_reducible repeat (first | refine blk_drewN ?_ _ | refine blk_drew ?_ | refine blk_alloc ?_ _)); refine blk_far ?_ NB13023_13045.out _; (with_reducible repeat (first | refine blk_drewN ?_ _ | refine blk_drew ?_ | refine blk_alloc ?_ _)); refine blk_far ?_ NB13023_13045.out _; (with_reducible repeat (first | refine blk_drewN ?_ _ | refine blk_drew ?_ | refine blk_alloc ?_ _)); exact BK13023.out) hb); replace BK13045 := aQ (blk_below (g := gb13045) (o := .cells #[.int .i64 t13040, .slice Ao123 t13041.length co123] 26 (0, 0)) (by (with_reducible repeat (first | refine blk_drewN ?_ _ | refine blk_drew ?_ | refine blk_alloc ?_ _)); refine blk_put (cs := #[.int .i64 t13040, .slice none 0 0]) ?_ 1 _ rfl; (with_reducible repeat (first | refine blk_drewN ?_ _ | refine blk_drew ?_ | refine blk_alloc ?_ _)); refine blk_put (cs := #[.int .i64 0, .slice none 0 0]) ?_ 0 _ rfl; (with_reducible repeat (first | refine blk_drewN ?_ _ | refine blk_drew ?_ | refine blk_alloc ?_ _)); exact BK13045.out) hb); replace HB := aQ (below_step (by repeat (first | (with_reducible first | exact HB.out | apply below_alloc | apply pw_below_drewN | apply below_drew1 | refine below_set ?_ GE13001.out | refine below_set ?_ GE13012.out | refine below_set ?_ GE13017.out | refine below_set ?_ GE13023.out | refine below_set ?_ GE13045.out) | exact HB.out)) hb); (try clear hb); (try clear hb2); (try clear hk); (try clear hi)))
             go_meet
             case rel => exact ⟨_, (true), (by first | rfl | (simp; done) | (simp [*]; done)), H', ⟨by have := HJ10.out; have := HJ59.out; first | omega | exact Nat.le_refl _⟩, ⟨by (try simp only [hl13018001_59]); (with_reducible repeat (first | apply Kd.R_alloc | apply Kd.R_drewN | apply Kd.R_drew)); exact Kd.R_mono HO_13013001.out (fun _ hk => ⟨hk.1.1.1, ⟨hk.1.1.2, hk.2⟩⟩)⟩, ⟨by (try simp only [hl13018001_59]); (with_reducible repeat (first | apply Kd.R_alloc | apply Kd.R_drewN | apply Kd.R_drew)); exact Kd.R_mono HO_13018001.out (fun _ hk => ⟨hk.1.1.1, ⟨hk.1.1.2, hk.2⟩⟩)⟩, ⟨by (try simp only [hl13018001_59]); (with_reducible repeat (first | apply Kd.R_alloc | apply Kd.R_drewN | apply Kd.R_drew)); exact Kd.R_mono HO_13024001.out (fun _ hk => ⟨hk.1.1.1, ⟨hk.1.1.2, hk.2⟩⟩)⟩, ⟨by (try simp only [hl13018001_59]); (with_reducible repeat (first | apply Kd.R_alloc | apply Kd.R_drewN | apply Kd.R_drew)); exact Kd.R_mono HO13043.out (fun _ hk => ⟨hk.1.1.1.2, ⟨hk.1.1.2, hk.1.2⟩⟩)⟩, ⟨by (try simp only [hl13018001_59]); (with_reducible repeat (first | refine blk_drewN ?_ _ | refine blk_drew ?_ | refine blk_alloc ?_ _)); exact BK13001.out⟩, ⟨by (try simp only [hl13018001_59]); (with_reducible repeat (first | refine blk_drewN ?_ _ | refine blk_drew ?_ | refine blk_alloc ?_ _)); exact BK13012.out⟩, ⟨by (try simp only [hl13018001_59]); (with_reducible repeat (first | refine blk_drewN ?_ _ | refine blk_drew ?_ | refine blk_alloc ?_ _)); exact BK13017.out⟩, ⟨by (try simp only [hl13018001_59]); (with_reducible repeat (first | refine blk_drewN ?_ _ | refine blk_drew ?_ | refine blk_alloc ?_ _)); exact BK13023.out⟩, ⟨by (try simp only [hl13018001_59]); (with_reducible repeat (first | refine blk_drewN ?_ _ | refine blk_drew ?_ | refine blk_alloc ?_ _)); exact BK13045.out⟩, ⟨by repeat (first | (with_reducible first | exact HB.out | apply below_alloc | apply pw_below_drewN | apply below_drew1 | refine below_set ?_ GE13001.out | refine below_set ?_ GE13012.out | refine below_set ?_ GE13017.out | refine below_set ?_ GE13023.out | refine below_set ?_ GE13045.out) | exact HB.out)⟩⟩
           case rest =>
            clear HC103
            try clear c1
            try clear c2
            try clear p2
            try clear c3
            try clear c3b0
            try clear c4
            try clear c5
            try clear c6
            try clear c7
            try clear c8
            try clear c9
            try clear c10
            try clear c11
            try clear c12
            try clear c13
            try clear c14
            try clear c16
            try clear c18
            try clear c20
            try clear c21
            try clear c22
            try clear c26
            try clear c27
            try clear c32
            try clear c33
            try clear c34
            try clear c38
            try clear c39
            try clear c40
            try clear c41
            try clear c43
            try clear c44
            try clear c47
            try clear c48
            try clear c49
            try clear c51
            try clear c52
            try clear c55
            try clear c58
            try clear c65
            try clear c66
            try clear c67
            try clear c70
            try clear c70b0
            try clear c72
            try clear c73
            try clear c74
            try clear c75
            try clear c77
            try clear c78
            try clear c81
            try clear c82
            try clear c83
            try clear c85
            try clear c86
            try clear c89
            try clear c92
            try clear c92b0
            try clear c93
            try clear c94
            try clear c95
            try clear c100
            try clear c100b0
            try clear c100b1
            try clear c104
            try clear c105
            try clear c106
            try clear c111
            try clear c112
            try clear c118
            try clear c119
            try clear c120
            try clear c121
            try clear c125
            try clear c126
            try clear c127
            try clear c128
            try clear c129
            try clear c131
            try clear c132
            try clear c133
            try clear c136
            try clear c137
            try clear c138
            try clear c139
            try clear c141
            try clear c142
            try clear c143
            try clear hcz107_0
            try clear hcz107_1
            try clear hcz109_0
            try clear hcz109_1
            try clear hcz113_0
            try clear hcz113_1
            try clear hcz122_0
            try clear hcz122_1
            try clear hcz130_0
            try clear hcz130_1
            try clear hcz134_0
            try clear hcz134_1
            try clear hcz13_0
            try clear hcz13_1
            try clear hcz140_0
            try clear hcz140_1
            try clear hcz144_0
            try clear hcz144_1
            try clear hcz15_0
            try clear hcz15_1
            try clear hcz21_0
            try clear hcz21_1
            try clear hcz23_0
            try clear hcz23_1
            try clear hcz28_0
            try clear hcz28_1
            try clear hcz35_0
            try clear hcz35_1
            try clear hcz42_0
            try clear hcz42_1
            try clear hcz45_0
            try clear hcz45_1
            try clear hcz50_0
            try clear hcz50_1
            try clear hcz53_0
            try clear hcz53_1
            try clear hcz5_0
            try clear hcz5_1
            try clear hcz68_0
            try clear hcz68_1
            try clear hcz76_0
            try clear hcz76_1
            try clear hcz79_0
            try clear hcz79_1
            try clear hcz84_0
            try clear hcz84_1
            try clear hcz87_0
            try clear hcz87_1
            try clear hcz96_0
            try clear hcz96_1
            try clear hcz98_0
            try clear hcz98_1
            try clear hfz107_0
            try clear hfz107_1
            try clear hfz109_0
            try clear hfz109_1
            try clear hfz113_0
            try clear hfz113_1
            try clear hfz122_0
            try clear hfz122_1
            try clear hfz130_0
            try clear hfz130_1
            try clear hfz134_0
            try clear hfz134_1
            try clear hfz13_0
            try clear hfz13_1
            try clear hfz140_0
            try clear hfz140_1
            try clear hfz144_0
            try clear hfz144_1
            try clear hfz15_0
            try clear hfz15_1
            try clear hfz21_0
            try clear hfz21_1
            try clear hfz23_0
            try clear hfz23_1
            try clear hfz28_0
            try clear hfz28_1
            try clear hfz35_0
            try clear hfz35_1
            try clear hfz42_0
            try clear hfz42_1
            try clear hfz45_0
            try clear hfz45_1
            try clear hfz50_0
            try clear hfz50_1
            try clear hfz53_0
            try clear hfz53_1
            try clear hfz5_0
            try clear hfz5_1
            try clear hfz68_0
            try clear hfz68_1
            try clear hfz76_0
            try clear hfz76_1
            try clear hfz79_0
            try clear hfz79_1
            try clear hfz84_0
            try clear hfz84_1
            try clear hfz87_0
            try clear hfz87_1
            try clear hfz96_0
            try clear hfz96_1
            try clear hfz98_0
            try clear hfz98_1
            try clear p2
            obtain ⟨kq, x87_102, rfl, HA, HJ102, HO_13013001, HO_13018001, HO_13024001, HO_13046001, BK13001, BK13012, BK13017, BK13023, BK13045, HB⟩ := hcut
            have hl13024001_102 := (Kd.R_reads' HO_13024001.out).1
            rw [hl13024001_102] at HO_13024001
            (try simp only [hl13024001_102])
            (try simp only [hl13024001_102] at BK13001)
            (try simp only [hl13024001_102] at BK13012)
            (try simp only [hl13024001_102] at BK13017)
            (try simp only [hl13024001_102] at BK13023)
            (try simp only [hl13024001_102] at BK13045)
            (try simp only [hl13024001_102] at HO_13013001)
            (try simp only [hl13024001_102] at HO_13018001)
            (try simp only [hl13024001_102] at HO_13046001)
            cases kq with
            | zero => exact absurd HA.out (by simp [laws_FnExactCanonOf.j2])
            | succ kj102 =>
             have H := HA.out
             clear HA
             simp only [laws_FnExactCanonOf.j2] at H
             by_cases c146 : x87_102 = true
             ·subst c146
              have H1 : (some false) = some true := by rw [if_pos rfl] at H; exact H
              clear H
              have H := H1
              clear H1
              exact absurd (Option.some.inj H) (by decide)
             ·replace c146 := Bool.eq_false_iff.mpr c146
              subst c146
              have H1 : ((laws_heldMatroid.f kj102 t13018 t13034 1).bind fun t13047 => (if t13047 < 0 then (some false) else (if t13047 = t13033 then (some true) else (some false)))) = some true := by rw [if_neg (show ¬ (false = true) by decide)] at H; exact H
              clear H
              have H := H1
              clear H1
              replace H := Option.bind_eq_some_iff.mp H
              obtain ⟨t13047, A1470, H⟩ := H
              replace H : (if t13047 < 0 then (some false) else (if t13047 = t13033 then (some true) else (some false))) = some true := H
              have A147 := aQ A1470
              clear A1470
              by_cases c148 : t13047 < 0
              ·rw [if_pos c148] at H
               have c148b0 : decide (t13047 < 0) = true := decide_eq_true c148
               clear c148
               exact absurd (Option.some.inj H) (by decide)
              ·rw [if_neg c148] at H
               have c148b0 : decide (t13047 < 0) = false := decide_eq_false c148
               clear c148
               by_cases c155 : t13047 = t13033
               ·rw [if_pos c155] at H
                have c155b0 : (t13047 == t13033) = true := beq_iff_eq.mpr c155
                have c155b1 : (t13047 != t13033) = false := bne_eq_false_iff_eq.mpr c155
                clear c155
                clear H
                have hnb156 := NB13023_13001.out
                have hnc156 := NB13001_13023.out
                have hnb157 := NB13023_13012.out
                have hnc157 := NB13012_13023.out
                have hnb158 := NB13023_13017.out
                have hnc158 := NB13017_13023.out
                have hnb159 := NB13023_13045.out
                have hnc159 := NB13045_13023.out
                have hcz160_0 : wc.cell? ⟨gb13023, 0, none⟩ = some (.int .i64 t13018) := (blk_cell BK13023.out 0).trans rfl
                have hcz160_1 : wc.cell? ⟨gb13023, 1, none⟩ = some (.slice Ao36 t13034.length co36) := (blk_cell BK13023.out 1).trans rfl
                have hfz160_0 := blk_frozen BK13023.out 0
                have hfz160_1 := blk_frozen BK13023.out 1
                go_wp2_with (first | ((with_reducible refine gate_callee (f := 22) rfl ?_); refine goesL_ (some 90) rfl rfl Try.func22 (by kernel_rfl) rfl #[.agg #[.int .i64 t13018, .slice Ao36 t13034.length co36], .int .i64 1] rfl (by (try simp only [List.map_toArray, List.map_cons, List.map_nil]); first | done | rfl | (simp only [List.length_drop, List.length_take]; rfl)) ?_; (with_reducible refine (laws_heldMatroid.calls kj102 t13018 _ _ t13034 1 t13047 _ ?side1 ?side2 A147.out).mono ?_); (case side1 => repeat (first | exact (Kd.R_reads' HO_13024001.out).2.2 | (with_reducible refine Kd.C_alloc ?_ _) | (with_reducible refine Kd.C_drewN ?_ _) | (with_reducible refine Kd.C_drew ?_))); (case side2 => exact (Kd.R_reads' HO_13024001.out).2.1); rintro e w161 ⟨rfl, hb⟩; refine ⟨_, rfl, ?_⟩; replace HO_13013001 := aQ (Kd.R_below (by (with_reducible repeat (first | apply Kd.R_alloc | apply Kd.R_drewN | apply Kd.R_drew)); exact HO_13013001.out) hb); replace HO_13018001 := aQ (Kd.R_below (by (with_reducible repeat (first | apply Kd.R_alloc | apply Kd.R_drewN | apply Kd.R_drew)); exact HO_13018001.out) hb); replace HO_13024001 := aQ (Kd.R_below (by (with_reducible repeat (first | apply Kd.R_alloc | apply Kd.R_drewN | apply Kd.R_drew)); exact HO_13024001.out) hb); replace HO_13046001 := aQ (Kd.R_below (by (with_reducible repeat (first | apply Kd.R_alloc | apply Kd.R_drewN | apply Kd.R_drew)); exact HO_13046001.out) hb); replace BK13001 := aQ (blk_below (g := gb13001) (o := .cells #[.int .i64 a0_0, .slice A0_1 l0_1.length c0_1] 24 (0, 0)) (by (with_reducible repeat (first | refine blk_drewN ?_ _ | refine blk_drew ?_ | refine blk_alloc ?_ _)); exact BK13001.out) hb); replace BK13012 := aQ (blk_below (g := gb13012) (o := .cells #[.int .i64 t13007, .slice Ao22 t13008.length co22] 26 (0, 0)) (by (with_reducible repeat (first | refine blk_drewN ?_ _ | refine blk_drew ?_ | refine blk_alloc ?_ _)); exact BK13012.out) hb); replace BK13017 := aQ (blk_below (g := gb13017) (o := .cells #[.int .i64 t13013, .slice Ao29 t13031.length co29] 26 (0, 0)) (by (with_reducible repeat (first | refine blk_drewN ?_ _ | refine blk_drew ?_ | refine blk_alloc ?_ _)); exact BK13017.out) hb); replace BK13023 := aQ (blk_below (g := gb13023) (o := .cells #[.int .i64 t13018, .slice Ao36 t13034.length co36] 26 (0, 0)) (by (with_reducible repeat (first | refine blk_drewN ?_ _ | refine blk_drew ?_ | refine blk_alloc ?_ _)); exact BK13023.out) hb); replace BK13045 := aQ (blk_below (g := gb13045) (o := .cells #[.int .i64 t13040, .slice Ao123 t13041.length co123] 26 (0, 0)) (by (with_reducible repeat (first | refine blk_drewN ?_ _ | refine blk_drew ?_ | refine blk_alloc ?_ _)); exact BK13045.out) hb); replace HB := aQ (below_step (by repeat (first | (with_reducible first | exact HB.out | apply below_alloc | apply pw_below_drewN | apply below_drew1 | refine below_set ?_ GE13001.out | refine below_set ?_ GE13012.out | refine below_set ?_ GE13017.out | refine below_set ?_ GE13023.out | refine below_set ?_ GE13045.out) | exact HB.out)) hb); (try clear hb); (try clear hb2); (try clear hk); (try clear hi)))
                go_ret
                exact ⟨by first | rfl | (simp [errW_none, errW_some] <;> rfl) | (simp [*, errW_none, errW_some] <;> rfl), by repeat (first | (with_reducible first | exact HB.out | apply below_alloc | apply pw_below_drewN | apply below_drew1 | refine below_set ?_ GE13001.out | refine below_set ?_ GE13012.out | refine below_set ?_ GE13017.out | refine below_set ?_ GE13023.out | refine below_set ?_ GE13045.out) | exact HB.out)⟩
               ·rw [if_neg c155] at H
                have c155b0 : (t13047 == t13033) = false := beq_eq_false_iff_ne.mpr c155
                have c155b1 : (t13047 != t13033) = true := bne_iff_ne.mpr c155
                exact absurd (Option.some.inj H) (by decide)
          ·rw [if_neg c100] at H
           have c100b0 : (t13035 == t13033) = false := beq_eq_false_iff_ne.mpr c100
           have c100b1 : (t13035 != t13033) = true := bne_iff_ne.mpr c100
           exact absurd (Option.some.inj H) (by decide)
     ·replace c58 := Bool.eq_false_iff.mpr c58
      subst c58
      have H1 : (some false) = some true := by rw [if_neg (show ¬ (false = true) by decide)] at H; exact H
      clear H
      have H := H1
      clear H1
      exact absurd (Option.some.inj H) (by decide)
end Go.Proofs.Ytagncnjllpebjaa.A
