/- The machine side of the law FnExactRelax, laid by a program of this work over the kit's print and contracts by hand: Go functions as Lean functions, and proofs that calls come to what these tell. Conditions: those in each theorem. -/
import Derived.Test.YtinoamehdhgpgaaMFnExactRelax0
import Derived.Test.YtinoamehdhgpgaaMFnExactRelax1
import Derived.Test.YtinoamehdhgpgaaMFnExactRelax2
import Derived.Test.YtinoamehdhgpgaaMFnExactRelax3
import Derived.Test.YtinoamehdhgpgaaMFnExactRelax6
namespace Go.Proofs.Ytinoamehdhgpgaa.A
open Go.RowKit Go.Proofs.YtinoamehdhgpgaaW.PrintWords Go.Proofs.YtinoamehdhgpgaaW.PrintLast Go.Proofs.YtinoamehdhgpgaaW.PrintMore
attribute [local go_sem] max2_int min2_int max_two min_two max_three min_three max_four min_four   -- for this text's walks alone
set_option linter.unusedVariables false
set_option linter.unusedSimpArgs false

/-! ### laws_FnExactRelax: function 32 -/
mutual
def laws_FnExactRelax.j0 : Nat → Int → Bool → Bool → Bool → Int → List Int → Int → List Int → Int → List Int → Int → List Int → Option (Bool)
 | 0, _, _, _, _, _, _, _, _, _, _, _, _ => none
 | k + 1, x1, x7, x10, x44, x33002000, x33002001, x33013000, x33013001, x33018000, x33018001, x33024000, x33024001 => if x44 = true then (some false) else ((laws_toMatroid.f k x33002000 x33002001).bind fun bt33025 => ((laws_eqMatroid.f k x33018000 x33018001 bt33025.1 bt33025.2).bind fun t33029 => (if t33029 = true then ((laws_markMatroid.f k x33018000 x33018001 1).bind fun bt33030 => (if bt33030.1 < 0 then (laws_FnExactRelax.j1 k x1 x7 true x33002000 x33002001 x33013000 x33013001 x33024000 x33024001) else ((laws_eqMatroid.f k x33024000 x33024001 x33013000 x33013001).bind fun t33032 => (if t33032 = true then (laws_FnExactRelax.j1 k x1 x7 (x10 != x7) x33002000 x33002001 x33013000 x33013001 x33024000 x33024001) else (laws_FnExactRelax.j1 k x1 x7 true x33002000 x33002001 x33013000 x33013001 x33024000 x33024001))))) else (some false))))
def laws_FnExactRelax.j1 : Nat → Int → Bool → Bool → Int → List Int → Int → List Int → Int → List Int → Option (Bool)
 | 0, _, _, _, _, _, _, _, _, _ => none
 | k + 1, x1, x7, x65, x33002000, x33002001, x33013000, x33013001, x33024000, x33024001 => if x65 = true then (some false) else ((laws_markMatroid.f k x33024000 x33024001 1).bind fun bt33033 => ((laws_heldMatroid.f k x33024000 bt33033.2 1).bind fun t33035 => (if t33035 < 0 then (some false) else (if t33035 = bt33033.1 then ((laws_toMatroid.f k x33002000 x33002001).bind fun bt33036 => ((impl_Relax.f k bt33036.1 bt33036.2 x1).bind fun bt33040 => ((laws_eqMatroid.f k bt33040.1 bt33040.2.1 x33013000 x33013001).bind fun t33046 => (if t33046 = true then (laws_FnExactRelax.j2 k bt33033.1 (bt33040.2.2 != x7) x33024000 bt33033.2) else (laws_FnExactRelax.j2 k bt33033.1 true x33024000 bt33033.2))))) else (some false)))))
def laws_FnExactRelax.j2 : Nat → Int → Bool → Int → List Int → Option (Bool)
 | 0, _, _, _, _ => none
 | k + 1, x12, x92, x33024000, x33024001 => if x92 = true then (some false) else ((laws_heldMatroid.f k x33024000 x33024001 1).bind fun t33047 => (if t33047 < 0 then (some false) else (if t33047 = x12 then (some true) else (some false))))
end
def laws_FnExactRelax.f (k : Nat) (a0_0 : Int) (l0_1 : List Int) (a1 : Int) : Option (Bool) := (laws_szMatroid.f a0_0 l0_1 1048576).bind fun t33002 => (if t33002 < 0 then (some true) else ((laws_toMatroid.f k a0_0 l0_1).bind fun bt33003 => ((spec_Relax.f k bt33003.1 bt33003.2 a1).bind fun bt33007 => ((laws_toMatroid.f k a0_0 l0_1).bind fun bt33013 => ((impl_Relax.f k bt33013.1 bt33013.2 a1).bind fun bt33018 => ((laws_eqMatroid.f k bt33018.1 bt33018.2.1 bt33007.1 bt33007.2.1).bind fun t33024 => (if t33024 = true then (laws_FnExactRelax.j0 k a1 bt33007.2.2 bt33018.2.2 (bt33018.2.2 != bt33007.2.2) a0_0 l0_1 bt33007.1 bt33007.2.1 bt33013.1 bt33013.2 bt33018.1 bt33018.2.1) else (laws_FnExactRelax.j0 k a1 bt33007.2.2 bt33018.2.2 true a0_0 l0_1 bt33007.1 bt33007.2.1 bt33013.1 bt33013.2 bt33018.1 bt33018.2.1))))))))
theorem laws_FnExactRelax.mono_l : ∀ k, (∀ y0 y1 y2 y3 y4 y5 y6 y7 y8 y9 y10 y11, LeO (laws_FnExactRelax.j0 k y0 y1 y2 y3 y4 y5 y6 y7 y8 y9 y10 y11) (laws_FnExactRelax.j0 (k + 1) y0 y1 y2 y3 y4 y5 y6 y7 y8 y9 y10 y11)) ∧ (∀ y0 y1 y2 y3 y4 y5 y6 y7 y8, LeO (laws_FnExactRelax.j1 k y0 y1 y2 y3 y4 y5 y6 y7 y8) (laws_FnExactRelax.j1 (k + 1) y0 y1 y2 y3 y4 y5 y6 y7 y8)) ∧ (∀ y0 y1 y2 y3, LeO (laws_FnExactRelax.j2 k y0 y1 y2 y3) (laws_FnExactRelax.j2 (k + 1) y0 y1 y2 y3))
 | 0 => ⟨fun _ _ _ _ _ _ _ _ _ _ _ _ r h => by simp [laws_FnExactRelax.j0] at h, fun _ _ _ _ _ _ _ _ _ r h => by simp [laws_FnExactRelax.j1] at h, fun _ _ _ _ r h => by simp [laws_FnExactRelax.j2] at h⟩
 | k + 1 => by
  obtain ⟨ih0, ih1, ih2⟩ := laws_FnExactRelax.mono_l k
  refine ⟨?_, ?_, ?_⟩
  ·intro y0 y1 y2 y3 y4 y5 y6 y7 y8 y9 y10 y11
   unfold laws_FnExactRelax.j0
   repeat' first
   | (with_reducible exact ih0 _ _ _ _ _ _ _ _ _ _ _ _)
   | (with_reducible exact ih1 _ _ _ _ _ _ _ _ _)
   | (with_reducible exact ih2 _ _ _ _)
   | (with_reducible exact impl_Relax.mono _ _ _ _)
   | (with_reducible exact laws_eqMatroid.mono _ _ _ _ _)
   | (with_reducible exact laws_heldMatroid.mono _ _ _ _)
   | (with_reducible exact laws_markMatroid.mono _ _ _ _)
   | (with_reducible exact laws_toMatroid.mono _ _ _)
   | (with_reducible exact spec_Relax.mono _ _ _ _)
   | (with_reducible exact LeO.refl _)
   | (with_reducible exact LeO.none _)
   | (with_reducible refine LeO.ite ?_ ?_)
   | (with_reducible refine LeO.bind ?_ (fun _ => ?_))
   | exact ih0 _ _ _ _ _ _ _ _ _ _ _ _
   | exact ih1 _ _ _ _ _ _ _ _ _
   | exact ih2 _ _ _ _
   | exact impl_Relax.mono _ _ _ _
   | exact laws_eqMatroid.mono _ _ _ _ _
   | exact laws_heldMatroid.mono _ _ _ _
   | exact laws_markMatroid.mono _ _ _ _
   | exact laws_toMatroid.mono _ _ _
   | exact spec_Relax.mono _ _ _ _
   | exact LeO.none _
   | refine LeO.ite ?_ ?_
   | refine LeO.bind ?_ (fun _ => ?_)
  ·intro y0 y1 y2 y3 y4 y5 y6 y7 y8
   unfold laws_FnExactRelax.j1
   repeat' first
   | (with_reducible exact ih0 _ _ _ _ _ _ _ _ _ _ _ _)
   | (with_reducible exact ih1 _ _ _ _ _ _ _ _ _)
   | (with_reducible exact ih2 _ _ _ _)
   | (with_reducible exact impl_Relax.mono _ _ _ _)
   | (with_reducible exact laws_eqMatroid.mono _ _ _ _ _)
   | (with_reducible exact laws_heldMatroid.mono _ _ _ _)
   | (with_reducible exact laws_markMatroid.mono _ _ _ _)
   | (with_reducible exact laws_toMatroid.mono _ _ _)
   | (with_reducible exact spec_Relax.mono _ _ _ _)
   | (with_reducible exact LeO.refl _)
   | (with_reducible exact LeO.none _)
   | (with_reducible refine LeO.ite ?_ ?_)
   | (with_reducible refine LeO.bind ?_ (fun _ => ?_))
   | exact ih0 _ _ _ _ _ _ _ _ _ _ _ _
   | exact ih1 _ _ _ _ _ _ _ _ _
   | exact ih2 _ _ _ _
   | exact impl_Relax.mono _ _ _ _
   | exact laws_eqMatroid.mono _ _ _ _ _
   | exact laws_heldMatroid.mono _ _ _ _
   | exact laws_markMatroid.mono _ _ _ _
   | exact laws_toMatroid.mono _ _ _
   | exact spec_Relax.mono _ _ _ _
   | exact LeO.none _
   | refine LeO.ite ?_ ?_
   | refine LeO.bind ?_ (fun _ => ?_)
  ·intro y0 y1 y2 y3
   unfold laws_FnExactRelax.j2
   repeat' first
   | (with_reducible exact ih0 _ _ _ _ _ _ _ _ _ _ _ _)
   | (with_reducible exact ih1 _ _ _ _ _ _ _ _ _)
   | (with_reducible exact ih2 _ _ _ _)
   | (with_reducible exact impl_Relax.mono _ _ _ _)
   | (with_reducible exact laws_eqMatroid.mono _ _ _ _ _)
   | (with_reducible exact laws_heldMatroid.mono _ _ _ _)
   | (with_reducible exact laws_markMatroid.mono _ _ _ _)
   | (with_reducible exact laws_toMatroid.mono _ _ _)
   | (with_reducible exact spec_Relax.mono _ _ _ _)
   | (with_reducible exact LeO.refl _)
   | (with_reducible exact LeO.none _)
   | (with_reducible refine LeO.ite ?_ ?_)
   | (with_reducible refine LeO.bind ?_ (fun _ => ?_))
   | exact ih0 _ _ _ _ _ _ _ _ _ _ _ _
   | exact ih1 _ _ _ _ _ _ _ _ _
   | exact ih2 _ _ _ _
   | exact impl_Relax.mono _ _ _ _
   | exact laws_eqMatroid.mono _ _ _ _ _
   | exact laws_heldMatroid.mono _ _ _ _
   | exact laws_markMatroid.mono _ _ _ _
   | exact laws_toMatroid.mono _ _ _
   | exact spec_Relax.mono _ _ _ _
   | exact LeO.none _
   | refine LeO.ite ?_ ?_
   | refine LeO.bind ?_ (fun _ => ?_)
theorem laws_FnExactRelax.mono : ∀ a0 a1 a2 k, LeO (laws_FnExactRelax.f k a0 a1 a2) (laws_FnExactRelax.f (k + 1) a0 a1 a2) := by
 intro a0 a1 a2 k
 obtain ⟨ih0, ih1, ih2⟩ := laws_FnExactRelax.mono_l k
 unfold laws_FnExactRelax.f
 repeat' first
   | (with_reducible exact ih0 _ _ _ _ _ _ _ _ _ _ _ _)
   | (with_reducible exact ih1 _ _ _ _ _ _ _ _ _)
   | (with_reducible exact ih2 _ _ _ _)
   | (with_reducible exact impl_Relax.mono _ _ _ _)
   | (with_reducible exact laws_eqMatroid.mono _ _ _ _ _)
   | (with_reducible exact laws_heldMatroid.mono _ _ _ _)
   | (with_reducible exact laws_markMatroid.mono _ _ _ _)
   | (with_reducible exact laws_toMatroid.mono _ _ _)
   | (with_reducible exact spec_Relax.mono _ _ _ _)
   | (with_reducible exact LeO.refl _)
   | (with_reducible exact LeO.none _)
   | (with_reducible refine LeO.ite ?_ ?_)
   | (with_reducible refine LeO.bind ?_ (fun _ => ?_))
   | exact ih0 _ _ _ _ _ _ _ _ _ _ _ _
   | exact ih1 _ _ _ _ _ _ _ _ _
   | exact ih2 _ _ _ _
   | exact impl_Relax.mono _ _ _ _
   | exact laws_eqMatroid.mono _ _ _ _ _
   | exact laws_heldMatroid.mono _ _ _ _
   | exact laws_markMatroid.mono _ _ _ _
   | exact laws_toMatroid.mono _ _ _
   | exact spec_Relax.mono _ _ _ _
   | exact LeO.none _
   | refine LeO.ite ?_ ?_
   | refine LeO.bind ?_ (fun _ => ?_)
set_option maxHeartbeats 8000000 in
set_option maxRecDepth 100000 in
theorem laws_FnExactRelax.calls (k : Nat) (a0_0 : Int) (A0_1 : Option Addr) (c0_1 : Nat) (l0_1 : List Int) (a1 : Int) (w : World) (hr0_1 : Kd.C (Kd.int .i64) w A0_1 l0_1.length l0_1) (hc0_1 : l0_1.length ≤ c0_1) (h : laws_FnExactRelax.f k a0_0 l0_1 a1 = some true) :
  Calls Try.prog 32 #[.agg #[.int .i64 a0_0, .slice A0_1 l0_1.length c0_1], .int .i64 a1] w fun e w' => e = .returned (.bool true) ∧ Below w.heap.size w w' := by
 have hu24 := Try.underlying24
 have hu28 := Try.underlying28
 have HR0_1 := aQ hr0_1
 have HC0_1 := aQ hc0_1
 clear hr0_1 hc0_1
 have HB := aQ (Below.refl w.heap.size w)
 have H : ((laws_szMatroid.f a0_0 l0_1 1048576).bind fun t33002 => (if t33002 < 0 then (some true) else ((laws_toMatroid.f k a0_0 l0_1).bind fun bt33003 => ((spec_Relax.f k bt33003.1 bt33003.2 a1).bind fun bt33007 => ((laws_toMatroid.f k a0_0 l0_1).bind fun bt33013 => ((impl_Relax.f k bt33013.1 bt33013.2 a1).bind fun bt33018 => ((laws_eqMatroid.f k bt33018.1 bt33018.2.1 bt33007.1 bt33007.2.1).bind fun t33024 => (if t33024 = true then (laws_FnExactRelax.j0 k a1 bt33007.2.2 bt33018.2.2 (bt33018.2.2 != bt33007.2.2) a0_0 l0_1 bt33007.1 bt33007.2.1 bt33013.1 bt33013.2 bt33018.1 bt33018.2.1) else (laws_FnExactRelax.j0 k a1 bt33007.2.2 bt33018.2.2 true a0_0 l0_1 bt33007.1 bt33007.2.1 bt33013.1 bt33013.2 bt33018.1 bt33018.2.1))))))))) = some true := h
 clear h
 replace H := Option.bind_eq_some_iff.mp H
 obtain ⟨t33002, A30, H⟩ := H
 replace H : (if t33002 < 0 then (some true) else ((laws_toMatroid.f k a0_0 l0_1).bind fun bt33003 => ((spec_Relax.f k bt33003.1 bt33003.2 a1).bind fun bt33007 => ((laws_toMatroid.f k a0_0 l0_1).bind fun bt33013 => ((impl_Relax.f k bt33013.1 bt33013.2 a1).bind fun bt33018 => ((laws_eqMatroid.f k bt33018.1 bt33018.2.1 bt33007.1 bt33007.2.1).bind fun t33024 => (if t33024 = true then (laws_FnExactRelax.j0 k a1 bt33007.2.2 bt33018.2.2 (bt33018.2.2 != bt33007.2.2) a0_0 l0_1 bt33007.1 bt33007.2.1 bt33013.1 bt33013.2 bt33018.1 bt33018.2.1) else (laws_FnExactRelax.j0 k a1 bt33007.2.2 bt33018.2.2 true a0_0 l0_1 bt33007.1 bt33007.2.1 bt33013.1 bt33013.2 bt33018.1 bt33018.2.1)))))))) = some true := H
 have A3 := aQ A30
 clear A30
 by_cases c4 : t33002 < 0
 ·rw [if_pos c4] at H
  have c4b0 : decide (t33002 < 0) = true := decide_eq_true c4
  clear c4
  clear H
  go_enter Try.func32, Try.ntmps32
  go_wp2_with (first | ((with_reducible refine gate_dst (N := 2) rfl ?_); refine box_event ?hg (N := 2) ?hd (cs := #[.int .i64 a0_0, .slice A0_1 l0_1.length c0_1]) (t := 24) ?hr ?_; (case hd => rfl); (case hg => rfl); (case hr => first | (go_simp; done) | (go_simp; rfl)); intro gb33001 hg w5 hbox hb; have BK33001 := aQ (hbox); have GW33001 := aQ ((by rw [hg]; exact (below_size (pB HB.out)) : w.heap.size ≤ gb33001)); have GE33001 := aQ ((by rw [hg]; exact (below_size (pB HB.out)) : w.heap.size ≤ gb33001)); replace HB := aQ (below_step (pB HB.out) hb); clear hb hbox hg; have hcz6_0 := bc (v := (.int .i64 a0_0)) BK33001.out 0; have hcz6_1 := bc (v := (.slice A0_1 l0_1.length c0_1)) BK33001.out 1; have hfz6_0 := blk_frozen BK33001.out 0; have hfz6_1 := blk_frozen BK33001.out 1) | ((with_reducible refine gate_callee (f := 33) rfl ?_); refine goesL_ (some 18) rfl rfl Try.func33 (by kernel_rfl) rfl #[.agg #[.int .i64 a0_0, .slice A0_1 l0_1.length c0_1], .int .i64 1048576] rfl lm ?_; (with_reducible refine (laws_szMatroid.calls a0_0 _ _ l0_1 1048576 t33002 _ ?side1 ?side2 A3.out).mono ?_); (case side1 => exact pC (Kd.C_below HR0_1.out HB.out)); (case side2 => exact HC0_1.out); rintro e w7 ⟨rfl, hb⟩; refine ⟨_, rfl, ?_⟩; replace BK33001 := aQ (blk_below (g := gb33001) (o := .cells #[.int .i64 a0_0, .slice A0_1 l0_1.length c0_1] 24 (0, 0)) (pk BK33001.out) hb); replace HB := aQ (below_step (pB1 HB.out GE33001.out) hb); (try clear hb)))
  go_ret
  exact ⟨re_, pB1 HB.out GE33001.out⟩
 ·rw [if_neg c4] at H
  have c4b0 : decide (t33002 < 0) = false := decide_eq_false c4
  clear c4
  replace H := Option.bind_eq_some_iff.mp H
  obtain ⟨⟨t33003, t33004⟩, A80, H⟩ := H
  replace H : ((spec_Relax.f k t33003 t33004 a1).bind fun bt33007 => ((laws_toMatroid.f k a0_0 l0_1).bind fun bt33013 => ((impl_Relax.f k bt33013.1 bt33013.2 a1).bind fun bt33018 => ((laws_eqMatroid.f k bt33018.1 bt33018.2.1 bt33007.1 bt33007.2.1).bind fun t33024 => (if t33024 = true then (laws_FnExactRelax.j0 k a1 bt33007.2.2 bt33018.2.2 (bt33018.2.2 != bt33007.2.2) a0_0 l0_1 bt33007.1 bt33007.2.1 bt33013.1 bt33013.2 bt33018.1 bt33018.2.1) else (laws_FnExactRelax.j0 k a1 bt33007.2.2 bt33018.2.2 true a0_0 l0_1 bt33007.1 bt33007.2.1 bt33013.1 bt33013.2 bt33018.1 bt33018.2.1)))))) = some true := H
  have A8 := aQ A80
  clear A80
  replace H := Option.bind_eq_some_iff.mp H
  obtain ⟨⟨t33007, t33008, t33011⟩, A90, H⟩ := H
  replace H : ((laws_toMatroid.f k a0_0 l0_1).bind fun bt33013 => ((impl_Relax.f k bt33013.1 bt33013.2 a1).bind fun bt33018 => ((laws_eqMatroid.f k bt33018.1 bt33018.2.1 t33007 t33008).bind fun t33024 => (if t33024 = true then (laws_FnExactRelax.j0 k a1 t33011 bt33018.2.2 (bt33018.2.2 != t33011) a0_0 l0_1 t33007 t33008 bt33013.1 bt33013.2 bt33018.1 bt33018.2.1) else (laws_FnExactRelax.j0 k a1 t33011 bt33018.2.2 true a0_0 l0_1 t33007 t33008 bt33013.1 bt33013.2 bt33018.1 bt33018.2.1))))) = some true := H
  have A9 := aQ A90
  clear A90
  replace H := Option.bind_eq_some_iff.mp H
  obtain ⟨⟨t33013, t33014⟩, A100, H⟩ := H
  replace H : ((impl_Relax.f k t33013 t33014 a1).bind fun bt33018 => ((laws_eqMatroid.f k bt33018.1 bt33018.2.1 t33007 t33008).bind fun t33024 => (if t33024 = true then (laws_FnExactRelax.j0 k a1 t33011 bt33018.2.2 (bt33018.2.2 != t33011) a0_0 l0_1 t33007 t33008 t33013 t33014 bt33018.1 bt33018.2.1) else (laws_FnExactRelax.j0 k a1 t33011 bt33018.2.2 true a0_0 l0_1 t33007 t33008 t33013 t33014 bt33018.1 bt33018.2.1)))) = some true := H
  have A10 := aQ A100
  clear A100
  replace H := Option.bind_eq_some_iff.mp H
  obtain ⟨⟨t33018, t33019, t33022⟩, A110, H⟩ := H
  replace H : ((laws_eqMatroid.f k t33018 t33019 t33007 t33008).bind fun t33024 => (if t33024 = true then (laws_FnExactRelax.j0 k a1 t33011 t33022 (t33022 != t33011) a0_0 l0_1 t33007 t33008 t33013 t33014 t33018 t33019) else (laws_FnExactRelax.j0 k a1 t33011 t33022 true a0_0 l0_1 t33007 t33008 t33013 t33014 t33018 t33019))) = some true := H
  have A11 := aQ A110
  clear A110
  have HC12 := aQ H
  clear H
  go_enter Try.func32, Try.ntmps32
  go_upto_region 8 with (first | ((with_reducible refine gate_dst (N := 2) rfl ?_); refine box_event ?hg (N := 2) ?hd (cs := #[.int .i64 a0_0, .slice A0_1 l0_1.length c0_1]) (t := 24) ?hr ?_; (case hd => rfl); (case hg => rfl); (case hr => first | (go_simp; done) | (go_simp; rfl)); intro gb33001 hg w13 hbox hb; have BK33001 := aQ (hbox); have GW33001 := aQ ((by rw [hg]; exact (below_size (pB HB.out)) : w.heap.size ≤ gb33001)); have GE33001 := aQ ((by rw [hg]; exact (below_size (pB HB.out)) : w.heap.size ≤ gb33001)); replace HB := aQ (below_step (pB HB.out) hb); clear hb hbox hg; have hcz14_0 := bc (v := (.int .i64 a0_0)) BK33001.out 0; have hcz14_1 := bc (v := (.slice A0_1 l0_1.length c0_1)) BK33001.out 1; have hfz14_0 := blk_frozen BK33001.out 0; have hfz14_1 := blk_frozen BK33001.out 1) | ((with_reducible refine gate_callee (f := 33) rfl ?_); refine goesL_ (some 18) rfl rfl Try.func33 (by kernel_rfl) rfl #[.agg #[.int .i64 a0_0, .slice A0_1 l0_1.length c0_1], .int .i64 1048576] rfl lm ?_; (with_reducible refine (laws_szMatroid.calls a0_0 _ _ l0_1 1048576 t33002 _ ?side1 ?side2 A3.out).mono ?_); (case side1 => exact pC (Kd.C_below HR0_1.out HB.out)); (case side2 => exact HC0_1.out); rintro e w15 ⟨rfl, hb⟩; refine ⟨_, rfl, ?_⟩; replace BK33001 := aQ (blk_below (g := gb33001) (o := .cells #[.int .i64 a0_0, .slice A0_1 l0_1.length c0_1] 24 (0, 0)) (pk BK33001.out) hb); replace HB := aQ (below_step (pB1 HB.out GE33001.out) hb); (try clear hb); have hcz16_0 := bc (v := (.int .i64 a0_0)) BK33001.out 0; have hcz16_1 := bc (v := (.slice A0_1 l0_1.length c0_1)) BK33001.out 1; have hfz16_0 := blk_frozen BK33001.out 0; have hfz16_1 := blk_frozen BK33001.out 1) | ((with_reducible refine gate_callee (f := 35) rfl ?_); refine goesL_ (some 23) rfl rfl Try.func35 (by kernel_rfl) rfl #[.agg #[.int .i64 a0_0, .slice A0_1 l0_1.length c0_1]] rfl lm ?_; (with_reducible refine (laws_toMatroid.calls k a0_0 _ _ l0_1 t33003 t33004 _ ?side1 ?side2 A8.out).mono ?_); (case side1 => exact pC (Kd.C_below HR0_1.out HB.out)); (case side2 => exact HC0_1.out); rintro e w17 ⟨v33005, rfl, ho0, hb⟩; refine ⟨_, rfl, ?_⟩; have HO33006 := aQ (Kd.R_lower ho0 (below_size (pB1 HB.out GE33001.out))); replace BK33001 := aQ (blk_below (g := gb33001) (o := .cells #[.int .i64 a0_0, .slice A0_1 l0_1.length c0_1] 24 (0, 0)) (pk BK33001.out) hb); replace HB := aQ (below_step (pB1 HB.out GE33001.out) hb); (try clear hb); (try clear ho0); obtain ⟨Ao18, co18, eo18⟩ := Kd.R_slice HO33006.out; subst eo18) | ((with_reducible refine gate_callee (f := 107) rfl ?_); refine goesL_ (some 25) rfl rfl Try.func107 (by kernel_rfl) rfl #[.agg #[.int .i64 t33003, .slice Ao18 t33004.length co18], .int .i64 a1] rfl lm ?_; (with_reducible refine (spec_Relax.calls k t33003 _ _ t33004 a1 t33007 t33008 t33011 _ ?side1 ?side2 A9.out).mono ?_); (case side1 => repeat (first | exact (Kd.R_reads' HO33006.out).2.2 | (with_reducible refine Kd.C_alloc ?_ _) | (with_reducible refine Kd.C_drewN ?_ _) | (with_reducible refine Kd.C_drew ?_))); (case side2 => exact (Kd.R_reads' HO33006.out).2.1); rintro e w19 ⟨v33009, rfl, ho0, hb⟩; refine ⟨_, rfl, ?_⟩; have HO33010 := aQ (Kd.R_lower (Kd.R_new' ho0 (Kd.R_lt (pR HO33006.out))) (below_size (pB1 HB.out GE33001.out))); replace HO33006 := aQ (Kd.R_elder' (pR HO33006.out) (Kd.R_base ho0) hb); replace BK33001 := aQ (blk_below (g := gb33001) (o := .cells #[.int .i64 a0_0, .slice A0_1 l0_1.length c0_1] 24 (0, 0)) (pk BK33001.out) hb); replace HB := aQ (below_step (pB1 HB.out GE33001.out) hb); (try clear hb); (try clear ho0)) | ((with_reducible refine gate_dst (N := 6) rfl ?_); refine box_event ?hg (N := 6) ?hd (cs := #[.int .i64 0, .slice none 0 0]) (t := 28) ?hr ?_; (case hd => rfl); (case hg => rfl); (case hr => first | (go_simp; done) | (go_simp; rfl)); intro gb33012 hg w20 hbox hb; replace HO33006 := aQ (Kd.R_below (pR HO33006.out) hb); replace HO33010 := aQ (Kd.R_below (pR HO33010.out) hb); have BK33012 := aQ (hbox); have GW33012 := aQ ((by rw [hg]; exact (below_size (pB1 HB.out GE33001.out)) : w.heap.size ≤ gb33012)); have GE33012 := aQ ((by rw [hg]; exact (below_size (pB1 HB.out GE33001.out)) : w.heap.size ≤ gb33012)); replace HB := aQ (below_step (pB1 HB.out GE33001.out) hb); have NB33001_33012 := aQ ((by rw [hg]; exact Nat.ne_of_lt (blk_lt (g := gb33001) (o := .cells #[.int .i64 a0_0, .slice A0_1 l0_1.length c0_1] 24 (0, 0)) (pk BK33001.out)) : gb33001 ≠ gb33012)); have NB33012_33001 := aQ ((by rw [hg]; exact Nat.ne_of_gt (blk_lt (g := gb33001) (o := .cells #[.int .i64 a0_0, .slice A0_1 l0_1.length c0_1] 24 (0, 0)) (pk BK33001.out)) : gb33012 ≠ gb33001)); replace BK33001 := aQ (blk_below (g := gb33001) (o := .cells #[.int .i64 a0_0, .slice A0_1 l0_1.length c0_1] 24 (0, 0)) (pk BK33001.out) hb); clear hb hbox hg; have hnb21 := NB33012_33001.out; have hnc21 := NB33001_33012.out; have hcz22_0 := bc (v := (.int .i64 0)) BK33012.out 0; have hcz22_1 := bc (v := (.slice none 0 0)) BK33012.out 1; have hfz22_0 := blk_frozen BK33012.out 0; have hfz22_1 := blk_frozen BK33012.out 1; obtain ⟨Ao23, co23, eo23⟩ := Kd.R_slice HO33010.out; subst eo23; have hcz24_0 := bc (v := (.int .i64 a0_0)) BK33001.out 0; have hcz24_1 := bc (v := (.slice A0_1 l0_1.length c0_1)) BK33001.out 1; have hfz24_0 := blk_frozen BK33001.out 0; have hfz24_1 := blk_frozen BK33001.out 1) | ((with_reducible refine gate_callee (f := 35) rfl ?_); refine goesL_ (some 29) rfl rfl Try.func35 (by kernel_rfl) rfl #[.agg #[.int .i64 a0_0, .slice A0_1 l0_1.length c0_1]] rfl lm ?_; (with_reducible refine (laws_toMatroid.calls k a0_0 _ _ l0_1 t33013 t33014 _ ?side1 ?side2 A10.out).mono ?_); (case side1 => exact Kd.C_below HR0_1.out (pB2 HB.out GE33001.out GE33012.out)); (case side2 => exact HC0_1.out); rintro e w25 ⟨v33015, rfl, ho0, hb⟩; refine ⟨_, rfl, ?_⟩; have HO33016 := aQ (Kd.R_lower (Kd.R_new' (Kd.R_new' ho0 (Kd.R_lt (by (with_reducible repeat (first | apply Kd.R_alloc | apply Kd.R_drewN | apply Kd.R_drew)); exact (Kd.R_mono (Kd.R_far (p := ⟨gb33012, 1, none⟩) (Kd.R_far (p := ⟨gb33012, 0, none⟩) (Kd.R_types HO33006.out BK33012.out (by decide)) (fun _ hk => hk.2) (.int .i64 t33007)) (fun _ hk => hk.2) (.slice Ao23 t33008.length co23)) (fun _ h_ => h_.1))))) (Kd.R_lt (by (with_reducible repeat (first | apply Kd.R_alloc | apply Kd.R_drewN | apply Kd.R_drew)); exact (Kd.R_mono (Kd.R_far (p := ⟨gb33012, 1, none⟩) (Kd.R_far (p := ⟨gb33012, 0, none⟩) (Kd.R_types HO33010.out BK33012.out (by decide)) (fun _ hk => hk.2) (.int .i64 t33007)) (fun _ hk => hk.2) (.slice Ao23 t33008.length co23)) (fun _ h_ => h_.1))))) (below_size (pB2 HB.out GE33001.out GE33012.out))); replace HO33006 := aQ (Kd.R_elder' (by (with_reducible repeat (first | apply Kd.R_alloc | apply Kd.R_drewN | apply Kd.R_drew)); exact (Kd.R_mono (Kd.R_far (p := ⟨gb33012, 1, none⟩) (Kd.R_far (p := ⟨gb33012, 0, none⟩) (Kd.R_types HO33006.out BK33012.out (by decide)) (fun _ hk => hk.2) (.int .i64 t33007)) (fun _ hk => hk.2) (.slice Ao23 t33008.length co23)) (fun _ h_ => h_.1))) (Kd.R_base ho0) hb); replace HO33010 := aQ (Kd.R_elder' (by (with_reducible repeat (first | apply Kd.R_alloc | apply Kd.R_drewN | apply Kd.R_drew)); exact (Kd.R_mono (Kd.R_far (p := ⟨gb33012, 1, none⟩) (Kd.R_far (p := ⟨gb33012, 0, none⟩) (Kd.R_types HO33010.out BK33012.out (by decide)) (fun _ hk => hk.2) (.int .i64 t33007)) (fun _ hk => hk.2) (.slice Ao23 t33008.length co23)) (fun _ h_ => h_.1))) (Kd.R_base ho0) hb); replace BK33001 := aQ (blk_below (g := gb33001) (o := .cells #[.int .i64 a0_0, .slice A0_1 l0_1.length c0_1] 24 (0, 0)) (by (with_reducible repeat (first | refine blk_drewN ?_ _ | refine blk_drew ?_ | refine blk_alloc ?_ _)); refine blk_far ?_ NB33001_33012.out _; (with_reducible repeat (first | refine blk_drewN ?_ _ | refine blk_drew ?_ | refine blk_alloc ?_ _)); refine blk_far ?_ NB33001_33012.out _; (with_reducible repeat (first | refine blk_drewN ?_ _ | refine blk_drew ?_ | refine blk_alloc ?_ _)); exact BK33001.out) hb); replace BK33012 := aQ (blk_below (g := gb33012) (o := .cells #[.int .i64 t33007, .slice Ao23 t33008.length co23] 28 (0, 0)) (by (with_reducible repeat (first | refine blk_drewN ?_ _ | refine blk_drew ?_ | refine blk_alloc ?_ _)); refine blk_put (cs := #[.int .i64 t33007, .slice none 0 0]) ?_ 1 _ rfl; (with_reducible repeat (first | refine blk_drewN ?_ _ | refine blk_drew ?_ | refine blk_alloc ?_ _)); refine blk_put (cs := #[.int .i64 0, .slice none 0 0]) ?_ 0 _ rfl; (with_reducible repeat (first | refine blk_drewN ?_ _ | refine blk_drew ?_ | refine blk_alloc ?_ _)); exact BK33012.out) hb); replace HB := aQ (below_step (pB2 HB.out GE33001.out GE33012.out) hb); (try clear hb); (try clear hk); (try clear ho0)) | ((with_reducible refine gate_dst (N := 8) rfl ?_); refine box_event ?hg (N := 8) ?hd (cs := #[.int .i64 0, .slice none 0 0]) (t := 28) ?hr ?_; (case hd => rfl); (case hg => rfl); (case hr => first | (go_simp; done) | (go_simp; rfl)); intro gb33017 hg w26 hbox hb; replace HO33006 := aQ (Kd.R_below (pR HO33006.out) hb); replace HO33010 := aQ (Kd.R_below (pR HO33010.out) hb); replace HO33016 := aQ (Kd.R_below (pR HO33016.out) hb); have BK33017 := aQ (hbox); have GW33017 := aQ ((by rw [hg]; exact (below_size (pB2 HB.out GE33001.out GE33012.out)) : w.heap.size ≤ gb33017)); have GE33017 := aQ ((by rw [hg]; exact (below_size (pB2 HB.out GE33001.out GE33012.out)) : w.heap.size ≤ gb33017)); replace HB := aQ (below_step (pB2 HB.out GE33001.out GE33012.out) hb); have NB33001_33017 := aQ ((by rw [hg]; exact Nat.ne_of_lt (blk_lt (g := gb33001) (o := .cells #[.int .i64 a0_0, .slice A0_1 l0_1.length c0_1] 24 (0, 0)) (pk BK33001.out)) : gb33001 ≠ gb33017)); have NB33017_33001 := aQ ((by rw [hg]; exact Nat.ne_of_gt (blk_lt (g := gb33001) (o := .cells #[.int .i64 a0_0, .slice A0_1 l0_1.length c0_1] 24 (0, 0)) (pk BK33001.out)) : gb33017 ≠ gb33001)); replace BK33001 := aQ (blk_below (g := gb33001) (o := .cells #[.int .i64 a0_0, .slice A0_1 l0_1.length c0_1] 24 (0, 0)) (pk BK33001.out) hb); have NB33012_33017 := aQ ((by rw [hg]; exact Nat.ne_of_lt (blk_lt (g := gb33012) (o := .cells #[.int .i64 t33007, .slice Ao23 t33008.length co23] 28 (0, 0)) (pk BK33012.out)) : gb33012 ≠ gb33017)); have NB33017_33012 := aQ ((by rw [hg]; exact Nat.ne_of_gt (blk_lt (g := gb33012) (o := .cells #[.int .i64 t33007, .slice Ao23 t33008.length co23] 28 (0, 0)) (pk BK33012.out)) : gb33017 ≠ gb33012)); replace BK33012 := aQ (blk_below (g := gb33012) (o := .cells #[.int .i64 t33007, .slice Ao23 t33008.length co23] 28 (0, 0)) (pk BK33012.out) hb); clear hb hbox hg; have hnb27 := NB33017_33001.out; have hnc27 := NB33001_33017.out; have hnb28 := NB33017_33012.out; have hnc28 := NB33012_33017.out; have hcz29_0 := bc (v := (.int .i64 0)) BK33017.out 0; have hcz29_1 := bc (v := (.slice none 0 0)) BK33017.out 1; have hfz29_0 := blk_frozen BK33017.out 0; have hfz29_1 := blk_frozen BK33017.out 1; obtain ⟨Ao30, co30, eo30⟩ := Kd.R_slice HO33016.out; subst eo30) | ((with_reducible refine gate_callee (f := 108) rfl ?_); refine goesL_ (some 33) rfl rfl Try.func108 (by kernel_rfl) rfl #[.agg #[.int .i64 t33013, .slice Ao30 t33014.length co30], .int .i64 a1] rfl lm ?_; (with_reducible refine (impl_Relax.calls k t33013 _ _ t33014 a1 t33018 t33019 t33022 _ ?side1 ?side2 A11.out).mono ?_); (case side1 => refine (Kd.R_reads' (e := 3) (base := w.heap.size) (ok := fun k_ => ((True ∧ some k_ ≠ (.slice Ao18 t33004.length co18 : Value).ownBlock) ∧ some k_ ≠ (.slice Ao23 t33008.length co23 : Value).ownBlock)) (n := t33014.length) (c := co30) ?_).2.2; exact (by (with_reducible repeat (first | apply Kd.R_alloc | apply Kd.R_drewN | apply Kd.R_drew)); exact (Kd.R_mono (Kd.R_far (p := ⟨gb33017, 1, none⟩) (Kd.R_far (p := ⟨gb33017, 0, none⟩) (Kd.R_types HO33016.out BK33017.out (by decide)) (fun _ hk => hk.2) (.int .i64 t33013)) (fun _ hk => hk.2) (.slice Ao30 t33014.length co30)) (fun _ h_ => h_.1)))); (case side2 => exact (Kd.R_reads' HO33016.out).2.1); rintro e w31 ⟨v33020, rfl, ho0, hb⟩; refine ⟨_, rfl, ?_⟩; have HO33021 := aQ (Kd.R_lower (Kd.R_new' (Kd.R_new' (Kd.R_new' ho0 (Kd.R_lt (by (with_reducible repeat (first | apply Kd.R_alloc | apply Kd.R_drewN | apply Kd.R_drew)); exact (Kd.R_mono (Kd.R_far (p := ⟨gb33017, 1, none⟩) (Kd.R_far (p := ⟨gb33017, 0, none⟩) (Kd.R_types HO33006.out BK33017.out (by decide)) (fun _ hk => hk.2) (.int .i64 t33013)) (fun _ hk => hk.2) (.slice Ao30 t33014.length co30)) (fun _ h_ => h_.1))))) (Kd.R_lt (by (with_reducible repeat (first | apply Kd.R_alloc | apply Kd.R_drewN | apply Kd.R_drew)); exact (Kd.R_mono (Kd.R_far (p := ⟨gb33017, 1, none⟩) (Kd.R_far (p := ⟨gb33017, 0, none⟩) (Kd.R_types HO33010.out BK33017.out (by decide)) (fun _ hk => hk.2) (.int .i64 t33013)) (fun _ hk => hk.2) (.slice Ao30 t33014.length co30)) (fun _ h_ => h_.1))))) (Kd.R_lt (by (with_reducible repeat (first | apply Kd.R_alloc | apply Kd.R_drewN | apply Kd.R_drew)); exact (Kd.R_mono (Kd.R_far (p := ⟨gb33017, 1, none⟩) (Kd.R_far (p := ⟨gb33017, 0, none⟩) (Kd.R_types HO33016.out BK33017.out (by decide)) (fun _ hk => hk.2) (.int .i64 t33013)) (fun _ hk => hk.2) (.slice Ao30 t33014.length co30)) (fun _ h_ => h_.1))))) (below_size (pB3 HB.out GE33001.out GE33012.out GE33017.out))); replace HO33006 := aQ (Kd.R_elder' (by (with_reducible repeat (first | apply Kd.R_alloc | apply Kd.R_drewN | apply Kd.R_drew)); exact (Kd.R_mono (Kd.R_far (p := ⟨gb33017, 1, none⟩) (Kd.R_far (p := ⟨gb33017, 0, none⟩) (Kd.R_types HO33006.out BK33017.out (by decide)) (fun _ hk => hk.2) (.int .i64 t33013)) (fun _ hk => hk.2) (.slice Ao30 t33014.length co30)) (fun _ h_ => h_.1))) (Kd.R_base ho0) hb); replace HO33010 := aQ (Kd.R_elder' (by (with_reducible repeat (first | apply Kd.R_alloc | apply Kd.R_drewN | apply Kd.R_drew)); exact (Kd.R_mono (Kd.R_far (p := ⟨gb33017, 1, none⟩) (Kd.R_far (p := ⟨gb33017, 0, none⟩) (Kd.R_types HO33010.out BK33017.out (by decide)) (fun _ hk => hk.2) (.int .i64 t33013)) (fun _ hk => hk.2) (.slice Ao30 t33014.length co30)) (fun _ h_ => h_.1))) (Kd.R_base ho0) hb); replace HO33016 := aQ (Kd.R_elder' (by (with_reducible repeat (first | apply Kd.R_alloc | apply Kd.R_drewN | apply Kd.R_drew)); exact (Kd.R_mono (Kd.R_far (p := ⟨gb33017, 1, none⟩) (Kd.R_far (p := ⟨gb33017, 0, none⟩) (Kd.R_types HO33016.out BK33017.out (by decide)) (fun _ hk => hk.2) (.int .i64 t33013)) (fun _ hk => hk.2) (.slice Ao30 t33014.length co30)) (fun _ h_ => h_.1))) (Kd.R_base ho0) hb); replace BK33001 := aQ (blk_below (g := gb33001) (o := .cells #[.int .i64 a0_0, .slice A0_1 l0_1.length c0_1] 24 (0, 0)) (by (with_reducible repeat (first | refine blk_drewN ?_ _ | refine blk_drew ?_ | refine blk_alloc ?_ _)); refine blk_far ?_ NB33001_33017.out _; (with_reducible repeat (first | refine blk_drewN ?_ _ | refine blk_drew ?_ | refine blk_alloc ?_ _)); refine blk_far ?_ NB33001_33017.out _; (with_reducible repeat (first | refine blk_drewN ?_ _ | refine blk_drew ?_ | refine blk_alloc ?_ _)); exact BK33001.out) hb); replace BK33012 := aQ (blk_below (g := gb33012) (o := .cells #[.int .i64 t33007, .slice Ao23 t33008.length co23] 28 (0, 0)) (by (with_reducible repeat (first | refine blk_drewN ?_ _ | refine blk_drew ?_ | refine blk_alloc ?_ _)); refine blk_far ?_ NB33012_33017.out _; (with_reducible repeat (first | refine blk_drewN ?_ _ | refine blk_drew ?_ | refine blk_alloc ?_ _)); refine blk_far ?_ NB33012_33017.out _; (with_reducible repeat (first | refine blk_drewN ?_ _ | refine blk_drew ?_ | refine blk_alloc ?_ _)); exact BK33012.out) hb); replace BK33017 := aQ (blk_below (g := gb33017) (o := .cells #[.int .i64 t33013, .slice Ao30 t33014.length co30] 28 (0, 0)) (by (with_reducible repeat (first | refine blk_drewN ?_ _ | refine blk_drew ?_ | refine blk_alloc ?_ _)); refine blk_put (cs := #[.int .i64 t33013, .slice none 0 0]) ?_ 1 _ rfl; (with_reducible repeat (first | refine blk_drewN ?_ _ | refine blk_drew ?_ | refine blk_alloc ?_ _)); refine blk_put (cs := #[.int .i64 0, .slice none 0 0]) ?_ 0 _ rfl; (with_reducible repeat (first | refine blk_drewN ?_ _ | refine blk_drew ?_ | refine blk_alloc ?_ _)); exact BK33017.out) hb); replace HB := aQ (below_step (pB3 HB.out GE33001.out GE33012.out GE33017.out) hb); (try clear hb); (try clear hk); (try clear ho0)) | ((with_reducible refine gate_dst (N := 9) rfl ?_); refine box_event ?hg (N := 9) ?hd (cs := #[.int .i64 0, .slice none 0 0]) (t := 28) ?hr ?_; (case hd => rfl); (case hg => rfl); (case hr => first | (go_simp; done) | (go_simp; rfl)); intro gb33023 hg w32 hbox hb; replace HO33006 := aQ (Kd.R_below (pR HO33006.out) hb); replace HO33010 := aQ (Kd.R_below (pR HO33010.out) hb); replace HO33016 := aQ (Kd.R_below (pR HO33016.out) hb); replace HO33021 := aQ (Kd.R_below (pR HO33021.out) hb); have BK33023 := aQ (hbox); have GW33023 := aQ ((by rw [hg]; exact (below_size (pB3 HB.out GE33001.out GE33012.out GE33017.out)) : w.heap.size ≤ gb33023)); have GE33023 := aQ ((by rw [hg]; exact (below_size (pB3 HB.out GE33001.out GE33012.out GE33017.out)) : w.heap.size ≤ gb33023)); replace HB := aQ (below_step (pB3 HB.out GE33001.out GE33012.out GE33017.out) hb); have NB33001_33023 := aQ ((by rw [hg]; exact Nat.ne_of_lt (blk_lt (g := gb33001) (o := .cells #[.int .i64 a0_0, .slice A0_1 l0_1.length c0_1] 24 (0, 0)) (pk BK33001.out)) : gb33001 ≠ gb33023)); have NB33023_33001 := aQ ((by rw [hg]; exact Nat.ne_of_gt (blk_lt (g := gb33001) (o := .cells #[.int .i64 a0_0, .slice A0_1 l0_1.length c0_1] 24 (0, 0)) (pk BK33001.out)) : gb33023 ≠ gb33001)); replace BK33001 := aQ (blk_below (g := gb33001) (o := .cells #[.int .i64 a0_0, .slice A0_1 l0_1.length c0_1] 24 (0, 0)) (pk BK33001.out) hb); have NB33012_33023 := aQ ((by rw [hg]; exact Nat.ne_of_lt (blk_lt (g := gb33012) (o := .cells #[.int .i64 t33007, .slice Ao23 t33008.length co23] 28 (0, 0)) (pk BK33012.out)) : gb33012 ≠ gb33023)); have NB33023_33012 := aQ ((by rw [hg]; exact Nat.ne_of_gt (blk_lt (g := gb33012) (o := .cells #[.int .i64 t33007, .slice Ao23 t33008.length co23] 28 (0, 0)) (pk BK33012.out)) : gb33023 ≠ gb33012)); replace BK33012 := aQ (blk_below (g := gb33012) (o := .cells #[.int .i64 t33007, .slice Ao23 t33008.length co23] 28 (0, 0)) (pk BK33012.out) hb); have NB33017_33023 := aQ ((by rw [hg]; exact Nat.ne_of_lt (blk_lt (g := gb33017) (o := .cells #[.int .i64 t33013, .slice Ao30 t33014.length co30] 28 (0, 0)) (pk BK33017.out)) : gb33017 ≠ gb33023)); have NB33023_33017 := aQ ((by rw [hg]; exact Nat.ne_of_gt (blk_lt (g := gb33017) (o := .cells #[.int .i64 t33013, .slice Ao30 t33014.length co30] 28 (0, 0)) (pk BK33017.out)) : gb33023 ≠ gb33017)); replace BK33017 := aQ (blk_below (g := gb33017) (o := .cells #[.int .i64 t33013, .slice Ao30 t33014.length co30] 28 (0, 0)) (pk BK33017.out) hb); clear hb hbox hg; have hnb33 := NB33023_33001.out; have hnc33 := NB33001_33023.out; have hnb34 := NB33023_33012.out; have hnc34 := NB33012_33023.out; have hnb35 := NB33023_33017.out; have hnc35 := NB33017_33023.out; have hcz36_0 := bc (v := (.int .i64 0)) BK33023.out 0; have hcz36_1 := bc (v := (.slice none 0 0)) BK33023.out 1; have hfz36_0 := blk_frozen BK33023.out 0; have hfz36_1 := blk_frozen BK33023.out 1; obtain ⟨Ao37, co37, eo37⟩ := Kd.R_slice HO33021.out; subst eo37))
  (try simp only [Act.put, List.setIfInBounds_toArray, List.set_cons_zero, List.set_cons_succ])
  go_cut [44] (fun v44 wc => ∃ (kq : Nat) (x44_11 : Bool), v44 = .bool x44_11 ∧ Aside0 (laws_FnExactRelax.j0 kq a1 t33011 t33022 x44_11 a0_0 l0_1 t33007 t33008 t33013 t33014 t33018 t33019 = some true) ∧ Aside0 (kq ≤ k) ∧ Aside0 (Kd.R (Kd.int .i64) 3 wc w.heap.size (fun k_ => some k_ ≠ ((.slice Ao30 t33014.length co30) : Value).ownBlock ∧ some k_ ≠ ((.slice Ao37 t33019.length co37) : Value).ownBlock) (.slice Ao23 t33008.length co23) t33008) ∧ Aside0 (Kd.R (Kd.int .i64) 3 wc w.heap.size (fun k_ => some k_ ≠ ((.slice Ao23 t33008.length co23) : Value).ownBlock ∧ some k_ ≠ ((.slice Ao37 t33019.length co37) : Value).ownBlock) (.slice Ao30 t33014.length co30) t33014) ∧ Aside0 (Kd.R (Kd.int .i64) 3 wc w.heap.size (fun k_ => some k_ ≠ ((.slice Ao23 t33008.length co23) : Value).ownBlock ∧ some k_ ≠ ((.slice Ao30 t33014.length co30) : Value).ownBlock) (.slice Ao37 t33019.length co37) t33019) ∧ Aside0 (wc.heap[gb33001]? = some (.cells #[.int .i64 a0_0, (.slice A0_1 l0_1.length c0_1)] 24 (0, 0))) ∧ Aside0 (wc.heap[gb33012]? = some (.cells #[.int .i64 t33007, (.slice Ao23 t33008.length co23)] 28 (0, 0))) ∧ Aside0 (wc.heap[gb33017]? = some (.cells #[.int .i64 t33013, (.slice Ao30 t33014.length co30)] 28 (0, 0))) ∧ Aside0 (wc.heap[gb33023]? = some (.cells #[.int .i64 t33018, (.slice Ao37 t33019.length co37)] 28 (0, 0))) ∧ Aside0 (Below w.heap.size w wc))
  case first =>
   have H := HC12.out
   clear HC12
   replace H := Option.bind_eq_some_iff.mp H
   obtain ⟨t33024, A380, H⟩ := H
   replace H : (if t33024 = true then (laws_FnExactRelax.j0 k a1 t33011 t33022 (t33022 != t33011) a0_0 l0_1 t33007 t33008 t33013 t33014 t33018 t33019) else (laws_FnExactRelax.j0 k a1 t33011 t33022 true a0_0 l0_1 t33007 t33008 t33013 t33014 t33018 t33019)) = some true := H
   have A38 := aQ A380
   clear A380
   by_cases c39 : t33024 = true
   ·subst c39
    have H1 : (laws_FnExactRelax.j0 k a1 t33011 t33022 (t33022 != t33011) a0_0 l0_1 t33007 t33008 t33013 t33014 t33018 t33019) = some true := by rw [if_pos rfl] at H; exact H
    clear H
    have H := H1
    clear H1
    have H' := aQ H
    clear H
    have hnb40 := NB33023_33001.out
    have hnc40 := NB33001_33023.out
    have hnb41 := NB33023_33012.out
    have hnc41 := NB33012_33023.out
    have hnb42 := NB33023_33017.out
    have hnc42 := NB33017_33023.out
    have hcz43_0 := bc (v := (.int .i64 0)) BK33023.out 0
    have hcz43_1 := bc (v := (.slice none 0 0)) BK33023.out 1
    have hfz43_0 := blk_frozen BK33023.out 0
    have hfz43_1 := blk_frozen BK33023.out 1
    have hnb44 := NB33012_33001.out
    have hnc44 := NB33001_33012.out
    have hnb45 := NB33012_33017.out
    have hnc45 := NB33017_33012.out
    have hcz46_0 := bc (v := (.int .i64 t33007)) BK33012.out 0
    have hcz46_1 := bc (v := (.slice Ao23 t33008.length co23)) BK33012.out 1
    have hfz46_0 := blk_frozen BK33012.out 0
    have hfz46_1 := blk_frozen BK33012.out 1
    go_wp2_with (first | ((with_reducible refine gate_callee (f := 38) rfl ?_); refine goesL_ (some 38) rfl rfl Try.func38 (by kernel_rfl) rfl #[.agg #[.int .i64 t33018, .slice Ao37 t33019.length co37], .agg #[.int .i64 t33007, .slice Ao23 t33008.length co23]] rfl lm ?_; (with_reducible refine (laws_eqMatroid.calls k t33018 _ _ t33019 t33007 _ _ t33008 true _ ?side1 ?side2 ?side3 ?side4 A38.out).mono ?_); (case side1 => refine (Kd.R_reads' (e := 3) (base := w.heap.size) (ok := fun k_ => (((True ∧ some k_ ≠ (.slice Ao18 t33004.length co18 : Value).ownBlock) ∧ some k_ ≠ (.slice Ao23 t33008.length co23 : Value).ownBlock) ∧ some k_ ≠ (.slice Ao30 t33014.length co30 : Value).ownBlock)) (n := t33019.length) (c := co37) ?_).2.2; exact (by (with_reducible repeat (first | apply Kd.R_alloc | apply Kd.R_drewN | apply Kd.R_drew)); exact (Kd.R_mono (Kd.R_far (p := ⟨gb33023, 1, none⟩) (Kd.R_far (p := ⟨gb33023, 0, none⟩) (Kd.R_types HO33021.out BK33023.out (by decide)) (fun _ hk => hk.2) (.int .i64 t33018)) (fun _ hk => hk.2) (.slice Ao37 t33019.length co37)) (fun _ h_ => h_.1)))); (case side2 => exact (Kd.R_reads' HO33021.out).2.1); (case side3 => refine (Kd.R_reads' (e := 3) (base := w.heap.size) (ok := fun k_ => (((True ∧ some k_ ≠ (.slice Ao18 t33004.length co18 : Value).ownBlock) ∧ some k_ ≠ (.slice Ao30 t33014.length co30 : Value).ownBlock) ∧ some k_ ≠ (.slice Ao37 t33019.length co37 : Value).ownBlock)) (n := t33008.length) (c := co23) ?_).2.2; exact (by (with_reducible repeat (first | apply Kd.R_alloc | apply Kd.R_drewN | apply Kd.R_drew)); exact (Kd.R_mono (Kd.R_far (p := ⟨gb33023, 1, none⟩) (Kd.R_far (p := ⟨gb33023, 0, none⟩) (Kd.R_types HO33010.out BK33023.out (by decide)) (fun _ hk => hk.2) (.int .i64 t33018)) (fun _ hk => hk.2) (.slice Ao37 t33019.length co37)) (fun _ h_ => h_.1)))); (case side4 => exact (Kd.R_reads' HO33010.out).2.1); rintro e w47 ⟨rfl, hb⟩; refine ⟨_, rfl, ?_⟩; replace HO33006 := aQ (Kd.R_below (by (with_reducible repeat (first | apply Kd.R_alloc | apply Kd.R_drewN | apply Kd.R_drew)); exact (Kd.R_mono (Kd.R_far (p := ⟨gb33023, 1, none⟩) (Kd.R_far (p := ⟨gb33023, 0, none⟩) (Kd.R_types HO33006.out BK33023.out (by decide)) (fun _ hk => hk.2) (.int .i64 t33018)) (fun _ hk => hk.2) (.slice Ao37 t33019.length co37)) (fun _ h_ => h_.1))) hb); replace HO33010 := aQ (Kd.R_below (by (with_reducible repeat (first | apply Kd.R_alloc | apply Kd.R_drewN | apply Kd.R_drew)); exact (Kd.R_mono (Kd.R_far (p := ⟨gb33023, 1, none⟩) (Kd.R_far (p := ⟨gb33023, 0, none⟩) (Kd.R_types HO33010.out BK33023.out (by decide)) (fun _ hk => hk.2) (.int .i64 t33018)) (fun _ hk => hk.2) (.slice Ao37 t33019.length co37)) (fun _ h_ => h_.1))) hb); replace HO33016 := aQ (Kd.R_below (by (with_reducible repeat (first | apply Kd.R_alloc | apply Kd.R_drewN | apply Kd.R_drew)); exact (Kd.R_mono (Kd.R_far (p := ⟨gb33023, 1, none⟩) (Kd.R_far (p := ⟨gb33023, 0, none⟩) (Kd.R_types HO33016.out BK33023.out (by decide)) (fun _ hk => hk.2) (.int .i64 t33018)) (fun _ hk => hk.2) (.slice Ao37 t33019.length co37)) (fun _ h_ => h_.1))) hb); replace HO33021 := aQ (Kd.R_below (by (with_reducible repeat (first | apply Kd.R_alloc | apply Kd.R_drewN | apply Kd.R_drew)); exact (Kd.R_mono (Kd.R_far (p := ⟨gb33023, 1, none⟩) (Kd.R_far (p := ⟨gb33023, 0, none⟩) (Kd.R_types HO33021.out BK33023.out (by decide)) (fun _ hk => hk.2) (.int .i64 t33018)) (fun _ hk => hk.2) (.slice Ao37 t33019.length co37)) (fun _ h_ => h_.1))) hb); replace BK33001 := aQ (blk_below (g := gb33001) (o := .cells #[.int .i64 a0_0, .slice A0_1 l0_1.length c0_1] 24 (0, 0)) (by (with_reducible repeat (first | refine blk_drewN ?_ _ | refine blk_drew ?_ | refine blk_alloc ?_ _)); refine blk_far ?_ NB33001_33023.out _; (with_reducible repeat (first | refine blk_drewN ?_ _ | refine blk_drew ?_ | refine blk_alloc ?_ _)); refine blk_far ?_ NB33001_33023.out _; (with_reducible repeat (first | refine blk_drewN ?_ _ | refine blk_drew ?_ | refine blk_alloc ?_ _)); exact BK33001.out) hb); replace BK33012 := aQ (blk_below (g := gb33012) (o := .cells #[.int .i64 t33007, .slice Ao23 t33008.length co23] 28 (0, 0)) (by (with_reducible repeat (first | refine blk_drewN ?_ _ | refine blk_drew ?_ | refine blk_alloc ?_ _)); refine blk_far ?_ NB33012_33023.out _; (with_reducible repeat (first | refine blk_drewN ?_ _ | refine blk_drew ?_ | refine blk_alloc ?_ _)); refine blk_far ?_ NB33012_33023.out _; (with_reducible repeat (first | refine blk_drewN ?_ _ | refine blk_drew ?_ | refine blk_alloc ?_ _)); exact BK33012.out) hb); replace BK33017 := aQ (blk_below (g := gb33017) (o := .cells #[.int .i64 t33013, .slice Ao30 t33014.length co30] 28 (0, 0)) (by (with_reducible repeat (first | refine blk_drewN ?_ _ | refine blk_drew ?_ | refine blk_alloc ?_ _)); refine blk_far ?_ NB33017_33023.out _; (with_reducible repeat (first | refine blk_drewN ?_ _ | refine blk_drew ?_ | refine blk_alloc ?_ _)); refine blk_far ?_ NB33017_33023.out _; (with_reducible repeat (first | refine blk_drewN ?_ _ | refine blk_drew ?_ | refine blk_alloc ?_ _)); exact BK33017.out) hb); replace BK33023 := aQ (blk_below (g := gb33023) (o := .cells #[.int .i64 t33018, .slice Ao37 t33019.length co37] 28 (0, 0)) (by (with_reducible repeat (first | refine blk_drewN ?_ _ | refine blk_drew ?_ | refine blk_alloc ?_ _)); refine blk_put (cs := #[.int .i64 t33018, .slice none 0 0]) ?_ 1 _ rfl; (with_reducible repeat (first | refine blk_drewN ?_ _ | refine blk_drew ?_ | refine blk_alloc ?_ _)); refine blk_put (cs := #[.int .i64 0, .slice none 0 0]) ?_ 0 _ rfl; (with_reducible repeat (first | refine blk_drewN ?_ _ | refine blk_drew ?_ | refine blk_alloc ?_ _)); exact BK33023.out) hb); replace HB := aQ (below_step (pB4 HB.out GE33001.out GE33012.out GE33017.out GE33023.out) hb); (try clear hb); (try clear hk)))
    go_meet
    case rel => exact ⟨_, ((t33022 != t33011)), rs_, H', ⟨by first | omega | exact Nat.le_refl _⟩, ⟨by (with_reducible repeat (first | apply Kd.R_alloc | apply Kd.R_drewN | apply Kd.R_drew)); exact Kd.R_mono HO33010.out (fun _ hk => ⟨hk.1.2, hk.2⟩)⟩, ⟨by (with_reducible repeat (first | apply Kd.R_alloc | apply Kd.R_drewN | apply Kd.R_drew)); exact Kd.R_mono HO33016.out (fun _ hk => ⟨hk.1.2, hk.2⟩)⟩, ⟨by (with_reducible repeat (first | apply Kd.R_alloc | apply Kd.R_drewN | apply Kd.R_drew)); exact Kd.R_mono HO33021.out (fun _ hk => ⟨hk.1.2, hk.2⟩)⟩, ⟨pk BK33001.out⟩, ⟨pk BK33012.out⟩, ⟨pk BK33017.out⟩, ⟨pk BK33023.out⟩, ⟨pB4 HB.out GE33001.out GE33012.out GE33017.out GE33023.out⟩⟩
   ·replace c39 := Bool.eq_false_iff.mpr c39
    subst c39
    have H1 : (laws_FnExactRelax.j0 k a1 t33011 t33022 true a0_0 l0_1 t33007 t33008 t33013 t33014 t33018 t33019) = some true := by rw [if_neg (show ¬ (false = true) by decide)] at H; exact H
    clear H
    have H := H1
    clear H1
    have H' := aQ H
    clear H
    have hnb48 := NB33023_33001.out
    have hnc48 := NB33001_33023.out
    have hnb49 := NB33023_33012.out
    have hnc49 := NB33012_33023.out
    have hnb50 := NB33023_33017.out
    have hnc50 := NB33017_33023.out
    have hcz51_0 := bc (v := (.int .i64 0)) BK33023.out 0
    have hcz51_1 := bc (v := (.slice none 0 0)) BK33023.out 1
    have hfz51_0 := blk_frozen BK33023.out 0
    have hfz51_1 := blk_frozen BK33023.out 1
    have hnb52 := NB33012_33001.out
    have hnc52 := NB33001_33012.out
    have hnb53 := NB33012_33017.out
    have hnc53 := NB33017_33012.out
    have hcz54_0 := bc (v := (.int .i64 t33007)) BK33012.out 0
    have hcz54_1 := bc (v := (.slice Ao23 t33008.length co23)) BK33012.out 1
    have hfz54_0 := blk_frozen BK33012.out 0
    have hfz54_1 := blk_frozen BK33012.out 1
    go_wp2_with (first | ((with_reducible refine gate_callee (f := 38) rfl ?_); refine goesL_ (some 38) rfl rfl Try.func38 (by kernel_rfl) rfl #[.agg #[.int .i64 t33018, .slice Ao37 t33019.length co37], .agg #[.int .i64 t33007, .slice Ao23 t33008.length co23]] rfl lm ?_; (with_reducible refine (laws_eqMatroid.calls k t33018 _ _ t33019 t33007 _ _ t33008 false _ ?side1 ?side2 ?side3 ?side4 A38.out).mono ?_); (case side1 => refine (Kd.R_reads' (e := 3) (base := w.heap.size) (ok := fun k_ => (((True ∧ some k_ ≠ (.slice Ao18 t33004.length co18 : Value).ownBlock) ∧ some k_ ≠ (.slice Ao23 t33008.length co23 : Value).ownBlock) ∧ some k_ ≠ (.slice Ao30 t33014.length co30 : Value).ownBlock)) (n := t33019.length) (c := co37) ?_).2.2; exact (by (with_reducible repeat (first | apply Kd.R_alloc | apply Kd.R_drewN | apply Kd.R_drew)); exact (Kd.R_mono (Kd.R_far (p := ⟨gb33023, 1, none⟩) (Kd.R_far (p := ⟨gb33023, 0, none⟩) (Kd.R_types HO33021.out BK33023.out (by decide)) (fun _ hk => hk.2) (.int .i64 t33018)) (fun _ hk => hk.2) (.slice Ao37 t33019.length co37)) (fun _ h_ => h_.1)))); (case side2 => exact (Kd.R_reads' HO33021.out).2.1); (case side3 => refine (Kd.R_reads' (e := 3) (base := w.heap.size) (ok := fun k_ => (((True ∧ some k_ ≠ (.slice Ao18 t33004.length co18 : Value).ownBlock) ∧ some k_ ≠ (.slice Ao30 t33014.length co30 : Value).ownBlock) ∧ some k_ ≠ (.slice Ao37 t33019.length co37 : Value).ownBlock)) (n := t33008.length) (c := co23) ?_).2.2; exact (by (with_reducible repeat (first | apply Kd.R_alloc | apply Kd.R_drewN | apply Kd.R_drew)); exact (Kd.R_mono (Kd.R_far (p := ⟨gb33023, 1, none⟩) (Kd.R_far (p := ⟨gb33023, 0, none⟩) (Kd.R_types HO33010.out BK33023.out (by decide)) (fun _ hk => hk.2) (.int .i64 t33018)) (fun _ hk => hk.2) (.slice Ao37 t33019.length co37)) (fun _ h_ => h_.1)))); (case side4 => exact (Kd.R_reads' HO33010.out).2.1); rintro e w55 ⟨rfl, hb⟩; refine ⟨_, rfl, ?_⟩; replace HO33006 := aQ (Kd.R_below (by (with_reducible repeat (first | apply Kd.R_alloc | apply Kd.R_drewN | apply Kd.R_drew)); exact (Kd.R_mono (Kd.R_far (p := ⟨gb33023, 1, none⟩) (Kd.R_far (p := ⟨gb33023, 0, none⟩) (Kd.R_types HO33006.out BK33023.out (by decide)) (fun _ hk => hk.2) (.int .i64 t33018)) (fun _ hk => hk.2) (.slice Ao37 t33019.length co37)) (fun _ h_ => h_.1))) hb); replace HO33010 := aQ (Kd.R_below (by (with_reducible repeat (first | apply Kd.R_alloc | apply Kd.R_drewN | apply Kd.R_drew)); exact (Kd.R_mono (Kd.R_far (p := ⟨gb33023, 1, none⟩) (Kd.R_far (p := ⟨gb33023, 0, none⟩) (Kd.R_types HO33010.out BK33023.out (by decide)) (fun _ hk => hk.2) (.int .i64 t33018)) (fun _ hk => hk.2) (.slice Ao37 t33019.length co37)) (fun _ h_ => h_.1))) hb); replace HO33016 := aQ (Kd.R_below (by (with_reducible repeat (first | apply Kd.R_alloc | apply Kd.R_drewN | apply Kd.R_drew)); exact (Kd.R_mono (Kd.R_far (p := ⟨gb33023, 1, none⟩) (Kd.R_far (p := ⟨gb33023, 0, none⟩) (Kd.R_types HO33016.out BK33023.out (by decide)) (fun _ hk => hk.2) (.int .i64 t33018)) (fun _ hk => hk.2) (.slice Ao37 t33019.length co37)) (fun _ h_ => h_.1))) hb); replace HO33021 := aQ (Kd.R_below (by (with_reducible repeat (first | apply Kd.R_alloc | apply Kd.R_drewN | apply Kd.R_drew)); exact (Kd.R_mono (Kd.R_far (p := ⟨gb33023, 1, none⟩) (Kd.R_far (p := ⟨gb33023, 0, none⟩) (Kd.R_types HO33021.out BK33023.out (by decide)) (fun _ hk => hk.2) (.int .i64 t33018)) (fun _ hk => hk.2) (.slice Ao37 t33019.length co37)) (fun _ h_ => h_.1))) hb); replace BK33001 := aQ (blk_below (g := gb33001) (o := .cells #[.int .i64 a0_0, .slice A0_1 l0_1.length c0_1] 24 (0, 0)) (by (with_reducible repeat (first | refine blk_drewN ?_ _ | refine blk_drew ?_ | refine blk_alloc ?_ _)); refine blk_far ?_ NB33001_33023.out _; (with_reducible repeat (first | refine blk_drewN ?_ _ | refine blk_drew ?_ | refine blk_alloc ?_ _)); refine blk_far ?_ NB33001_33023.out _; (with_reducible repeat (first | refine blk_drewN ?_ _ | refine blk_drew ?_ | refine blk_alloc ?_ _)); exact BK33001.out) hb); replace BK33012 := aQ (blk_below (g := gb33012) (o := .cells #[.int .i64 t33007, .slice Ao23 t33008.length co23] 28 (0, 0)) (by (with_reducible repeat (first | refine blk_drewN ?_ _ | refine blk_drew ?_ | refine blk_alloc ?_ _)); refine blk_far ?_ NB33012_33023.out _; (with_reducible repeat (first | refine blk_drewN ?_ _ | refine blk_drew ?_ | refine blk_alloc ?_ _)); refine blk_far ?_ NB33012_33023.out _; (with_reducible repeat (first | refine blk_drewN ?_ _ | refine blk_drew ?_ | refine blk_alloc ?_ _)); exact BK33012.out) hb); replace BK33017 := aQ (blk_below (g := gb33017) (o := .cells #[.int .i64 t33013, .slice Ao30 t33014.length co30] 28 (0, 0)) (by (with_reducible repeat (first | refine blk_drewN ?_ _ | refine blk_drew ?_ | refine blk_alloc ?_ _)); refine blk_far ?_ NB33017_33023.out _; (with_reducible repeat (first | refine blk_drewN ?_ _ | refine blk_drew ?_ | refine blk_alloc ?_ _)); refine blk_far ?_ NB33017_33023.out _; (with_reducible repeat (first | refine blk_drewN ?_ _ | refine blk_drew ?_ | refine blk_alloc ?_ _)); exact BK33017.out) hb); replace BK33023 := aQ (blk_below (g := gb33023) (o := .cells #[.int .i64 t33018, .slice Ao37 t33019.length co37] 28 (0, 0)) (by (with_reducible repeat (first | refine blk_drewN ?_ _ | refine blk_drew ?_ | refine blk_alloc ?_ _)); refine blk_put (cs := #[.int .i64 t33018, .slice none 0 0]) ?_ 1 _ rfl; (with_reducible repeat (first | refine blk_drewN ?_ _ | refine blk_drew ?_ | refine blk_alloc ?_ _)); refine blk_put (cs := #[.int .i64 0, .slice none 0 0]) ?_ 0 _ rfl; (with_reducible repeat (first | refine blk_drewN ?_ _ | refine blk_drew ?_ | refine blk_alloc ?_ _)); exact BK33023.out) hb); replace HB := aQ (below_step (pB4 HB.out GE33001.out GE33012.out GE33017.out GE33023.out) hb); (try clear hb); (try clear hk)))
    go_meet
    case rel => exact ⟨_, (true), rs_, H', ⟨by first | omega | exact Nat.le_refl _⟩, ⟨by (with_reducible repeat (first | apply Kd.R_alloc | apply Kd.R_drewN | apply Kd.R_drew)); exact Kd.R_mono HO33010.out (fun _ hk => ⟨hk.1.2, hk.2⟩)⟩, ⟨by (with_reducible repeat (first | apply Kd.R_alloc | apply Kd.R_drewN | apply Kd.R_drew)); exact Kd.R_mono HO33016.out (fun _ hk => ⟨hk.1.2, hk.2⟩)⟩, ⟨by (with_reducible repeat (first | apply Kd.R_alloc | apply Kd.R_drewN | apply Kd.R_drew)); exact Kd.R_mono HO33021.out (fun _ hk => ⟨hk.1.2, hk.2⟩)⟩, ⟨pk BK33001.out⟩, ⟨pk BK33012.out⟩, ⟨pk BK33017.out⟩, ⟨pk BK33023.out⟩, ⟨pB4 HB.out GE33001.out GE33012.out GE33017.out GE33023.out⟩⟩
  case rest =>
   clear HC12
   try clear c1
   try clear c2
   try clear p2
   try clear c3
   try clear c4
   try clear c4b0
   try clear c5
   try clear c10
   try clear c21
   try clear c27
   try clear c28
   try clear c32
   try clear c33
   try clear c34
   try clear c35
   try clear c38
   try clear c39
   try clear c40
   try clear c41
   try clear c42
   try clear c44
   try clear c45
   try clear c48
   try clear c49
   try clear c50
   try clear c52
   try clear c53
   try clear hcz14_0
   try clear hcz14_1
   try clear hcz16_0
   try clear hcz16_1
   try clear hcz22_0
   try clear hcz22_1
   try clear hcz24_0
   try clear hcz24_1
   try clear hcz29_0
   try clear hcz29_1
   try clear hcz36_0
   try clear hcz36_1
   try clear hcz43_0
   try clear hcz43_1
   try clear hcz46_0
   try clear hcz46_1
   try clear hcz51_0
   try clear hcz51_1
   try clear hcz54_0
   try clear hcz54_1
   try clear hcz6_0
   try clear hcz6_1
   try clear hfz14_0
   try clear hfz14_1
   try clear hfz16_0
   try clear hfz16_1
   try clear hfz22_0
   try clear hfz22_1
   try clear hfz24_0
   try clear hfz24_1
   try clear hfz29_0
   try clear hfz29_1
   try clear hfz36_0
   try clear hfz36_1
   try clear hfz43_0
   try clear hfz43_1
   try clear hfz46_0
   try clear hfz46_1
   try clear hfz51_0
   try clear hfz51_1
   try clear hfz54_0
   try clear hfz54_1
   try clear hfz6_0
   try clear hfz6_1
   obtain ⟨kq, x44_11, rfl, HA, HJ11, HO_33013001, HO_33018001, HO_33024001, BK33001, BK33012, BK33017, BK33023, HB⟩ := hcut
   cases kq with
   | zero => exact absurd HA.out (by simp [laws_FnExactRelax.j0])
   | succ kj11 =>
    have H := HA.out
    clear HA
    simp only [laws_FnExactRelax.j0] at H
    by_cases c56 : x44_11 = true
    ·subst c56
     have H1 : (some false) = some true := by rw [if_pos rfl] at H; exact H
     clear H
     have H := H1
     clear H1
     exact absurd (Option.some.inj H) (by decide)
    ·replace c56 := Bool.eq_false_iff.mpr c56
     subst c56
     have H1 : ((laws_toMatroid.f kj11 a0_0 l0_1).bind fun bt33025 => ((laws_eqMatroid.f kj11 t33013 t33014 bt33025.1 bt33025.2).bind fun t33029 => (if t33029 = true then ((laws_markMatroid.f kj11 t33013 t33014 1).bind fun bt33030 => (if bt33030.1 < 0 then (laws_FnExactRelax.j1 kj11 a1 t33011 true a0_0 l0_1 t33007 t33008 t33018 t33019) else ((laws_eqMatroid.f kj11 t33018 t33019 t33007 t33008).bind fun t33032 => (if t33032 = true then (laws_FnExactRelax.j1 kj11 a1 t33011 (t33022 != t33011) a0_0 l0_1 t33007 t33008 t33018 t33019) else (laws_FnExactRelax.j1 kj11 a1 t33011 true a0_0 l0_1 t33007 t33008 t33018 t33019))))) else (some false)))) = some true := by rw [if_neg (show ¬ (false = true) by decide)] at H; exact H
     clear H
     have H := H1
     clear H1
     replace H := Option.bind_eq_some_iff.mp H
     obtain ⟨⟨t33025, t33026⟩, A570, H⟩ := H
     replace H : ((laws_eqMatroid.f kj11 t33013 t33014 t33025 t33026).bind fun t33029 => (if t33029 = true then ((laws_markMatroid.f kj11 t33013 t33014 1).bind fun bt33030 => (if bt33030.1 < 0 then (laws_FnExactRelax.j1 kj11 a1 t33011 true a0_0 l0_1 t33007 t33008 t33018 t33019) else ((laws_eqMatroid.f kj11 t33018 t33019 t33007 t33008).bind fun t33032 => (if t33032 = true then (laws_FnExactRelax.j1 kj11 a1 t33011 (t33022 != t33011) a0_0 l0_1 t33007 t33008 t33018 t33019) else (laws_FnExactRelax.j1 kj11 a1 t33011 true a0_0 l0_1 t33007 t33008 t33018 t33019))))) else (some false))) = some true := H
     have A57 := aQ A570
     clear A570
     replace H := Option.bind_eq_some_iff.mp H
     obtain ⟨t33029, A580, H⟩ := H
     replace H : (if t33029 = true then ((laws_markMatroid.f kj11 t33013 t33014 1).bind fun bt33030 => (if bt33030.1 < 0 then (laws_FnExactRelax.j1 kj11 a1 t33011 true a0_0 l0_1 t33007 t33008 t33018 t33019) else ((laws_eqMatroid.f kj11 t33018 t33019 t33007 t33008).bind fun t33032 => (if t33032 = true then (laws_FnExactRelax.j1 kj11 a1 t33011 (t33022 != t33011) a0_0 l0_1 t33007 t33008 t33018 t33019) else (laws_FnExactRelax.j1 kj11 a1 t33011 true a0_0 l0_1 t33007 t33008 t33018 t33019))))) else (some false)) = some true := H
     have A58 := aQ A580
     clear A580
     by_cases c59 : t33029 = true
     ·subst c59
      have H1 : ((laws_markMatroid.f kj11 t33013 t33014 1).bind fun bt33030 => (if bt33030.1 < 0 then (laws_FnExactRelax.j1 kj11 a1 t33011 true a0_0 l0_1 t33007 t33008 t33018 t33019) else ((laws_eqMatroid.f kj11 t33018 t33019 t33007 t33008).bind fun t33032 => (if t33032 = true then (laws_FnExactRelax.j1 kj11 a1 t33011 (t33022 != t33011) a0_0 l0_1 t33007 t33008 t33018 t33019) else (laws_FnExactRelax.j1 kj11 a1 t33011 true a0_0 l0_1 t33007 t33008 t33018 t33019))))) = some true := by rw [if_pos rfl] at H; exact H
      clear H
      have H := H1
      clear H1
      replace H := Option.bind_eq_some_iff.mp H
      obtain ⟨⟨t33030, t33031⟩, A600, H⟩ := H
      replace H : (if t33030 < 0 then (laws_FnExactRelax.j1 kj11 a1 t33011 true a0_0 l0_1 t33007 t33008 t33018 t33019) else ((laws_eqMatroid.f kj11 t33018 t33019 t33007 t33008).bind fun t33032 => (if t33032 = true then (laws_FnExactRelax.j1 kj11 a1 t33011 (t33022 != t33011) a0_0 l0_1 t33007 t33008 t33018 t33019) else (laws_FnExactRelax.j1 kj11 a1 t33011 true a0_0 l0_1 t33007 t33008 t33018 t33019)))) = some true := H
      have A60 := aQ A600
      clear A600
      have HC61 := aQ H
      clear H
      try go_wp2
      have n0_ := aQ (Kd.R_drew HO_33013001.out)
      have n1_ := aQ (Kd.R_drew HO_33018001.out)
      have n2_ := aQ (Kd.R_drew HO_33024001.out)
      have n3_ := aQ (blk_drew BK33001.out)
      have n4_ := aQ (blk_drew BK33012.out)
      have n5_ := aQ (blk_drew BK33017.out)
      have n6_ := aQ (blk_drew BK33023.out)
      have n7_ := aQ (below_drew1 HB.out)
      clear HO_33013001
      clear HO_33018001
      clear HO_33024001
      clear BK33001
      clear BK33012
      clear BK33017
      clear BK33023
      clear HB
      have HO_33013001 := n0_
      have HO_33018001 := n1_
      have HO_33024001 := n2_
      have BK33001 := n3_
      have BK33012 := n4_
      have BK33017 := n5_
      have BK33023 := n6_
      have HB := n7_
      clear n0_ n1_ n2_ n3_ n4_ n5_ n6_ n7_
      refine start_ (n := 5) (S := fun w' => w'.cell? ⟨gb33017, 0, none⟩ = some (.int .i64 t33013) ∧ w'.cell? ⟨gb33017, 1, none⟩ = some (.slice Ao30 t33014.length co30) ∧ w'.cell? ⟨gb33001, 0, none⟩ = some (.int .i64 a0_0) ∧ w'.cell? ⟨gb33001, 1, none⟩ = some (.slice A0_1 l0_1.length c0_1)) (ds := []) #[false, false, false, false, false] (by kernel_rfl) rfl rfl ⟨(blk_cell BK33017.out 0).trans rfl, (blk_cell BK33017.out 1).trans rfl, (blk_cell BK33001.out 0).trans rfl, (blk_cell BK33001.out 1).trans rfl⟩ (fun hHeld => ?_)
      generalize wc.drew = w62 at HO_33013001 HO_33018001 HO_33024001 BK33001 BK33012 BK33017 BK33023 HB hHeld ⊢
      refine take_ (i := 0) (N := some 45) (v := ?_) (a' := ?_) #[true, false, false, false, false] rfl rfl (by kernel_rfl) (fun _ _ _ h => h) (Or.inl ⟨by rfl, ?_⟩) hHeld ?_ ?_
      rotate_left
      ·rintro w' ⟨s0, s1, s2, s3⟩
       go_simp
       with_reducible rfl
      rotate_left
      ·simp only [Act.put, List.setIfInBounds_toArray, List.set_cons_zero, List.set_cons_succ, i64_w, i32_w]
       rfl
      refine take_ (i := 1) (N := some 46) (v := ?_) (a' := ?_) #[true, true, false, false, false] rfl rfl (by kernel_rfl) (fun _ _ _ h => h) (Or.inl ⟨by rfl, ?_⟩) hHeld ?_ ?_
      rotate_left
      ·rintro w' ⟨s0, s1, s2, s3⟩
       go_simp
       with_reducible rfl
      rotate_left
      ·simp only [Act.put, List.setIfInBounds_toArray, List.set_cons_zero, List.set_cons_succ, i64_w, i32_w]
       rfl
      refine one_ (i := 2) (N := some 47) #[true, true, true, false, false] rfl rfl (by kernel_rfl) (by decide) (fun K hK => ?_)
      refine goes_ Try.func35 (by kernel_rfl) rfl #[.agg #[.int .i64 a0_0, .slice A0_1 l0_1.length c0_1]] (by rfl) rfl rfl lm ?_
      with_reducible refine (laws_toMatroid.calls kj11 a0_0 _ _ l0_1 t33025 t33026 _ ?side1 ?side2 A57.out).mono ?_
      (case side1 => exact pC (Kd.C_below HR0_1.out HB.out))
      (case side2 => exact HC0_1.out)
      rintro e w63 ⟨v33027, rfl, ho0, hb⟩
      refine ⟨_, rfl, ?_⟩
      have n0_ := aQ (Kd.R_elder' (pR HO_33013001.out) (Kd.R_base ho0) hb)
      have n1_ := aQ (Kd.R_elder' (pR HO_33018001.out) (Kd.R_base ho0) hb)
      have n2_ := aQ (Kd.R_elder' (pR HO_33024001.out) (Kd.R_base ho0) hb)
      have n3_ := aQ (Kd.R_lower (Kd.R_new' (Kd.R_new' (Kd.R_new' ho0 (Kd.R_lt (pR HO_33013001.out))) (Kd.R_lt (pR HO_33018001.out))) (Kd.R_lt (pR HO_33024001.out))) (below_size (pB4 HB.out GE33001.out GE33012.out GE33017.out GE33023.out)))
      have n4_ := aQ (blk_below (g := gb33001) (o := .cells #[.int .i64 a0_0, .slice A0_1 l0_1.length c0_1] 24 (0, 0)) (pk BK33001.out) hb)
      have n5_ := aQ (blk_below (g := gb33012) (o := .cells #[.int .i64 t33007, .slice Ao23 t33008.length co23] 28 (0, 0)) (pk BK33012.out) hb)
      have n6_ := aQ (blk_below (g := gb33017) (o := .cells #[.int .i64 t33013, .slice Ao30 t33014.length co30] 28 (0, 0)) (pk BK33017.out) hb)
      have n7_ := aQ (blk_below (g := gb33023) (o := .cells #[.int .i64 t33018, .slice Ao37 t33019.length co37] 28 (0, 0)) (pk BK33023.out) hb)
      have n8_ := aQ (below_step (pB4 HB.out GE33001.out GE33012.out GE33017.out GE33023.out) hb)
      clear HO_33013001
      clear HO_33018001
      clear HO_33024001
      clear BK33001
      clear BK33012
      clear BK33017
      clear BK33023
      clear HB
      have HO_33013001 := n0_
      have HO_33018001 := n1_
      have HO_33024001 := n2_
      have HO33028 := n3_
      have BK33001 := n4_
      have BK33012 := n5_
      have BK33017 := n6_
      have BK33023 := n7_
      have HB := n8_
      clear n0_ n1_ n2_ n3_ n4_ n5_ n6_ n7_ n8_
      (try clear hb)
      (try clear hb2)
      (try clear hk)
      (try clear hi)
      (try clear ho0)
      obtain ⟨Ao64, co64, eo64⟩ := Kd.R_slice HO33028.out
      (first | subst eo64 | (injection eo64 with f1_ f2_ f3_; have f4_ := f1_.symm; have f5_ := f3_.symm; clear f1_ f2_ f3_; subst f4_; subst f5_))
      refine hK.out _ _ ⟨(blk_cell BK33017.out 0).trans rfl, (blk_cell BK33017.out 1).trans rfl, (blk_cell BK33001.out 0).trans rfl, (blk_cell BK33001.out 1).trans rfl⟩ (fun hHeld => ?_)
      clear hK K
      refine norm_ (a' := ?_) ?_ ?_
      rotate_left
      ·show Act.put _ (some 47) _ = _
       simp only [Act.put, List.setIfInBounds_toArray, List.set_cons_zero, List.set_cons_succ, i64_w, i32_w]
       rfl
      refine one_ (i := 3) (N := some 48) #[true, true, true, true, false] rfl rfl (by kernel_rfl) (by decide) (fun K hK => ?_)
      refine goes_ Try.func38 (by kernel_rfl) rfl #[.agg #[.int .i64 t33013, .slice Ao30 t33014.length co30], .agg #[.int .i64 t33025, .slice Ao64 t33026.length co64]] (by rfl) rfl rfl lm ?_
      with_reducible refine (laws_eqMatroid.calls kj11 t33013 _ _ t33014 t33025 _ _ t33026 true _ ?side1 ?side2 ?side3 ?side4 A58.out).mono ?_
      (case side1 => repeat (first | exact (Kd.R_reads' HO_33018001.out).2.2 | (with_reducible refine Kd.C_alloc ?_ _) | (with_reducible refine Kd.C_drewN ?_ _) | (with_reducible refine Kd.C_drew ?_)))
      (case side2 => exact (Kd.R_reads' HO_33018001.out).2.1)
      (case side3 => repeat (first | exact (Kd.R_reads' HO33028.out).2.2 | (with_reducible refine Kd.C_alloc ?_ _) | (with_reducible refine Kd.C_drewN ?_ _) | (with_reducible refine Kd.C_drew ?_)))
      (case side4 => exact (Kd.R_reads' HO33028.out).2.1)
      rintro e w65 ⟨rfl, hb⟩
      refine ⟨_, rfl, ?_⟩
      have n0_ := aQ (Kd.R_below (pR HO_33013001.out) hb)
      have n1_ := aQ (Kd.R_below (pR HO_33018001.out) hb)
      have n2_ := aQ (Kd.R_below (pR HO_33024001.out) hb)
      have n3_ := aQ (Kd.R_below (pR HO33028.out) hb)
      have n4_ := aQ (blk_below (g := gb33001) (o := .cells #[.int .i64 a0_0, .slice A0_1 l0_1.length c0_1] 24 (0, 0)) (pk BK33001.out) hb)
      have n5_ := aQ (blk_below (g := gb33012) (o := .cells #[.int .i64 t33007, .slice Ao23 t33008.length co23] 28 (0, 0)) (pk BK33012.out) hb)
      have n6_ := aQ (blk_below (g := gb33017) (o := .cells #[.int .i64 t33013, .slice Ao30 t33014.length co30] 28 (0, 0)) (pk BK33017.out) hb)
      have n7_ := aQ (blk_below (g := gb33023) (o := .cells #[.int .i64 t33018, .slice Ao37 t33019.length co37] 28 (0, 0)) (pk BK33023.out) hb)
      have n8_ := aQ (below_step (pB4 HB.out GE33001.out GE33012.out GE33017.out GE33023.out) hb)
      clear HO_33013001
      clear HO_33018001
      clear HO_33024001
      clear HO33028
      clear BK33001
      clear BK33012
      clear BK33017
      clear BK33023
      clear HB
      have HO_33013001 := n0_
      have HO_33018001 := n1_
      have HO_33024001 := n2_
      have HO33028 := n3_
      have BK33001 := n4_
      have BK33012 := n5_
      have BK33017 := n6_
      have BK33023 := n7_
      have HB := n8_
      clear n0_ n1_ n2_ n3_ n4_ n5_ n6_ n7_ n8_
      (try clear hb)
      (try clear hb2)
      (try clear hk)
      (try clear hi)
      refine hK.out _ _ ⟨(blk_cell BK33017.out 0).trans rfl, (blk_cell BK33017.out 1).trans rfl, (blk_cell BK33001.out 0).trans rfl, (blk_cell BK33001.out 1).trans rfl⟩ (fun hHeld => ?_)
      clear hK K
      refine norm_ (a' := ?_) ?_ ?_
      rotate_left
      ·show Act.put _ (some 48) _ = _
       simp only [Act.put, List.setIfInBounds_toArray, List.set_cons_zero, List.set_cons_succ, i64_w, i32_w]
       rfl
      refine pure_ (i := 4) (N := some 49) (v := ?_) (a' := ?_) #[true, true, true, true, true] rfl rfl (by kernel_rfl) (fun _ _ _ h => h) (Or.inl ⟨by rfl, ?_⟩) ?_ ?_
      rotate_left
      ·intro w'
       go_simp
       with_reducible rfl
      rotate_left
      ·simp only [Act.put, List.setIfInBounds_toArray, List.set_cons_zero, List.set_cons_succ, i64_w, i32_w]
       rfl
      refine done_ (by kernel_rfl) ?_
      have hnb66 := NB33017_33001.out
      have hnc66 := NB33001_33017.out
      have hnb67 := NB33017_33012.out
      have hnc67 := NB33012_33017.out
      have hnb68 := NB33017_33023.out
      have hnc68 := NB33023_33017.out
      have hcz69_0 := bc (v := (.int .i64 t33013)) BK33017.out 0
      have hcz69_1 := bc (v := (.slice Ao30 t33014.length co30)) BK33017.out 1
      have hfz69_0 := blk_frozen BK33017.out 0
      have hfz69_1 := blk_frozen BK33017.out 1
      go_upto_region 14 with (first | ((with_reducible refine gate_callee (f := 39) rfl ?_); refine goesL_ (some 52) rfl rfl Try.func39 (by kernel_rfl) rfl #[.agg #[.int .i64 t33013, .slice Ao30 t33014.length co30], .int .i64 1] rfl lm ?_; (with_reducible refine (laws_markMatroid.calls kj11 t33013 (fun k_ => some k_ = (.slice Ao30 t33014.length co30 : Value).ownBlock) (.slice Ao30 t33014.length co30) t33014 1 t33030 t33031 w _ ?side1 ?side2 A60.out).mono ?_); (case side1 => repeat (first | (with_reducible first | exact HB.out | apply below_alloc | apply pw_below_drewN | apply below_drew1 | refine below_set ?_ GE33001.out | refine below_set ?_ GE33012.out | refine below_set ?_ GE33017.out | refine below_set ?_ GE33023.out) | exact HB.out)); (case side2 => exact Kd.R_tight rfl HO_33018001.out); rintro e w70 ⟨rfl, hy0, hb, hkp⟩; refine ⟨_, rfl, ?_⟩; replace HO_33013001 := aQ (Kd.R_mono (ok' := fun k_ => some k_ ≠ (.slice Ao30 t33014.length co30 : Value).ownBlock ∧ some k_ ≠ (.slice Ao37 t33019.length co37 : Value).ownBlock ∧ some k_ ≠ (.slice Ao64 t33026.length co64 : Value).ownBlock) (Kd.R_keptB (HO_33013001.out) hkp (fun k_ hk_ hs_ => (hk_.1.1) hs_)) (fun k_ hk_ => ⟨hk_.1.1.1, hk_.1.1.2, hk_.1.2⟩)); replace HO_33024001 := aQ (Kd.R_mono (ok' := fun k_ => some k_ ≠ (.slice Ao23 t33008.length co23 : Value).ownBlock ∧ some k_ ≠ (.slice Ao30 t33014.length co30 : Value).ownBlock ∧ some k_ ≠ (.slice Ao64 t33026.length co64 : Value).ownBlock) (Kd.R_keptB (HO_33024001.out) hkp (fun k_ hk_ hs_ => (hk_.1.2) hs_)) (fun k_ hk_ => ⟨hk_.1.1.1, hk_.1.1.2, hk_.1.2⟩)); replace BK33001 := aQ (blk_kept (pk BK33001.out) hkp (fun hs_ => (fun e_ => (Kd.R_ne HO_33018001.out BK33001.out (by decide)) e_) hs_)); replace BK33012 := aQ (blk_kept (pk BK33012.out) hkp (fun hs_ => (fun e_ => (Kd.R_ne HO_33018001.out BK33012.out (by decide)) e_) hs_)); replace BK33017 := aQ (blk_kept (pk BK33017.out) hkp (fun hs_ => (fun e_ => (Kd.R_ne HO_33018001.out BK33017.out (by decide)) e_) hs_)); replace BK33023 := aQ (blk_kept (pk BK33023.out) hkp (fun hs_ => (fun e_ => (Kd.R_ne HO_33018001.out BK33023.out (by decide)) e_) hs_)); replace HO_33018001 := aQ (Kd.R_reok rfl hy0 (fun k_ e_ => HO_33018001.out.1 k_ e_)); replace HO33028 := aQ (Kd.R_mono (ok' := fun k_ => some k_ ≠ (.slice Ao23 t33008.length co23 : Value).ownBlock ∧ some k_ ≠ (.slice Ao30 t33014.length co30 : Value).ownBlock ∧ some k_ ≠ (.slice Ao37 t33019.length co37 : Value).ownBlock) (Kd.R_keptB (HO33028.out) hkp (fun k_ hk_ hs_ => (hk_.1.2) hs_)) (fun k_ hk_ => ⟨hk_.1.1.1.2, hk_.1.1.2, hk_.1.2⟩)); replace HB := aQ (hb); (try clear hb); (try clear hkp); (try clear hy0)))
      (try simp only [Act.put, List.setIfInBounds_toArray, List.set_cons_zero, List.set_cons_succ])
      go_cut [65] (fun v65 wc => ∃ (kq : Nat) (x65_60 : Bool), v65 = .bool x65_60 ∧ Aside0 (laws_FnExactRelax.j1 kq a1 t33011 x65_60 a0_0 l0_1 t33007 t33008 t33018 t33019 = some true) ∧ Aside0 (kq ≤ kj11) ∧ Aside0 (Kd.R (Kd.int .i64) 3 wc w.heap.size (fun k_ => some k_ ≠ ((.slice Ao30 t33014.length co30) : Value).ownBlock ∧ some k_ ≠ ((.slice Ao37 t33019.length co37) : Value).ownBlock) (.slice Ao23 t33008.length co23) t33008) ∧ Aside0 (Kd.R (Kd.int .i64) 3 wc w.heap.size (fun k_ => some k_ ≠ ((.slice Ao23 t33008.length co23) : Value).ownBlock ∧ some k_ ≠ ((.slice Ao37 t33019.length co37) : Value).ownBlock) (.slice Ao30 t33014.length co30) t33031) ∧ Aside0 (Kd.R (Kd.int .i64) 3 wc w.heap.size (fun k_ => some k_ ≠ ((.slice Ao23 t33008.length co23) : Value).ownBlock ∧ some k_ ≠ ((.slice Ao30 t33014.length co30) : Value).ownBlock) (.slice Ao37 t33019.length co37) t33019) ∧ Aside0 (wc.heap[gb33001]? = some (.cells #[.int .i64 a0_0, (.slice A0_1 l0_1.length c0_1)] 24 (0, 0))) ∧ Aside0 (wc.heap[gb33012]? = some (.cells #[.int .i64 t33007, (.slice Ao23 t33008.length co23)] 28 (0, 0))) ∧ Aside0 (wc.heap[gb33017]? = some (.cells #[.int .i64 t33013, (.slice Ao30 t33014.length co30)] 28 (0, 0))) ∧ Aside0 (wc.heap[gb33023]? = some (.cells #[.int .i64 t33018, (.slice Ao37 t33019.length co37)] 28 (0, 0))) ∧ Aside0 (Below w.heap.size w wc))
      case first =>
       have H := HC61.out
       clear HC61
       by_cases c71 : t33030 < 0
       ·rw [if_pos c71] at H
        have c71b0 : decide (t33030 < 0) = true := decide_eq_true c71
        clear c71
        (first | rw [c71b0] | (simp only [i64_w, i32_w]; rw [c71b0]) | skip)
        have H' := aQ H
        clear H
        go_wp2
        go_meet
        case rel => exact ⟨_, (true), rs_, H', ⟨by have := HJ11.out; first | omega | exact Nat.le_refl _⟩, ⟨by (with_reducible repeat (first | apply Kd.R_alloc | apply Kd.R_drewN | apply Kd.R_drew)); exact Kd.R_mono HO_33013001.out (fun _ hk => ⟨hk.1, hk.2.1⟩)⟩, ⟨by (with_reducible repeat (first | apply Kd.R_alloc | apply Kd.R_drewN | apply Kd.R_drew)); exact Kd.R_mono HO_33018001.out (fun _ hk => ⟨hk.1.1, hk.1.2⟩)⟩, ⟨by (with_reducible repeat (first | apply Kd.R_alloc | apply Kd.R_drewN | apply Kd.R_drew)); exact Kd.R_mono HO_33024001.out (fun _ hk => ⟨hk.1, hk.2.1⟩)⟩, ⟨pk BK33001.out⟩, ⟨pk BK33012.out⟩, ⟨pk BK33017.out⟩, ⟨pk BK33023.out⟩, ⟨pB4 HB.out GE33001.out GE33012.out GE33017.out GE33023.out⟩⟩
       ·rw [if_neg c71] at H
        have c71b0 : decide (t33030 < 0) = false := decide_eq_false c71
        clear c71
        (first | rw [c71b0] | (simp only [i64_w, i32_w]; rw [c71b0]) | skip)
        replace H := Option.bind_eq_some_iff.mp H
        obtain ⟨t33032, A720, H⟩ := H
        replace H : (if t33032 = true then (laws_FnExactRelax.j1 kj11 a1 t33011 (t33022 != t33011) a0_0 l0_1 t33007 t33008 t33018 t33019) else (laws_FnExactRelax.j1 kj11 a1 t33011 true a0_0 l0_1 t33007 t33008 t33018 t33019)) = some true := H
        have A72 := aQ A720
        clear A720
        by_cases c73 : t33032 = true
        ·subst c73
         have H1 : (laws_FnExactRelax.j1 kj11 a1 t33011 (t33022 != t33011) a0_0 l0_1 t33007 t33008 t33018 t33019) = some true := by rw [if_pos rfl] at H; exact H
         clear H
         have H := H1
         clear H1
         have H' := aQ H
         clear H
         have hnb74 := NB33023_33001.out
         have hnc74 := NB33001_33023.out
         have hnb75 := NB33023_33012.out
         have hnc75 := NB33012_33023.out
         have hnb76 := NB33023_33017.out
         have hnc76 := NB33017_33023.out
         have hcz77_0 := bc (v := (.int .i64 t33018)) BK33023.out 0
         have hcz77_1 := bc (v := (.slice Ao37 t33019.length co37)) BK33023.out 1
         have hfz77_0 := blk_frozen BK33023.out 0
         have hfz77_1 := blk_frozen BK33023.out 1
         have hnb78 := NB33012_33001.out
         have hnc78 := NB33001_33012.out
         have hnb79 := NB33012_33017.out
         have hnc79 := NB33017_33012.out
         have hcz80_0 := bc (v := (.int .i64 t33007)) BK33012.out 0
         have hcz80_1 := bc (v := (.slice Ao23 t33008.length co23)) BK33012.out 1
         have hfz80_0 := blk_frozen BK33012.out 0
         have hfz80_1 := blk_frozen BK33012.out 1
         go_wp2_with (first | (go_at_call 38; (with_reducible refine (laws_eqMatroid.calls kj11 t33018 _ _ t33019 t33007 _ _ t33008 true _ ?side1 ?side2 ?side3 ?side4 A72.out).mono ?_); (case side1 => repeat (first | exact (Kd.R_reads' HO_33024001.out).2.2 | (with_reducible refine Kd.C_alloc ?_ _) | (with_reducible refine Kd.C_drewN ?_ _) | (with_reducible refine Kd.C_drew ?_))); (case side2 => exact (Kd.R_reads' HO_33024001.out).2.1); (case side3 => repeat (first | exact (Kd.R_reads' HO_33013001.out).2.2 | (with_reducible refine Kd.C_alloc ?_ _) | (with_reducible refine Kd.C_drewN ?_ _) | (with_reducible refine Kd.C_drew ?_))); (case side4 => exact (Kd.R_reads' HO_33013001.out).2.1); rintro e w81 ⟨rfl, hb⟩; replace HO_33013001 := aQ (Kd.R_below (pR HO_33013001.out) hb); replace HO_33018001 := aQ (Kd.R_below (pR HO_33018001.out) hb); replace HO_33024001 := aQ (Kd.R_below (pR HO_33024001.out) hb); replace HO33028 := aQ (Kd.R_below (pR HO33028.out) hb); replace BK33001 := aQ (blk_below (g := gb33001) (o := .cells #[.int .i64 a0_0, .slice A0_1 l0_1.length c0_1] 24 (0, 0)) (pk BK33001.out) hb); replace BK33012 := aQ (blk_below (g := gb33012) (o := .cells #[.int .i64 t33007, .slice Ao23 t33008.length co23] 28 (0, 0)) (pk BK33012.out) hb); replace BK33017 := aQ (blk_below (g := gb33017) (o := .cells #[.int .i64 t33013, .slice Ao30 t33014.length co30] 28 (0, 0)) (pk BK33017.out) hb); replace BK33023 := aQ (blk_below (g := gb33023) (o := .cells #[.int .i64 t33018, .slice Ao37 t33019.length co37] 28 (0, 0)) (pk BK33023.out) hb); replace HB := aQ (below_step (pB4 HB.out GE33001.out GE33012.out GE33017.out GE33023.out) hb); (try clear hb)))
         go_meet
         case rel => exact ⟨_, ((t33022 != t33011)), rs_, H', ⟨by have := HJ11.out; first | omega | exact Nat.le_refl _⟩, ⟨by (with_reducible repeat (first | apply Kd.R_alloc | apply Kd.R_drewN | apply Kd.R_drew)); exact Kd.R_mono HO_33013001.out (fun _ hk => ⟨hk.1, hk.2.1⟩)⟩, ⟨by (with_reducible repeat (first | apply Kd.R_alloc | apply Kd.R_drewN | apply Kd.R_drew)); exact Kd.R_mono HO_33018001.out (fun _ hk => ⟨hk.1.1, hk.1.2⟩)⟩, ⟨by (with_reducible repeat (first | apply Kd.R_alloc | apply Kd.R_drewN | apply Kd.R_drew)); exact Kd.R_mono HO_33024001.out (fun _ hk => ⟨hk.1, hk.2.1⟩)⟩, ⟨pk BK33001.out⟩, ⟨pk BK33012.out⟩, ⟨pk BK33017.out⟩, ⟨pk BK33023.out⟩, ⟨pB4 HB.out GE33001.out GE33012.out GE33017.out GE33023.out⟩⟩
        ·replace c73 := Bool.eq_false_iff.mpr c73
         subst c73
         have H1 : (laws_FnExactRelax.j1 kj11 a1 t33011 true a0_0 l0_1 t33007 t33008 t33018 t33019) = some true := by rw [if_neg (show ¬ (false = true) by decide)] at H; exact H
         clear H
         have H := H1
         clear H1
         have H' := aQ H
         clear H
         have hnb82 := NB33023_33001.out
         have hnc82 := NB33001_33023.out
         have hnb83 := NB33023_33012.out
         have hnc83 := NB33012_33023.out
         have hnb84 := NB33023_33017.out
         have hnc84 := NB33017_33023.out
         have hcz85_0 := bc (v := (.int .i64 t33018)) BK33023.out 0
         have hcz85_1 := bc (v := (.slice Ao37 t33019.length co37)) BK33023.out 1
         have hfz85_0 := blk_frozen BK33023.out 0
         have hfz85_1 := blk_frozen BK33023.out 1
         have hnb86 := NB33012_33001.out
         have hnc86 := NB33001_33012.out
         have hnb87 := NB33012_33017.out
         have hnc87 := NB33017_33012.out
         have hcz88_0 := bc (v := (.int .i64 t33007)) BK33012.out 0
         have hcz88_1 := bc (v := (.slice Ao23 t33008.length co23)) BK33012.out 1
         have hfz88_0 := blk_frozen BK33012.out 0
         have hfz88_1 := blk_frozen BK33012.out 1
         go_wp2_with (first | (go_at_call 38; (with_reducible refine (laws_eqMatroid.calls kj11 t33018 _ _ t33019 t33007 _ _ t33008 false _ ?side1 ?side2 ?side3 ?side4 A72.out).mono ?_); (case side1 => repeat (first | exact (Kd.R_reads' HO_33024001.out).2.2 | (with_reducible refine Kd.C_alloc ?_ _) | (with_reducible refine Kd.C_drewN ?_ _) | (with_reducible refine Kd.C_drew ?_))); (case side2 => exact (Kd.R_reads' HO_33024001.out).2.1); (case side3 => repeat (first | exact (Kd.R_reads' HO_33013001.out).2.2 | (with_reducible refine Kd.C_alloc ?_ _) | (with_reducible refine Kd.C_drewN ?_ _) | (with_reducible refine Kd.C_drew ?_))); (case side4 => exact (Kd.R_reads' HO_33013001.out).2.1); rintro e w89 ⟨rfl, hb⟩; replace HO_33013001 := aQ (Kd.R_below (pR HO_33013001.out) hb); replace HO_33018001 := aQ (Kd.R_below (pR HO_33018001.out) hb); replace HO_33024001 := aQ (Kd.R_below (pR HO_33024001.out) hb); replace HO33028 := aQ (Kd.R_below (pR HO33028.out) hb); replace BK33001 := aQ (blk_below (g := gb33001) (o := .cells #[.int .i64 a0_0, .slice A0_1 l0_1.length c0_1] 24 (0, 0)) (pk BK33001.out) hb); replace BK33012 := aQ (blk_below (g := gb33012) (o := .cells #[.int .i64 t33007, .slice Ao23 t33008.length co23] 28 (0, 0)) (pk BK33012.out) hb); replace BK33017 := aQ (blk_below (g := gb33017) (o := .cells #[.int .i64 t33013, .slice Ao30 t33014.length co30] 28 (0, 0)) (pk BK33017.out) hb); replace BK33023 := aQ (blk_below (g := gb33023) (o := .cells #[.int .i64 t33018, .slice Ao37 t33019.length co37] 28 (0, 0)) (pk BK33023.out) hb); replace HB := aQ (below_step (pB4 HB.out GE33001.out GE33012.out GE33017.out GE33023.out) hb); (try clear hb)))
         go_meet
         case rel => exact ⟨_, (true), rs_, H', ⟨by have := HJ11.out; first | omega | exact Nat.le_refl _⟩, ⟨by (with_reducible repeat (first | apply Kd.R_alloc | apply Kd.R_drewN | apply Kd.R_drew)); exact Kd.R_mono HO_33013001.out (fun _ hk => ⟨hk.1, hk.2.1⟩)⟩, ⟨by (with_reducible repeat (first | apply Kd.R_alloc | apply Kd.R_drewN | apply Kd.R_drew)); exact Kd.R_mono HO_33018001.out (fun _ hk => ⟨hk.1.1, hk.1.2⟩)⟩, ⟨by (with_reducible repeat (first | apply Kd.R_alloc | apply Kd.R_drewN | apply Kd.R_drew)); exact Kd.R_mono HO_33024001.out (fun _ hk => ⟨hk.1, hk.2.1⟩)⟩, ⟨pk BK33001.out⟩, ⟨pk BK33012.out⟩, ⟨pk BK33017.out⟩, ⟨pk BK33023.out⟩, ⟨pB4 HB.out GE33001.out GE33012.out GE33017.out GE33023.out⟩⟩
      case rest =>
       clear HC61
       try clear c1
       try clear c2
       try clear p2
       try clear c3
       try clear c4
       try clear c4b0
       try clear c5
       try clear c6
       try clear c7
       try clear c8
       try clear c10
       try clear c21
       try clear c27
       try clear c28
       try clear c32
       try clear c33
       try clear c34
       try clear c35
       try clear c38
       try clear c39
       try clear c40
       try clear c41
       try clear c42
       try clear c44
       try clear c45
       try clear c48
       try clear c49
       try clear c50
       try clear c52
       try clear c53
       try clear c56
       try clear c59
       try clear c66
       try clear c67
       try clear c68
       try clear c71
       try clear c71b0
       try clear c73
       try clear c74
       try clear c75
       try clear c76
       try clear c78
       try clear c79
       try clear c82
       try clear c83
       try clear c84
       try clear c86
       try clear c87
       try clear hcz14_0
       try clear hcz14_1
       try clear hcz16_0
       try clear hcz16_1
       try clear hcz22_0
       try clear hcz22_1
       try clear hcz24_0
       try clear hcz24_1
       try clear hcz29_0
       try clear hcz29_1
       try clear hcz36_0
       try clear hcz36_1
       try clear hcz43_0
       try clear hcz43_1
       try clear hcz46_0
       try clear hcz46_1
       try clear hcz51_0
       try clear hcz51_1
       try clear hcz54_0
       try clear hcz54_1
       try clear hcz69_0
       try clear hcz69_1
       try clear hcz6_0
       try clear hcz6_1
       try clear hcz77_0
       try clear hcz77_1
       try clear hcz80_0
       try clear hcz80_1
       try clear hcz85_0
       try clear hcz85_1
       try clear hcz88_0
       try clear hcz88_1
       try clear hfz14_0
       try clear hfz14_1
       try clear hfz16_0
       try clear hfz16_1
       try clear hfz22_0
       try clear hfz22_1
       try clear hfz24_0
       try clear hfz24_1
       try clear hfz29_0
       try clear hfz29_1
       try clear hfz36_0
       try clear hfz36_1
       try clear hfz43_0
       try clear hfz43_1
       try clear hfz46_0
       try clear hfz46_1
       try clear hfz51_0
       try clear hfz51_1
       try clear hfz54_0
       try clear hfz54_1
       try clear hfz69_0
       try clear hfz69_1
       try clear hfz6_0
       try clear hfz6_1
       try clear hfz77_0
       try clear hfz77_1
       try clear hfz80_0
       try clear hfz80_1
       try clear hfz85_0
       try clear hfz85_1
       try clear hfz88_0
       try clear hfz88_1
       try clear p2
       obtain ⟨kq, x65_60, rfl, HA, HJ60, HO_33013001, HO_33018001, HO_33024001, BK33001, BK33012, BK33017, BK33023, HB⟩ := hcut
       have hl33018001_60 := (Kd.R_reads' HO_33018001.out).1
       rw [hl33018001_60] at HO_33018001
       (try simp only [hl33018001_60])
       (try simp only [hl33018001_60] at BK33001)
       (try simp only [hl33018001_60] at BK33012)
       (try simp only [hl33018001_60] at BK33017)
       (try simp only [hl33018001_60] at BK33023)
       (try simp only [hl33018001_60] at HO_33013001)
       (try simp only [hl33018001_60] at HO_33024001)
       cases kq with
       | zero => exact absurd HA.out (by simp [laws_FnExactRelax.j1])
       | succ kj60 =>
        have H := HA.out
        clear HA
        simp only [laws_FnExactRelax.j1] at H
        by_cases c90 : x65_60 = true
        ·subst c90
         have H1 : (some false) = some true := by rw [if_pos rfl] at H; exact H
         clear H
         have H := H1
         clear H1
         exact absurd (Option.some.inj H) (by decide)
        ·replace c90 := Bool.eq_false_iff.mpr c90
         subst c90
         have H1 : ((laws_markMatroid.f kj60 t33018 t33019 1).bind fun bt33033 => ((laws_heldMatroid.f kj60 t33018 bt33033.2 1).bind fun t33035 => (if t33035 < 0 then (some false) else (if t33035 = bt33033.1 then ((laws_toMatroid.f kj60 a0_0 l0_1).bind fun bt33036 => ((impl_Relax.f kj60 bt33036.1 bt33036.2 a1).bind fun bt33040 => ((laws_eqMatroid.f kj60 bt33040.1 bt33040.2.1 t33007 t33008).bind fun t33046 => (if t33046 = true then (laws_FnExactRelax.j2 kj60 bt33033.1 (bt33040.2.2 != t33011) t33018 bt33033.2) else (laws_FnExactRelax.j2 kj60 bt33033.1 true t33018 bt33033.2))))) else (some false))))) = some true := by rw [if_neg (show ¬ (false = true) by decide)] at H; exact H
         clear H
         have H := H1
         clear H1
         replace H := Option.bind_eq_some_iff.mp H
         obtain ⟨⟨t33033, t33034⟩, A910, H⟩ := H
         replace H : ((laws_heldMatroid.f kj60 t33018 t33034 1).bind fun t33035 => (if t33035 < 0 then (some false) else (if t33035 = t33033 then ((laws_toMatroid.f kj60 a0_0 l0_1).bind fun bt33036 => ((impl_Relax.f kj60 bt33036.1 bt33036.2 a1).bind fun bt33040 => ((laws_eqMatroid.f kj60 bt33040.1 bt33040.2.1 t33007 t33008).bind fun t33046 => (if t33046 = true then (laws_FnExactRelax.j2 kj60 t33033 (bt33040.2.2 != t33011) t33018 t33034) else (laws_FnExactRelax.j2 kj60 t33033 true t33018 t33034))))) else (some false)))) = some true := H
         have A91 := aQ A910
         clear A910
         replace H := Option.bind_eq_some_iff.mp H
         obtain ⟨t33035, A920, H⟩ := H
         replace H : (if t33035 < 0 then (some false) else (if t33035 = t33033 then ((laws_toMatroid.f kj60 a0_0 l0_1).bind fun bt33036 => ((impl_Relax.f kj60 bt33036.1 bt33036.2 a1).bind fun bt33040 => ((laws_eqMatroid.f kj60 bt33040.1 bt33040.2.1 t33007 t33008).bind fun t33046 => (if t33046 = true then (laws_FnExactRelax.j2 kj60 t33033 (bt33040.2.2 != t33011) t33018 t33034) else (laws_FnExactRelax.j2 kj60 t33033 true t33018 t33034))))) else (some false))) = some true := H
         have A92 := aQ A920
         clear A920
         by_cases c93 : t33035 < 0
         ·rw [if_pos c93] at H
          have c93b0 : decide (t33035 < 0) = true := decide_eq_true c93
          clear c93
          exact absurd (Option.some.inj H) (by decide)
         ·rw [if_neg c93] at H
          have c93b0 : decide (t33035 < 0) = false := decide_eq_false c93
          clear c93
          by_cases c101 : t33035 = t33033
          ·rw [if_pos c101] at H
           have c101b0 : (t33035 == t33033) = true := beq_iff_eq.mpr c101
           have c101b1 : (t33035 != t33033) = false := bne_eq_false_iff_eq.mpr c101
           clear c101
           replace H := Option.bind_eq_some_iff.mp H
           obtain ⟨⟨t33036, t33037⟩, A1020, H⟩ := H
           replace H : ((impl_Relax.f kj60 t33036 t33037 a1).bind fun bt33040 => ((laws_eqMatroid.f kj60 bt33040.1 bt33040.2.1 t33007 t33008).bind fun t33046 => (if t33046 = true then (laws_FnExactRelax.j2 kj60 t33033 (bt33040.2.2 != t33011) t33018 t33034) else (laws_FnExactRelax.j2 kj60 t33033 true t33018 t33034)))) = some true := H
           have A102 := aQ A1020
           clear A1020
           replace H := Option.bind_eq_some_iff.mp H
           obtain ⟨⟨t33040, t33041, t33044⟩, A1030, H⟩ := H
           replace H : ((laws_eqMatroid.f kj60 t33040 t33041 t33007 t33008).bind fun t33046 => (if t33046 = true then (laws_FnExactRelax.j2 kj60 t33033 (t33044 != t33011) t33018 t33034) else (laws_FnExactRelax.j2 kj60 t33033 true t33018 t33034))) = some true := H
           have A103 := aQ A1030
           clear A1030
           have HC104 := aQ H
           clear H
           have hnb105 := NB33023_33001.out
           have hnc105 := NB33001_33023.out
           have hnb106 := NB33023_33012.out
           have hnc106 := NB33012_33023.out
           have hnb107 := NB33023_33017.out
           have hnc107 := NB33017_33023.out
           have hcz108_0 := bc (v := (.int .i64 t33018)) BK33023.out 0
           have hcz108_1 := bc (v := (.slice Ao37 t33019.length co37)) BK33023.out 1
           have hfz108_0 := blk_frozen BK33023.out 0
           have hfz108_1 := blk_frozen BK33023.out 1
           go_upto_region 25 with (first | ((with_reducible refine gate_callee (f := 39) rfl ?_); refine goesL_ (some 68) rfl rfl Try.func39 (by kernel_rfl) rfl #[.agg #[.int .i64 t33018, .slice Ao37 t33019.length co37], .int .i64 1] rfl lm ?_; (with_reducible refine (laws_markMatroid.calls kj60 t33018 (fun k_ => some k_ = (.slice Ao37 t33019.length co37 : Value).ownBlock) (.slice Ao37 t33019.length co37) t33019 1 t33033 t33034 w _ ?side1 ?side2 A91.out).mono ?_); (case side1 => repeat (first | (with_reducible first | exact HB.out | apply below_alloc | apply pw_below_drewN | apply below_drew1 | refine below_set ?_ GE33001.out | refine below_set ?_ GE33012.out | refine below_set ?_ GE33017.out | refine below_set ?_ GE33023.out) | exact HB.out)); (case side2 => exact Kd.R_tight rfl HO_33024001.out); rintro e w109 ⟨rfl, hy0, hb, hkp⟩; refine ⟨_, rfl, ?_⟩; replace HO_33013001 := aQ (Kd.R_mono (ok' := fun k_ => some k_ ≠ (.slice Ao30 t33031.length co30 : Value).ownBlock ∧ some k_ ≠ (.slice Ao37 t33019.length co37 : Value).ownBlock) (Kd.R_keptB (HO_33013001.out) hkp (fun k_ hk_ hs_ => (hk_.2) hs_)) (fun k_ hk_ => ⟨hk_.1.1, hk_.1.2⟩)); replace HO_33018001 := aQ (Kd.R_mono (ok' := fun k_ => some k_ ≠ (.slice Ao23 t33008.length co23 : Value).ownBlock ∧ some k_ ≠ (.slice Ao37 t33019.length co37 : Value).ownBlock) (Kd.R_keptB (HO_33018001.out) hkp (fun k_ hk_ hs_ => (hk_.2) hs_)) (fun k_ hk_ => ⟨hk_.1.1, hk_.1.2⟩)); replace BK33001 := aQ (blk_kept (pk BK33001.out) hkp (fun hs_ => (fun e_ => (Kd.R_ne HO_33024001.out BK33001.out (by decide)) e_) hs_)); replace BK33012 := aQ (blk_kept (pk BK33012.out) hkp (fun hs_ => (fun e_ => (Kd.R_ne HO_33024001.out BK33012.out (by decide)) e_) hs_)); replace BK33017 := aQ (blk_kept (pk BK33017.out) hkp (fun hs_ => (fun e_ => (Kd.R_ne HO_33024001.out BK33017.out (by decide)) e_) hs_)); replace BK33023 := aQ (blk_kept (pk BK33023.out) hkp (fun hs_ => (fun e_ => (Kd.R_ne HO_33024001.out BK33023.out (by decide)) e_) hs_)); replace HO_33024001 := aQ (Kd.R_reok rfl hy0 (fun k_ e_ => HO_33024001.out.1 k_ e_)); replace HB := aQ (hb); (try clear hb); (try clear hkp); (try clear hy0); have hcz110_0 := bc (v := (.int .i64 t33018)) BK33023.out 0; have hcz110_1 := bc (v := (.slice Ao37 t33019.length co37)) BK33023.out 1; have hfz110_0 := blk_frozen BK33023.out 0; have hfz110_1 := blk_frozen BK33023.out 1) | ((with_reducible refine gate_callee (f := 53) rfl ?_); refine goesL_ (some 71) rfl rfl Try.func53 (by kernel_rfl) rfl #[.agg #[.int .i64 t33018, .slice Ao37 t33034.length co37], .int .i64 1] rfl (by (try simp only [List.map_toArray, List.map_cons, List.map_nil]); first | done | (rw [show t33034.length = t33019.length from (Kd.R_reads' HO_33024001.out).1.symm] <;> rfl) | rfl | (simp only [List.length_drop, List.length_take]; rfl)) ?_; (with_reducible refine (laws_heldMatroid.calls kj60 t33018 _ _ t33034 1 t33035 _ ?side1 ?side2 A92.out).mono ?_); (case side1 => repeat (first | exact (Kd.R_reads' HO_33024001.out).2.2 | (with_reducible refine Kd.C_alloc ?_ _) | (with_reducible refine Kd.C_drewN ?_ _) | (with_reducible refine Kd.C_drew ?_))); (case side2 => rw [show t33034.length = t33019.length from (Kd.R_reads' HO_33024001.out).1.symm]; exact (Kd.R_reads' HO_33024001.out).2.1); rintro e w111 ⟨rfl, hb⟩; refine ⟨_, rfl, ?_⟩; replace HO_33013001 := aQ (Kd.R_below (pR HO_33013001.out) hb); replace HO_33018001 := aQ (Kd.R_below (pR HO_33018001.out) hb); replace HO_33024001 := aQ (Kd.R_below (pR HO_33024001.out) hb); replace BK33001 := aQ (blk_below (g := gb33001) (o := .cells #[.int .i64 a0_0, .slice A0_1 l0_1.length c0_1] 24 (0, 0)) (pk BK33001.out) hb); replace BK33012 := aQ (blk_below (g := gb33012) (o := .cells #[.int .i64 t33007, .slice Ao23 t33008.length co23] 28 (0, 0)) (pk BK33012.out) hb); replace BK33017 := aQ (blk_below (g := gb33017) (o := .cells #[.int .i64 t33013, .slice Ao30 t33031.length co30] 28 (0, 0)) (pk BK33017.out) hb); replace BK33023 := aQ (blk_below (g := gb33023) (o := .cells #[.int .i64 t33018, .slice Ao37 t33019.length co37] 28 (0, 0)) (pk BK33023.out) hb); replace HB := aQ (below_step (pB4 HB.out GE33001.out GE33012.out GE33017.out GE33023.out) hb); (try clear hb); have hnb112 := NB33001_33012.out; have hnc112 := NB33012_33001.out; have hnb113 := NB33001_33017.out; have hnc113 := NB33017_33001.out; have hcz114_0 := bc (v := (.int .i64 a0_0)) BK33001.out 0; have hcz114_1 := bc (v := (.slice A0_1 l0_1.length c0_1)) BK33001.out 1; have hfz114_0 := blk_frozen BK33001.out 0; have hfz114_1 := blk_frozen BK33001.out 1) | ((with_reducible refine gate_callee (f := 35) rfl ?_); refine goesL_ (some 79) rfl rfl Try.func35 (by kernel_rfl) rfl #[.agg #[.int .i64 a0_0, .slice A0_1 l0_1.length c0_1]] rfl lm ?_; (with_reducible refine (laws_toMatroid.calls kj60 a0_0 _ _ l0_1 t33036 t33037 _ ?side1 ?side2 A102.out).mono ?_); (case side1 => exact pC (Kd.C_below HR0_1.out HB.out)); (case side2 => exact HC0_1.out); rintro e w115 ⟨v33038, rfl, ho0, hb⟩; refine ⟨_, rfl, ?_⟩; have HO33039 := aQ (Kd.R_lower (Kd.R_new' (Kd.R_new' (Kd.R_new' ho0 (Kd.R_lt (pR HO_33013001.out))) (Kd.R_lt (pR HO_33018001.out))) (Kd.R_lt (pR HO_33024001.out))) (below_size (pB4 HB.out GE33001.out GE33012.out GE33017.out GE33023.out))); replace HO_33013001 := aQ (Kd.R_elder' (pR HO_33013001.out) (Kd.R_base ho0) hb); replace HO_33018001 := aQ (Kd.R_elder' (pR HO_33018001.out) (Kd.R_base ho0) hb); replace HO_33024001 := aQ (Kd.R_elder' (pR HO_33024001.out) (Kd.R_base ho0) hb); replace BK33001 := aQ (blk_below (g := gb33001) (o := .cells #[.int .i64 a0_0, .slice A0_1 l0_1.length c0_1] 24 (0, 0)) (pk BK33001.out) hb); replace BK33012 := aQ (blk_below (g := gb33012) (o := .cells #[.int .i64 t33007, .slice Ao23 t33008.length co23] 28 (0, 0)) (pk BK33012.out) hb); replace BK33017 := aQ (blk_below (g := gb33017) (o := .cells #[.int .i64 t33013, .slice Ao30 t33031.length co30] 28 (0, 0)) (pk BK33017.out) hb); replace BK33023 := aQ (blk_below (g := gb33023) (o := .cells #[.int .i64 t33018, .slice Ao37 t33019.length co37] 28 (0, 0)) (pk BK33023.out) hb); replace HB := aQ (below_step (pB4 HB.out GE33001.out GE33012.out GE33017.out GE33023.out) hb); (try clear hb); (try clear ho0); obtain ⟨Ao116, co116, eo116⟩ := Kd.R_slice HO33039.out; subst eo116) | ((with_reducible refine gate_callee (f := 108) rfl ?_); refine goesL_ (some 81) rfl rfl Try.func108 (by kernel_rfl) rfl #[.agg #[.int .i64 t33036, .slice Ao116 t33037.length co116], .int .i64 a1] rfl lm ?_; (with_reducible refine (impl_Relax.calls kj60 t33036 _ _ t33037 a1 t33040 t33041 t33044 _ ?side1 ?side2 A103.out).mono ?_); (case side1 => repeat (first | exact (Kd.R_reads' HO33039.out).2.2 | (with_reducible refine Kd.C_alloc ?_ _) | (with_reducible refine Kd.C_drewN ?_ _) | (with_reducible refine Kd.C_drew ?_))); (case side2 => exact (Kd.R_reads' HO33039.out).2.1); rintro e w117 ⟨v33042, rfl, ho0, hb⟩; refine ⟨_, rfl, ?_⟩; have HO33043 := aQ (Kd.R_lower (Kd.R_new' (Kd.R_new' (Kd.R_new' (Kd.R_new' ho0 (Kd.R_lt (pR HO_33013001.out))) (Kd.R_lt (pR HO_33018001.out))) (Kd.R_lt (pR HO_33024001.out))) (Kd.R_lt (pR HO33039.out))) (below_size (pB4 HB.out GE33001.out GE33012.out GE33017.out GE33023.out))); replace HO_33013001 := aQ (Kd.R_elder' (pR HO_33013001.out) (Kd.R_base ho0) hb); replace HO_33018001 := aQ (Kd.R_elder' (pR HO_33018001.out) (Kd.R_base ho0) hb); replace HO_33024001 := aQ (Kd.R_elder' (pR HO_33024001.out) (Kd.R_base ho0) hb); replace HO33039 := aQ (Kd.R_elder' (pR HO33039.out) (Kd.R_base ho0) hb); replace BK33001 := aQ (blk_below (g := gb33001) (o := .cells #[.int .i64 a0_0, .slice A0_1 l0_1.length c0_1] 24 (0, 0)) (pk BK33001.out) hb); replace BK33012 := aQ (blk_below (g := gb33012) (o := .cells #[.int .i64 t33007, .slice Ao23 t33008.length co23] 28 (0, 0)) (pk BK33012.out) hb); replace BK33017 := aQ (blk_below (g := gb33017) (o := .cells #[.int .i64 t33013, .slice Ao30 t33031.length co30] 28 (0, 0)) (pk BK33017.out) hb); replace BK33023 := aQ (blk_below (g := gb33023) (o := .cells #[.int .i64 t33018, .slice Ao37 t33019.length co37] 28 (0, 0)) (pk BK33023.out) hb); replace HB := aQ (below_step (pB4 HB.out GE33001.out GE33012.out GE33017.out GE33023.out) hb); (try clear hb); (try clear ho0)) | ((with_reducible refine gate_dst (N := 14) rfl ?_); refine box_event ?hg (N := 14) ?hd (cs := #[.int .i64 0, .slice none 0 0]) (t := 28) ?hr ?_; (case hd => rfl); (case hg => rfl); (case hr => first | (go_simp; done) | (go_simp; rfl)); intro gb33045 hg w118 hbox hb; replace HO_33013001 := aQ (Kd.R_below (pR HO_33013001.out) hb); replace HO_33018001 := aQ (Kd.R_below (pR HO_33018001.out) hb); replace HO_33024001 := aQ (Kd.R_below (pR HO_33024001.out) hb); replace HO33039 := aQ (Kd.R_below (pR HO33039.out) hb); replace HO33043 := aQ (Kd.R_below (pR HO33043.out) hb); have BK33045 := aQ (hbox); have GW33045 := aQ ((by rw [hg]; exact (below_size (pB4 HB.out GE33001.out GE33012.out GE33017.out GE33023.out)) : w.heap.size ≤ gb33045)); have GE33045 := aQ ((by rw [hg]; exact (below_size (pB4 HB.out GE33001.out GE33012.out GE33017.out GE33023.out)) : w.heap.size ≤ gb33045)); replace HB := aQ (below_step (pB4 HB.out GE33001.out GE33012.out GE33017.out GE33023.out) hb); have NB33001_33045 := aQ ((by rw [hg]; exact Nat.ne_of_lt (blk_lt (g := gb33001) (o := .cells #[.int .i64 a0_0, .slice A0_1 l0_1.length c0_1] 24 (0, 0)) (pk BK33001.out)) : gb33001 ≠ gb33045)); have NB33045_33001 := aQ ((by rw [hg]; exact Nat.ne_of_gt (blk_lt (g := gb33001) (o := .cells #[.int .i64 a0_0, .slice A0_1 l0_1.length c0_1] 24 (0, 0)) (pk BK33001.out)) : gb33045 ≠ gb33001)); replace BK33001 := aQ (blk_below (g := gb33001) (o := .cells #[.int .i64 a0_0, .slice A0_1 l0_1.length c0_1] 24 (0, 0)) (pk BK33001.out) hb); have NB33012_33045 := aQ ((by rw [hg]; exact Nat.ne_of_lt (blk_lt (g := gb33012) (o := .cells #[.int .i64 t33007, .slice Ao23 t33008.length co23] 28 (0, 0)) (pk BK33012.out)) : gb33012 ≠ gb33045)); have NB33045_33012 := aQ ((by rw [hg]; exact Nat.ne_of_gt (blk_lt (g := gb33012) (o := .cells #[.int .i64 t33007, .slice Ao23 t33008.length co23] 28 (0, 0)) (pk BK33012.out)) : gb33045 ≠ gb33012)); replace BK33012 := aQ (blk_below (g := gb33012) (o := .cells #[.int .i64 t33007, .slice Ao23 t33008.length co23] 28 (0, 0)) (pk BK33012.out) hb); have NB33017_33045 := aQ ((by rw [hg]; exact Nat.ne_of_lt (blk_lt (g := gb33017) (o := .cells #[.int .i64 t33013, .slice Ao30 t33031.length co30] 28 (0, 0)) (pk BK33017.out)) : gb33017 ≠ gb33045)); have NB33045_33017 := aQ ((by rw [hg]; exact Nat.ne_of_gt (blk_lt (g := gb33017) (o := .cells #[.int .i64 t33013, .slice Ao30 t33031.length co30] 28 (0, 0)) (pk BK33017.out)) : gb33045 ≠ gb33017)); replace BK33017 := aQ (blk_below (g := gb33017) (o := .cells #[.int .i64 t33013, .slice Ao30 t33031.length co30] 28 (0, 0)) (pk BK33017.out) hb); have NB33023_33045 := aQ ((by rw [hg]; exact Nat.ne_of_lt (blk_lt (g := gb33023) (o := .cells #[.int .i64 t33018, .slice Ao37 t33019.length co37] 28 (0, 0)) (pk BK33023.out)) : gb33023 ≠ gb33045)); have NB33045_33023 := aQ ((by rw [hg]; exact Nat.ne_of_gt (blk_lt (g := gb33023) (o := .cells #[.int .i64 t33018, .slice Ao37 t33019.length co37] 28 (0, 0)) (pk BK33023.out)) : gb33045 ≠ gb33023)); replace BK33023 := aQ (blk_below (g := gb33023) (o := .cells #[.int .i64 t33018, .slice Ao37 t33019.length co37] 28 (0, 0)) (pk BK33023.out) hb); clear hb hbox hg; have hnb119 := NB33045_33001.out; have hnc119 := NB33001_33045.out; have hnb120 := NB33045_33012.out; have hnc120 := NB33012_33045.out; have hnb121 := NB33045_33017.out; have hnc121 := NB33017_33045.out; have hnb122 := NB33045_33023.out; have hnc122 := NB33023_33045.out; have hcz123_0 := bc (v := (.int .i64 0)) BK33045.out 0; have hcz123_1 := bc (v := (.slice none 0 0)) BK33045.out 1; have hfz123_0 := blk_frozen BK33045.out 0; have hfz123_1 := blk_frozen BK33045.out 1; obtain ⟨Ao124, co124, eo124⟩ := Kd.R_slice HO33043.out; subst eo124))
           (try simp only [Act.put, List.setIfInBounds_toArray, List.set_cons_zero, List.set_cons_succ])
           go_cut [92] (fun v92 wc => ∃ (kq : Nat) (x92_103 : Bool), v92 = .bool x92_103 ∧ Aside0 (laws_FnExactRelax.j2 kq t33033 x92_103 t33018 t33034 = some true) ∧ Aside0 (kq ≤ kj60) ∧ Aside0 (Kd.R (Kd.int .i64) 3 wc w.heap.size (fun k_ => some k_ ≠ ((.slice Ao30 t33031.length co30) : Value).ownBlock ∧ some k_ ≠ ((.slice Ao37 t33019.length co37) : Value).ownBlock ∧ some k_ ≠ ((.slice Ao124 t33041.length co124) : Value).ownBlock) (.slice Ao23 t33008.length co23) t33008) ∧ Aside0 (Kd.R (Kd.int .i64) 3 wc w.heap.size (fun k_ => some k_ ≠ ((.slice Ao23 t33008.length co23) : Value).ownBlock ∧ some k_ ≠ ((.slice Ao37 t33019.length co37) : Value).ownBlock ∧ some k_ ≠ ((.slice Ao124 t33041.length co124) : Value).ownBlock) (.slice Ao30 t33031.length co30) t33031) ∧ Aside0 (Kd.R (Kd.int .i64) 3 wc w.heap.size (fun k_ => some k_ ≠ ((.slice Ao23 t33008.length co23) : Value).ownBlock ∧ some k_ ≠ ((.slice Ao30 t33031.length co30) : Value).ownBlock ∧ some k_ ≠ ((.slice Ao124 t33041.length co124) : Value).ownBlock) (.slice Ao37 t33019.length co37) t33034) ∧ Aside0 (Kd.R (Kd.int .i64) 3 wc w.heap.size (fun k_ => some k_ ≠ ((.slice Ao23 t33008.length co23) : Value).ownBlock ∧ some k_ ≠ ((.slice Ao30 t33031.length co30) : Value).ownBlock ∧ some k_ ≠ ((.slice Ao37 t33019.length co37) : Value).ownBlock) (.slice Ao124 t33041.length co124) t33041) ∧ Aside0 (wc.heap[gb33001]? = some (.cells #[.int .i64 a0_0, (.slice A0_1 l0_1.length c0_1)] 24 (0, 0))) ∧ Aside0 (wc.heap[gb33012]? = some (.cells #[.int .i64 t33007, (.slice Ao23 t33008.length co23)] 28 (0, 0))) ∧ Aside0 (wc.heap[gb33017]? = some (.cells #[.int .i64 t33013, (.slice Ao30 t33031.length co30)] 28 (0, 0))) ∧ Aside0 (wc.heap[gb33023]? = some (.cells #[.int .i64 t33018, (.slice Ao37 t33019.length co37)] 28 (0, 0))) ∧ Aside0 (wc.heap[gb33045]? = some (.cells #[.int .i64 t33040, (.slice Ao124 t33041.length co124)] 28 (0, 0))) ∧ Aside0 (Below w.heap.size w wc))
           case first =>
            have H := HC104.out
            clear HC104
            replace H := Option.bind_eq_some_iff.mp H
            obtain ⟨t33046, A1250, H⟩ := H
            replace H : (if t33046 = true then (laws_FnExactRelax.j2 kj60 t33033 (t33044 != t33011) t33018 t33034) else (laws_FnExactRelax.j2 kj60 t33033 true t33018 t33034)) = some true := H
            have A125 := aQ A1250
            clear A1250
            by_cases c126 : t33046 = true
            ·subst c126
             have H1 : (laws_FnExactRelax.j2 kj60 t33033 (t33044 != t33011) t33018 t33034) = some true := by rw [if_pos rfl] at H; exact H
             clear H
             have H := H1
             clear H1
             have H' := aQ H
             clear H
             have hnb127 := NB33045_33001.out
             have hnc127 := NB33001_33045.out
             have hnb128 := NB33045_33012.out
             have hnc128 := NB33012_33045.out
             have hnb129 := NB33045_33017.out
             have hnc129 := NB33017_33045.out
             have hnb130 := NB33045_33023.out
             have hnc130 := NB33023_33045.out
             have hcz131_0 := bc (v := (.int .i64 0)) BK33045.out 0
             have hcz131_1 := bc (v := (.slice none 0 0)) BK33045.out 1
             have hfz131_0 := blk_frozen BK33045.out 0
             have hfz131_1 := blk_frozen BK33045.out 1
             have hnb132 := NB33012_33001.out
             have hnc132 := NB33001_33012.out
             have hnb133 := NB33012_33017.out
             have hnc133 := NB33017_33012.out
             have hnb134 := NB33012_33023.out
             have hnc134 := NB33023_33012.out
             have hcz135_0 := bc (v := (.int .i64 t33007)) BK33012.out 0
             have hcz135_1 := bc (v := (.slice Ao23 t33008.length co23)) BK33012.out 1
             have hfz135_0 := blk_frozen BK33012.out 0
             have hfz135_1 := blk_frozen BK33012.out 1
             go_wp2_with (first | ((with_reducible refine gate_callee (f := 38) rfl ?_); refine goesL_ (some 86) rfl rfl Try.func38 (by kernel_rfl) rfl #[.agg #[.int .i64 t33040, .slice Ao124 t33041.length co124], .agg #[.int .i64 t33007, .slice Ao23 t33008.length co23]] rfl lm ?_; (with_reducible refine (laws_eqMatroid.calls kj60 t33040 _ _ t33041 t33007 _ _ t33008 true _ ?side1 ?side2 ?side3 ?side4 A125.out).mono ?_); (case side1 => refine (Kd.R_reads' (e := 3) (base := w.heap.size) (ok := fun k_ => ((((True ∧ some k_ ≠ (.slice Ao23 t33008.length co23 : Value).ownBlock) ∧ some k_ ≠ (.slice Ao30 t33031.length co30 : Value).ownBlock) ∧ some k_ ≠ (.slice Ao37 t33019.length co37 : Value).ownBlock) ∧ some k_ ≠ (.slice Ao116 t33037.length co116 : Value).ownBlock)) (n := t33041.length) (c := co124) ?_).2.2; exact (by (with_reducible repeat (first | apply Kd.R_alloc | apply Kd.R_drewN | apply Kd.R_drew)); exact (Kd.R_mono (Kd.R_far (p := ⟨gb33045, 1, none⟩) (Kd.R_far (p := ⟨gb33045, 0, none⟩) (Kd.R_types HO33043.out BK33045.out (by decide)) (fun _ hk => hk.2) (.int .i64 t33040)) (fun _ hk => hk.2) (.slice Ao124 t33041.length co124)) (fun _ h_ => h_.1)))); (case side2 => exact (Kd.R_reads' HO33043.out).2.1); (case side3 => refine (Kd.R_reads' (e := 3) (base := w.heap.size) (ok := fun k_ => (((some k_ ≠ (.slice Ao30 t33031.length co30 : Value).ownBlock ∧ some k_ ≠ (.slice Ao37 t33019.length co37 : Value).ownBlock) ∧ some k_ ≠ (.slice Ao116 t33037.length co116 : Value).ownBlock) ∧ some k_ ≠ (.slice Ao124 t33041.length co124 : Value).ownBlock)) (n := t33008.length) (c := co23) ?_).2.2; exact (by (with_reducible repeat (first | apply Kd.R_alloc | apply Kd.R_drewN | apply Kd.R_drew)); exact (Kd.R_mono (Kd.R_far (p := ⟨gb33045, 1, none⟩) (Kd.R_far (p := ⟨gb33045, 0, none⟩) (Kd.R_types HO_33013001.out BK33045.out (by decide)) (fun _ hk => hk.2) (.int .i64 t33040)) (fun _ hk => hk.2) (.slice Ao124 t33041.length co124)) (fun _ h_ => h_.1)))); (case side4 => exact (Kd.R_reads' HO_33013001.out).2.1); rintro e w136 ⟨rfl, hb⟩; refine ⟨_, rfl, ?_⟩; replace HO_33013001 := aQ (Kd.R_below (by (with_reducible repeat (first | apply Kd.R_alloc | apply Kd.R_drewN | apply Kd.R_drew)); exact (Kd.R_mono (Kd.R_far (p := ⟨gb33045, 1, none⟩) (Kd.R_far (p := ⟨gb33045, 0, none⟩) (Kd.R_types HO_33013001.out BK33045.out (by decide)) (fun _ hk => hk.2) (.int .i64 t33040)) (fun _ hk => hk.2) (.slice Ao124 t33041.length co124)) (fun _ h_ => h_.1))) hb); replace HO_33018001 := aQ (Kd.R_below (by (with_reducible repeat (first | apply Kd.R_alloc | apply Kd.R_drewN | apply Kd.R_drew)); exact (Kd.R_mono (Kd.R_far (p := ⟨gb33045, 1, none⟩) (Kd.R_far (p := ⟨gb33045, 0, none⟩) (Kd.R_types HO_33018001.out BK33045.out (by decide)) (fun _ hk => hk.2) (.int .i64 t33040)) (fun _ hk => hk.2) (.slice Ao124 t33041.length co124)) (fun _ h_ => h_.1))) hb); replace HO_33024001 := aQ (Kd.R_below (by (with_reducible repeat (first | apply Kd.R_alloc | apply Kd.R_drewN | apply Kd.R_drew)); exact (Kd.R_mono (Kd.R_far (p := ⟨gb33045, 1, none⟩) (Kd.R_far (p := ⟨gb33045, 0, none⟩) (Kd.R_types HO_33024001.out BK33045.out (by decide)) (fun _ hk => hk.2) (.int .i64 t33040)) (fun _ hk => hk.2) (.slice Ao124 t33041.length co124)) (fun _ h_ => h_.1))) hb); replace HO33039 := aQ (Kd.R_below (by (with_reducible repeat (first | apply Kd.R_alloc | apply Kd.R_drewN | apply Kd.R_drew)); exact (Kd.R_mono (Kd.R_far (p := ⟨gb33045, 1, none⟩) (Kd.R_far (p := ⟨gb33045, 0, none⟩) (Kd.R_types HO33039.out BK33045.out (by decide)) (fun _ hk => hk.2) (.int .i64 t33040)) (fun _ hk => hk.2) (.slice Ao124 t33041.length co124)) (fun _ h_ => h_.1))) hb); replace HO33043 := aQ (Kd.R_below (by (with_reducible repeat (first | apply Kd.R_alloc | apply Kd.R_drewN | apply Kd.R_drew)); exact (Kd.R_mono (Kd.R_far (p := ⟨gb33045, 1, none⟩) (Kd.R_far (p := ⟨gb33045, 0, none⟩) (Kd.R_types HO33043.out BK33045.out (by decide)) (fun _ hk => hk.2) (.int .i64 t33040)) (fun _ hk => hk.2) (.slice Ao124 t33041.length co124)) (fun _ h_ => h_.1))) hb); replace BK33001 := aQ (blk_below (g := gb33001) (o := .cells #[.int .i64 a0_0, .slice A0_1 l0_1.length c0_1] 24 (0, 0)) (by (with_reducible repeat (first | refine blk_drewN ?_ _ | refine blk_drew ?_ | refine blk_alloc ?_ _)); refine blk_far ?_ NB33001_33045.out _; (with_reducible repeat (first | refine blk_drewN ?_ _ | refine blk_drew ?_ | refine blk_alloc ?_ _)); refine blk_far ?_ NB33001_33045.out _; (with_reducible repeat (first | refine blk_drewN ?_ _ | refine blk_drew ?_ | refine blk_alloc ?_ _)); exact BK33001.out) hb); replace BK33012 := aQ (blk_below (g := gb33012) (o := .cells #[.int .i64 t33007, .slice Ao23 t33008.length co23] 28 (0, 0)) (by (with_reducible repeat (first | refine blk_drewN ?_ _ | refine blk_drew ?_ | refine blk_alloc ?_ _)); refine blk_far ?_ NB33012_33045.out _; (with_reducible repeat (first | refine blk_drewN ?_ _ | refine blk_drew ?_ | refine blk_alloc ?_ _)); refine blk_far ?_ NB33012_33045.out _; (with_reducible repeat (first | refine blk_drewN ?_ _ | refine blk_drew ?_ | refine blk_alloc ?_ _)); exact BK33012.out) hb); replace BK33017 := aQ (blk_below (g := gb33017) (o := .cells #[.int .i64 t33013, .slice Ao30 t33031.length co30] 28 (0, 0)) (by (with_reducible repeat (first | refine blk_drewN ?_ _ | refine blk_drew ?_ | refine blk_alloc ?_ _)); refine blk_far ?_ NB33017_33045.out _; (with_reducible repeat (first | refine blk_drewN ?_ _ | refine blk_drew ?_ | refine blk_alloc ?_ _)); refine blk_far ?_ NB33017_33045.out _; (with_reducible repeat (first | refine blk_drewN ?_ _ | refine blk_drew ?_ | refine blk_alloc ?_ _)); exact BK33017.out) hb); replace BK33023 := aQ (blk_below (g := gb33023) (o := .cells #[.int .i64 t33018, .slice Ao37 t33019.length co37] 28 (0, 0)) (by (with_reducible repeat (first | refine blk_drewN ?_ _ | refine blk_drew ?_ | refine blk_alloc ?_ _)); refine blk_far ?_ NB33023_33045.out _; (with_reducible repeat (first | refine blk_drewN ?_ _ | refine blk_drew ?_ | refine blk_alloc ?_ _)); refine blk_far ?_ NB33023_33045.out _; (with_reducible repeat (first | refine blk_drewN ?_ _ | refine blk_drew ?_ | refine blk_alloc ?_ _)); exact BK33023.out) hb); replace BK33045 := aQ (blk_below (g := gb33045) (o := .cells #[.int .i64 t33040, .slice Ao124 t33041.length co124] 28 (0, 0)) (by (with_reducible repeat (first | refine blk_drewN ?_ _ | refine blk_drew ?_ | refine blk_alloc ?_ _)); refine blk_put (cs := #[.int .i64 t33040, .slice none 0 0]) ?_ 1 _ rfl; (with_reducible repeat (first | refine blk_drewN ?_ _ | refine blk_drew ?_ | refine blk_alloc ?_ _)); refine blk_put (cs := #[.int .i64 0, .slice none 0 0]) ?_ 0 _ rfl; (with_reducible repeat (first | refine blk_drewN ?_ _ | refine blk_drew ?_ | refine blk_alloc ?_ _)); exact BK33045.out) hb); replace HB := aQ (below_step (by repeat (first | (with_reducible first | exact HB.out | apply below_alloc | apply pw_below_drewN | apply below_drew1 | refine below_set ?_ GE33001.out | refine below_set ?_ GE33012.out | refine below_set ?_ GE33017.out | refine below_set ?_ GE33023.out | refine below_set ?_ GE33045.out) | exact HB.out)) hb); (try clear hb); (try clear hk)))
             go_meet
             case rel => exact ⟨_, ((t33044 != t33011)), rs_, H', ⟨by have := HJ11.out; have := HJ60.out; first | omega | exact Nat.le_refl _⟩, ⟨by (try simp only [hl33018001_60]); (with_reducible repeat (first | apply Kd.R_alloc | apply Kd.R_drewN | apply Kd.R_drew)); exact Kd.R_mono HO_33013001.out (fun _ hk => ⟨hk.1.1.1, ⟨hk.1.1.2, hk.2⟩⟩)⟩, ⟨by (try simp only [hl33018001_60]); (with_reducible repeat (first | apply Kd.R_alloc | apply Kd.R_drewN | apply Kd.R_drew)); exact Kd.R_mono HO_33018001.out (fun _ hk => ⟨hk.1.1.1, ⟨hk.1.1.2, hk.2⟩⟩)⟩, ⟨by (try simp only [hl33018001_60]); (with_reducible repeat (first | apply Kd.R_alloc | apply Kd.R_drewN | apply Kd.R_drew)); exact Kd.R_mono HO_33024001.out (fun _ hk => ⟨hk.1.1.1, ⟨hk.1.1.2, hk.2⟩⟩)⟩, ⟨by (try simp only [hl33018001_60]); (with_reducible repeat (first | apply Kd.R_alloc | apply Kd.R_drewN | apply Kd.R_drew)); exact Kd.R_mono HO33043.out (fun _ hk => ⟨hk.1.1.1.2, ⟨hk.1.1.2, hk.1.2⟩⟩)⟩, ⟨by (try simp only [hl33018001_60]); (with_reducible repeat (first | refine blk_drewN ?_ _ | refine blk_drew ?_ | refine blk_alloc ?_ _)); exact BK33001.out⟩, ⟨by (try simp only [hl33018001_60]); (with_reducible repeat (first | refine blk_drewN ?_ _ | refine blk_drew ?_ | refine blk_alloc ?_ _)); exact BK33012.out⟩, ⟨by (try simp only [hl33018001_60]); (with_reducible repeat (first | refine blk_drewN ?_ _ | refine blk_drew ?_ | refine blk_alloc ?_ _)); exact BK33017.out⟩, ⟨by (try simp only [hl33018001_60]); (with_reducible repeat (first | refine blk_drewN ?_ _ | refine blk_drew ?_ | refine blk_alloc ?_ _)); exact BK33023.out⟩, ⟨by (try simp only [hl33018001_60]); (with_reducible repeat (first | refine blk_drewN ?_ _ | refine blk_drew ?_ | refine blk_alloc ?_ _)); exact BK33045.out⟩, ⟨by repeat (first | (with_reducible first | exact HB.out | apply below_alloc | apply pw_below_drewN | apply below_drew1 | refine below_set ?_ GE33001.out | refine below_set ?_ GE33012.out | refine below_set ?_ GE33017.out | refine below_set ?_ GE33023.out | refine below_set ?_ GE33045.out) | exact HB.out)⟩⟩
            ·replace c126 := Bool.eq_false_iff.mpr c126
             subst c126
             have H1 : (laws_FnExactRelax.j2 kj60 t33033 true t33018 t33034) = some true := by rw [if_neg (show ¬ (false = true) by decide)] at H; exact H
             clear H
             have H := H1
             clear H1
             have H' := aQ H
             clear H
             have hnb137 := NB33045_33001.out
             have hnc137 := NB33001_33045.out
             have hnb138 := NB33045_33012.out
             have hnc138 := NB33012_33045.out
             have hnb139 := NB33045_33017.out
             have hnc139 := NB33017_33045.out
             have hnb140 := NB33045_33023.out
             have hnc140 := NB33023_33045.out
             have hcz141_0 := bc (v := (.int .i64 0)) BK33045.out 0
             have hcz141_1 := bc (v := (.slice none 0 0)) BK33045.out 1
             have hfz141_0 := blk_frozen BK33045.out 0
             have hfz141_1 := blk_frozen BK33045.out 1
             have hnb142 := NB33012_33001.out
             have hnc142 := NB33001_33012.out
             have hnb143 := NB33012_33017.out
             have hnc143 := NB33017_33012.out
             have hnb144 := NB33012_33023.out
             have hnc144 := NB33023_33012.out
             have hcz145_0 := bc (v := (.int .i64 t33007)) BK33012.out 0
             have hcz145_1 := bc (v := (.slice Ao23 t33008.length co23)) BK33012.out 1
             have hfz145_0 := blk_frozen BK33012.out 0
             have hfz145_1 := blk_frozen BK33012.out 1
             go_wp2_with (first | ((with_reducible refine gate_callee (f := 38) rfl ?_); refine goesL_ (some 86) rfl rfl Try.func38 (by kernel_rfl) rfl #[.agg #[.int .i64 t33040, .slice Ao124 t33041.length co124], .agg #[.int .i64 t33007, .slice Ao23 t33008.length co23]] rfl lm ?_; (with_reducible refine (laws_eqMatroid.calls kj60 t33040 _ _ t33041 t33007 _ _ t33008 false _ ?side1 ?side2 ?side3 ?side4 A125.out).mono ?_); (case side1 => refine (Kd.R_reads' (e := 3) (base := w.heap.size) (ok := fun k_ => ((((True ∧ some k_ ≠ (.slice Ao23 t33008.length co23 : Value).ownBlock) ∧ some k_ ≠ (.slice Ao30 t33031.length co30 : Value).ownBlock) ∧ some k_ ≠ (.slice Ao37 t33019.length co37 : Value).ownBlock) ∧ some k_ ≠ (.slice Ao116 t33037.length co116 : Value).ownBlock)) (n := t33041.length) (c := co124) ?_).2.2; exact (by (with_reducible repeat (first | apply Kd.R_alloc | apply Kd.R_drewN | apply Kd.R_drew)); exact (Kd.R_mono (Kd.R_far (p := ⟨gb33045, 1, none⟩) (Kd.R_far (p := ⟨gb33045, 0, none⟩) (Kd.R_types HO33043.out BK33045.out (by decide)) (fun _ hk => hk.2) (.int .i64 t33040)) (fun _ hk => hk.2) (.slice Ao124 t33041.length co124)) (fun _ h_ => h_.1)))); (case side2 => exact (Kd.R_reads' HO33043.out).2.1); (case side3 => refine (Kd.R_reads' (e := 3) (base := w.heap.size) (ok := fun k_ => (((some k_ ≠ (.slice Ao30 t33031.length co30 : Value).ownBlock ∧ some k_ ≠ (.slice Ao37 t33019.length co37 : Value).ownBlock) ∧ some k_ ≠ (.slice Ao116 t33037.length co116 : Value).ownBlock) ∧ some k_ ≠ (.slice Ao124 t33041.length co124 : Value).ownBlock)) (n := t33008.length) (c := co23) ?_).2.2; exact (by (with_reducible repeat (first | apply Kd.R_alloc | apply Kd.R_drewN | apply Kd.R_drew)); exact (Kd.R_mono (Kd.R_far (p := ⟨gb33045, 1, none⟩) (Kd.R_far (p := ⟨gb33045, 0, none⟩) (Kd.R_types HO_33013001.out BK33045.out (by decide)) (fun _ hk => hk.2) (.int .i64 t33040)) (fun _ hk => hk.2) (.slice Ao124 t33041.length co124)) (fun _ h_ => h_.1)))); (case side4 => exact (Kd.R_reads' HO_33013001.out).2.1); rintro e w146 ⟨rfl, hb⟩; refine ⟨_, rfl, ?_⟩; replace HO_33013001 := aQ (Kd.R_below (by (with_reducible repeat (first | apply Kd.R_alloc | apply Kd.R_drewN | apply Kd.R_drew)); exact (Kd.R_mono (Kd.R_far (p := ⟨gb33045, 1, none⟩) (Kd.R_far (p := ⟨gb33045, 0, none⟩) (Kd.R_types HO_33013001.out BK33045.out (by decide)) (fun _ hk => hk.2) (.int .i64 t33040)) (fun _ hk => hk.2) (.slice Ao124 t33041.length co124)) (fun _ h_ => h_.1))) hb); replace HO_33018001 := aQ (Kd.R_below (by (with_reducible repeat (first | apply Kd.R_alloc | apply Kd.R_drewN | apply Kd.R_drew)); exact (Kd.R_mono (Kd.R_far (p := ⟨gb33045, 1, none⟩) (Kd.R_far (p := ⟨gb33045, 0, none⟩) (Kd.R_types HO_33018001.out BK33045.out (by decide)) (fun _ hk => hk.2) (.int .i64 t33040)) (fun _ hk => hk.2) (.slice Ao124 t33041.length co124)) (fun _ h_ => h_.1))) hb); replace HO_33024001 := aQ (Kd.R_below (by (with_reducible repeat (first | apply Kd.R_alloc | apply Kd.R_drewN | apply Kd.R_drew)); exact (Kd.R_mono (Kd.R_far (p := ⟨gb33045, 1, none⟩) (Kd.R_far (p := ⟨gb33045, 0, none⟩) (Kd.R_types HO_33024001.out BK33045.out (by decide)) (fun _ hk => hk.2) (.int .i64 t33040)) (fun _ hk => hk.2) (.slice Ao124 t33041.length co124)) (fun _ h_ => h_.1))) hb); replace HO33039 := aQ (Kd.R_below (by (with_reducible repeat (first | apply Kd.R_alloc | apply Kd.R_drewN | apply Kd.R_drew)); exact (Kd.R_mono (Kd.R_far (p := ⟨gb33045, 1, none⟩) (Kd.R_far (p := ⟨gb33045, 0, none⟩) (Kd.R_types HO33039.out BK33045.out (by decide)) (fun _ hk => hk.2) (.int .i64 t33040)) (fun _ hk => hk.2) (.slice Ao124 t33041.length co124)) (fun _ h_ => h_.1))) hb); replace HO33043 := aQ (Kd.R_below (by (with_reducible repeat (first | apply Kd.R_alloc | apply Kd.R_drewN | apply Kd.R_drew)); exact (Kd.R_mono (Kd.R_far (p := ⟨gb33045, 1, none⟩) (Kd.R_far (p := ⟨gb33045, 0, none⟩) (Kd.R_types HO33043.out BK33045.out (by decide)) (fun _ hk => hk.2) (.int .i64 t33040)) (fun _ hk => hk.2) (.slice Ao124 t33041.length co124)) (fun _ h_ => h_.1))) hb); replace BK33001 := aQ (blk_below (g := gb33001) (o := .cells #[.int .i64 a0_0, .slice A0_1 l0_1.length c0_1] 24 (0, 0)) (by (with_reducible repeat (first | refine blk_drewN ?_ _ | refine blk_drew ?_ | refine blk_alloc ?_ _)); refine blk_far ?_ NB33001_33045.out _; (with_reducible repeat (first | refine blk_drewN ?_ _ | refine blk_drew ?_ | refine blk_alloc ?_ _)); refine blk_far ?_ NB33001_33045.out _; (with_reducible repeat (first | refine blk_drewN ?_ _ | refine blk_drew ?_ | refine blk_alloc ?_ _)); exact BK33001.out) hb); replace BK33012 := aQ (blk_below (g := gb33012) (o := .cells #[.int .i64 t33007, .slice Ao23 t33008.length co23] 28 (0, 0)) (by (with_reducible repeat (first | refine blk_drewN ?_ _ | refine blk_drew ?_ | refine blk_alloc ?_ _)); refine blk_far ?_ NB33012_33045.out _; (with_reducible repeat (first | refine blk_drewN ?_ _ | refine blk_drew ?_ | refine blk_alloc ?_ _)); refine blk_far ?_ NB33012_33045.out _; (with_reducible repeat (first | refine blk_drewN ?_ _ | refine blk_drew ?_ | refine blk_alloc ?_ _)); exact BK33012.out) hb); replace BK33017 := aQ (blk_below (g := gb33017) (o := .cells #[.int .i64 t33013, .slice Ao30 t33031.length co30] 28 (0, 0)) (by (with_reducible repeat (first | refine blk_drewN ?_ _ | refine blk_drew ?_ | refine blk_alloc ?_ _)); refine blk_far ?_ NB33017_33045.out _; (with_reducible repeat (first | refine blk_drewN ?_ _ | refine blk_drew ?_ | refine blk_alloc ?_ _)); refine blk_far ?_ NB33017_33045.out _; (with_reducible repeat (first | refine blk_drewN ?_ _ | refine blk_drew ?_ | refine blk_alloc ?_ _)); exact BK33017.out) hb); replace BK33023 := aQ (blk_below (g := gb33023) (o := .cells #[.int .i64 t33018, .slice Ao37 t33019.length co37] 28 (0, 0)) (by (with_reducible repeat (first | refine blk_drewN ?_ _ | refine blk_drew ?_ | refine blk_alloc ?_ _)); refine blk_far ?_ NB33023_33045.out _; (with_reducible repeat (first | refine blk_drewN ?_ _ | refine blk_drew ?_ | refine blk_alloc ?_ _)); refine blk_far ?_ NB33023_33045.out _; (with_reducible repeat (first | refine blk_drewN ?_ _ | refine blk_drew ?_ | refine blk_alloc ?_ _)); exact BK33023.out) hb); replace BK33045 := aQ (blk_below (g := gb33045) (o := .cells #[.int .i64 t33040, .slice Ao124 t33041.length co124] 28 (0, 0)) (by (with_reducible repeat (first | refine blk_drewN ?_ _ | refine blk_drew ?_ | refine blk_alloc ?_ _)); refine blk_put (cs := #[.int .i64 t33040, .slice none 0 0]) ?_ 1 _ rfl; (with_reducible repeat (first | refine blk_drewN ?_ _ | refine blk_drew ?_ | refine blk_alloc ?_ _)); refine blk_put (cs := #[.int .i64 0, .slice none 0 0]) ?_ 0 _ rfl; (with_reducible repeat (first | refine blk_drewN ?_ _ | refine blk_drew ?_ | refine blk_alloc ?_ _)); exact BK33045.out) hb); replace HB := aQ (below_step (by repeat (first | (with_reducible first | exact HB.out | apply below_alloc | apply pw_below_drewN | apply below_drew1 | refine below_set ?_ GE33001.out | refine below_set ?_ GE33012.out | refine below_set ?_ GE33017.out | refine below_set ?_ GE33023.out | refine below_set ?_ GE33045.out) | exact HB.out)) hb); (try clear hb); (try clear hk)))
             go_meet
             case rel => exact ⟨_, (true), rs_, H', ⟨by have := HJ11.out; have := HJ60.out; first | omega | exact Nat.le_refl _⟩, ⟨by (try simp only [hl33018001_60]); (with_reducible repeat (first | apply Kd.R_alloc | apply Kd.R_drewN | apply Kd.R_drew)); exact Kd.R_mono HO_33013001.out (fun _ hk => ⟨hk.1.1.1, ⟨hk.1.1.2, hk.2⟩⟩)⟩, ⟨by (try simp only [hl33018001_60]); (with_reducible repeat (first | apply Kd.R_alloc | apply Kd.R_drewN | apply Kd.R_drew)); exact Kd.R_mono HO_33018001.out (fun _ hk => ⟨hk.1.1.1, ⟨hk.1.1.2, hk.2⟩⟩)⟩, ⟨by (try simp only [hl33018001_60]); (with_reducible repeat (first | apply Kd.R_alloc | apply Kd.R_drewN | apply Kd.R_drew)); exact Kd.R_mono HO_33024001.out (fun _ hk => ⟨hk.1.1.1, ⟨hk.1.1.2, hk.2⟩⟩)⟩, ⟨by (try simp only [hl33018001_60]); (with_reducible repeat (first | apply Kd.R_alloc | apply Kd.R_drewN | apply Kd.R_drew)); exact Kd.R_mono HO33043.out (fun _ hk => ⟨hk.1.1.1.2, ⟨hk.1.1.2, hk.1.2⟩⟩)⟩, ⟨by (try simp only [hl33018001_60]); (with_reducible repeat (first | refine blk_drewN ?_ _ | refine blk_drew ?_ | refine blk_alloc ?_ _)); exact BK33001.out⟩, ⟨by (try simp only [hl33018001_60]); (with_reducible repeat (first | refine blk_drewN ?_ _ | refine blk_drew ?_ | refine blk_alloc ?_ _)); exact BK33012.out⟩, ⟨by (try simp only [hl33018001_60]); (with_reducible repeat (first | refine blk_drewN ?_ _ | refine blk_drew ?_ | refine blk_alloc ?_ _)); exact BK33017.out⟩, ⟨by (try simp only [hl33018001_60]); (with_reducible repeat (first | refine blk_drewN ?_ _ | refine blk_drew ?_ | refine blk_alloc ?_ _)); exact BK33023.out⟩, ⟨by (try simp only [hl33018001_60]); (with_reducible repeat (first | refine blk_drewN ?_ _ | refine blk_drew ?_ | refine blk_alloc ?_ _)); exact BK33045.out⟩, ⟨by repeat (first | (with_reducible first | exact HB.out | apply below_alloc | apply pw_below_drewN | apply below_drew1 | refine below_set ?_ GE33001.out | refine below_set ?_ GE33012.out | refine below_set ?_ GE33017.out | refine below_set ?_ GE33023.out | refine below_set ?_ GE33045.out) | exact HB.out)⟩⟩
           case rest =>
            clear HC104
            try clear c1
            try clear c2
            try clear p2
            try clear c3
            try clear c4
            try clear c4b0
            try clear c5
            try clear c6
            try clear c7
            try clear c8
            try clear c9
            try clear c10
            try clear c11
            try clear c12
            try clear c13
            try clear c14
            try clear c21
            try clear c27
            try clear c28
            try clear c32
            try clear c33
            try clear c34
            try clear c35
            try clear c38
            try clear c39
            try clear c40
            try clear c41
            try clear c42
            try clear c44
            try clear c45
            try clear c48
            try clear c49
            try clear c50
            try clear c52
            try clear c53
            try clear c56
            try clear c59
            try clear c66
            try clear c67
            try clear c68
            try clear c71
            try clear c71b0
            try clear c73
            try clear c74
            try clear c75
            try clear c76
            try clear c78
            try clear c79
            try clear c82
            try clear c83
            try clear c84
            try clear c86
            try clear c87
            try clear c90
            try clear c93
            try clear c93b0
            try clear c94
            try clear c95
            try clear c96
            try clear c101
            try clear c101b0
            try clear c101b1
            try clear c105
            try clear c106
            try clear c107
            try clear c108
            try clear c112
            try clear c113
            try clear c119
            try clear c120
            try clear c121
            try clear c122
            try clear c126
            try clear c127
            try clear c128
            try clear c129
            try clear c130
            try clear c132
            try clear c133
            try clear c134
            try clear c137
            try clear c138
            try clear c139
            try clear c140
            try clear c142
            try clear c143
            try clear c144
            try clear hcz108_0
            try clear hcz108_1
            try clear hcz110_0
            try clear hcz110_1
            try clear hcz114_0
            try clear hcz114_1
            try clear hcz123_0
            try clear hcz123_1
            try clear hcz131_0
            try clear hcz131_1
            try clear hcz135_0
            try clear hcz135_1
            try clear hcz141_0
            try clear hcz141_1
            try clear hcz145_0
            try clear hcz145_1
            try clear hcz14_0
            try clear hcz14_1
            try clear hcz16_0
            try clear hcz16_1
            try clear hcz22_0
            try clear hcz22_1
            try clear hcz24_0
            try clear hcz24_1
            try clear hcz29_0
            try clear hcz29_1
            try clear hcz36_0
            try clear hcz36_1
            try clear hcz43_0
            try clear hcz43_1
            try clear hcz46_0
            try clear hcz46_1
            try clear hcz51_0
            try clear hcz51_1
            try clear hcz54_0
            try clear hcz54_1
            try clear hcz69_0
            try clear hcz69_1
            try clear hcz6_0
            try clear hcz6_1
            try clear hcz77_0
            try clear hcz77_1
            try clear hcz80_0
            try clear hcz80_1
            try clear hcz85_0
            try clear hcz85_1
            try clear hcz88_0
            try clear hcz88_1
            try clear hcz97_0
            try clear hcz97_1
            try clear hcz99_0
            try clear hcz99_1
            try clear hfz108_0
            try clear hfz108_1
            try clear hfz110_0
            try clear hfz110_1
            try clear hfz114_0
            try clear hfz114_1
            try clear hfz123_0
            try clear hfz123_1
            try clear hfz131_0
            try clear hfz131_1
            try clear hfz135_0
            try clear hfz135_1
            try clear hfz141_0
            try clear hfz141_1
            try clear hfz145_0
            try clear hfz145_1
            try clear hfz14_0
            try clear hfz14_1
            try clear hfz16_0
            try clear hfz16_1
            try clear hfz22_0
            try clear hfz22_1
            try clear hfz24_0
            try clear hfz24_1
            try clear hfz29_0
            try clear hfz29_1
            try clear hfz36_0
            try clear hfz36_1
            try clear hfz43_0
            try clear hfz43_1
            try clear hfz46_0
            try clear hfz46_1
            try clear hfz51_0
            try clear hfz51_1
            try clear hfz54_0
            try clear hfz54_1
            try clear hfz69_0
            try clear hfz69_1
            try clear hfz6_0
            try clear hfz6_1
            try clear hfz77_0
            try clear hfz77_1
            try clear hfz80_0
            try clear hfz80_1
            try clear hfz85_0
            try clear hfz85_1
            try clear hfz88_0
            try clear hfz88_1
            try clear hfz97_0
            try clear hfz97_1
            try clear hfz99_0
            try clear hfz99_1
            try clear p2
            obtain ⟨kq, x92_103, rfl, HA, HJ103, HO_33013001, HO_33018001, HO_33024001, HO_33046001, BK33001, BK33012, BK33017, BK33023, BK33045, HB⟩ := hcut
            have hl33024001_103 := (Kd.R_reads' HO_33024001.out).1
            rw [hl33024001_103] at HO_33024001
            (try simp only [hl33024001_103])
            (try simp only [hl33024001_103] at BK33001)
            (try simp only [hl33024001_103] at BK33012)
            (try simp only [hl33024001_103] at BK33017)
            (try simp only [hl33024001_103] at BK33023)
            (try simp only [hl33024001_103] at BK33045)
            (try simp only [hl33024001_103] at HO_33013001)
            (try simp only [hl33024001_103] at HO_33018001)
            (try simp only [hl33024001_103] at HO_33046001)
            cases kq with
            | zero => exact absurd HA.out (by simp [laws_FnExactRelax.j2])
            | succ kj103 =>
             have H := HA.out
             clear HA
             simp only [laws_FnExactRelax.j2] at H
             by_cases c147 : x92_103 = true
             ·subst c147
              have H1 : (some false) = some true := by rw [if_pos rfl] at H; exact H
              clear H
              have H := H1
              clear H1
              exact absurd (Option.some.inj H) (by decide)
             ·replace c147 := Bool.eq_false_iff.mpr c147
              subst c147
              have H1 : ((laws_heldMatroid.f kj103 t33018 t33034 1).bind fun t33047 => (if t33047 < 0 then (some false) else (if t33047 = t33033 then (some true) else (some false)))) = some true := by rw [if_neg (show ¬ (false = true) by decide)] at H; exact H
              clear H
              have H := H1
              clear H1
              replace H := Option.bind_eq_some_iff.mp H
              obtain ⟨t33047, A1480, H⟩ := H
              replace H : (if t33047 < 0 then (some false) else (if t33047 = t33033 then (some true) else (some false))) = some true := H
              have A148 := aQ A1480
              clear A1480
              by_cases c149 : t33047 < 0
              ·rw [if_pos c149] at H
               have c149b0 : decide (t33047 < 0) = true := decide_eq_true c149
               clear c149
               exact absurd (Option.some.inj H) (by decide)
              ·rw [if_neg c149] at H
               have c149b0 : decide (t33047 < 0) = false := decide_eq_false c149
               clear c149
               by_cases c156 : t33047 = t33033
               ·rw [if_pos c156] at H
                have c156b0 : (t33047 == t33033) = true := beq_iff_eq.mpr c156
                have c156b1 : (t33047 != t33033) = false := bne_eq_false_iff_eq.mpr c156
                clear c156
                clear H
                have hnb157 := NB33023_33001.out
                have hnc157 := NB33001_33023.out
                have hnb158 := NB33023_33012.out
                have hnc158 := NB33012_33023.out
                have hnb159 := NB33023_33017.out
                have hnc159 := NB33017_33023.out
                have hnb160 := NB33023_33045.out
                have hnc160 := NB33045_33023.out
                have hcz161_0 := bc (v := (.int .i64 t33018)) BK33023.out 0
                have hcz161_1 := bc (v := (.slice Ao37 t33034.length co37)) BK33023.out 1
                have hfz161_0 := blk_frozen BK33023.out 0
                have hfz161_1 := blk_frozen BK33023.out 1
                go_wp2_with (first | ((with_reducible refine gate_callee (f := 53) rfl ?_); refine goesL_ (some 95) rfl rfl Try.func53 (by kernel_rfl) rfl #[.agg #[.int .i64 t33018, .slice Ao37 t33034.length co37], .int .i64 1] rfl lm ?_; (with_reducible refine (laws_heldMatroid.calls kj103 t33018 _ _ t33034 1 t33047 _ ?side1 ?side2 A148.out).mono ?_); (case side1 => repeat (first | exact (Kd.R_reads' HO_33024001.out).2.2 | (with_reducible refine Kd.C_alloc ?_ _) | (with_reducible refine Kd.C_drewN ?_ _) | (with_reducible refine Kd.C_drew ?_))); (case side2 => exact (Kd.R_reads' HO_33024001.out).2.1); rintro e w162 ⟨rfl, hb⟩; refine ⟨_, rfl, ?_⟩; replace HO_33013001 := aQ (Kd.R_below (pR HO_33013001.out) hb); replace HO_33018001 := aQ (Kd.R_below (pR HO_33018001.out) hb); replace HO_33024001 := aQ (Kd.R_below (pR HO_33024001.out) hb); replace HO_33046001 := aQ (Kd.R_below (pR HO_33046001.out) hb); replace BK33001 := aQ (blk_below (g := gb33001) (o := .cells #[.int .i64 a0_0, .slice A0_1 l0_1.length c0_1] 24 (0, 0)) (pk BK33001.out) hb); replace BK33012 := aQ (blk_below (g := gb33012) (o := .cells #[.int .i64 t33007, .slice Ao23 t33008.length co23] 28 (0, 0)) (pk BK33012.out) hb); replace BK33017 := aQ (blk_below (g := gb33017) (o := .cells #[.int .i64 t33013, .slice Ao30 t33031.length co30] 28 (0, 0)) (pk BK33017.out) hb); replace BK33023 := aQ (blk_below (g := gb33023) (o := .cells #[.int .i64 t33018, .slice Ao37 t33034.length co37] 28 (0, 0)) (pk BK33023.out) hb); replace BK33045 := aQ (blk_below (g := gb33045) (o := .cells #[.int .i64 t33040, .slice Ao124 t33041.length co124] 28 (0, 0)) (pk BK33045.out) hb); replace HB := aQ (below_step (by repeat (first | (with_reducible first | exact HB.out | apply below_alloc | apply pw_below_drewN | apply below_drew1 | refine below_set ?_ GE33001.out | refine below_set ?_ GE33012.out | refine below_set ?_ GE33017.out | refine below_set ?_ GE33023.out | refine below_set ?_ GE33045.out) | exact HB.out)) hb); (try clear hb)))
                go_ret
                exact ⟨re_, by repeat (first | (with_reducible first | exact HB.out | apply below_alloc | apply pw_below_drewN | apply below_drew1 | refine below_set ?_ GE33001.out | refine below_set ?_ GE33012.out | refine below_set ?_ GE33017.out | refine below_set ?_ GE33023.out | refine below_set ?_ GE33045.out) | exact HB.out)⟩
               ·rw [if_neg c156] at H
                have c156b0 : (t33047 == t33033) = false := beq_eq_false_iff_ne.mpr c156
                have c156b1 : (t33047 != t33033) = true := bne_iff_ne.mpr c156
                exact absurd (Option.some.inj H) (by decide)
          ·rw [if_neg c101] at H
           have c101b0 : (t33035 == t33033) = false := beq_eq_false_iff_ne.mpr c101
           have c101b1 : (t33035 != t33033) = true := bne_iff_ne.mpr c101
           exact absurd (Option.some.inj H) (by decide)
     ·replace c59 := Bool.eq_false_iff.mpr c59
      subst c59
      have H1 : (some false) = some true := by rw [if_neg (show ¬ (false = true) by decide)] at H; exact H
      clear H
      have H := H1
      clear H1
      exact absurd (Option.some.inj H) (by decide)
end Go.Proofs.Ytinoamehdhgpgaa.A
