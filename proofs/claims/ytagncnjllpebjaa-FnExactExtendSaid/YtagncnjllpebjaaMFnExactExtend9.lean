/- Machine side of the law FnExactExtend: Go functions as Lean functions, and proofs that calls come to what these tell. Conditions: those in each theorem. -/
import Derived.Test.YtagncnjllpebjaaMFnExactExtend0
import Derived.Test.YtagncnjllpebjaaMFnExactExtend1
import Derived.Test.YtagncnjllpebjaaMFnExactExtend2
import Derived.Test.YtagncnjllpebjaaMFnExactExtend3
import Derived.Test.YtagncnjllpebjaaMFnExactExtend6
import Derived.Test.YtagncnjllpebjaaMFnExactExtend8
namespace Go.Proofs.Ytagncnjllpebjaa.A
open Go.RowKit Go.Proofs.YtagncnjllpebjaaW.PrintWords Go.Proofs.YtagncnjllpebjaaW.PrintLast Go.Proofs.YtagncnjllpebjaaW.PrintMore
attribute [local go_sem] max2_int min2_int max_two min_two max_three min_three max_four min_four
set_option linter.unusedVariables false
set_option linter.unusedSimpArgs false
/-! ### laws_FnExactExtend: function 10 -/
mutual
def laws_FnExactExtend.j0 : Nat → List Int → Bool → List Int → Bool → Bool → Int → List Int → Int → List Int → Int → List Int → Int → List Int → Option (Bool)
 | 0, _, _, _, _, _, _, _, _, _, _, _, _, _ => none
 | k + 1, x1, x7, x9, x11, x51, x11002000, x11002001, x11016000, x11016001, x11021000, x11021001, x11030000, x11030001 => if x51 = true then (some false) else ((laws_toMatroid.f k x11002000 x11002001).bind fun bt11031 => ((laws_eqMatroid.f k x11021000 x11021001 bt11031.1 bt11031.2).bind fun t11035 => (if t11035 = true then ((laws_toIntS.f k x1).bind fun t11036 => ((laws_eqIntS.f k x9 t11036).bind fun t11039 => (if t11039 = true then ((laws_markMatroid.f k x11021000 x11021001 1).bind fun bt11040 => ((laws_markIntS.f k x9 bt11040.1).bind fun bt11042 => (if bt11042.1 < 0 then (laws_FnExactExtend.j1 k x1 x7 true x11002000 x11002001 x11016000 x11016001 x11030000 x11030001) else ((laws_eqMatroid.f k x11030000 x11030001 x11016000 x11016001).bind fun t11044 => (if t11044 = true then (laws_FnExactExtend.j1 k x1 x7 (x11 != x7) x11002000 x11002001 x11016000 x11016001 x11030000 x11030001) else (laws_FnExactExtend.j1 k x1 x7 true x11002000 x11002001 x11016000 x11016001 x11030000 x11030001)))))) else (some false)))) else (some false))))
def laws_FnExactExtend.j1 : Nat → List Int → Bool → Bool → Int → List Int → Int → List Int → Int → List Int → Option (Bool)
 | 0, _, _, _, _, _, _, _, _, _ => none
 | k + 1, x1, x7, x80, x11002000, x11002001, x11016000, x11016001, x11030000, x11030001 => if x80 = true then (some false) else ((laws_markMatroid.f k x11030000 x11030001 1).bind fun bt11045 => ((laws_heldMatroid.f k x11030000 bt11045.2 1).bind fun t11047 => (if t11047 < 0 then (some false) else (if t11047 = bt11045.1 then ((laws_toMatroid.f k x11002000 x11002001).bind fun bt11048 => ((laws_toIntS.f k x1).bind fun t11052 => ((impl_Extend.f k bt11048.1 bt11048.2 t11052).bind fun bt11055 => ((laws_eqMatroid.f k bt11055.1 bt11055.2.1 x11016000 x11016001).bind fun t11061 => (if t11061 = true then (laws_FnExactExtend.j2 k bt11045.1 (bt11055.2.2 != x7) x11030000 bt11045.2) else (laws_FnExactExtend.j2 k bt11045.1 true x11030000 bt11045.2)))))) else (some false)))))
def laws_FnExactExtend.j2 : Nat → Int → Bool → Int → List Int → Option (Bool)
 | 0, _, _, _, _ => none
 | k + 1, x13, x108, x11030000, x11030001 => if x108 = true then (some false) else ((laws_heldMatroid.f k x11030000 x11030001 1).bind fun t11062 => (if t11062 < 0 then (some false) else (if t11062 = x13 then (some true) else (some false))))
end
def laws_FnExactExtend.f (k : Nat) (a0_0 : Int) (l0_1 : List Int) (l1 : List Int) : Option (Bool) := if (l1.length : Int) > 1048576 then (some true) else ((laws_szMatroid.f a0_0 l0_1 1048576).bind fun t11002 => (if t11002 < 0 then (some true) else ((laws_toMatroid.f k a0_0 l0_1).bind fun bt11003 => ((laws_toIntS.f k l1).bind fun t11007 => ((spec_Extend.f k bt11003.1 bt11003.2 t11007).bind fun bt11010 => ((laws_toMatroid.f k a0_0 l0_1).bind fun bt11016 => ((laws_toIntS.f k l1).bind fun t11021 => ((impl_Extend.f k bt11016.1 bt11016.2 t11021).bind fun bt11024 => ((laws_eqMatroid.f k bt11024.1 bt11024.2.1 bt11010.1 bt11010.2.1).bind fun t11030 => (if t11030 = true then (laws_FnExactExtend.j0 k l1 bt11010.2.2 t11021 bt11024.2.2 (bt11024.2.2 != bt11010.2.2) a0_0 l0_1 bt11010.1 bt11010.2.1 bt11016.1 bt11016.2 bt11024.1 bt11024.2.1) else (laws_FnExactExtend.j0 k l1 bt11010.2.2 t11021 bt11024.2.2 true a0_0 l0_1 bt11010.1 bt11010.2.1 bt11016.1 bt11016.2 bt11024.1 bt11024.2.1)))))))))))
theorem laws_FnExactExtend.mono_l : ∀ k, (∀ y0 y1 y2 y3 y4 y5 y6 y7 y8 y9 y10 y11 y12, LeO (laws_FnExactExtend.j0 k y0 y1 y2 y3 y4 y5 y6 y7 y8 y9 y10 y11 y12) (laws_FnExactExtend.j0 (k + 1) y0 y1 y2 y3 y4 y5 y6 y7 y8 y9 y10 y11 y12)) ∧ (∀ y0 y1 y2 y3 y4 y5 y6 y7 y8, LeO (laws_FnExactExtend.j1 k y0 y1 y2 y3 y4 y5 y6 y7 y8) (laws_FnExactExtend.j1 (k + 1) y0 y1 y2 y3 y4 y5 y6 y7 y8)) ∧ (∀ y0 y1 y2 y3, LeO (laws_FnExactExtend.j2 k y0 y1 y2 y3) (laws_FnExactExtend.j2 (k + 1) y0 y1 y2 y3))
 | 0 => ⟨fun _ _ _ _ _ _ _ _ _ _ _ _ _ r h => by simp [laws_FnExactExtend.j0] at h, fun _ _ _ _ _ _ _ _ _ r h => by simp [laws_FnExactExtend.j1] at h, fun _ _ _ _ r h => by simp [laws_FnExactExtend.j2] at h⟩
 | k + 1 => by
  obtain ⟨ih0, ih1, ih2⟩ := laws_FnExactExtend.mono_l k
  refine ⟨?_, ?_, ?_⟩
  ·intro y0 y1 y2 y3 y4 y5 y6 y7 y8 y9 y10 y11 y12
   unfold laws_FnExactExtend.j0
   repeat' first
   | (with_reducible exact ih0 _ _ _ _ _ _ _ _ _ _ _ _ _)
   | (with_reducible exact ih1 _ _ _ _ _ _ _ _ _)
   | (with_reducible exact ih2 _ _ _ _)
   | (with_reducible exact impl_Extend.mono _ _ _ _)
   | (with_reducible exact laws_eqIntS.mono _ _ _)
   | (with_reducible exact laws_eqMatroid.mono _ _ _ _ _)
   | (with_reducible exact laws_heldMatroid.mono _ _ _ _)
   | (with_reducible exact laws_markIntS.mono _ _ _)
   | (with_reducible exact laws_markMatroid.mono _ _ _ _)
   | (with_reducible exact laws_toIntS.mono _ _)
   | (with_reducible exact laws_toMatroid.mono _ _ _)
   | (with_reducible exact spec_Extend.mono _ _ _ _)
   | (with_reducible exact LeO.refl _)
   | (with_reducible exact LeO.none _)
   | (with_reducible refine LeO.ite ?_ ?_)
   | (with_reducible refine LeO.bind ?_ (fun _ => ?_))
   | exact ih0 _ _ _ _ _ _ _ _ _ _ _ _ _
   | exact ih1 _ _ _ _ _ _ _ _ _
   | exact ih2 _ _ _ _
   | exact impl_Extend.mono _ _ _ _
   | exact laws_eqIntS.mono _ _ _
   | exact laws_eqMatroid.mono _ _ _ _ _
   | exact laws_heldMatroid.mono _ _ _ _
   | exact laws_markIntS.mono _ _ _
   | exact laws_markMatroid.mono _ _ _ _
   | exact laws_toIntS.mono _ _
   | exact laws_toMatroid.mono _ _ _
   | exact spec_Extend.mono _ _ _ _
   | exact LeO.none _
   | refine LeO.ite ?_ ?_
   | refine LeO.bind ?_ (fun _ => ?_)
  ·intro y0 y1 y2 y3 y4 y5 y6 y7 y8
   unfold laws_FnExactExtend.j1
   repeat' first
   | (with_reducible exact ih0 _ _ _ _ _ _ _ _ _ _ _ _ _)
   | (with_reducible exact ih1 _ _ _ _ _ _ _ _ _)
   | (with_reducible exact ih2 _ _ _ _)
   | (with_reducible exact impl_Extend.mono _ _ _ _)
   | (with_reducible exact laws_eqIntS.mono _ _ _)
   | (with_reducible exact laws_eqMatroid.mono _ _ _ _ _)
   | (with_reducible exact laws_heldMatroid.mono _ _ _ _)
   | (with_reducible exact laws_markIntS.mono _ _ _)
   | (with_reducible exact laws_markMatroid.mono _ _ _ _)
   | (with_reducible exact laws_toIntS.mono _ _)
   | (with_reducible exact laws_toMatroid.mono _ _ _)
   | (with_reducible exact spec_Extend.mono _ _ _ _)
   | (with_reducible exact LeO.refl _)
   | (with_reducible exact LeO.none _)
   | (with_reducible refine LeO.ite ?_ ?_)
   | (with_reducible refine LeO.bind ?_ (fun _ => ?_))
   | exact ih0 _ _ _ _ _ _ _ _ _ _ _ _ _
   | exact ih1 _ _ _ _ _ _ _ _ _
   | exact ih2 _ _ _ _
   | exact impl_Extend.mono _ _ _ _
   | exact laws_eqIntS.mono _ _ _
   | exact laws_eqMatroid.mono _ _ _ _ _
   | exact laws_heldMatroid.mono _ _ _ _
   | exact laws_markIntS.mono _ _ _
   | exact laws_markMatroid.mono _ _ _ _
   | exact laws_toIntS.mono _ _
   | exact laws_toMatroid.mono _ _ _
   | exact spec_Extend.mono _ _ _ _
   | exact LeO.none _
   | refine LeO.ite ?_ ?_
   | refine LeO.bind ?_ (fun _ => ?_)
  ·intro y0 y1 y2 y3
   unfold laws_FnExactExtend.j2
   repeat' first
   | (with_reducible exact ih0 _ _ _ _ _ _ _ _ _ _ _ _ _)
   | (with_reducible exact ih1 _ _ _ _ _ _ _ _ _)
   | (with_reducible exact ih2 _ _ _ _)
   | (with_reducible exact impl_Extend.mono _ _ _ _)
   | (with_reducible exact laws_eqIntS.mono _ _ _)
   | (with_reducible exact laws_eqMatroid.mono _ _ _ _ _)
   | (with_reducible exact laws_heldMatroid.mono _ _ _ _)
   | (with_reducible exact laws_markIntS.mono _ _ _)
   | (with_reducible exact laws_markMatroid.mono _ _ _ _)
   | (with_reducible exact laws_toIntS.mono _ _)
   | (with_reducible exact laws_toMatroid.mono _ _ _)
   | (with_reducible exact spec_Extend.mono _ _ _ _)
   | (with_reducible exact LeO.refl _)
   | (with_reducible exact LeO.none _)
   | (with_reducible refine LeO.ite ?_ ?_)
   | (with_reducible refine LeO.bind ?_ (fun _ => ?_))
   | exact ih0 _ _ _ _ _ _ _ _ _ _ _ _ _
   | exact ih1 _ _ _ _ _ _ _ _ _
   | exact ih2 _ _ _ _
   | exact impl_Extend.mono _ _ _ _
   | exact laws_eqIntS.mono _ _ _
   | exact laws_eqMatroid.mono _ _ _ _ _
   | exact laws_heldMatroid.mono _ _ _ _
   | exact laws_markIntS.mono _ _ _
   | exact laws_markMatroid.mono _ _ _ _
   | exact laws_toIntS.mono _ _
   | exact laws_toMatroid.mono _ _ _
   | exact spec_Extend.mono _ _ _ _
   | exact LeO.none _
   | refine LeO.ite ?_ ?_
   | refine LeO.bind ?_ (fun _ => ?_)
theorem laws_FnExactExtend.mono : ∀ a0 a1 a2 k, LeO (laws_FnExactExtend.f k a0 a1 a2) (laws_FnExactExtend.f (k + 1) a0 a1 a2) := by
 intro a0 a1 a2 k
 obtain ⟨ih0, ih1, ih2⟩ := laws_FnExactExtend.mono_l k
 unfold laws_FnExactExtend.f
 repeat' first
   | (with_reducible exact ih0 _ _ _ _ _ _ _ _ _ _ _ _ _)
   | (with_reducible exact ih1 _ _ _ _ _ _ _ _ _)
   | (with_reducible exact ih2 _ _ _ _)
   | (with_reducible exact impl_Extend.mono _ _ _ _)
   | (with_reducible exact laws_eqIntS.mono _ _ _)
   | (with_reducible exact laws_eqMatroid.mono _ _ _ _ _)
   | (with_reducible exact laws_heldMatroid.mono _ _ _ _)
   | (with_reducible exact laws_markIntS.mono _ _ _)
   | (with_reducible exact laws_markMatroid.mono _ _ _ _)
   | (with_reducible exact laws_toIntS.mono _ _)
   | (with_reducible exact laws_toMatroid.mono _ _ _)
   | (with_reducible exact spec_Extend.mono _ _ _ _)
   | (with_reducible exact LeO.refl _)
   | (with_reducible exact LeO.none _)
   | (with_reducible refine LeO.ite ?_ ?_)
   | (with_reducible refine LeO.bind ?_ (fun _ => ?_))
   | exact ih0 _ _ _ _ _ _ _ _ _ _ _ _ _
   | exact ih1 _ _ _ _ _ _ _ _ _
   | exact ih2 _ _ _ _
   | exact impl_Extend.mono _ _ _ _
   | exact laws_eqIntS.mono _ _ _
   | exact laws_eqMatroid.mono _ _ _ _ _
   | exact laws_heldMatroid.mono _ _ _ _
   | exact laws_markIntS.mono _ _ _
   | exact laws_markMatroid.mono _ _ _ _
   | exact laws_toIntS.mono _ _
   | exact laws_toMatroid.mono _ _ _
   | exact spec_Extend.mono _ _ _ _
   | exact LeO.none _
   | refine LeO.ite ?_ ?_
   | refine LeO.bind ?_ (fun _ => ?_)
set_option maxHeartbeats 8000000 in
set_option maxRecDepth 100000 in
theorem laws_FnExactExtend.calls (k : Nat) (a0_0 : Int) (A0_1 : Option Addr) (c0_1 : Nat) (l0_1 : List Int) (A1 : Option Addr) (c1 : Nat) (l1 : List Int) (w : World) (hr0_1 : Kd.C (Kd.int .i64) w A0_1 l0_1.length l0_1) (hc0_1 : l0_1.length ≤ c0_1) (hr1 : Kd.C (Kd.int .i64) w A1 l1.length l1) (hc1 : l1.length ≤ c1) (h : laws_FnExactExtend.f k a0_0 l0_1 l1 = some true) :
  Calls Try.prog 10 #[.agg #[.int .i64 a0_0, .slice A0_1 l0_1.length c0_1], .slice A1 l1.length c1] w fun e w' => e = .returned (.bool true) ∧ Below w.heap.size w w' := by
 have hu24 := Try.underlying24
 have hu26 := Try.underlying26
 have HR0_1 := aQ hr0_1
 have HC0_1 := aQ hc0_1
 clear hr0_1 hc0_1
 have HR1 := aQ hr1
 have HC1 := aQ hc1
 clear hr1 hc1
 have HB := aQ (Below.refl w.heap.size w)
 have H : (if (l1.length : Int) > 1048576 then (some true) else ((laws_szMatroid.f a0_0 l0_1 1048576).bind fun t11002 => (if t11002 < 0 then (some true) else ((laws_toMatroid.f k a0_0 l0_1).bind fun bt11003 => ((laws_toIntS.f k l1).bind fun t11007 => ((spec_Extend.f k bt11003.1 bt11003.2 t11007).bind fun bt11010 => ((laws_toMatroid.f k a0_0 l0_1).bind fun bt11016 => ((laws_toIntS.f k l1).bind fun t11021 => ((impl_Extend.f k bt11016.1 bt11016.2 t11021).bind fun bt11024 => ((laws_eqMatroid.f k bt11024.1 bt11024.2.1 bt11010.1 bt11010.2.1).bind fun t11030 => (if t11030 = true then (laws_FnExactExtend.j0 k l1 bt11010.2.2 t11021 bt11024.2.2 (bt11024.2.2 != bt11010.2.2) a0_0 l0_1 bt11010.1 bt11010.2.1 bt11016.1 bt11016.2 bt11024.1 bt11024.2.1) else (laws_FnExactExtend.j0 k l1 bt11010.2.2 t11021 bt11024.2.2 true a0_0 l0_1 bt11010.1 bt11010.2.1 bt11016.1 bt11016.2 bt11024.1 bt11024.2.1)))))))))))) = some true := h
 clear h
 by_cases c3 : (l1.length : Int) > 1048576
 ·rw [if_pos c3] at H
  have c3b0 : decide (1048576 < (l1.length : Int)) = true := decide_eq_true c3
  have c3b1 : decide (1048576 < l1.length) = true := decide_eq_true (by omega)
  clear c3
  clear H
  go_enter Try.func10, Try.ntmps10
  go_wp2_with (first | ((with_reducible refine gate_dst (N := 2) rfl ?_); refine box_event ?hg (N := 2) ?hd (cs := #[.int .i64 a0_0, .slice A0_1 l0_1.length c0_1]) (t := 24) ?hr ?_; (case hd => rfl); (case hg => rfl); (case hr => first | (go_simp; done) | (go_simp; rfl)); intro gb11001 hg w4 hbox hb; have BK11001 := aQ (hbox); have GW11001 := aQ ((by rw [hg]; exact (below_size (pB HB.out)) : w.heap.size ≤ gb11001)); have GE11001 := aQ ((by rw [hg]; exact (below_size (pB HB.out)) : w.heap.size ≤ gb11001)); replace HB := aQ (below_step (pB HB.out) hb); clear hb hbox hg))
  go_ret
  exact ⟨re_, pB1 HB.out GE11001.out⟩
 ·rw [if_neg c3] at H
  have c3b0 : decide (1048576 < (l1.length : Int)) = false := decide_eq_false c3
  have c3b1 : decide (1048576 < l1.length) = false := decide_eq_false (by omega)
  clear c3
  replace H := Option.bind_eq_some_iff.mp H
  obtain ⟨t11002, A50, H⟩ := H
  replace H : (if t11002 < 0 then (some true) else ((laws_toMatroid.f k a0_0 l0_1).bind fun bt11003 => ((laws_toIntS.f k l1).bind fun t11007 => ((spec_Extend.f k bt11003.1 bt11003.2 t11007).bind fun bt11010 => ((laws_toMatroid.f k a0_0 l0_1).bind fun bt11016 => ((laws_toIntS.f k l1).bind fun t11021 => ((impl_Extend.f k bt11016.1 bt11016.2 t11021).bind fun bt11024 => ((laws_eqMatroid.f k bt11024.1 bt11024.2.1 bt11010.1 bt11010.2.1).bind fun t11030 => (if t11030 = true then (laws_FnExactExtend.j0 k l1 bt11010.2.2 t11021 bt11024.2.2 (bt11024.2.2 != bt11010.2.2) a0_0 l0_1 bt11010.1 bt11010.2.1 bt11016.1 bt11016.2 bt11024.1 bt11024.2.1) else (laws_FnExactExtend.j0 k l1 bt11010.2.2 t11021 bt11024.2.2 true a0_0 l0_1 bt11010.1 bt11010.2.1 bt11016.1 bt11016.2 bt11024.1 bt11024.2.1)))))))))) = some true := H
  have A5 := aQ A50
  clear A50
  by_cases c6 : t11002 < 0
  ·rw [if_pos c6] at H
   have c6b0 : decide (t11002 < 0) = true := decide_eq_true c6
   clear c6
   clear H
   go_enter Try.func10, Try.ntmps10
   go_wp2_with (first | ((with_reducible refine gate_dst (N := 2) rfl ?_); refine box_event ?hg (N := 2) ?hd (cs := #[.int .i64 a0_0, .slice A0_1 l0_1.length c0_1]) (t := 24) ?hr ?_; (case hd => rfl); (case hg => rfl); (case hr => first | (go_simp; done) | (go_simp; rfl)); intro gb11001 hg w7 hbox hb; have BK11001 := aQ (hbox); have GW11001 := aQ ((by rw [hg]; exact (below_size (pB HB.out)) : w.heap.size ≤ gb11001)); have GE11001 := aQ ((by rw [hg]; exact (below_size (pB HB.out)) : w.heap.size ≤ gb11001)); replace HB := aQ (below_step (pB HB.out) hb); clear hb hbox hg; have hcz8_0 := bc (v := (.int .i64 a0_0)) BK11001.out 0; have hcz8_1 := bc (v := (.slice A0_1 l0_1.length c0_1)) BK11001.out 1; have hfz8_0 := blk_frozen BK11001.out 0; have hfz8_1 := blk_frozen BK11001.out 1) | ((with_reducible refine gate_callee (f := 16) rfl ?_); refine goesL_ (some 22) rfl rfl Try.func16 (by kernel_rfl) rfl #[.agg #[.int .i64 a0_0, .slice A0_1 l0_1.length c0_1], .int .i64 1048576] rfl lm ?_; (with_reducible refine (laws_szMatroid.calls a0_0 _ _ l0_1 1048576 t11002 _ ?side1 ?side2 A5.out).mono ?_); (case side1 => exact pC (Kd.C_below HR0_1.out HB.out)); (case side2 => exact HC0_1.out); rintro e w9 ⟨rfl, hb⟩; refine ⟨_, rfl, ?_⟩; replace BK11001 := aQ (blk_below (g := gb11001) (o := .cells #[.int .i64 a0_0, .slice A0_1 l0_1.length c0_1] 24 (0, 0)) (pk BK11001.out) hb); replace HB := aQ (below_step (pB1 HB.out GE11001.out) hb); (try clear hb)))
   go_ret
   exact ⟨re_, pB1 HB.out GE11001.out⟩
  ·rw [if_neg c6] at H
   have c6b0 : decide (t11002 < 0) = false := decide_eq_false c6
   clear c6
   replace H := Option.bind_eq_some_iff.mp H
   obtain ⟨⟨t11003, t11004⟩, A100, H⟩ := H
   replace H : ((laws_toIntS.f k l1).bind fun t11007 => ((spec_Extend.f k t11003 t11004 t11007).bind fun bt11010 => ((laws_toMatroid.f k a0_0 l0_1).bind fun bt11016 => ((laws_toIntS.f k l1).bind fun t11021 => ((impl_Extend.f k bt11016.1 bt11016.2 t11021).bind fun bt11024 => ((laws_eqMatroid.f k bt11024.1 bt11024.2.1 bt11010.1 bt11010.2.1).bind fun t11030 => (if t11030 = true then (laws_FnExactExtend.j0 k l1 bt11010.2.2 t11021 bt11024.2.2 (bt11024.2.2 != bt11010.2.2) a0_0 l0_1 bt11010.1 bt11010.2.1 bt11016.1 bt11016.2 bt11024.1 bt11024.2.1) else (laws_FnExactExtend.j0 k l1 bt11010.2.2 t11021 bt11024.2.2 true a0_0 l0_1 bt11010.1 bt11010.2.1 bt11016.1 bt11016.2 bt11024.1 bt11024.2.1)))))))) = some true := H
   have A10 := aQ A100
   clear A100
   replace H := Option.bind_eq_some_iff.mp H
   obtain ⟨t11007, A110, H⟩ := H
   replace H : ((spec_Extend.f k t11003 t11004 t11007).bind fun bt11010 => ((laws_toMatroid.f k a0_0 l0_1).bind fun bt11016 => ((laws_toIntS.f k l1).bind fun t11021 => ((impl_Extend.f k bt11016.1 bt11016.2 t11021).bind fun bt11024 => ((laws_eqMatroid.f k bt11024.1 bt11024.2.1 bt11010.1 bt11010.2.1).bind fun t11030 => (if t11030 = true then (laws_FnExactExtend.j0 k l1 bt11010.2.2 t11021 bt11024.2.2 (bt11024.2.2 != bt11010.2.2) a0_0 l0_1 bt11010.1 bt11010.2.1 bt11016.1 bt11016.2 bt11024.1 bt11024.2.1) else (laws_FnExactExtend.j0 k l1 bt11010.2.2 t11021 bt11024.2.2 true a0_0 l0_1 bt11010.1 bt11010.2.1 bt11016.1 bt11016.2 bt11024.1 bt11024.2.1))))))) = some true := H
   have A11 := aQ A110
   clear A110
   replace H := Option.bind_eq_some_iff.mp H
   obtain ⟨⟨t11010, t11011, t11014⟩, A120, H⟩ := H
   replace H : ((laws_toMatroid.f k a0_0 l0_1).bind fun bt11016 => ((laws_toIntS.f k l1).bind fun t11021 => ((impl_Extend.f k bt11016.1 bt11016.2 t11021).bind fun bt11024 => ((laws_eqMatroid.f k bt11024.1 bt11024.2.1 t11010 t11011).bind fun t11030 => (if t11030 = true then (laws_FnExactExtend.j0 k l1 t11014 t11021 bt11024.2.2 (bt11024.2.2 != t11014) a0_0 l0_1 t11010 t11011 bt11016.1 bt11016.2 bt11024.1 bt11024.2.1) else (laws_FnExactExtend.j0 k l1 t11014 t11021 bt11024.2.2 true a0_0 l0_1 t11010 t11011 bt11016.1 bt11016.2 bt11024.1 bt11024.2.1)))))) = some true := H
   have A12 := aQ A120
   clear A120
   replace H := Option.bind_eq_some_iff.mp H
   obtain ⟨⟨t11016, t11017⟩, A130, H⟩ := H
   replace H : ((laws_toIntS.f k l1).bind fun t11021 => ((impl_Extend.f k t11016 t11017 t11021).bind fun bt11024 => ((laws_eqMatroid.f k bt11024.1 bt11024.2.1 t11010 t11011).bind fun t11030 => (if t11030 = true then (laws_FnExactExtend.j0 k l1 t11014 t11021 bt11024.2.2 (bt11024.2.2 != t11014) a0_0 l0_1 t11010 t11011 t11016 t11017 bt11024.1 bt11024.2.1) else (laws_FnExactExtend.j0 k l1 t11014 t11021 bt11024.2.2 true a0_0 l0_1 t11010 t11011 t11016 t11017 bt11024.1 bt11024.2.1))))) = some true := H
   have A13 := aQ A130
   clear A130
   replace H := Option.bind_eq_some_iff.mp H
   obtain ⟨t11021, A140, H⟩ := H
   replace H : ((impl_Extend.f k t11016 t11017 t11021).bind fun bt11024 => ((laws_eqMatroid.f k bt11024.1 bt11024.2.1 t11010 t11011).bind fun t11030 => (if t11030 = true then (laws_FnExactExtend.j0 k l1 t11014 t11021 bt11024.2.2 (bt11024.2.2 != t11014) a0_0 l0_1 t11010 t11011 t11016 t11017 bt11024.1 bt11024.2.1) else (laws_FnExactExtend.j0 k l1 t11014 t11021 bt11024.2.2 true a0_0 l0_1 t11010 t11011 t11016 t11017 bt11024.1 bt11024.2.1)))) = some true := H
   have A14 := aQ A140
   clear A140
   replace H := Option.bind_eq_some_iff.mp H
   obtain ⟨⟨t11024, t11025, t11028⟩, A150, H⟩ := H
   replace H : ((laws_eqMatroid.f k t11024 t11025 t11010 t11011).bind fun t11030 => (if t11030 = true then (laws_FnExactExtend.j0 k l1 t11014 t11021 t11028 (t11028 != t11014) a0_0 l0_1 t11010 t11011 t11016 t11017 t11024 t11025) else (laws_FnExactExtend.j0 k l1 t11014 t11021 t11028 true a0_0 l0_1 t11010 t11011 t11016 t11017 t11024 t11025))) = some true := H
   have A15 := aQ A150
   clear A150
   have HC16 := aQ H
   clear H
   go_enter Try.func10, Try.ntmps10
   go_upto_region 11 with (first | ((with_reducible refine gate_dst (N := 2) rfl ?_); refine box_event ?hg (N := 2) ?hd (cs := #[.int .i64 a0_0, .slice A0_1 l0_1.length c0_1]) (t := 24) ?hr ?_; (case hd => rfl); (case hg => rfl); (case hr => first | (go_simp; done) | (go_simp; rfl)); intro gb11001 hg w17 hbox hb; have BK11001 := aQ (hbox); have GW11001 := aQ ((by rw [hg]; exact (below_size (pB HB.out)) : w.heap.size ≤ gb11001)); have GE11001 := aQ ((by rw [hg]; exact (below_size (pB HB.out)) : w.heap.size ≤ gb11001)); replace HB := aQ (below_step (pB HB.out) hb); clear hb hbox hg; have hcz18_0 := bc (v := (.int .i64 a0_0)) BK11001.out 0; have hcz18_1 := bc (v := (.slice A0_1 l0_1.length c0_1)) BK11001.out 1; have hfz18_0 := blk_frozen BK11001.out 0; have hfz18_1 := blk_frozen BK11001.out 1) | ((with_reducible refine gate_callee (f := 16) rfl ?_); refine goesL_ (some 22) rfl rfl Try.func16 (by kernel_rfl) rfl #[.agg #[.int .i64 a0_0, .slice A0_1 l0_1.length c0_1], .int .i64 1048576] rfl lm ?_; (with_reducible refine (laws_szMatroid.calls a0_0 _ _ l0_1 1048576 t11002 _ ?side1 ?side2 A5.out).mono ?_); (case side1 => exact pC (Kd.C_below HR0_1.out HB.out)); (case side2 => exact HC0_1.out); rintro e w19 ⟨rfl, hb⟩; refine ⟨_, rfl, ?_⟩; replace BK11001 := aQ (blk_below (g := gb11001) (o := .cells #[.int .i64 a0_0, .slice A0_1 l0_1.length c0_1] 24 (0, 0)) (pk BK11001.out) hb); replace HB := aQ (below_step (pB1 HB.out GE11001.out) hb); (try clear hb); have hcz20_0 := bc (v := (.int .i64 a0_0)) BK11001.out 0; have hcz20_1 := bc (v := (.slice A0_1 l0_1.length c0_1)) BK11001.out 1; have hfz20_0 := blk_frozen BK11001.out 0; have hfz20_1 := blk_frozen BK11001.out 1) | ((with_reducible refine gate_callee (f := 18) rfl ?_); refine goesL_ (some 27) rfl rfl Try.func18 (by kernel_rfl) rfl #[.agg #[.int .i64 a0_0, .slice A0_1 l0_1.length c0_1]] rfl lm ?_; (with_reducible refine (laws_toMatroid.calls k a0_0 _ _ l0_1 t11003 t11004 _ ?side1 ?side2 A10.out).mono ?_); (case side1 => exact pC (Kd.C_below HR0_1.out HB.out)); (case side2 => exact HC0_1.out); rintro e w21 ⟨v11005, rfl, ho0, hb⟩; refine ⟨_, rfl, ?_⟩; have HO11006 := aQ (Kd.R_lower ho0 (below_size (pB1 HB.out GE11001.out))); replace BK11001 := aQ (blk_below (g := gb11001) (o := .cells #[.int .i64 a0_0, .slice A0_1 l0_1.length c0_1] 24 (0, 0)) (pk BK11001.out) hb); replace HB := aQ (below_step (pB1 HB.out GE11001.out) hb); (try clear hb); (try clear ho0)) | ((with_reducible refine gate_callee (f := 31) rfl ?_); refine goesL_ (some 29) rfl rfl Try.func31 (by kernel_rfl) rfl #[.slice A1 l1.length c1] rfl lm ?_; (with_reducible refine (laws_toIntS.calls k _ _ l1 t11007 _ ?side1 ?side2 A11.out).mono ?_); (case side1 => exact pC (Kd.C_below HR1.out HB.out)); (case side2 => exact HC1.out); rintro e w22 ⟨v11008, rfl, ho0, hb⟩; refine ⟨_, rfl, ?_⟩; have HO11009 := aQ (Kd.R_lower (Kd.R_new' ho0 (Kd.R_lt (pR HO11006.out))) (below_size (pB1 HB.out GE11001.out))); replace HO11006 := aQ (Kd.R_elder' (pR HO11006.out) (Kd.R_base ho0) hb); replace BK11001 := aQ (blk_below (g := gb11001) (o := .cells #[.int .i64 a0_0, .slice A0_1 l0_1.length c0_1] 24 (0, 0)) (pk BK11001.out) hb); replace HB := aQ (below_step (pB1 HB.out GE11001.out) hb); (try clear hb); (try clear ho0); obtain ⟨Ao23, co23, eo23⟩ := Kd.R_slice HO11006.out; subst eo23; obtain ⟨Ao24, co24, eo24⟩ := Kd.R_slice HO11009.out; subst eo24) | ((with_reducible refine gate_callee (f := 39) rfl ?_); refine goesL_ (some 30) rfl rfl Try.func39 (by kernel_rfl) rfl #[.agg #[.int .i64 t11003, .slice Ao23 t11004.length co23], .slice Ao24 t11007.length co24] rfl lm ?_; (with_reducible refine (spec_Extend.calls k t11003 _ _ t11004 _ _ t11007 t11010 t11011 t11014 _ ?side1 ?side2 ?side3 ?side4 A12.out).mono ?_); (case side1 => repeat (first | exact (Kd.R_reads' HO11006.out).2.2 | (with_reducible refine Kd.C_alloc ?_ _) | (with_reducible refine Kd.C_drewN ?_ _) | (with_reducible refine Kd.C_drew ?_))); (case side2 => exact (Kd.R_reads' HO11006.out).2.1); (case side3 => repeat (first | exact (Kd.R_reads' HO11009.out).2.2 | (with_reducible refine Kd.C_alloc ?_ _) | (with_reducible refine Kd.C_drewN ?_ _) | (with_reducible refine Kd.C_drew ?_))); (case side4 => exact (Kd.R_reads' HO11009.out).2.1); rintro e w25 ⟨v11012, rfl, ho0, hb⟩; refine ⟨_, rfl, ?_⟩; have HO11013 := aQ (Kd.R_lower (Kd.R_new' (Kd.R_new' ho0 (Kd.R_lt (pR HO11006.out))) (Kd.R_lt (pR HO11009.out))) (below_size (pB1 HB.out GE11001.out))); replace HO11006 := aQ (Kd.R_elder' (pR HO11006.out) (Kd.R_base ho0) hb); replace HO11009 := aQ (Kd.R_elder' (pR HO11009.out) (Kd.R_base ho0) hb); replace BK11001 := aQ (blk_below (g := gb11001) (o := .cells #[.int .i64 a0_0, .slice A0_1 l0_1.length c0_1] 24 (0, 0)) (pk BK11001.out) hb); replace HB := aQ (below_step (pB1 HB.out GE11001.out) hb); (try clear hb); (try clear ho0)) | ((with_reducible refine gate_dst (N := 6) rfl ?_); refine box_event ?hg (N := 6) ?hd (cs := #[.int .i64 0, .slice none 0 0]) (t := 26) ?hr ?_; (case hd => rfl); (case hg => rfl); (case hr => first | (go_simp; done) | (go_simp; rfl)); intro gb11015 hg w26 hbox hb; replace HO11006 := aQ (Kd.R_below (pR HO11006.out) hb); replace HO11009 := aQ (Kd.R_below (pR HO11009.out) hb); replace HO11013 := aQ (Kd.R_below (pR HO11013.out) hb); have BK11015 := aQ (hbox); have GW11015 := aQ ((by rw [hg]; exact (below_size (pB1 HB.out GE11001.out)) : w.heap.size ≤ gb11015)); have GE11015 := aQ ((by rw [hg]; exact (below_size (pB1 HB.out GE11001.out)) : w.heap.size ≤ gb11015)); replace HB := aQ (below_step (pB1 HB.out GE11001.out) hb); have NB11001_11015 := aQ ((by rw [hg]; exact Nat.ne_of_lt (blk_lt (g := gb11001) (o := .cells #[.int .i64 a0_0, .slice A0_1 l0_1.length c0_1] 24 (0, 0)) (pk BK11001.out)) : gb11001 ≠ gb11015)); have NB11015_11001 := aQ ((by rw [hg]; exact Nat.ne_of_gt (blk_lt (g := gb11001) (o := .cells #[.int .i64 a0_0, .slice A0_1 l0_1.length c0_1] 24 (0, 0)) (pk BK11001.out)) : gb11015 ≠ gb11001)); replace BK11001 := aQ (blk_below (g := gb11001) (o := .cells #[.int .i64 a0_0, .slice A0_1 l0_1.length c0_1] 24 (0, 0)) (pk BK11001.out) hb); clear hb hbox hg; have hnb27 := NB11015_11001.out; have hnc27 := NB11001_11015.out; have hcz28_0 := bc (v := (.int .i64 0)) BK11015.out 0; have hcz28_1 := bc (v := (.slice none 0 0)) BK11015.out 1; have hfz28_0 := blk_frozen BK11015.out 0; have hfz28_1 := blk_frozen BK11015.out 1; obtain ⟨Ao29, co29, eo29⟩ := Kd.R_slice HO11013.out; subst eo29; have hcz30_0 := bc (v := (.int .i64 a0_0)) BK11001.out 0; have hcz30_1 := bc (v := (.slice A0_1 l0_1.length c0_1)) BK11001.out 1; have hfz30_0 := blk_frozen BK11001.out 0; have hfz30_1 := blk_frozen BK11001.out 1) | ((with_reducible refine gate_callee (f := 18) rfl ?_); refine goesL_ (some 34) rfl rfl Try.func18 (by kernel_rfl) rfl #[.agg #[.int .i64 a0_0, .slice A0_1 l0_1.length c0_1]] rfl lm ?_; (with_reducible refine (laws_toMatroid.calls k a0_0 _ _ l0_1 t11016 t11017 _ ?side1 ?side2 A13.out).mono ?_); (case side1 => exact Kd.C_below HR0_1.out (pB2 HB.out GE11001.out GE11015.out)); (case side2 => exact HC0_1.out); rintro e w31 ⟨v11018, rfl, ho0, hb⟩; refine ⟨_, rfl, ?_⟩; have HO11019 := aQ (Kd.R_lower (Kd.R_new' (Kd.R_new' (Kd.R_new' ho0 (Kd.R_lt (by (with_reducible repeat (first | apply Kd.R_alloc | apply Kd.R_drewN | apply Kd.R_drew)); exact (Kd.R_mono (Kd.R_far (p := ⟨gb11015, 1, none⟩) (Kd.R_far (p := ⟨gb11015, 0, none⟩) (Kd.R_types HO11006.out BK11015.out (by decide)) (fun _ hk => hk.2) (.int .i64 t11010)) (fun _ hk => hk.2) (.slice Ao29 t11011.length co29)) (fun _ h_ => h_.1))))) (Kd.R_lt (by (with_reducible repeat (first | apply Kd.R_alloc | apply Kd.R_drewN | apply Kd.R_drew)); exact (Kd.R_mono (Kd.R_far (p := ⟨gb11015, 1, none⟩) (Kd.R_far (p := ⟨gb11015, 0, none⟩) (Kd.R_types HO11009.out BK11015.out (by decide)) (fun _ hk => hk.2) (.int .i64 t11010)) (fun _ hk => hk.2) (.slice Ao29 t11011.length co29)) (fun _ h_ => h_.1))))) (Kd.R_lt (by (with_reducible repeat (first | apply Kd.R_alloc | apply Kd.R_drewN | apply Kd.R_drew)); exact (Kd.R_mono (Kd.R_far (p := ⟨gb11015, 1, none⟩) (Kd.R_far (p := ⟨gb11015, 0, none⟩) (Kd.R_types HO11013.out BK11015.out (by decide)) (fun _ hk => hk.2) (.int .i64 t11010)) (fun _ hk => hk.2) (.slice Ao29 t11011.length co29)) (fun _ h_ => h_.1))))) (below_size (pB2 HB.out GE11001.out GE11015.out))); replace HO11006 := aQ (Kd.R_elder' (by (with_reducible repeat (first | apply Kd.R_alloc | apply Kd.R_drewN | apply Kd.R_drew)); exact (Kd.R_mono (Kd.R_far (p := ⟨gb11015, 1, none⟩) (Kd.R_far (p := ⟨gb11015, 0, none⟩) (Kd.R_types HO11006.out BK11015.out (by decide)) (fun _ hk => hk.2) (.int .i64 t11010)) (fun _ hk => hk.2) (.slice Ao29 t11011.length co29)) (fun _ h_ => h_.1))) (Kd.R_base ho0) hb); replace HO11009 := aQ (Kd.R_elder' (by (with_reducible repeat (first | apply Kd.R_alloc | apply Kd.R_drewN | apply Kd.R_drew)); exact (Kd.R_mono (Kd.R_far (p := ⟨gb11015, 1, none⟩) (Kd.R_far (p := ⟨gb11015, 0, none⟩) (Kd.R_types HO11009.out BK11015.out (by decide)) (fun _ hk => hk.2) (.int .i64 t11010)) (fun _ hk => hk.2) (.slice Ao29 t11011.length co29)) (fun _ h_ => h_.1))) (Kd.R_base ho0) hb); replace HO11013 := aQ (Kd.R_elder' (by (with_reducible repeat (first | apply Kd.R_alloc | apply Kd.R_drewN | apply Kd.R_drew)); exact (Kd.R_mono (Kd.R_far (p := ⟨gb11015, 1, none⟩) (Kd.R_far (p := ⟨gb11015, 0, none⟩) (Kd.R_types HO11013.out BK11015.out (by decide)) (fun _ hk => hk.2) (.int .i64 t11010)) (fun _ hk => hk.2) (.slice Ao29 t11011.length co29)) (fun _ h_ => h_.1))) (Kd.R_base ho0) hb); replace BK11001 := aQ (blk_below (g := gb11001) (o := .cells #[.int .i64 a0_0, .slice A0_1 l0_1.length c0_1] 24 (0, 0)) (by (with_reducible repeat (first | refine blk_drewN ?_ _ | refine blk_drew ?_ | refine blk_alloc ?_ _)); refine blk_far ?_ NB11001_11015.out _; (with_reducible repeat (first | refine blk_drewN ?_ _ | refine blk_drew ?_ | refine blk_alloc ?_ _)); refine blk_far ?_ NB11001_11015.out _; (with_reducible repeat (first | refine blk_drewN ?_ _ | refine blk_drew ?_ | refine blk_alloc ?_ _)); exact BK11001.out) hb); replace BK11015 := aQ (blk_below (g := gb11015) (o := .cells #[.int .i64 t11010, .slice Ao29 t11011.length co29] 26 (0, 0)) (by (with_reducible repeat (first | refine blk_drewN ?_ _ | refine blk_drew ?_ | refine blk_alloc ?_ _)); refine blk_put (cs := #[.int .i64 t11010, .slice none 0 0]) ?_ 1 _ rfl; (with_reducible repeat (first | refine blk_drewN ?_ _ | refine blk_drew ?_ | refine blk_alloc ?_ _)); refine blk_put (cs := #[.int .i64 0, .slice none 0 0]) ?_ 0 _ rfl; (with_reducible repeat (first | refine blk_drewN ?_ _ | refine blk_drew ?_ | refine blk_alloc ?_ _)); exact BK11015.out) hb); replace HB := aQ (below_step (pB2 HB.out GE11001.out GE11015.out) hb); (try clear hb); (try clear hk); (try clear ho0)) | ((with_reducible refine gate_dst (N := 8) rfl ?_); refine box_event ?hg (N := 8) ?hd (cs := #[.int .i64 0, .slice none 0 0]) (t := 26) ?hr ?_; (case hd => rfl); (case hg => rfl); (case hr => first | (go_simp; done) | (go_simp; rfl)); intro gb11020 hg w32 hbox hb; replace HO11006 := aQ (Kd.R_below (pR HO11006.out) hb); replace HO11009 := aQ (Kd.R_below (pR HO11009.out) hb); replace HO11013 := aQ (Kd.R_below (pR HO11013.out) hb); replace HO11019 := aQ (Kd.R_below (pR HO11019.out) hb); have BK11020 := aQ (hbox); have GW11020 := aQ ((by rw [hg]; exact (below_size (pB2 HB.out GE11001.out GE11015.out)) : w.heap.size ≤ gb11020)); have GE11020 := aQ ((by rw [hg]; exact (below_size (pB2 HB.out GE11001.out GE11015.out)) : w.heap.size ≤ gb11020)); replace HB := aQ (below_step (pB2 HB.out GE11001.out GE11015.out) hb); have NB11001_11020 := aQ ((by rw [hg]; exact Nat.ne_of_lt (blk_lt (g := gb11001) (o := .cells #[.int .i64 a0_0, .slice A0_1 l0_1.length c0_1] 24 (0, 0)) (pk BK11001.out)) : gb11001 ≠ gb11020)); have NB11020_11001 := aQ ((by rw [hg]; exact Nat.ne_of_gt (blk_lt (g := gb11001) (o := .cells #[.int .i64 a0_0, .slice A0_1 l0_1.length c0_1] 24 (0, 0)) (pk BK11001.out)) : gb11020 ≠ gb11001)); replace BK11001 := aQ (blk_below (g := gb11001) (o := .cells #[.int .i64 a0_0, .slice A0_1 l0_1.length c0_1] 24 (0, 0)) (pk BK11001.out) hb); have NB11015_11020 := aQ ((by rw [hg]; exact Nat.ne_of_lt (blk_lt (g := gb11015) (o := .cells #[.int .i64 t11010, .slice Ao29 t11011.length co29] 26 (0, 0)) (pk BK11015.out)) : gb11015 ≠ gb11020)); have NB11020_11015 := aQ ((by rw [hg]; exact Nat.ne_of_gt (blk_lt (g := gb11015) (o := .cells #[.int .i64 t11010, .slice Ao29 t11011.length co29] 26 (0, 0)) (pk BK11015.out)) : gb11020 ≠ gb11015)); replace BK11015 := aQ (blk_below (g := gb11015) (o := .cells #[.int .i64 t11010, .slice Ao29 t11011.length co29] 26 (0, 0)) (pk BK11015.out) hb); clear hb hbox hg; have hnb33 := NB11020_11001.out; have hnc33 := NB11001_11020.out; have hnb34 := NB11020_11015.out; have hnc34 := NB11015_11020.out; have hcz35_0 := bc (v := (.int .i64 0)) BK11020.out 0; have hcz35_1 := bc (v := (.slice none 0 0)) BK11020.out 1; have hfz35_0 := blk_frozen BK11020.out 0; have hfz35_1 := blk_frozen BK11020.out 1; obtain ⟨Ao36, co36, eo36⟩ := Kd.R_slice HO11019.out; subst eo36) | ((with_reducible refine gate_callee (f := 31) rfl ?_); refine goesL_ (some 36) rfl rfl Try.func31 (by kernel_rfl) rfl #[.slice A1 l1.length c1] rfl lm ?_; (with_reducible refine (laws_toIntS.calls k _ _ l1 t11021 _ ?side1 ?side2 A14.out).mono ?_); (case side1 => exact Kd.C_below HR1.out (pB3 HB.out GE11001.out GE11015.out GE11020.out)); (case side2 => exact HC1.out); rintro e w37 ⟨v11022, rfl, ho0, hb⟩; refine ⟨_, rfl, ?_⟩; have HO11023 := aQ (Kd.R_lower (Kd.R_new' (Kd.R_new' (Kd.R_new' (Kd.R_new' ho0 (Kd.R_lt (by (with_reducible repeat (first | apply Kd.R_alloc | apply Kd.R_drewN | apply Kd.R_drew)); exact (Kd.R_mono (Kd.R_far (p := ⟨gb11020, 1, none⟩) (Kd.R_far (p := ⟨gb11020, 0, none⟩) (Kd.R_types HO11006.out BK11020.out (by decide)) (fun _ hk => hk.2) (.int .i64 t11016)) (fun _ hk => hk.2) (.slice Ao36 t11017.length co36)) (fun _ h_ => h_.1))))) (Kd.R_lt (by (with_reducible repeat (first | apply Kd.R_alloc | apply Kd.R_drewN | apply Kd.R_drew)); exact (Kd.R_mono (Kd.R_far (p := ⟨gb11020, 1, none⟩) (Kd.R_far (p := ⟨gb11020, 0, none⟩) (Kd.R_types HO11009.out BK11020.out (by decide)) (fun _ hk => hk.2) (.int .i64 t11016)) (fun _ hk => hk.2) (.slice Ao36 t11017.length co36)) (fun _ h_ => h_.1))))) (Kd.R_lt (by (with_reducible repeat (first | apply Kd.R_alloc | apply Kd.R_drewN | apply Kd.R_drew)); exact (Kd.R_mono (Kd.R_far (p := ⟨gb11020, 1, none⟩) (Kd.R_far (p := ⟨gb11020, 0, none⟩) (Kd.R_types HO11013.out BK11020.out (by decide)) (fun _ hk => hk.2) (.int .i64 t11016)) (fun _ hk => hk.2) (.slice Ao36 t11017.length co36)) (fun _ h_ => h_.1))))) (Kd.R_lt (by (with_reducible repeat (first | apply Kd.R_alloc | apply Kd.R_drewN | apply Kd.R_drew)); exact (Kd.R_mono (Kd.R_far (p := ⟨gb11020, 1, none⟩) (Kd.R_far (p := ⟨gb11020, 0, none⟩) (Kd.R_types HO11019.out BK11020.out (by decide)) (fun _ hk => hk.2) (.int .i64 t11016)) (fun _ hk => hk.2) (.slice Ao36 t11017.length co36)) (fun _ h_ => h_.1))))) (below_size (pB3 HB.out GE11001.out GE11015.out GE11020.out))); replace HO11006 := aQ (Kd.R_elder' (by (with_reducible repeat (first | apply Kd.R_alloc | apply Kd.R_drewN | apply Kd.R_drew)); exact (Kd.R_mono (Kd.R_far (p := ⟨gb11020, 1, none⟩) (Kd.R_far (p := ⟨gb11020, 0, none⟩) (Kd.R_types HO11006.out BK11020.out (by decide)) (fun _ hk => hk.2) (.int .i64 t11016)) (fun _ hk => hk.2) (.slice Ao36 t11017.length co36)) (fun _ h_ => h_.1))) (Kd.R_base ho0) hb); replace HO11009 := aQ (Kd.R_elder' (by (with_reducible repeat (first | apply Kd.R_alloc | apply Kd.R_drewN | apply Kd.R_drew)); exact (Kd.R_mono (Kd.R_far (p := ⟨gb11020, 1, none⟩) (Kd.R_far (p := ⟨gb11020, 0, none⟩) (Kd.R_types HO11009.out BK11020.out (by decide)) (fun _ hk => hk.2) (.int .i64 t11016)) (fun _ hk => hk.2) (.slice Ao36 t11017.length co36)) (fun _ h_ => h_.1))) (Kd.R_base ho0) hb); replace HO11013 := aQ (Kd.R_elder' (by (with_reducible repeat (first | apply Kd.R_alloc | apply Kd.R_drewN | apply Kd.R_drew)); exact (Kd.R_mono (Kd.R_far (p := ⟨gb11020, 1, none⟩) (Kd.R_far (p := ⟨gb11020, 0, none⟩) (Kd.R_types HO11013.out BK11020.out (by decide)) (fun _ hk => hk.2) (.int .i64 t11016)) (fun _ hk => hk.2) (.slice Ao36 t11017.length co36)) (fun _ h_ => h_.1))) (Kd.R_base ho0) hb); replace HO11019 := aQ (Kd.R_elder' (by (with_reducible repeat (first | apply Kd.R_alloc | apply Kd.R_drewN | apply Kd.R_drew)); exact (Kd.R_mono (Kd.R_far (p := ⟨gb11020, 1, none⟩) (Kd.R_far (p := ⟨gb11020, 0, none⟩) (Kd.R_types HO11019.out BK11020.out (by decide)) (fun _ hk => hk.2) (.int .i64 t11016)) (fun _ hk => hk.2) (.slice Ao36 t11017.length co36)) (fun _ h_ => h_.1))) (Kd.R_base ho0) hb); replace BK11001 := aQ (blk_below (g := gb11001) (o := .cells #[.int .i64 a0_0, .slice A0_1 l0_1.length c0_1] 24 (0, 0)) (by (with_reducible repeat (first | refine blk_drewN ?_ _ | refine blk_drew ?_ | refine blk_alloc ?_ _)); refine blk_far ?_ NB11001_11020.out _; (with_reducible repeat (first | refine blk_drewN ?_ _ | refine blk_drew ?_ | refine blk_alloc ?_ _)); refine blk_far ?_ NB11001_11020.out _; (with_reducible repeat (first | refine blk_drewN ?_ _ | refine blk_drew ?_ | refine blk_alloc ?_ _)); exact BK11001.out) hb); replace BK11015 := aQ (blk_below (g := gb11015) (o := .cells #[.int .i64 t11010, .slice Ao29 t11011.length co29] 26 (0, 0)) (by (with_reducible repeat (first | refine blk_drewN ?_ _ | refine blk_drew ?_ | refine blk_alloc ?_ _)); refine blk_far ?_ NB11015_11020.out _; (with_reducible repeat (first | refine blk_drewN ?_ _ | refine blk_drew ?_ | refine blk_alloc ?_ _)); refine blk_far ?_ NB11015_11020.out _; (with_reducible repeat (first | refine blk_drewN ?_ _ | refine blk_drew ?_ | refine blk_alloc ?_ _)); exact BK11015.out) hb); replace BK11020 := aQ (blk_below (g := gb11020) (o := .cells #[.int .i64 t11016, .slice Ao36 t11017.length co36] 26 (0, 0)) (by (with_reducible repeat (first | refine blk_drewN ?_ _ | refine blk_drew ?_ | refine blk_alloc ?_ _)); refine blk_put (cs := #[.int .i64 t11016, .slice none 0 0]) ?_ 1 _ rfl; (with_reducible repeat (first | refine blk_drewN ?_ _ | refine blk_drew ?_ | refine blk_alloc ?_ _)); refine blk_put (cs := #[.int .i64 0, .slice none 0 0]) ?_ 0 _ rfl; (with_reducible repeat (first | refine blk_drewN ?_ _ | refine blk_drew ?_ | refine blk_alloc ?_ _)); exact BK11020.out) hb); replace HB := aQ (below_step (pB3 HB.out GE11001.out GE11015.out GE11020.out) hb); (try clear hb); (try clear hk); (try clear ho0); have hcz38_0 := bc (v := (.int .i64 t11016)) BK11020.out 0; have hcz38_1 := bc (v := (.slice Ao36 t11017.length co36)) BK11020.out 1; have hfz38_0 := blk_frozen BK11020.out 0; have hfz38_1 := blk_frozen BK11020.out 1; obtain ⟨Ao39, co39, eo39⟩ := Kd.R_slice HO11023.out; subst eo39) | ((with_reducible refine gate_callee (f := 40) rfl ?_); refine goesL_ (some 40) rfl rfl Try.func40 (by kernel_rfl) rfl #[.agg #[.int .i64 t11016, .slice Ao36 t11017.length co36], .slice Ao39 t11021.length co39] rfl lm ?_; (with_reducible refine (impl_Extend.calls k t11016 _ _ t11017 _ _ t11021 t11024 t11025 t11028 _ ?side1 ?side2 ?side3 ?side4 A15.out).mono ?_); (case side1 => repeat (first | exact (Kd.R_reads' HO11019.out).2.2 | (with_reducible refine Kd.C_alloc ?_ _) | (with_reducible refine Kd.C_drewN ?_ _) | (with_reducible refine Kd.C_drew ?_))); (case side2 => exact (Kd.R_reads' HO11019.out).2.1); (case side3 => repeat (first | exact (Kd.R_reads' HO11023.out).2.2 | (with_reducible refine Kd.C_alloc ?_ _) | (with_reducible refine Kd.C_drewN ?_ _) | (with_reducible refine Kd.C_drew ?_))); (case side4 => exact (Kd.R_reads' HO11023.out).2.1); rintro e w40 ⟨v11026, rfl, ho0, hb⟩; refine ⟨_, rfl, ?_⟩; have HO11027 := aQ (Kd.R_lower (Kd.R_new' (Kd.R_new' (Kd.R_new' (Kd.R_new' (Kd.R_new' ho0 (Kd.R_lt (pR HO11006.out))) (Kd.R_lt (pR HO11009.out))) (Kd.R_lt (pR HO11013.out))) (Kd.R_lt (pR HO11019.out))) (Kd.R_lt (pR HO11023.out))) (below_size (pB3 HB.out GE11001.out GE11015.out GE11020.out))); replace HO11006 := aQ (Kd.R_elder' (pR HO11006.out) (Kd.R_base ho0) hb); replace HO11009 := aQ (Kd.R_elder' (pR HO11009.out) (Kd.R_base ho0) hb); replace HO11013 := aQ (Kd.R_elder' (pR HO11013.out) (Kd.R_base ho0) hb); replace HO11019 := aQ (Kd.R_elder' (pR HO11019.out) (Kd.R_base ho0) hb); replace HO11023 := aQ (Kd.R_elder' (pR HO11023.out) (Kd.R_base ho0) hb); replace BK11001 := aQ (blk_below (g := gb11001) (o := .cells #[.int .i64 a0_0, .slice A0_1 l0_1.length c0_1] 24 (0, 0)) (pk BK11001.out) hb); replace BK11015 := aQ (blk_below (g := gb11015) (o := .cells #[.int .i64 t11010, .slice Ao29 t11011.length co29] 26 (0, 0)) (pk BK11015.out) hb); replace BK11020 := aQ (blk_below (g := gb11020) (o := .cells #[.int .i64 t11016, .slice Ao36 t11017.length co36] 26 (0, 0)) (pk BK11020.out) hb); replace HB := aQ (below_step (pB3 HB.out GE11001.out GE11015.out GE11020.out) hb); (try clear hb); (try clear ho0)) | ((with_reducible refine gate_dst (N := 10) rfl ?_); refine box_event ?hg (N := 10) ?hd (cs := #[.int .i64 0, .slice none 0 0]) (t := 26) ?hr ?_; (case hd => rfl); (case hg => rfl); (case hr => first | (go_simp; done) | (go_simp; rfl)); intro gb11029 hg w41 hbox hb; replace HO11006 := aQ (Kd.R_below (pR HO11006.out) hb); replace HO11009 := aQ (Kd.R_below (pR HO11009.out) hb); replace HO11013 := aQ (Kd.R_below (pR HO11013.out) hb); replace HO11019 := aQ (Kd.R_below (pR HO11019.out) hb); replace HO11023 := aQ (Kd.R_below (pR HO11023.out) hb); replace HO11027 := aQ (Kd.R_below (pR HO11027.out) hb); have BK11029 := aQ (hbox); have GW11029 := aQ ((by rw [hg]; exact (below_size (pB3 HB.out GE11001.out GE11015.out GE11020.out)) : w.heap.size ≤ gb11029)); have GE11029 := aQ ((by rw [hg]; exact (below_size (pB3 HB.out GE11001.out GE11015.out GE11020.out)) : w.heap.size ≤ gb11029)); replace HB := aQ (below_step (pB3 HB.out GE11001.out GE11015.out GE11020.out) hb); have NB11001_11029 := aQ ((by rw [hg]; exact Nat.ne_of_lt (blk_lt (g := gb11001) (o := .cells #[.int .i64 a0_0, .slice A0_1 l0_1.length c0_1] 24 (0, 0)) (pk BK11001.out)) : gb11001 ≠ gb11029)); have NB11029_11001 := aQ ((by rw [hg]; exact Nat.ne_of_gt (blk_lt (g := gb11001) (o := .cells #[.int .i64 a0_0, .slice A0_1 l0_1.length c0_1] 24 (0, 0)) (pk BK11001.out)) : gb11029 ≠ gb11001)); replace BK11001 := aQ (blk_below (g := gb11001) (o := .cells #[.int .i64 a0_0, .slice A0_1 l0_1.length c0_1] 24 (0, 0)) (pk BK11001.out) hb); have NB11015_11029 := aQ ((by rw [hg]; exact Nat.ne_of_lt (blk_lt (g := gb11015) (o := .cells #[.int .i64 t11010, .slice Ao29 t11011.length co29] 26 (0, 0)) (pk BK11015.out)) : gb11015 ≠ gb11029)); have NB11029_11015 := aQ ((by rw [hg]; exact Nat.ne_of_gt (blk_lt (g := gb11015) (o := .cells #[.int .i64 t11010, .slice Ao29 t11011.length co29] 26 (0, 0)) (pk BK11015.out)) : gb11029 ≠ gb11015)); replace BK11015 := aQ (blk_below (g := gb11015) (o := .cells #[.int .i64 t11010, .slice Ao29 t11011.length co29] 26 (0, 0)) (pk BK11015.out) hb); have NB11020_11029 := aQ ((by rw [hg]; exact Nat.ne_of_lt (blk_lt (g := gb11020) (o := .cells #[.int .i64 t11016, .slice Ao36 t11017.length co36] 26 (0, 0)) (pk BK11020.out)) : gb11020 ≠ gb11029)); have NB11029_11020 := aQ ((by rw [hg]; exact Nat.ne_of_gt (blk_lt (g := gb11020) (o := .cells #[.int .i64 t11016, .slice Ao36 t11017.length co36] 26 (0, 0)) (pk BK11020.out)) : gb11029 ≠ gb11020)); replace BK11020 := aQ (blk_below (g := gb11020) (o := .cells #[.int .i64 t11016, .slice Ao36 t11017.length co36] 26 (0, 0)) (pk BK11020.out) hb); clear hb hbox hg; have hnb42 := NB11029_11001.out; have hnc42 := NB11001_11029.out; have hnb43 := NB11029_11015.out; have hnc43 := NB11015_11029.out; have hnb44 := NB11029_11020.out; have hnc44 := NB11020_11029.out; have hcz45_0 := bc (v := (.int .i64 0)) BK11029.out 0; have hcz45_1 := bc (v := (.slice none 0 0)) BK11029.out 1; have hfz45_0 := blk_frozen BK11029.out 0; have hfz45_1 := blk_frozen BK11029.out 1; obtain ⟨Ao46, co46, eo46⟩ := Kd.R_slice HO11027.out; subst eo46))
   (try simp only [Act.put, List.setIfInBounds_toArray, List.set_cons_zero, List.set_cons_succ])
   go_cut [51] (fun v51 wc => ∃ (kq : Nat) (x51_15 : Bool), v51 = .bool x51_15 ∧ Aside0 (laws_FnExactExtend.j0 kq l1 t11014 t11021 t11028 x51_15 a0_0 l0_1 t11010 t11011 t11016 t11017 t11024 t11025 = some true) ∧ Aside0 (kq ≤ k) ∧ Aside0 (Kd.R (Kd.int .i64) 3 wc w.heap.size (fun k_ => some k_ ≠ ((.slice Ao29 t11011.length co29) : Value).ownBlock ∧ some k_ ≠ ((.slice Ao36 t11017.length co36) : Value).ownBlock ∧ some k_ ≠ ((.slice Ao46 t11025.length co46) : Value).ownBlock) (.slice Ao39 t11021.length co39) t11021) ∧ Aside0 (Kd.R (Kd.int .i64) 3 wc w.heap.size (fun k_ => some k_ ≠ ((.slice Ao39 t11021.length co39) : Value).ownBlock ∧ some k_ ≠ ((.slice Ao36 t11017.length co36) : Value).ownBlock ∧ some k_ ≠ ((.slice Ao46 t11025.length co46) : Value).ownBlock) (.slice Ao29 t11011.length co29) t11011) ∧ Aside0 (Kd.R (Kd.int .i64) 3 wc w.heap.size (fun k_ => some k_ ≠ ((.slice Ao39 t11021.length co39) : Value).ownBlock ∧ some k_ ≠ ((.slice Ao29 t11011.length co29) : Value).ownBlock ∧ some k_ ≠ ((.slice Ao46 t11025.length co46) : Value).ownBlock) (.slice Ao36 t11017.length co36) t11017) ∧ Aside0 (Kd.R (Kd.int .i64) 3 wc w.heap.size (fun k_ => some k_ ≠ ((.slice Ao39 t11021.length co39) : Value).ownBlock ∧ some k_ ≠ ((.slice Ao29 t11011.length co29) : Value).ownBlock ∧ some k_ ≠ ((.slice Ao36 t11017.length co36) : Value).ownBlock) (.slice Ao46 t11025.length co46) t11025) ∧ Aside0 (wc.heap[gb11001]? = some (.cells #[.int .i64 a0_0, (.slice A0_1 l0_1.length c0_1)] 24 (0, 0))) ∧ Aside0 (wc.heap[gb11015]? = some (.cells #[.int .i64 t11010, (.slice Ao29 t11011.length co29)] 26 (0, 0))) ∧ Aside0 (wc.heap[gb11020]? = some (.cells #[.int .i64 t11016, (.slice Ao36 t11017.length co36)] 26 (0, 0))) ∧ Aside0 (wc.heap[gb11029]? = some (.cells #[.int .i64 t11024, (.slice Ao46 t11025.length co46)] 26 (0, 0))) ∧ Aside0 (Below w.heap.size w wc))
   case first =>
    have H := HC16.out
    clear HC16
    replace H := Option.bind_eq_some_iff.mp H
    obtain ⟨t11030, A470, H⟩ := H
    replace H : (if t11030 = true then (laws_FnExactExtend.j0 k l1 t11014 t11021 t11028 (t11028 != t11014) a0_0 l0_1 t11010 t11011 t11016 t11017 t11024 t11025) else (laws_FnExactExtend.j0 k l1 t11014 t11021 t11028 true a0_0 l0_1 t11010 t11011 t11016 t11017 t11024 t11025)) = some true := H
    have A47 := aQ A470
    clear A470
    by_cases c48 : t11030 = true
    ·subst c48
     have H1 : (laws_FnExactExtend.j0 k l1 t11014 t11021 t11028 (t11028 != t11014) a0_0 l0_1 t11010 t11011 t11016 t11017 t11024 t11025) = some true := by rw [if_pos rfl] at H; exact H
     clear H
     have H := H1
     clear H1
     have H' := aQ H
     clear H
     have hnb49 := NB11029_11001.out
     have hnc49 := NB11001_11029.out
     have hnb50 := NB11029_11015.out
     have hnc50 := NB11015_11029.out
     have hnb51 := NB11029_11020.out
     have hnc51 := NB11020_11029.out
     have hcz52_0 := bc (v := (.int .i64 0)) BK11029.out 0
     have hcz52_1 := bc (v := (.slice none 0 0)) BK11029.out 1
     have hfz52_0 := blk_frozen BK11029.out 0
     have hfz52_1 := blk_frozen BK11029.out 1
     have hnb53 := NB11015_11001.out
     have hnc53 := NB11001_11015.out
     have hnb54 := NB11015_11020.out
     have hnc54 := NB11020_11015.out
     have hcz55_0 := bc (v := (.int .i64 t11010)) BK11015.out 0
     have hcz55_1 := bc (v := (.slice Ao29 t11011.length co29)) BK11015.out 1
     have hfz55_0 := blk_frozen BK11015.out 0
     have hfz55_1 := blk_frozen BK11015.out 1
     go_wp2_with (first | ((with_reducible refine gate_callee (f := 20) rfl ?_); refine goesL_ (some 45) rfl rfl Try.func20 (by kernel_rfl) rfl #[.agg #[.int .i64 t11024, .slice Ao46 t11025.length co46], .agg #[.int .i64 t11010, .slice Ao29 t11011.length co29]] rfl lm ?_; (with_reducible refine (laws_eqMatroid.calls k t11024 _ _ t11025 t11010 _ _ t11011 true _ ?side1 ?side2 ?side3 ?side4 A47.out).mono ?_); (case side1 => refine (Kd.R_reads' (e := 3) (base := w.heap.size) (ok := fun k_ => (((((True ∧ some k_ ≠ (.slice Ao23 t11004.length co23 : Value).ownBlock) ∧ some k_ ≠ (.slice Ao24 t11007.length co24 : Value).ownBlock) ∧ some k_ ≠ (.slice Ao29 t11011.length co29 : Value).ownBlock) ∧ some k_ ≠ (.slice Ao36 t11017.length co36 : Value).ownBlock) ∧ some k_ ≠ (.slice Ao39 t11021.length co39 : Value).ownBlock)) (n := t11025.length) (c := co46) ?_).2.2; exact (by (with_reducible repeat (first | apply Kd.R_alloc | apply Kd.R_drewN | apply Kd.R_drew)); exact (Kd.R_mono (Kd.R_far (p := ⟨gb11029, 1, none⟩) (Kd.R_far (p := ⟨gb11029, 0, none⟩) (Kd.R_types HO11027.out BK11029.out (by decide)) (fun _ hk => hk.2) (.int .i64 t11024)) (fun _ hk => hk.2) (.slice Ao46 t11025.length co46)) (fun _ h_ => h_.1)))); (case side2 => exact (Kd.R_reads' HO11027.out).2.1); (case side3 => refine (Kd.R_reads' (e := 3) (base := w.heap.size) (ok := fun k_ => (((((True ∧ some k_ ≠ (.slice Ao23 t11004.length co23 : Value).ownBlock) ∧ some k_ ≠ (.slice Ao24 t11007.length co24 : Value).ownBlock) ∧ some k_ ≠ (.slice Ao36 t11017.length co36 : Value).ownBlock) ∧ some k_ ≠ (.slice Ao39 t11021.length co39 : Value).ownBlock) ∧ some k_ ≠ (.slice Ao46 t11025.length co46 : Value).ownBlock)) (n := t11011.length) (c := co29) ?_).2.2; exact (by (with_reducible repeat (first | apply Kd.R_alloc | apply Kd.R_drewN | apply Kd.R_drew)); exact (Kd.R_mono (Kd.R_far (p := ⟨gb11029, 1, none⟩) (Kd.R_far (p := ⟨gb11029, 0, none⟩) (Kd.R_types HO11013.out BK11029.out (by decide)) (fun _ hk => hk.2) (.int .i64 t11024)) (fun _ hk => hk.2) (.slice Ao46 t11025.length co46)) (fun _ h_ => h_.1)))); (case side4 => exact (Kd.R_reads' HO11013.out).2.1); rintro e w56 ⟨rfl, hb⟩; refine ⟨_, rfl, ?_⟩; replace HO11006 := aQ (Kd.R_below (by (with_reducible repeat (first | apply Kd.R_alloc | apply Kd.R_drewN | apply Kd.R_drew)); exact (Kd.R_mono (Kd.R_far (p := ⟨gb11029, 1, none⟩) (Kd.R_far (p := ⟨gb11029, 0, none⟩) (Kd.R_types HO11006.out BK11029.out (by decide)) (fun _ hk => hk.2) (.int .i64 t11024)) (fun _ hk => hk.2) (.slice Ao46 t11025.length co46)) (fun _ h_ => h_.1))) hb); replace HO11009 := aQ (Kd.R_below (by (with_reducible repeat (first | apply Kd.R_alloc | apply Kd.R_drewN | apply Kd.R_drew)); exact (Kd.R_mono (Kd.R_far (p := ⟨gb11029, 1, none⟩) (Kd.R_far (p := ⟨gb11029, 0, none⟩) (Kd.R_types HO11009.out BK11029.out (by decide)) (fun _ hk => hk.2) (.int .i64 t11024)) (fun _ hk => hk.2) (.slice Ao46 t11025.length co46)) (fun _ h_ => h_.1))) hb); replace HO11013 := aQ (Kd.R_below (by (with_reducible repeat (first | apply Kd.R_alloc | apply Kd.R_drewN | apply Kd.R_drew)); exact (Kd.R_mono (Kd.R_far (p := ⟨gb11029, 1, none⟩) (Kd.R_far (p := ⟨gb11029, 0, none⟩) (Kd.R_types HO11013.out BK11029.out (by decide)) (fun _ hk => hk.2) (.int .i64 t11024)) (fun _ hk => hk.2) (.slice Ao46 t11025.length co46)) (fun _ h_ => h_.1))) hb); replace HO11019 := aQ (Kd.R_below (by (with_reducible repeat (first | apply Kd.R_alloc | apply Kd.R_drewN | apply Kd.R_drew)); exact (Kd.R_mono (Kd.R_far (p := ⟨gb11029, 1, none⟩) (Kd.R_far (p := ⟨gb11029, 0, none⟩) (Kd.R_types HO11019.out BK11029.out (by decide)) (fun _ hk => hk.2) (.int .i64 t11024)) (fun _ hk => hk.2) (.slice Ao46 t11025.length co46)) (fun _ h_ => h_.1))) hb); replace HO11023 := aQ (Kd.R_below (by (with_reducible repeat (first | apply Kd.R_alloc | apply Kd.R_drewN | apply Kd.R_drew)); exact (Kd.R_mono (Kd.R_far (p := ⟨gb11029, 1, none⟩) (Kd.R_far (p := ⟨gb11029, 0, none⟩) (Kd.R_types HO11023.out BK11029.out (by decide)) (fun _ hk => hk.2) (.int .i64 t11024)) (fun _ hk => hk.2) (.slice Ao46 t11025.length co46)) (fun _ h_ => h_.1))) hb); replace HO11027 := aQ (Kd.R_below (by (with_reducible repeat (first | apply Kd.R_alloc | apply Kd.R_drewN | apply Kd.R_drew)); exact (Kd.R_mono (Kd.R_far (p := ⟨gb11029, 1, none⟩) (Kd.R_far (p := ⟨gb11029, 0, none⟩) (Kd.R_types HO11027.out BK11029.out (by decide)) (fun _ hk => hk.2) (.int .i64 t11024)) (fun _ hk => hk.2) (.slice Ao46 t11025.length co46)) (fun _ h_ => h_.1))) hb); replace BK11001 := aQ (blk_below (g := gb11001) (o := .cells #[.int .i64 a0_0, .slice A0_1 l0_1.length c0_1] 24 (0, 0)) (by (with_reducible repeat (first | refine blk_drewN ?_ _ | refine blk_drew ?_ | refine blk_alloc ?_ _)); refine blk_far ?_ NB11001_11029.out _; (with_reducible repeat (first | refine blk_drewN ?_ _ | refine blk_drew ?_ | refine blk_alloc ?_ _)); refine blk_far ?_ NB11001_11029.out _; (with_reducible repeat (first | refine blk_drewN ?_ _ | refine blk_drew ?_ | refine blk_alloc ?_ _)); exact BK11001.out) hb); replace BK11015 := aQ (blk_below (g := gb11015) (o := .cells #[.int .i64 t11010, .slice Ao29 t11011.length co29] 26 (0, 0)) (by (with_reducible repeat (first | refine blk_drewN ?_ _ | refine blk_drew ?_ | refine blk_alloc ?_ _)); refine blk_far ?_ NB11015_11029.out _; (with_reducible repeat (first | refine blk_drewN ?_ _ | refine blk_drew ?_ | refine blk_alloc ?_ _)); refine blk_far ?_ NB11015_11029.out _; (with_reducible repeat (first | refine blk_drewN ?_ _ | refine blk_drew ?_ | refine blk_alloc ?_ _)); exact BK11015.out) hb); replace BK11020 := aQ (blk_below (g := gb11020) (o := .cells #[.int .i64 t11016, .slice Ao36 t11017.length co36] 26 (0, 0)) (by (with_reducible repeat (first | refine blk_drewN ?_ _ | refine blk_drew ?_ | refine blk_alloc ?_ _)); refine blk_far ?_ NB11020_11029.out _; (with_reducible repeat (first | refine blk_drewN ?_ _ | refine blk_drew ?_ | refine blk_alloc ?_ _)); refine blk_far ?_ NB11020_11029.out _; (with_reducible repeat (first | refine blk_drewN ?_ _ | refine blk_drew ?_ | refine blk_alloc ?_ _)); exact BK11020.out) hb); replace BK11029 := aQ (blk_below (g := gb11029) (o := .cells #[.int .i64 t11024, .slice Ao46 t11025.length co46] 26 (0, 0)) (by (with_reducible repeat (first | refine blk_drewN ?_ _ | refine blk_drew ?_ | refine blk_alloc ?_ _)); refine blk_put (cs := #[.int .i64 t11024, .slice none 0 0]) ?_ 1 _ rfl; (with_reducible repeat (first | refine blk_drewN ?_ _ | refine blk_drew ?_ | refine blk_alloc ?_ _)); refine blk_put (cs := #[.int .i64 0, .slice none 0 0]) ?_ 0 _ rfl; (with_reducible repeat (first | refine blk_drewN ?_ _ | refine blk_drew ?_ | refine blk_alloc ?_ _)); exact BK11029.out) hb); replace HB := aQ (below_step (pB4 HB.out GE11001.out GE11015.out GE11020.out GE11029.out) hb); (try clear hb); (try clear hk)))
     go_meet
     case rel => exact ⟨_, ((t11028 != t11014)), rs_, H', ⟨by first | omega | exact Nat.le_refl _⟩, ⟨by (with_reducible repeat (first | apply Kd.R_alloc | apply Kd.R_drewN | apply Kd.R_drew)); exact Kd.R_mono HO11023.out (fun _ hk => ⟨hk.1.1.2, ⟨hk.1.2, hk.2⟩⟩)⟩, ⟨by (with_reducible repeat (first | apply Kd.R_alloc | apply Kd.R_drewN | apply Kd.R_drew)); exact Kd.R_mono HO11013.out (fun _ hk => ⟨hk.1.2, ⟨hk.1.1.2, hk.2⟩⟩)⟩, ⟨by (with_reducible repeat (first | apply Kd.R_alloc | apply Kd.R_drewN | apply Kd.R_drew)); exact Kd.R_mono HO11019.out (fun _ hk => ⟨hk.1.2, ⟨hk.1.1.2, hk.2⟩⟩)⟩, ⟨by (with_reducible repeat (first | apply Kd.R_alloc | apply Kd.R_drewN | apply Kd.R_drew)); exact Kd.R_mono HO11027.out (fun _ hk => ⟨hk.2, ⟨hk.1.1.2, hk.1.2⟩⟩)⟩, ⟨pk BK11001.out⟩, ⟨pk BK11015.out⟩, ⟨pk BK11020.out⟩, ⟨pk BK11029.out⟩, ⟨pB4 HB.out GE11001.out GE11015.out GE11020.out GE11029.out⟩⟩
    ·replace c48 := Bool.eq_false_iff.mpr c48
     subst c48
     have H1 : (laws_FnExactExtend.j0 k l1 t11014 t11021 t11028 true a0_0 l0_1 t11010 t11011 t11016 t11017 t11024 t11025) = some true := by rw [if_neg (show ¬ (false = true) by decide)] at H; exact H
     clear H
     have H := H1
     clear H1
     have H' := aQ H
     clear H
     have hnb57 := NB11029_11001.out
     have hnc57 := NB11001_11029.out
     have hnb58 := NB11029_11015.out
     have hnc58 := NB11015_11029.out
     have hnb59 := NB11029_11020.out
     have hnc59 := NB11020_11029.out
     have hcz60_0 := bc (v := (.int .i64 0)) BK11029.out 0
     have hcz60_1 := bc (v := (.slice none 0 0)) BK11029.out 1
     have hfz60_0 := blk_frozen BK11029.out 0
     have hfz60_1 := blk_frozen BK11029.out 1
     have hnb61 := NB11015_11001.out
     have hnc61 := NB11001_11015.out
     have hnb62 := NB11015_11020.out
     have hnc62 := NB11020_11015.out
     have hcz63_0 := bc (v := (.int .i64 t11010)) BK11015.out 0
     have hcz63_1 := bc (v := (.slice Ao29 t11011.length co29)) BK11015.out 1
     have hfz63_0 := blk_frozen BK11015.out 0
     have hfz63_1 := blk_frozen BK11015.out 1
     go_wp2_with (first | ((with_reducible refine gate_callee (f := 20) rfl ?_); refine goesL_ (some 45) rfl rfl Try.func20 (by kernel_rfl) rfl #[.agg #[.int .i64 t11024, .slice Ao46 t11025.length co46], .agg #[.int .i64 t11010, .slice Ao29 t11011.length co29]] rfl lm ?_; (with_reducible refine (laws_eqMatroid.calls k t11024 _ _ t11025 t11010 _ _ t11011 false _ ?side1 ?side2 ?side3 ?side4 A47.out).mono ?_); (case side1 => refine (Kd.R_reads' (e := 3) (base := w.heap.size) (ok := fun k_ => (((((True ∧ some k_ ≠ (.slice Ao23 t11004.length co23 : Value).ownBlock) ∧ some k_ ≠ (.slice Ao24 t11007.length co24 : Value).ownBlock) ∧ some k_ ≠ (.slice Ao29 t11011.length co29 : Value).ownBlock) ∧ some k_ ≠ (.slice Ao36 t11017.length co36 : Value).ownBlock) ∧ some k_ ≠ (.slice Ao39 t11021.length co39 : Value).ownBlock)) (n := t11025.length) (c := co46) ?_).2.2; exact (by (with_reducible repeat (first | apply Kd.R_alloc | apply Kd.R_drewN | apply Kd.R_drew)); exact (Kd.R_mono (Kd.R_far (p := ⟨gb11029, 1, none⟩) (Kd.R_far (p := ⟨gb11029, 0, none⟩) (Kd.R_types HO11027.out BK11029.out (by decide)) (fun _ hk => hk.2) (.int .i64 t11024)) (fun _ hk => hk.2) (.slice Ao46 t11025.length co46)) (fun _ h_ => h_.1)))); (case side2 => exact (Kd.R_reads' HO11027.out).2.1); (case side3 => refine (Kd.R_reads' (e := 3) (base := w.heap.size) (ok := fun k_ => (((((True ∧ some k_ ≠ (.slice Ao23 t11004.length co23 : Value).ownBlock) ∧ some k_ ≠ (.slice Ao24 t11007.length co24 : Value).ownBlock) ∧ some k_ ≠ (.slice Ao36 t11017.length co36 : Value).ownBlock) ∧ some k_ ≠ (.slice Ao39 t11021.length co39 : Value).ownBlock) ∧ some k_ ≠ (.slice Ao46 t11025.length co46 : Value).ownBlock)) (n := t11011.length) (c := co29) ?_).2.2; exact (by (with_reducible repeat (first | apply Kd.R_alloc | apply Kd.R_drewN | apply Kd.R_drew)); exact (Kd.R_mono (Kd.R_far (p := ⟨gb11029, 1, none⟩) (Kd.R_far (p := ⟨gb11029, 0, none⟩) (Kd.R_types HO11013.out BK11029.out (by decide)) (fun _ hk => hk.2) (.int .i64 t11024)) (fun _ hk => hk.2) (.slice Ao46 t11025.length co46)) (fun _ h_ => h_.1)))); (case side4 => exact (Kd.R_reads' HO11013.out).2.1); rintro e w64 ⟨rfl, hb⟩; refine ⟨_, rfl, ?_⟩; replace HO11006 := aQ (Kd.R_below (by (with_reducible repeat (first | apply Kd.R_alloc | apply Kd.R_drewN | apply Kd.R_drew)); exact (Kd.R_mono (Kd.R_far (p := ⟨gb11029, 1, none⟩) (Kd.R_far (p := ⟨gb11029, 0, none⟩) (Kd.R_types HO11006.out BK11029.out (by decide)) (fun _ hk => hk.2) (.int .i64 t11024)) (fun _ hk => hk.2) (.slice Ao46 t11025.length co46)) (fun _ h_ => h_.1))) hb); replace HO11009 := aQ (Kd.R_below (by (with_reducible repeat (first | apply Kd.R_alloc | apply Kd.R_drewN | apply Kd.R_drew)); exact (Kd.R_mono (Kd.R_far (p := ⟨gb11029, 1, none⟩) (Kd.R_far (p := ⟨gb11029, 0, none⟩) (Kd.R_types HO11009.out BK11029.out (by decide)) (fun _ hk => hk.2) (.int .i64 t11024)) (fun _ hk => hk.2) (.slice Ao46 t11025.length co46)) (fun _ h_ => h_.1))) hb); replace HO11013 := aQ (Kd.R_below (by (with_reducible repeat (first | apply Kd.R_alloc | apply Kd.R_drewN | apply Kd.R_drew)); exact (Kd.R_mono (Kd.R_far (p := ⟨gb11029, 1, none⟩) (Kd.R_far (p := ⟨gb11029, 0, none⟩) (Kd.R_types HO11013.out BK11029.out (by decide)) (fun _ hk => hk.2) (.int .i64 t11024)) (fun _ hk => hk.2) (.slice Ao46 t11025.length co46)) (fun _ h_ => h_.1))) hb); replace HO11019 := aQ (Kd.R_below (by (with_reducible repeat (first | apply Kd.R_alloc | apply Kd.R_drewN | apply Kd.R_drew)); exact (Kd.R_mono (Kd.R_far (p := ⟨gb11029, 1, none⟩) (Kd.R_far (p := ⟨gb11029, 0, none⟩) (Kd.R_types HO11019.out BK11029.out (by decide)) (fun _ hk => hk.2) (.int .i64 t11024)) (fun _ hk => hk.2) (.slice Ao46 t11025.length co46)) (fun _ h_ => h_.1))) hb); replace HO11023 := aQ (Kd.R_below (by (with_reducible repeat (first | apply Kd.R_alloc | apply Kd.R_drewN | apply Kd.R_drew)); exact (Kd.R_mono (Kd.R_far (p := ⟨gb11029, 1, none⟩) (Kd.R_far (p := ⟨gb11029, 0, none⟩) (Kd.R_types HO11023.out BK11029.out (by decide)) (fun _ hk => hk.2) (.int .i64 t11024)) (fun _ hk => hk.2) (.slice Ao46 t11025.length co46)) (fun _ h_ => h_.1))) hb); replace HO11027 := aQ (Kd.R_below (by (with_reducible repeat (first | apply Kd.R_alloc | apply Kd.R_drewN | apply Kd.R_drew)); exact (Kd.R_mono (Kd.R_far (p := ⟨gb11029, 1, none⟩) (Kd.R_far (p := ⟨gb11029, 0, none⟩) (Kd.R_types HO11027.out BK11029.out (by decide)) (fun _ hk => hk.2) (.int .i64 t11024)) (fun _ hk => hk.2) (.slice Ao46 t11025.length co46)) (fun _ h_ => h_.1))) hb); replace BK11001 := aQ (blk_below (g := gb11001) (o := .cells #[.int .i64 a0_0, .slice A0_1 l0_1.length c0_1] 24 (0, 0)) (by (with_reducible repeat (first | refine blk_drewN ?_ _ | refine blk_drew ?_ | refine blk_alloc ?_ _)); refine blk_far ?_ NB11001_11029.out _; (with_reducible repeat (first | refine blk_drewN ?_ _ | refine blk_drew ?_ | refine blk_alloc ?_ _)); refine blk_far ?_ NB11001_11029.out _; (with_reducible repeat (first | refine blk_drewN ?_ _ | refine blk_drew ?_ | refine blk_alloc ?_ _)); exact BK11001.out) hb); replace BK11015 := aQ (blk_below (g := gb11015) (o := .cells #[.int .i64 t11010, .slice Ao29 t11011.length co29] 26 (0, 0)) (by (with_reducible repeat (first | refine blk_drewN ?_ _ | refine blk_drew ?_ | refine blk_alloc ?_ _)); refine blk_far ?_ NB11015_11029.out _; (with_reducible repeat (first | refine blk_drewN ?_ _ | refine blk_drew ?_ | refine blk_alloc ?_ _)); refine blk_far ?_ NB11015_11029.out _; (with_reducible repeat (first | refine blk_drewN ?_ _ | refine blk_drew ?_ | refine blk_alloc ?_ _)); exact BK11015.out) hb); replace BK11020 := aQ (blk_below (g := gb11020) (o := .cells #[.int .i64 t11016, .slice Ao36 t11017.length co36] 26 (0, 0)) (by (with_reducible repeat (first | refine blk_drewN ?_ _ | refine blk_drew ?_ | refine blk_alloc ?_ _)); refine blk_far ?_ NB11020_11029.out _; (with_reducible repeat (first | refine blk_drewN ?_ _ | refine blk_drew ?_ | refine blk_alloc ?_ _)); refine blk_far ?_ NB11020_11029.out _; (with_reducible repeat (first | refine blk_drewN ?_ _ | refine blk_drew ?_ | refine blk_alloc ?_ _)); exact BK11020.out) hb); replace BK11029 := aQ (blk_below (g := gb11029) (o := .cells #[.int .i64 t11024, .slice Ao46 t11025.length co46] 26 (0, 0)) (by (with_reducible repeat (first | refine blk_drewN ?_ _ | refine blk_drew ?_ | refine blk_alloc ?_ _)); refine blk_put (cs := #[.int .i64 t11024, .slice none 0 0]) ?_ 1 _ rfl; (with_reducible repeat (first | refine blk_drewN ?_ _ | refine blk_drew ?_ | refine blk_alloc ?_ _)); refine blk_put (cs := #[.int .i64 0, .slice none 0 0]) ?_ 0 _ rfl; (with_reducible repeat (first | refine blk_drewN ?_ _ | refine blk_drew ?_ | refine blk_alloc ?_ _)); exact BK11029.out) hb); replace HB := aQ (below_step (pB4 HB.out GE11001.out GE11015.out GE11020.out GE11029.out) hb); (try clear hb); (try clear hk)))
     go_meet
     case rel => exact ⟨_, (true), rs_, H', ⟨by first | omega | exact Nat.le_refl _⟩, ⟨by (with_reducible repeat (first | apply Kd.R_alloc | apply Kd.R_drewN | apply Kd.R_drew)); exact Kd.R_mono HO11023.out (fun _ hk => ⟨hk.1.1.2, ⟨hk.1.2, hk.2⟩⟩)⟩, ⟨by (with_reducible repeat (first | apply Kd.R_alloc | apply Kd.R_drewN | apply Kd.R_drew)); exact Kd.R_mono HO11013.out (fun _ hk => ⟨hk.1.2, ⟨hk.1.1.2, hk.2⟩⟩)⟩, ⟨by (with_reducible repeat (first | apply Kd.R_alloc | apply Kd.R_drewN | apply Kd.R_drew)); exact Kd.R_mono HO11019.out (fun _ hk => ⟨hk.1.2, ⟨hk.1.1.2, hk.2⟩⟩)⟩, ⟨by (with_reducible repeat (first | apply Kd.R_alloc | apply Kd.R_drewN | apply Kd.R_drew)); exact Kd.R_mono HO11027.out (fun _ hk => ⟨hk.2, ⟨hk.1.1.2, hk.1.2⟩⟩)⟩, ⟨pk BK11001.out⟩, ⟨pk BK11015.out⟩, ⟨pk BK11020.out⟩, ⟨pk BK11029.out⟩, ⟨pB4 HB.out GE11001.out GE11015.out GE11020.out GE11029.out⟩⟩
   case rest =>
    clear HC16
    try clear c1
    try clear c2
    try clear p2
    try clear c3
    try clear c3b0
    try clear c3b1
    try clear c4
    try clear c5
    try clear c6
    try clear c6b0
    try clear c10
    try clear c16
    try clear c18
    try clear c20
    try clear c27
    try clear c31
    try clear c33
    try clear c34
    try clear c39
    try clear c40
    try clear c42
    try clear c43
    try clear c44
    try clear c48
    try clear c49
    try clear c50
    try clear c51
    try clear c53
    try clear c54
    try clear c57
    try clear c58
    try clear c59
    try clear c61
    try clear c62
    try clear hcz18_0
    try clear hcz18_1
    try clear hcz20_0
    try clear hcz20_1
    try clear hcz28_0
    try clear hcz28_1
    try clear hcz30_0
    try clear hcz30_1
    try clear hcz35_0
    try clear hcz35_1
    try clear hcz38_0
    try clear hcz38_1
    try clear hcz45_0
    try clear hcz45_1
    try clear hcz52_0
    try clear hcz52_1
    try clear hcz55_0
    try clear hcz55_1
    try clear hcz60_0
    try clear hcz60_1
    try clear hcz63_0
    try clear hcz63_1
    try clear hcz8_0
    try clear hcz8_1
    try clear hfz18_0
    try clear hfz18_1
    try clear hfz20_0
    try clear hfz20_1
    try clear hfz28_0
    try clear hfz28_1
    try clear hfz30_0
    try clear hfz30_1
    try clear hfz35_0
    try clear hfz35_1
    try clear hfz38_0
    try clear hfz38_1
    try clear hfz45_0
    try clear hfz45_1
    try clear hfz52_0
    try clear hfz52_1
    try clear hfz55_0
    try clear hfz55_1
    try clear hfz60_0
    try clear hfz60_1
    try clear hfz63_0
    try clear hfz63_1
    try clear hfz8_0
    try clear hfz8_1
    obtain ⟨kq, x51_15, rfl, HA, HJ15, HO_9, HO_11016001, HO_11021001, HO_11030001, BK11001, BK11015, BK11020, BK11029, HB⟩ := hcut
    cases kq with
    | zero => exact absurd HA.out (by simp [laws_FnExactExtend.j0])
    | succ kj15 =>
     have H := HA.out
     clear HA
     simp only [laws_FnExactExtend.j0] at H
     by_cases c65 : x51_15 = true
     ·subst c65
      have H1 : (some false) = some true := by rw [if_pos rfl] at H; exact H
      clear H
      have H := H1
      clear H1
      exact absurd (Option.some.inj H) (by decide)
     ·replace c65 := Bool.eq_false_iff.mpr c65
      subst c65
      have H1 : ((laws_toMatroid.f kj15 a0_0 l0_1).bind fun bt11031 => ((laws_eqMatroid.f kj15 t11016 t11017 bt11031.1 bt11031.2).bind fun t11035 => (if t11035 = true then ((laws_toIntS.f kj15 l1).bind fun t11036 => ((laws_eqIntS.f kj15 t11021 t11036).bind fun t11039 => (if t11039 = true then ((laws_markMatroid.f kj15 t11016 t11017 1).bind fun bt11040 => ((laws_markIntS.f kj15 t11021 bt11040.1).bind fun bt11042 => (if bt11042.1 < 0 then (laws_FnExactExtend.j1 kj15 l1 t11014 true a0_0 l0_1 t11010 t11011 t11024 t11025) else ((laws_eqMatroid.f kj15 t11024 t11025 t11010 t11011).bind fun t11044 => (if t11044 = true then (laws_FnExactExtend.j1 kj15 l1 t11014 (t11028 != t11014) a0_0 l0_1 t11010 t11011 t11024 t11025) else (laws_FnExactExtend.j1 kj15 l1 t11014 true a0_0 l0_1 t11010 t11011 t11024 t11025)))))) else (some false)))) else (some false)))) = some true := by rw [if_neg (show ¬ (false = true) by decide)] at H; exact H
      clear H
      have H := H1
      clear H1
      replace H := Option.bind_eq_some_iff.mp H
      obtain ⟨⟨t11031, t11032⟩, A660, H⟩ := H
      replace H : ((laws_eqMatroid.f kj15 t11016 t11017 t11031 t11032).bind fun t11035 => (if t11035 = true then ((laws_toIntS.f kj15 l1).bind fun t11036 => ((laws_eqIntS.f kj15 t11021 t11036).bind fun t11039 => (if t11039 = true then ((laws_markMatroid.f kj15 t11016 t11017 1).bind fun bt11040 => ((laws_markIntS.f kj15 t11021 bt11040.1).bind fun bt11042 => (if bt11042.1 < 0 then (laws_FnExactExtend.j1 kj15 l1 t11014 true a0_0 l0_1 t11010 t11011 t11024 t11025) else ((laws_eqMatroid.f kj15 t11024 t11025 t11010 t11011).bind fun t11044 => (if t11044 = true then (laws_FnExactExtend.j1 kj15 l1 t11014 (t11028 != t11014) a0_0 l0_1 t11010 t11011 t11024 t11025) else (laws_FnExactExtend.j1 kj15 l1 t11014 true a0_0 l0_1 t11010 t11011 t11024 t11025)))))) else (some false)))) else (some false))) = some true := H
      have A66 := aQ A660
      clear A660
      replace H := Option.bind_eq_some_iff.mp H
      obtain ⟨t11035, A670, H⟩ := H
      replace H : (if t11035 = true then ((laws_toIntS.f kj15 l1).bind fun t11036 => ((laws_eqIntS.f kj15 t11021 t11036).bind fun t11039 => (if t11039 = true then ((laws_markMatroid.f kj15 t11016 t11017 1).bind fun bt11040 => ((laws_markIntS.f kj15 t11021 bt11040.1).bind fun bt11042 => (if bt11042.1 < 0 then (laws_FnExactExtend.j1 kj15 l1 t11014 true a0_0 l0_1 t11010 t11011 t11024 t11025) else ((laws_eqMatroid.f kj15 t11024 t11025 t11010 t11011).bind fun t11044 => (if t11044 = true then (laws_FnExactExtend.j1 kj15 l1 t11014 (t11028 != t11014) a0_0 l0_1 t11010 t11011 t11024 t11025) else (laws_FnExactExtend.j1 kj15 l1 t11014 true a0_0 l0_1 t11010 t11011 t11024 t11025)))))) else (some false)))) else (some false)) = some true := H
      have A67 := aQ A670
      clear A670
      by_cases c68 : t11035 = true
      ·subst c68
       have H1 : ((laws_toIntS.f kj15 l1).bind fun t11036 => ((laws_eqIntS.f kj15 t11021 t11036).bind fun t11039 => (if t11039 = true then ((laws_markMatroid.f kj15 t11016 t11017 1).bind fun bt11040 => ((laws_markIntS.f kj15 t11021 bt11040.1).bind fun bt11042 => (if bt11042.1 < 0 then (laws_FnExactExtend.j1 kj15 l1 t11014 true a0_0 l0_1 t11010 t11011 t11024 t11025) else ((laws_eqMatroid.f kj15 t11024 t11025 t11010 t11011).bind fun t11044 => (if t11044 = true then (laws_FnExactExtend.j1 kj15 l1 t11014 (t11028 != t11014) a0_0 l0_1 t11010 t11011 t11024 t11025) else (laws_FnExactExtend.j1 kj15 l1 t11014 true a0_0 l0_1 t11010 t11011 t11024 t11025)))))) else (some false)))) = some true := by rw [if_pos rfl] at H; exact H
       clear H
       have H := H1
       clear H1
       replace H := Option.bind_eq_some_iff.mp H
       obtain ⟨t11036, A690, H⟩ := H
       replace H : ((laws_eqIntS.f kj15 t11021 t11036).bind fun t11039 => (if t11039 = true then ((laws_markMatroid.f kj15 t11016 t11017 1).bind fun bt11040 => ((laws_markIntS.f kj15 t11021 bt11040.1).bind fun bt11042 => (if bt11042.1 < 0 then (laws_FnExactExtend.j1 kj15 l1 t11014 true a0_0 l0_1 t11010 t11011 t11024 t11025) else ((laws_eqMatroid.f kj15 t11024 t11025 t11010 t11011).bind fun t11044 => (if t11044 = true then (laws_FnExactExtend.j1 kj15 l1 t11014 (t11028 != t11014) a0_0 l0_1 t11010 t11011 t11024 t11025) else (laws_FnExactExtend.j1 kj15 l1 t11014 true a0_0 l0_1 t11010 t11011 t11024 t11025)))))) else (some false))) = some true := H
       have A69 := aQ A690
       clear A690
       replace H := Option.bind_eq_some_iff.mp H
       obtain ⟨t11039, A700, H⟩ := H
       replace H : (if t11039 = true then ((laws_markMatroid.f kj15 t11016 t11017 1).bind fun bt11040 => ((laws_markIntS.f kj15 t11021 bt11040.1).bind fun bt11042 => (if bt11042.1 < 0 then (laws_FnExactExtend.j1 kj15 l1 t11014 true a0_0 l0_1 t11010 t11011 t11024 t11025) else ((laws_eqMatroid.f kj15 t11024 t11025 t11010 t11011).bind fun t11044 => (if t11044 = true then (laws_FnExactExtend.j1 kj15 l1 t11014 (t11028 != t11014) a0_0 l0_1 t11010 t11011 t11024 t11025) else (laws_FnExactExtend.j1 kj15 l1 t11014 true a0_0 l0_1 t11010 t11011 t11024 t11025)))))) else (some false)) = some true := H
       have A70 := aQ A700
       clear A700
       by_cases c71 : t11039 = true
       ·subst c71
        have H1 : ((laws_markMatroid.f kj15 t11016 t11017 1).bind fun bt11040 => ((laws_markIntS.f kj15 t11021 bt11040.1).bind fun bt11042 => (if bt11042.1 < 0 then (laws_FnExactExtend.j1 kj15 l1 t11014 true a0_0 l0_1 t11010 t11011 t11024 t11025) else ((laws_eqMatroid.f kj15 t11024 t11025 t11010 t11011).bind fun t11044 => (if t11044 = true then (laws_FnExactExtend.j1 kj15 l1 t11014 (t11028 != t11014) a0_0 l0_1 t11010 t11011 t11024 t11025) else (laws_FnExactExtend.j1 kj15 l1 t11014 true a0_0 l0_1 t11010 t11011 t11024 t11025)))))) = some true := by rw [if_pos rfl] at H; exact H
        clear H
        have H := H1
        clear H1
        replace H := Option.bind_eq_some_iff.mp H
        obtain ⟨⟨t11040, t11041⟩, A720, H⟩ := H
        replace H : ((laws_markIntS.f kj15 t11021 t11040).bind fun bt11042 => (if bt11042.1 < 0 then (laws_FnExactExtend.j1 kj15 l1 t11014 true a0_0 l0_1 t11010 t11011 t11024 t11025) else ((laws_eqMatroid.f kj15 t11024 t11025 t11010 t11011).bind fun t11044 => (if t11044 = true then (laws_FnExactExtend.j1 kj15 l1 t11014 (t11028 != t11014) a0_0 l0_1 t11010 t11011 t11024 t11025) else (laws_FnExactExtend.j1 kj15 l1 t11014 true a0_0 l0_1 t11010 t11011 t11024 t11025))))) = some true := H
        have A72 := aQ A720
        clear A720
        replace H := Option.bind_eq_some_iff.mp H
        obtain ⟨⟨t11042, t11043⟩, A730, H⟩ := H
        replace H : (if t11042 < 0 then (laws_FnExactExtend.j1 kj15 l1 t11014 true a0_0 l0_1 t11010 t11011 t11024 t11025) else ((laws_eqMatroid.f kj15 t11024 t11025 t11010 t11011).bind fun t11044 => (if t11044 = true then (laws_FnExactExtend.j1 kj15 l1 t11014 (t11028 != t11014) a0_0 l0_1 t11010 t11011 t11024 t11025) else (laws_FnExactExtend.j1 kj15 l1 t11014 true a0_0 l0_1 t11010 t11011 t11024 t11025)))) = some true := H
        have A73 := aQ A730
        clear A730
        have HC74 := aQ H
        clear H
        try go_wp2
        have n0_ := aQ (Kd.R_drew HO_9.out)
        have n1_ := aQ (Kd.R_drew HO_11016001.out)
        have n2_ := aQ (Kd.R_drew HO_11021001.out)
        have n3_ := aQ (Kd.R_drew HO_11030001.out)
        have n4_ := aQ (blk_drew BK11001.out)
        have n5_ := aQ (blk_drew BK11015.out)
        have n6_ := aQ (blk_drew BK11020.out)
        have n7_ := aQ (blk_drew BK11029.out)
        have n8_ := aQ (below_drew1 HB.out)
        clear HO_9
        clear HO_11016001
        clear HO_11021001
        clear HO_11030001
        clear BK11001
        clear BK11015
        clear BK11020
        clear BK11029
        clear HB
        have HO_9 := n0_
        have HO_11016001 := n1_
        have HO_11021001 := n2_
        have HO_11030001 := n3_
        have BK11001 := n4_
        have BK11015 := n5_
        have BK11020 := n6_
        have BK11029 := n7_
        have HB := n8_
        clear n0_ n1_ n2_ n3_ n4_ n5_ n6_ n7_ n8_
        refine start_ (n := 5) (S := fun w' => w'.cell? ⟨gb11020, 0, none⟩ = some (.int .i64 t11016) ∧ w'.cell? ⟨gb11020, 1, none⟩ = some (.slice Ao36 t11017.length co36) ∧ w'.cell? ⟨gb11001, 0, none⟩ = some (.int .i64 a0_0) ∧ w'.cell? ⟨gb11001, 1, none⟩ = some (.slice A0_1 l0_1.length c0_1)) (ds := []) #[false, false, false, false, false] (by kernel_rfl) rfl rfl ⟨(blk_cell BK11020.out 0).trans rfl, (blk_cell BK11020.out 1).trans rfl, (blk_cell BK11001.out 0).trans rfl, (blk_cell BK11001.out 1).trans rfl⟩ (fun hHeld => ?_)
        generalize wc.drew = w75 at HO_9 HO_11016001 HO_11021001 HO_11030001 BK11001 BK11015 BK11020 BK11029 HB hHeld ⊢
        refine take_ (i := 0) (N := some 52) (v := ?_) (a' := ?_) #[true, false, false, false, false] rfl rfl (by kernel_rfl) (fun _ _ _ h => h) (Or.inl ⟨by rfl, ?_⟩) hHeld ?_ ?_
        rotate_left
        ·rintro w' ⟨s0, s1, s2, s3⟩
         go_simp
         with_reducible rfl
        rotate_left
        ·simp only [Act.put, List.setIfInBounds_toArray, List.set_cons_zero, List.set_cons_succ, i64_w, i32_w]
         rfl
        refine take_ (i := 1) (N := some 53) (v := ?_) (a' := ?_) #[true, true, false, false, false] rfl rfl (by kernel_rfl) (fun _ _ _ h => h) (Or.inl ⟨by rfl, ?_⟩) hHeld ?_ ?_
        rotate_left
        ·rintro w' ⟨s0, s1, s2, s3⟩
         go_simp
         with_reducible rfl
        rotate_left
        ·simp only [Act.put, List.setIfInBounds_toArray, List.set_cons_zero, List.set_cons_succ, i64_w, i32_w]
         rfl
        refine one_ (i := 2) (N := some 54) #[true, true, true, false, false] rfl rfl (by kernel_rfl) (by decide) (fun K hK => ?_)
        refine goes_ Try.func18 (by kernel_rfl) rfl #[.agg #[.int .i64 a0_0, .slice A0_1 l0_1.length c0_1]] (by rfl) rfl rfl lm ?_
        with_reducible refine (laws_toMatroid.calls kj15 a0_0 _ _ l0_1 t11031 t11032 _ ?side1 ?side2 A66.out).mono ?_
        (case side1 => exact pC (Kd.C_below HR0_1.out HB.out))
        (case side2 => exact HC0_1.out)
        rintro e w76 ⟨v11033, rfl, ho0, hb⟩
        refine ⟨_, rfl, ?_⟩
        have n0_ := aQ (Kd.R_elder' (pR HO_9.out) (Kd.R_base ho0) hb)
        have n1_ := aQ (Kd.R_elder' (pR HO_11016001.out) (Kd.R_base ho0) hb)
        have n2_ := aQ (Kd.R_elder' (pR HO_11021001.out) (Kd.R_base ho0) hb)
        have n3_ := aQ (Kd.R_elder' (pR HO_11030001.out) (Kd.R_base ho0) hb)
        have n4_ := aQ (Kd.R_lower (Kd.R_new' (Kd.R_new' (Kd.R_new' (Kd.R_new' ho0 (Kd.R_lt (pR HO_9.out))) (Kd.R_lt (pR HO_11016001.out))) (Kd.R_lt (pR HO_11021001.out))) (Kd.R_lt (pR HO_11030001.out))) (below_size (pB4 HB.out GE11001.out GE11015.out GE11020.out GE11029.out)))
        have n5_ := aQ (blk_below (g := gb11001) (o := .cells #[.int .i64 a0_0, .slice A0_1 l0_1.length c0_1] 24 (0, 0)) (pk BK11001.out) hb)
        have n6_ := aQ (blk_below (g := gb11015) (o := .cells #[.int .i64 t11010, .slice Ao29 t11011.length co29] 26 (0, 0)) (pk BK11015.out) hb)
        have n7_ := aQ (blk_below (g := gb11020) (o := .cells #[.int .i64 t11016, .slice Ao36 t11017.length co36] 26 (0, 0)) (pk BK11020.out) hb)
        have n8_ := aQ (blk_below (g := gb11029) (o := .cells #[.int .i64 t11024, .slice Ao46 t11025.length co46] 26 (0, 0)) (pk BK11029.out) hb)
        have n9_ := aQ (below_step (pB4 HB.out GE11001.out GE11015.out GE11020.out GE11029.out) hb)
        clear HO_9
        clear HO_11016001
        clear HO_11021001
        clear HO_11030001
        clear BK11001
        clear BK11015
        clear BK11020
        clear BK11029
        clear HB
        have HO_9 := n0_
        have HO_11016001 := n1_
        have HO_11021001 := n2_
        have HO_11030001 := n3_
        have HO11034 := n4_
        have BK11001 := n5_
        have BK11015 := n6_
        have BK11020 := n7_
        have BK11029 := n8_
        have HB := n9_
        clear n0_ n1_ n2_ n3_ n4_ n5_ n6_ n7_ n8_ n9_
        (try clear hb)
        (try clear hb2)
        (try clear hk)
        (try clear hi)
        (try clear ho0)
        obtain ⟨Ao77, co77, eo77⟩ := Kd.R_slice HO11034.out
        (first | subst eo77 | (injection eo77 with f1_ f2_ f3_; have f4_ := f1_.symm; have f5_ := f3_.symm; clear f1_ f2_ f3_; subst f4_; subst f5_))
        refine hK.out _ _ ⟨(blk_cell BK11020.out 0).trans rfl, (blk_cell BK11020.out 1).trans rfl, (blk_cell BK11001.out 0).trans rfl, (blk_cell BK11001.out 1).trans rfl⟩ (fun hHeld => ?_)
        clear hK K
        refine norm_ (a' := ?_) ?_ ?_
        rotate_left
        ·show Act.put _ (some 54) _ = _
         simp only [Act.put, List.setIfInBounds_toArray, List.set_cons_zero, List.set_cons_succ, i64_w, i32_w]
         rfl
        refine one_ (i := 3) (N := some 55) #[true, true, true, true, false] rfl rfl (by kernel_rfl) (by decide) (fun K hK => ?_)
        refine goes_ Try.func20 (by kernel_rfl) rfl #[.agg #[.int .i64 t11016, .slice Ao36 t11017.length co36], .agg #[.int .i64 t11031, .slice Ao77 t11032.length co77]] (by rfl) rfl rfl lm ?_
        with_reducible refine (laws_eqMatroid.calls kj15 t11016 _ _ t11017 t11031 _ _ t11032 true _ ?side1 ?side2 ?side3 ?side4 A67.out).mono ?_
        (case side1 => repeat (first | exact (Kd.R_reads' HO_11021001.out).2.2 | (with_reducible refine Kd.C_alloc ?_ _) | (with_reducible refine Kd.C_drewN ?_ _) | (with_reducible refine Kd.C_drew ?_)))
        (case side2 => exact (Kd.R_reads' HO_11021001.out).2.1)
        (case side3 => repeat (first | exact (Kd.R_reads' HO11034.out).2.2 | (with_reducible refine Kd.C_alloc ?_ _) | (with_reducible refine Kd.C_drewN ?_ _) | (with_reducible refine Kd.C_drew ?_)))
        (case side4 => exact (Kd.R_reads' HO11034.out).2.1)
        rintro e w78 ⟨rfl, hb⟩
        refine ⟨_, rfl, ?_⟩
        have n0_ := aQ (Kd.R_below (pR HO_9.out) hb)
        have n1_ := aQ (Kd.R_below (pR HO_11016001.out) hb)
        have n2_ := aQ (Kd.R_below (pR HO_11021001.out) hb)
        have n3_ := aQ (Kd.R_below (pR HO_11030001.out) hb)
        have n4_ := aQ (Kd.R_below (pR HO11034.out) hb)
        have n5_ := aQ (blk_below (g := gb11001) (o := .cells #[.int .i64 a0_0, .slice A0_1 l0_1.length c0_1] 24 (0, 0)) (pk BK11001.out) hb)
        have n6_ := aQ (blk_below (g := gb11015) (o := .cells #[.int .i64 t11010, .slice Ao29 t11011.length co29] 26 (0, 0)) (pk BK11015.out) hb)
        have n7_ := aQ (blk_below (g := gb11020) (o := .cells #[.int .i64 t11016, .slice Ao36 t11017.length co36] 26 (0, 0)) (pk BK11020.out) hb)
        have n8_ := aQ (blk_below (g := gb11029) (o := .cells #[.int .i64 t11024, .slice Ao46 t11025.length co46] 26 (0, 0)) (pk BK11029.out) hb)
        have n9_ := aQ (below_step (pB4 HB.out GE11001.out GE11015.out GE11020.out GE11029.out) hb)
        clear HO_9
        clear HO_11016001
        clear HO_11021001
        clear HO_11030001
        clear HO11034
        clear BK11001
        clear BK11015
        clear BK11020
        clear BK11029
        clear HB
        have HO_9 := n0_
        have HO_11016001 := n1_
        have HO_11021001 := n2_
        have HO_11030001 := n3_
        have HO11034 := n4_
        have BK11001 := n5_
        have BK11015 := n6_
        have BK11020 := n7_
        have BK11029 := n8_
        have HB := n9_
        clear n0_ n1_ n2_ n3_ n4_ n5_ n6_ n7_ n8_ n9_
        (try clear hb)
        (try clear hb2)
        (try clear hk)
        (try clear hi)
        refine hK.out _ _ ⟨(blk_cell BK11020.out 0).trans rfl, (blk_cell BK11020.out 1).trans rfl, (blk_cell BK11001.out 0).trans rfl, (blk_cell BK11001.out 1).trans rfl⟩ (fun hHeld => ?_)
        clear hK K
        refine norm_ (a' := ?_) ?_ ?_
        rotate_left
        ·show Act.put _ (some 55) _ = _
         simp only [Act.put, List.setIfInBounds_toArray, List.set_cons_zero, List.set_cons_succ, i64_w, i32_w]
         rfl
        refine pure_ (i := 4) (N := some 56) (v := ?_) (a' := ?_) #[true, true, true, true, true] rfl rfl (by kernel_rfl) (fun _ _ _ h => h) (Or.inl ⟨by rfl, ?_⟩) ?_ ?_
        rotate_left
        ·intro w'
         go_simp
         with_reducible rfl
        rotate_left
        ·simp only [Act.put, List.setIfInBounds_toArray, List.set_cons_zero, List.set_cons_succ, i64_w, i32_w]
         rfl
        refine done_ (by kernel_rfl) ?_
        go_upto_region 20 with (first | ((with_reducible refine gate_callee (f := 31) rfl ?_); refine goesL_ (some 59) rfl rfl Try.func31 (by kernel_rfl) rfl #[.slice A1 l1.length c1] rfl lm ?_; (with_reducible refine (laws_toIntS.calls kj15 _ _ l1 t11036 _ ?side1 ?side2 A69.out).mono ?_); (case side1 => exact pC (Kd.C_below HR1.out HB.out)); (case side2 => exact HC1.out); rintro e w79 ⟨v11037, rfl, ho0, hb⟩; refine ⟨_, rfl, ?_⟩; have HO11038 := aQ (Kd.R_lower (Kd.R_new' (Kd.R_new' (Kd.R_new' (Kd.R_new' (Kd.R_new' ho0 (Kd.R_lt (pR HO_9.out))) (Kd.R_lt (pR HO_11016001.out))) (Kd.R_lt (pR HO_11021001.out))) (Kd.R_lt (pR HO_11030001.out))) (Kd.R_lt (pR HO11034.out))) (below_size (pB4 HB.out GE11001.out GE11015.out GE11020.out GE11029.out))); replace HO_9 := aQ (Kd.R_elder' (pR HO_9.out) (Kd.R_base ho0) hb); replace HO_11016001 := aQ (Kd.R_elder' (pR HO_11016001.out) (Kd.R_base ho0) hb); replace HO_11021001 := aQ (Kd.R_elder' (pR HO_11021001.out) (Kd.R_base ho0) hb); replace HO_11030001 := aQ (Kd.R_elder' (pR HO_11030001.out) (Kd.R_base ho0) hb); replace HO11034 := aQ (Kd.R_elder' (pR HO11034.out) (Kd.R_base ho0) hb); replace BK11001 := aQ (blk_below (g := gb11001) (o := .cells #[.int .i64 a0_0, .slice A0_1 l0_1.length c0_1] 24 (0, 0)) (pk BK11001.out) hb); replace BK11015 := aQ (blk_below (g := gb11015) (o := .cells #[.int .i64 t11010, .slice Ao29 t11011.length co29] 26 (0, 0)) (pk BK11015.out) hb); replace BK11020 := aQ (blk_below (g := gb11020) (o := .cells #[.int .i64 t11016, .slice Ao36 t11017.length co36] 26 (0, 0)) (pk BK11020.out) hb); replace BK11029 := aQ (blk_below (g := gb11029) (o := .cells #[.int .i64 t11024, .slice Ao46 t11025.length co46] 26 (0, 0)) (pk BK11029.out) hb); replace HB := aQ (below_step (pB4 HB.out GE11001.out GE11015.out GE11020.out GE11029.out) hb); (try clear hb); (try clear ho0); obtain ⟨Ao80, co80, eo80⟩ := Kd.R_slice HO11038.out; subst eo80) | ((with_reducible refine gate_callee (f := 25) rfl ?_); refine goesL_ (some 60) rfl rfl Try.func25 (by kernel_rfl) rfl #[.slice Ao39 t11021.length co39, .slice Ao80 t11036.length co80] rfl lm ?_; (with_reducible refine (laws_eqIntS.calls kj15 _ _ t11021 _ _ t11036 true _ ?side1 ?side2 ?side3 ?side4 A70.out).mono ?_); (case side1 => repeat (first | exact (Kd.R_reads' HO_9.out).2.2 | (with_reducible refine Kd.C_alloc ?_ _) | (with_reducible refine Kd.C_drewN ?_ _) | (with_reducible refine Kd.C_drew ?_))); (case side2 => exact (Kd.R_reads' HO_9.out).2.1); (case side3 => repeat (first | exact (Kd.R_reads' HO11038.out).2.2 | (with_reducible refine Kd.C_alloc ?_ _) | (with_reducible refine Kd.C_drewN ?_ _) | (with_reducible refine Kd.C_drew ?_))); (case side4 => exact (Kd.R_reads' HO11038.out).2.1); rintro e w' ⟨rfl, ⟨nd, rfl⟩⟩; refine ⟨_, rfl, ?_⟩; have hnb81 := NB11020_11001.out; have hnc81 := NB11001_11020.out; have hnb82 := NB11020_11015.out; have hnc82 := NB11015_11020.out; have hnb83 := NB11020_11029.out; have hnc83 := NB11029_11020.out; have hcz84_0 := bc (v := (.int .i64 t11016)) BK11020.out 0; have hcz84_1 := bc (v := (.slice Ao36 t11017.length co36)) BK11020.out 1; have hfz84_0 := blk_frozen BK11020.out 0; have hfz84_1 := blk_frozen BK11020.out 1) | ((with_reducible refine gate_callee (f := 21) rfl ?_); refine goesL_ (some 64) rfl rfl Try.func21 (by kernel_rfl) rfl #[.agg #[.int .i64 t11016, .slice Ao36 t11017.length co36], .int .i64 1] rfl lm ?_; (with_reducible refine (laws_markMatroid.calls kj15 t11016 (fun k_ => some k_ = (.slice Ao36 t11017.length co36 : Value).ownBlock) (.slice Ao36 t11017.length co36) t11017 1 t11040 t11041 w _ ?side1 ?side2 A72.out).mono ?_); (case side1 => repeat (first | (with_reducible first | exact HB.out | apply below_alloc | apply pw_below_drewN | apply below_drew1 | refine below_set ?_ GE11001.out | refine below_set ?_ GE11015.out | refine below_set ?_ GE11020.out | refine below_set ?_ GE11029.out) | exact HB.out)); (case side2 => exact Kd.R_tight rfl HO_11021001.out); rintro e w85 ⟨rfl, hy0, hb, hkp⟩; refine ⟨_, rfl, ?_⟩; replace HO_9 := aQ (Kd.R_mono (ok' := fun k_ => some k_ ≠ (.slice Ao29 t11011.length co29 : Value).ownBlock ∧ some k_ ≠ (.slice Ao36 t11017.length co36 : Value).ownBlock ∧ some k_ ≠ (.slice Ao46 t11025.length co46 : Value).ownBlock ∧ some k_ ≠ (.slice Ao77 t11032.length co77 : Value).ownBlock ∧ some k_ ≠ (.slice Ao80 t11036.length co80 : Value).ownBlock) (Kd.R_keptB (HO_9.out) hkp (fun k_ hk_ hs_ => (hk_.1.1.2.1) hs_)) (fun k_ hk_ => ⟨hk_.1.1.1.1, hk_.1.1.1.2.1, hk_.1.1.1.2.2, hk_.1.1.2, hk_.1.2⟩)); replace HO_11016001 := aQ (Kd.R_mono (ok' := fun k_ => some k_ ≠ (.slice Ao39 t11021.length co39 : Value).ownBlock ∧ some k_ ≠ (.slice Ao36 t11017.length co36 : Value).ownBlock ∧ some k_ ≠ (.slice Ao46 t11025.length co46 : Value).ownBlock ∧ some k_ ≠ (.slice Ao77 t11032.length co77 : Value).ownBlock ∧ some k_ ≠ (.slice Ao80 t11036.length co80 : Value).ownBlock) (Kd.R_keptB (HO_11016001.out) hkp (fun k_ hk_ hs_ => (hk_.1.1.2.1) hs_)) (fun k_ hk_ => ⟨hk_.1.1.1.1, hk_.1.1.1.2.1, hk_.1.1.1.2.2, hk_.1.1.2, hk_.1.2⟩)); replace HO_11030001 := aQ (Kd.R_mono (ok' := fun k_ => some k_ ≠ (.slice Ao39 t11021.length co39 : Value).ownBlock ∧ some k_ ≠ (.slice Ao29 t11011.length co29 : Value).ownBlock ∧ some k_ ≠ (.slice Ao36 t11017.length co36 : Value).ownBlock ∧ some k_ ≠ (.slice Ao77 t11032.length co77 : Value).ownBlock ∧ some k_ ≠ (.slice Ao80 t11036.length co80 : Value).ownBlock) (Kd.R_keptB (HO_11030001.out) hkp (fun k_ hk_ hs_ => (hk_.1.1.2.2) hs_)) (fun k_ hk_ => ⟨hk_.1.1.1.1, hk_.1.1.1.2.1, hk_.1.1.1.2.2, hk_.1.1.2, hk_.1.2⟩)); replace BK11001 := aQ (blk_kept (by (with_reducible repeat (first | apply blk_drewN | apply blk_drew | apply blk_alloc)); exact BK11001.out) hkp (fun hs_ => (fun e_ => (Kd.R_ne HO_11021001.out BK11001.out (by decide)) e_) hs_)); replace BK11015 := aQ (blk_kept (by (with_reducible repeat (first | apply blk_drewN | apply blk_drew | apply blk_alloc)); exact BK11015.out) hkp (fun hs_ => (fun e_ => (Kd.R_ne HO_11021001.out BK11015.out (by decide)) e_) hs_)); replace BK11020 := aQ (blk_kept (by (with_reducible repeat (first | apply blk_drewN | apply blk_drew | apply blk_alloc)); exact BK11020.out) hkp (fun hs_ => (fun e_ => (Kd.R_ne HO_11021001.out BK11020.out (by decide)) e_) hs_)); replace BK11029 := aQ (blk_kept (by (with_reducible repeat (first | apply blk_drewN | apply blk_drew | apply blk_alloc)); exact BK11029.out) hkp (fun hs_ => (fun e_ => (Kd.R_ne HO_11021001.out BK11029.out (by decide)) e_) hs_)); replace HO_11021001 := aQ (Kd.R_reok rfl hy0 (fun k_ e_ => HO_11021001.out.1 k_ e_)); replace HO11034 := aQ (Kd.R_mono (ok' := fun k_ => some k_ ≠ (.slice Ao39 t11021.length co39 : Value).ownBlock ∧ some k_ ≠ (.slice Ao29 t11011.length co29 : Value).ownBlock ∧ some k_ ≠ (.slice Ao36 t11017.length co36 : Value).ownBlock ∧ some k_ ≠ (.slice Ao46 t11025.length co46 : Value).ownBlock ∧ some k_ ≠ (.slice Ao80 t11036.length co80 : Value).ownBlock) (Kd.R_keptB (HO11034.out) hkp (fun k_ hk_ hs_ => (hk_.1.1.2) hs_)) (fun k_ hk_ => ⟨hk_.1.1.1.1.1.2, hk_.1.1.1.1.2, hk_.1.1.1.2, hk_.1.1.2, hk_.1.2⟩)); replace HO11038 := aQ (Kd.R_mono (ok' := fun k_ => some k_ ≠ (.slice Ao39 t11021.length co39 : Value).ownBlock ∧ some k_ ≠ (.slice Ao29 t11011.length co29 : Value).ownBlock ∧ some k_ ≠ (.slice Ao36 t11017.length co36 : Value).ownBlock ∧ some k_ ≠ (.slice Ao46 t11025.length co46 : Value).ownBlock ∧ some k_ ≠ (.slice Ao77 t11032.length co77 : Value).ownBlock) (Kd.R_keptB (HO11038.out) hkp (fun k_ hk_ hs_ => (hk_.1.1.2) hs_)) (fun k_ hk_ => ⟨hk_.1.1.1.1.1.2, hk_.1.1.1.1.2, hk_.1.1.1.2, hk_.1.1.2, hk_.1.2⟩)); replace HB := aQ (hb); (try clear hb); (try clear hkp); (try clear hy0)) | ((with_reducible refine gate_callee (f := 26) rfl ?_); refine goesL_ (some 67) rfl rfl Try.func26 (by kernel_rfl) rfl #[.slice Ao39 t11021.length co39, .int .i64 t11040] rfl lm ?_; (with_reducible refine (laws_markIntS.calls kj15 (fun k_ => some k_ = (.slice Ao39 t11021.length co39 : Value).ownBlock) (.slice Ao39 t11021.length co39) t11021 t11040 t11042 t11043 w _ ?side1 ?side2 A73.out).mono ?_); (case side1 => repeat (first | (with_reducible first | exact HB.out | apply below_alloc | apply pw_below_drewN | apply below_drew1 | refine below_set ?_ GE11001.out | refine below_set ?_ GE11015.out | refine below_set ?_ GE11020.out | refine below_set ?_ GE11029.out) | exact HB.out)); (case side2 => exact Kd.R_tight rfl HO_9.out); rintro e w86 ⟨rfl, hy0, hb, hkp⟩; refine ⟨_, rfl, ?_⟩; replace HO_11016001 := aQ (Kd.R_mono (ok' := fun k_ => some k_ ≠ (.slice Ao39 t11021.length co39 : Value).ownBlock ∧ some k_ ≠ (.slice Ao36 t11017.length co36 : Value).ownBlock ∧ some k_ ≠ (.slice Ao46 t11025.length co46 : Value).ownBlock ∧ some k_ ≠ (.slice Ao77 t11032.length co77 : Value).ownBlock ∧ some k_ ≠ (.slice Ao80 t11036.length co80 : Value).ownBlock) (Kd.R_keptB (HO_11016001.out) hkp (fun k_ hk_ hs_ => (hk_.1) hs_)) (fun k_ hk_ => ⟨hk_.1.1, hk_.1.2.1, hk_.1.2.2.1, hk_.1.2.2.2.1, hk_.1.2.2.2.2⟩)); replace HO_11021001 := aQ (Kd.R_mono (ok' := fun k_ => some k_ ≠ (.slice Ao39 t11021.length co39 : Value).ownBlock ∧ some k_ ≠ (.slice Ao29 t11011.length co29 : Value).ownBlock ∧ some k_ ≠ (.slice Ao46 t11025.length co46 : Value).ownBlock ∧ some k_ ≠ (.slice Ao77 t11032.length co77 : Value).ownBlock ∧ some k_ ≠ (.slice Ao80 t11036.length co80 : Value).ownBlock) (Kd.R_keptB (HO_11021001.out) hkp (fun k_ hk_ hs_ => (hk_.1.1.1) hs_)) (fun k_ hk_ => ⟨hk_.1.1.1.1, hk_.1.1.1.2.1, hk_.1.1.1.2.2, hk_.1.1.2, hk_.1.2⟩)); replace HO_11030001 := aQ (Kd.R_mono (ok' := fun k_ => some k_ ≠ (.slice Ao39 t11021.length co39 : Value).ownBlock ∧ some k_ ≠ (.slice Ao29 t11011.length co29 : Value).ownBlock ∧ some k_ ≠ (.slice Ao36 t11017.length co36 : Value).ownBlock ∧ some k_ ≠ (.slice Ao77 t11032.length co77 : Value).ownBlock ∧ some k_ ≠ (.slice Ao80 t11036.length co80 : Value).ownBlock) (Kd.R_keptB (HO_11030001.out) hkp (fun k_ hk_ hs_ => (hk_.1) hs_)) (fun k_ hk_ => ⟨hk_.1.1, hk_.1.2.1, hk_.1.2.2.1, hk_.1.2.2.2.1, hk_.1.2.2.2.2⟩)); replace BK11001 := aQ (blk_kept (by (with_reducible repeat (first | apply blk_drewN | apply blk_drew | apply blk_alloc)); exact BK11001.out) hkp (fun hs_ => (fun e_ => (Kd.R_ne HO_9.out BK11001.out (by decide)) e_) hs_)); replace BK11015 := aQ (blk_kept (by (with_reducible repeat (first | apply blk_drewN | apply blk_drew | apply blk_alloc)); exact BK11015.out) hkp (fun hs_ => (fun e_ => (Kd.R_ne HO_9.out BK11015.out (by decide)) e_) hs_)); replace BK11020 := aQ (blk_kept (by (with_reducible repeat (first | apply blk_drewN | apply blk_drew | apply blk_alloc)); exact BK11020.out) hkp (fun hs_ => (fun e_ => (Kd.R_ne HO_9.out BK11020.out (by decide)) e_) hs_)); replace BK11029 := aQ (blk_kept (by (with_reducible repeat (first | apply blk_drewN | apply blk_drew | apply blk_alloc)); exact BK11029.out) hkp (fun hs_ => (fun e_ => (Kd.R_ne HO_9.out BK11029.out (by decide)) e_) hs_)); replace HO_9 := aQ (Kd.R_reok rfl hy0 (fun k_ e_ => HO_9.out.1 k_ e_)); replace HO11034 := aQ (Kd.R_mono (ok' := fun k_ => some k_ ≠ (.slice Ao39 t11021.length co39 : Value).ownBlock ∧ some k_ ≠ (.slice Ao29 t11011.length co29 : Value).ownBlock ∧ some k_ ≠ (.slice Ao36 t11017.length co36 : Value).ownBlock ∧ some k_ ≠ (.slice Ao46 t11025.length co46 : Value).ownBlock ∧ some k_ ≠ (.slice Ao80 t11036.length co80 : Value).ownBlock) (Kd.R_keptB (HO11034.out) hkp (fun k_ hk_ hs_ => (hk_.1) hs_)) (fun k_ hk_ => ⟨hk_.1.1, hk_.1.2.1, hk_.1.2.2.1, hk_.1.2.2.2.1, hk_.1.2.2.2.2⟩)); replace HO11038 := aQ (Kd.R_mono (ok' := fun k_ => some k_ ≠ (.slice Ao39 t11021.length co39 : Value).ownBlock ∧ some k_ ≠ (.slice Ao29 t11011.length co29 : Value).ownBlock ∧ some k_ ≠ (.slice Ao36 t11017.length co36 : Value).ownBlock ∧ some k_ ≠ (.slice Ao46 t11025.length co46 : Value).ownBlock ∧ some k_ ≠ (.slice Ao77 t11032.length co77 : Value).ownBlock) (Kd.R_keptB (HO11038.out) hkp (fun k_ hk_ hs_ => (hk_.1) hs_)) (fun k_ hk_ => ⟨hk_.1.1, hk_.1.2.1, hk_.1.2.2.1, hk_.1.2.2.2.1, hk_.1.2.2.2.2⟩)); replace HB := aQ (hb); (try clear hb); (try clear hkp); (try clear hy0)))
        (try simp only [Act.put, List.setIfInBounds_toArray, List.set_cons_zero, List.set_cons_succ])
        go_cut [80] (fun v80 wc => ∃ (kq : Nat) (x80_73 : Bool), v80 = .bool x80_73 ∧ Aside0 (laws_FnExactExtend.j1 kq l1 t11014 x80_73 a0_0 l0_1 t11010 t11011 t11024 t11025 = some true) ∧ Aside0 (kq ≤ kj15) ∧ Aside0 (Kd.R (Kd.int .i64) 3 wc w.heap.size (fun k_ => some k_ ≠ ((.slice Ao36 t11017.length co36) : Value).ownBlock ∧ some k_ ≠ ((.slice Ao46 t11025.length co46) : Value).ownBlock) (.slice Ao29 t11011.length co29) t11011) ∧ Aside0 (Kd.R (Kd.int .i64) 3 wc w.heap.size (fun k_ => some k_ ≠ ((.slice Ao29 t11011.length co29) : Value).ownBlock ∧ some k_ ≠ ((.slice Ao46 t11025.length co46) : Value).ownBlock) (.slice Ao36 t11017.length co36) t11041) ∧ Aside0 (Kd.R (Kd.int .i64) 3 wc w.heap.size (fun k_ => some k_ ≠ ((.slice Ao29 t11011.length co29) : Value).ownBlock ∧ some k_ ≠ ((.slice Ao36 t11017.length co36) : Value).ownBlock) (.slice Ao46 t11025.length co46) t11025) ∧ Aside0 (wc.heap[gb11001]? = some (.cells #[.int .i64 a0_0, (.slice A0_1 l0_1.length c0_1)] 24 (0, 0))) ∧ Aside0 (wc.heap[gb11015]? = some (.cells #[.int .i64 t11010, (.slice Ao29 t11011.length co29)] 26 (0, 0))) ∧ Aside0 (wc.heap[gb11020]? = some (.cells #[.int .i64 t11016, (.slice Ao36 t11017.length co36)] 26 (0, 0))) ∧ Aside0 (wc.heap[gb11029]? = some (.cells #[.int .i64 t11024, (.slice Ao46 t11025.length co46)] 26 (0, 0))) ∧ Aside0 (Below w.heap.size w wc))
        case first =>
         have H := HC74.out
         clear HC74
         by_cases c87 : t11042 < 0
         ·rw [if_pos c87] at H
          have c87b0 : decide (t11042 < 0) = true := decide_eq_true c87
          clear c87
          (first | rw [c87b0] | (simp only [i64_w, i32_w]; rw [c87b0]) | skip)
          have H' := aQ H
          clear H
          go_wp2
          go_meet
          case rel => exact ⟨_, (true), rs_, H', ⟨by have := HJ15.out; first | omega | exact Nat.le_refl _⟩, ⟨by (with_reducible repeat (first | apply Kd.R_alloc | apply Kd.R_drewN | apply Kd.R_drew)); exact Kd.R_mono HO_11016001.out (fun _ hk => ⟨hk.2.1, hk.2.2.1⟩)⟩, ⟨by (with_reducible repeat (first | apply Kd.R_alloc | apply Kd.R_drewN | apply Kd.R_drew)); exact Kd.R_mono HO_11021001.out (fun _ hk => ⟨hk.2.1, hk.2.2.1⟩)⟩, ⟨by (with_reducible repeat (first | apply Kd.R_alloc | apply Kd.R_drewN | apply Kd.R_drew)); exact Kd.R_mono HO_11030001.out (fun _ hk => ⟨hk.2.1, hk.2.2.1⟩)⟩, ⟨pk BK11001.out⟩, ⟨pk BK11015.out⟩, ⟨pk BK11020.out⟩, ⟨pk BK11029.out⟩, ⟨pB4 HB.out GE11001.out GE11015.out GE11020.out GE11029.out⟩⟩
         ·rw [if_neg c87] at H
          have c87b0 : decide (t11042 < 0) = false := decide_eq_false c87
          clear c87
          (first | rw [c87b0] | (simp only [i64_w, i32_w]; rw [c87b0]) | skip)
          replace H := Option.bind_eq_some_iff.mp H
          obtain ⟨t11044, A880, H⟩ := H
          replace H : (if t11044 = true then (laws_FnExactExtend.j1 kj15 l1 t11014 (t11028 != t11014) a0_0 l0_1 t11010 t11011 t11024 t11025) else (laws_FnExactExtend.j1 kj15 l1 t11014 true a0_0 l0_1 t11010 t11011 t11024 t11025)) = some true := H
          have A88 := aQ A880
          clear A880
          by_cases c89 : t11044 = true
          ·subst c89
           have H1 : (laws_FnExactExtend.j1 kj15 l1 t11014 (t11028 != t11014) a0_0 l0_1 t11010 t11011 t11024 t11025) = some true := by rw [if_pos rfl] at H; exact H
           clear H
           have H := H1
           clear H1
           have H' := aQ H
           clear H
           have hnb90 := NB11029_11001.out
           have hnc90 := NB11001_11029.out
           have hnb91 := NB11029_11015.out
           have hnc91 := NB11015_11029.out
           have hnb92 := NB11029_11020.out
           have hnc92 := NB11020_11029.out
           have hcz93_0 := bc (v := (.int .i64 t11024)) BK11029.out 0
           have hcz93_1 := bc (v := (.slice Ao46 t11025.length co46)) BK11029.out 1
           have hfz93_0 := blk_frozen BK11029.out 0
           have hfz93_1 := blk_frozen BK11029.out 1
           have hnb94 := NB11015_11001.out
           have hnc94 := NB11001_11015.out
           have hnb95 := NB11015_11020.out
           have hnc95 := NB11020_11015.out
           have hcz96_0 := bc (v := (.int .i64 t11010)) BK11015.out 0
           have hcz96_1 := bc (v := (.slice Ao29 t11011.length co29)) BK11015.out 1
           have hfz96_0 := blk_frozen BK11015.out 0
           have hfz96_1 := blk_frozen BK11015.out 1
           go_wp2_with (first | (go_at_call 20; (with_reducible refine (laws_eqMatroid.calls kj15 t11024 _ _ t11025 t11010 _ _ t11011 true _ ?side1 ?side2 ?side3 ?side4 A88.out).mono ?_); (case side1 => repeat (first | exact (Kd.R_reads' HO_11030001.out).2.2 | (with_reducible refine Kd.C_alloc ?_ _) | (with_reducible refine Kd.C_drewN ?_ _) | (with_reducible refine Kd.C_drew ?_))); (case side2 => exact (Kd.R_reads' HO_11030001.out).2.1); (case side3 => repeat (first | exact (Kd.R_reads' HO_11016001.out).2.2 | (with_reducible refine Kd.C_alloc ?_ _) | (with_reducible refine Kd.C_drewN ?_ _) | (with_reducible refine Kd.C_drew ?_))); (case side4 => exact (Kd.R_reads' HO_11016001.out).2.1); rintro e w97 ⟨rfl, hb⟩; replace HO_9 := aQ (Kd.R_below (pR HO_9.out) hb); replace HO_11016001 := aQ (Kd.R_below (pR HO_11016001.out) hb); replace HO_11021001 := aQ (Kd.R_below (pR HO_11021001.out) hb); replace HO_11030001 := aQ (Kd.R_below (pR HO_11030001.out) hb); replace HO11034 := aQ (Kd.R_below (pR HO11034.out) hb); replace HO11038 := aQ (Kd.R_below (pR HO11038.out) hb); replace BK11001 := aQ (blk_below (g := gb11001) (o := .cells #[.int .i64 a0_0, .slice A0_1 l0_1.length c0_1] 24 (0, 0)) (pk BK11001.out) hb); replace BK11015 := aQ (blk_below (g := gb11015) (o := .cells #[.int .i64 t11010, .slice Ao29 t11011.length co29] 26 (0, 0)) (pk BK11015.out) hb); replace BK11020 := aQ (blk_below (g := gb11020) (o := .cells #[.int .i64 t11016, .slice Ao36 t11017.length co36] 26 (0, 0)) (pk BK11020.out) hb); replace BK11029 := aQ (blk_below (g := gb11029) (o := .cells #[.int .i64 t11024, .slice Ao46 t11025.length co46] 26 (0, 0)) (pk BK11029.out) hb); replace HB := aQ (below_step (pB4 HB.out GE11001.out GE11015.out GE11020.out GE11029.out) hb); (try clear hb)))
           go_meet
           case rel => exact ⟨_, ((t11028 != t11014)), rs_, H', ⟨by have := HJ15.out; first | omega | exact Nat.le_refl _⟩, ⟨by (with_reducible repeat (first | apply Kd.R_alloc | apply Kd.R_drewN | apply Kd.R_drew)); exact Kd.R_mono HO_11016001.out (fun _ hk => ⟨hk.2.1, hk.2.2.1⟩)⟩, ⟨by (with_reducible repeat (first | apply Kd.R_alloc | apply Kd.R_drewN | apply Kd.R_drew)); exact Kd.R_mono HO_11021001.out (fun _ hk => ⟨hk.2.1, hk.2.2.1⟩)⟩, ⟨by (with_reducible repeat (first | apply Kd.R_alloc | apply Kd.R_drewN | apply Kd.R_drew)); exact Kd.R_mono HO_11030001.out (fun _ hk => ⟨hk.2.1, hk.2.2.1⟩)⟩, ⟨pk BK11001.out⟩, ⟨pk BK11015.out⟩, ⟨pk BK11020.out⟩, ⟨pk BK11029.out⟩, ⟨pB4 HB.out GE11001.out GE11015.out GE11020.out GE11029.out⟩⟩
          ·replace c89 := Bool.eq_false_iff.mpr c89
           subst c89
           have H1 : (laws_FnExactExtend.j1 kj15 l1 t11014 true a0_0 l0_1 t11010 t11011 t11024 t11025) = some true := by rw [if_neg (show ¬ (false = true) by decide)] at H; exact H
           clear H
           have H := H1
           clear H1
           have H' := aQ H
           clear H
           have hnb98 := NB11029_11001.out
           have hnc98 := NB11001_11029.out
           have hnb99 := NB11029_11015.out
           have hnc99 := NB11015_11029.out
           have hnb100 := NB11029_11020.out
           have hnc100 := NB11020_11029.out
           have hcz101_0 := bc (v := (.int .i64 t11024)) BK11029.out 0
           have hcz101_1 := bc (v := (.slice Ao46 t11025.length co46)) BK11029.out 1
           have hfz101_0 := blk_frozen BK11029.out 0
           have hfz101_1 := blk_frozen BK11029.out 1
           have hnb102 := NB11015_11001.out
           have hnc102 := NB11001_11015.out
           have hnb103 := NB11015_11020.out
           have hnc103 := NB11020_11015.out
           have hcz104_0 := bc (v := (.int .i64 t11010)) BK11015.out 0
           have hcz104_1 := bc (v := (.slice Ao29 t11011.length co29)) BK11015.out 1
           have hfz104_0 := blk_frozen BK11015.out 0
           have hfz104_1 := blk_frozen BK11015.out 1
           go_wp2_with (first | (go_at_call 20; (with_reducible refine (laws_eqMatroid.calls kj15 t11024 _ _ t11025 t11010 _ _ t11011 false _ ?side1 ?side2 ?side3 ?side4 A88.out).mono ?_); (case side1 => repeat (first | exact (Kd.R_reads' HO_11030001.out).2.2 | (with_reducible refine Kd.C_alloc ?_ _) | (with_reducible refine Kd.C_drewN ?_ _) | (with_reducible refine Kd.C_drew ?_))); (case side2 => exact (Kd.R_reads' HO_11030001.out).2.1); (case side3 => repeat (first | exact (Kd.R_reads' HO_11016001.out).2.2 | (with_reducible refine Kd.C_alloc ?_ _) | (with_reducible refine Kd.C_drewN ?_ _) | (with_reducible refine Kd.C_drew ?_))); (case side4 => exact (Kd.R_reads' HO_11016001.out).2.1); rintro e w105 ⟨rfl, hb⟩; replace HO_9 := aQ (Kd.R_below (pR HO_9.out) hb); replace HO_11016001 := aQ (Kd.R_below (pR HO_11016001.out) hb); replace HO_11021001 := aQ (Kd.R_below (pR HO_11021001.out) hb); replace HO_11030001 := aQ (Kd.R_below (pR HO_11030001.out) hb); replace HO11034 := aQ (Kd.R_below (pR HO11034.out) hb); replace HO11038 := aQ (Kd.R_below (pR HO11038.out) hb); replace BK11001 := aQ (blk_below (g := gb11001) (o := .cells #[.int .i64 a0_0, .slice A0_1 l0_1.length c0_1] 24 (0, 0)) (pk BK11001.out) hb); replace BK11015 := aQ (blk_below (g := gb11015) (o := .cells #[.int .i64 t11010, .slice Ao29 t11011.length co29] 26 (0, 0)) (pk BK11015.out) hb); replace BK11020 := aQ (blk_below (g := gb11020) (o := .cells #[.int .i64 t11016, .slice Ao36 t11017.length co36] 26 (0, 0)) (pk BK11020.out) hb); replace BK11029 := aQ (blk_below (g := gb11029) (o := .cells #[.int .i64 t11024, .slice Ao46 t11025.length co46] 26 (0, 0)) (pk BK11029.out) hb); replace HB := aQ (below_step (pB4 HB.out GE11001.out GE11015.out GE11020.out GE11029.out) hb); (try clear hb)))
           go_meet
           case rel => exact ⟨_, (true), rs_, H', ⟨by have := HJ15.out; first | omega | exact Nat.le_refl _⟩, ⟨by (with_reducible repeat (first | apply Kd.R_alloc | apply Kd.R_drewN | apply Kd.R_drew)); exact Kd.R_mono HO_11016001.out (fun _ hk => ⟨hk.2.1, hk.2.2.1⟩)⟩, ⟨by (with_reducible repeat (first | apply Kd.R_alloc | apply Kd.R_drewN | apply Kd.R_drew)); exact Kd.R_mono HO_11021001.out (fun _ hk => ⟨hk.2.1, hk.2.2.1⟩)⟩, ⟨by (with_reducible repeat (first | apply Kd.R_alloc | apply Kd.R_drewN | apply Kd.R_drew)); exact Kd.R_mono HO_11030001.out (fun _ hk => ⟨hk.2.1, hk.2.2.1⟩)⟩, ⟨pk BK11001.out⟩, ⟨pk BK11015.out⟩, ⟨pk BK11020.out⟩, ⟨pk BK11029.out⟩, ⟨pB4 HB.out GE11001.out GE11015.out GE11020.out GE11029.out⟩⟩
        case rest =>
         clear HC74
         try clear c1
         try clear c2
         try clear p2
         try clear c3
         try clear c3b0
         try clear c3b1
         try clear c4
         try clear c5
         try clear c6
         try clear c6b0
         try clear c7
         try clear c8
         try clear c9
         try clear c10
         try clear c16
         try clear c18
         try clear c20
         try clear c21
         try clear c25
         try clear c26
         try clear c27
         try clear c31
         try clear c33
         try clear c34
         try clear c39
         try clear c40
         try clear c42
         try clear c43
         try clear c44
         try clear c48
         try clear c49
         try clear c50
         try clear c51
         try clear c53
         try clear c54
         try clear c57
         try clear c58
         try clear c59
         try clear c61
         try clear c62
         try clear c65
         try clear c68
         try clear c71
         try clear c81
         try clear c82
         try clear c83
         try clear c87
         try clear c87b0
         try clear c89
         try clear c90
         try clear c91
         try clear c92
         try clear c94
         try clear c95
         try clear c98
         try clear c99
         try clear c100
         try clear c102
         try clear c103
         try clear hcz101_0
         try clear hcz101_1
         try clear hcz104_0
         try clear hcz104_1
         try clear hcz18_0
         try clear hcz18_1
         try clear hcz20_0
         try clear hcz20_1
         try clear hcz28_0
         try clear hcz28_1
         try clear hcz30_0
         try clear hcz30_1
         try clear hcz35_0
         try clear hcz35_1
         try clear hcz38_0
         try clear hcz38_1
         try clear hcz45_0
         try clear hcz45_1
         try clear hcz52_0
         try clear hcz52_1
         try clear hcz55_0
         try clear hcz55_1
         try clear hcz60_0
         try clear hcz60_1
         try clear hcz63_0
         try clear hcz63_1
         try clear hcz84_0
         try clear hcz84_1
         try clear hcz8_0
         try clear hcz8_1
         try clear hcz93_0
         try clear hcz93_1
         try clear hcz96_0
         try clear hcz96_1
         try clear hfz101_0
         try clear hfz101_1
         try clear hfz104_0
         try clear hfz104_1
         try clear hfz18_0
         try clear hfz18_1
         try clear hfz20_0
         try clear hfz20_1
         try clear hfz28_0
         try clear hfz28_1
         try clear hfz30_0
         try clear hfz30_1
         try clear hfz35_0
         try clear hfz35_1
         try clear hfz38_0
         try clear hfz38_1
         try clear hfz45_0
         try clear hfz45_1
         try clear hfz52_0
         try clear hfz52_1
         try clear hfz55_0
         try clear hfz55_1
         try clear hfz60_0
         try clear hfz60_1
         try clear hfz63_0
         try clear hfz63_1
         try clear hfz84_0
         try clear hfz84_1
         try clear hfz8_0
         try clear hfz8_1
         try clear hfz93_0
         try clear hfz93_1
         try clear hfz96_0
         try clear hfz96_1
         try clear p2
         obtain ⟨kq, x80_73, rfl, HA, HJ73, HO_11016001, HO_11021001, HO_11030001, BK11001, BK11015, BK11020, BK11029, HB⟩ := hcut
         have hl11021001_73 := (Kd.R_reads' HO_11021001.out).1
         rw [hl11021001_73] at HO_11021001
         (try simp only [hl11021001_73])
         (try simp only [hl11021001_73] at BK11001)
         (try simp only [hl11021001_73] at BK11015)
         (try simp only [hl11021001_73] at BK11020)
         (try simp only [hl11021001_73] at BK11029)
         (try simp only [hl11021001_73] at HO_11016001)
         (try simp only [hl11021001_73] at HO_11030001)
         cases kq with
         | zero => exact absurd HA.out (by simp [laws_FnExactExtend.j1])
         | succ kj73 =>
          have H := HA.out
          clear HA
          simp only [laws_FnExactExtend.j1] at H
          by_cases c106 : x80_73 = true
          ·subst c106
           have H1 : (some false) = some true := by rw [if_pos rfl] at H; exact H
           clear H
           have H := H1
           clear H1
           exact absurd (Option.some.inj H) (by decide)
          ·replace c106 := Bool.eq_false_iff.mpr c106
           subst c106
           have H1 : ((laws_markMatroid.f kj73 t11024 t11025 1).bind fun bt11045 => ((laws_heldMatroid.f kj73 t11024 bt11045.2 1).bind fun t11047 => (if t11047 < 0 then (some false) else (if t11047 = bt11045.1 then ((laws_toMatroid.f kj73 a0_0 l0_1).bind fun bt11048 => ((laws_toIntS.f kj73 l1).bind fun t11052 => ((impl_Extend.f kj73 bt11048.1 bt11048.2 t11052).bind fun bt11055 => ((laws_eqMatroid.f kj73 bt11055.1 bt11055.2.1 t11010 t11011).bind fun t11061 => (if t11061 = true then (laws_FnExactExtend.j2 kj73 bt11045.1 (bt11055.2.2 != t11014) t11024 bt11045.2) else (laws_FnExactExtend.j2 kj73 bt11045.1 true t11024 bt11045.2)))))) else (some false))))) = some true := by rw [if_neg (show ¬ (false = true) by decide)] at H; exact H
           clear H
           have H := H1
           clear H1
           replace H := Option.bind_eq_some_iff.mp H
           obtain ⟨⟨t11045, t11046⟩, A1070, H⟩ := H
           replace H : ((laws_heldMatroid.f kj73 t11024 t11046 1).bind fun t11047 => (if t11047 < 0 then (some false) else (if t11047 = t11045 then ((laws_toMatroid.f kj73 a0_0 l0_1).bind fun bt11048 => ((laws_toIntS.f kj73 l1).bind fun t11052 => ((impl_Extend.f kj73 bt11048.1 bt11048.2 t11052).bind fun bt11055 => ((laws_eqMatroid.f kj73 bt11055.1 bt11055.2.1 t11010 t11011).bind fun t11061 => (if t11061 = true then (laws_FnExactExtend.j2 kj73 t11045 (bt11055.2.2 != t11014) t11024 t11046) else (laws_FnExactExtend.j2 kj73 t11045 true t11024 t11046)))))) else (some false)))) = some true := H
           have A107 := aQ A1070
           clear A1070
           replace H := Option.bind_eq_some_iff.mp H
           obtain ⟨t11047, A1080, H⟩ := H
           replace H : (if t11047 < 0 then (some false) else (if t11047 = t11045 then ((laws_toMatroid.f kj73 a0_0 l0_1).bind fun bt11048 => ((laws_toIntS.f kj73 l1).bind fun t11052 => ((impl_Extend.f kj73 bt11048.1 bt11048.2 t11052).bind fun bt11055 => ((laws_eqMatroid.f kj73 bt11055.1 bt11055.2.1 t11010 t11011).bind fun t11061 => (if t11061 = true then (laws_FnExactExtend.j2 kj73 t11045 (bt11055.2.2 != t11014) t11024 t11046) else (laws_FnExactExtend.j2 kj73 t11045 true t11024 t11046)))))) else (some false))) = some true := H
           have A108 := aQ A1080
           clear A1080
           by_cases c109 : t11047 < 0
           ·rw [if_pos c109] at H
            have c109b0 : decide (t11047 < 0) = true := decide_eq_true c109
            clear c109
            exact absurd (Option.some.inj H) (by decide)
           ·rw [if_neg c109] at H
            have c109b0 : decide (t11047 < 0) = false := decide_eq_false c109
            clear c109
            by_cases c117 : t11047 = t11045
            ·rw [if_pos c117] at H
             have c117b0 : (t11047 == t11045) = true := beq_iff_eq.mpr c117
             have c117b1 : (t11047 != t11045) = false := bne_eq_false_iff_eq.mpr c117
             clear c117
             replace H := Option.bind_eq_some_iff.mp H
             obtain ⟨⟨t11048, t11049⟩, A1180, H⟩ := H
             replace H : ((laws_toIntS.f kj73 l1).bind fun t11052 => ((impl_Extend.f kj73 t11048 t11049 t11052).bind fun bt11055 => ((laws_eqMatroid.f kj73 bt11055.1 bt11055.2.1 t11010 t11011).bind fun t11061 => (if t11061 = true then (laws_FnExactExtend.j2 kj73 t11045 (bt11055.2.2 != t11014) t11024 t11046) else (laws_FnExactExtend.j2 kj73 t11045 true t11024 t11046))))) = some true := H
             have A118 := aQ A1180
             clear A1180
             replace H := Option.bind_eq_some_iff.mp H
             obtain ⟨t11052, A1190, H⟩ := H
             replace H : ((impl_Extend.f kj73 t11048 t11049 t11052).bind fun bt11055 => ((laws_eqMatroid.f kj73 bt11055.1 bt11055.2.1 t11010 t11011).bind fun t11061 => (if t11061 = true then (laws_FnExactExtend.j2 kj73 t11045 (bt11055.2.2 != t11014) t11024 t11046) else (laws_FnExactExtend.j2 kj73 t11045 true t11024 t11046)))) = some true := H
             have A119 := aQ A1190
             clear A1190
             replace H := Option.bind_eq_some_iff.mp H
             obtain ⟨⟨t11055, t11056, t11059⟩, A1200, H⟩ := H
             replace H : ((laws_eqMatroid.f kj73 t11055 t11056 t11010 t11011).bind fun t11061 => (if t11061 = true then (laws_FnExactExtend.j2 kj73 t11045 (t11059 != t11014) t11024 t11046) else (laws_FnExactExtend.j2 kj73 t11045 true t11024 t11046))) = some true := H
             have A120 := aQ A1200
             clear A1200
             have HC121 := aQ H
             clear H
             have hnb122 := NB11029_11001.out
             have hnc122 := NB11001_11029.out
             have hnb123 := NB11029_11015.out
             have hnc123 := NB11015_11029.out
             have hnb124 := NB11029_11020.out
             have hnc124 := NB11020_11029.out
             have hcz125_0 := bc (v := (.int .i64 t11024)) BK11029.out 0
             have hcz125_1 := bc (v := (.slice Ao46 t11025.length co46)) BK11029.out 1
             have hfz125_0 := blk_frozen BK11029.out 0
             have hfz125_1 := blk_frozen BK11029.out 1
             go_upto_region 31 with (first | ((with_reducible refine gate_callee (f := 21) rfl ?_); refine goesL_ (some 83) rfl rfl Try.func21 (by kernel_rfl) rfl #[.agg #[.int .i64 t11024, .slice Ao46 t11025.length co46], .int .i64 1] rfl lm ?_; (with_reducible refine (laws_markMatroid.calls kj73 t11024 (fun k_ => some k_ = (.slice Ao46 t11025.length co46 : Value).ownBlock) (.slice Ao46 t11025.length co46) t11025 1 t11045 t11046 w _ ?side1 ?side2 A107.out).mono ?_); (case side1 => repeat (first | (with_reducible first | exact HB.out | apply below_alloc | apply pw_below_drewN | apply below_drew1 | refine below_set ?_ GE11001.out | refine below_set ?_ GE11015.out | refine below_set ?_ GE11020.out | refine below_set ?_ GE11029.out) | exact HB.out)); (case side2 => exact Kd.R_tight rfl HO_11030001.out); rintro e w126 ⟨rfl, hy0, hb, hkp⟩; refine ⟨_, rfl, ?_⟩; replace HO_11016001 := aQ (Kd.R_mono (ok' := fun k_ => some k_ ≠ (.slice Ao36 t11041.length co36 : Value).ownBlock ∧ some k_ ≠ (.slice Ao46 t11025.length co46 : Value).ownBlock) (Kd.R_keptB (HO_11016001.out) hkp (fun k_ hk_ hs_ => (hk_.2) hs_)) (fun k_ hk_ => ⟨hk_.1.1, hk_.1.2⟩)); replace HO_11021001 := aQ (Kd.R_mono (ok' := fun k_ => some k_ ≠ (.slice Ao29 t11011.length co29 : Value).ownBlock ∧ some k_ ≠ (.slice Ao46 t11025.length co46 : Value).ownBlock) (Kd.R_keptB (HO_11021001.out) hkp (fun k_ hk_ hs_ => (hk_.2) hs_)) (fun k_ hk_ => ⟨hk_.1.1, hk_.1.2⟩)); replace BK11001 := aQ (blk_kept (by (with_reducible repeat (first | apply blk_drewN | apply blk_drew | apply blk_alloc)); exact BK11001.out) hkp (fun hs_ => (fun e_ => (Kd.R_ne HO_11030001.out BK11001.out (by decide)) e_) hs_)); replace BK11015 := aQ (blk_kept (by (with_reducible repeat (first | apply blk_drewN | apply blk_drew | apply blk_alloc)); exact BK11015.out) hkp (fun hs_ => (fun e_ => (Kd.R_ne HO_11030001.out BK11015.out (by decide)) e_) hs_)); replace BK11020 := aQ (blk_kept (by (with_reducible repeat (first | apply blk_drewN | apply blk_drew | apply blk_alloc)); exact BK11020.out) hkp (fun hs_ => (fun e_ => (Kd.R_ne HO_11030001.out BK11020.out (by decide)) e_) hs_)); replace BK11029 := aQ (blk_kept (by (with_reducible repeat (first | apply blk_drewN | apply blk_drew | apply blk_alloc)); exact BK11029.out) hkp (fun hs_ => (fun e_ => (Kd.R_ne HO_11030001.out BK11029.out (by decide)) e_) hs_)); replace HO_11030001 := aQ (Kd.R_reok rfl hy0 (fun k_ e_ => HO_11030001.out.1 k_ e_)); replace HB := aQ (hb); (try clear hb); (try clear hkp); (try clear hy0); have hcz127_0 := bc (v := (.int .i64 t11024)) BK11029.out 0; have hcz127_1 := bc (v := (.slice Ao46 t11025.length co46)) BK11029.out 1; have hfz127_0 := blk_frozen BK11029.out 0; have hfz127_1 := blk_frozen BK11029.out 1) | ((with_reducible refine gate_callee (f := 22) rfl ?_); refine goesL_ (some 86) rfl rfl Try.func22 (by kernel_rfl) rfl #[.agg #[.int .i64 t11024, .slice Ao46 t11046.length co46], .int .i64 1] rfl (by (try simp only [List.map_toArray, List.map_cons, List.map_nil]); first | done | (rw [show t11046.length = t11025.length from (Kd.R_reads' HO_11030001.out).1.symm] <;> rfl) | rfl | (simp only [List.length_drop, List.length_take]; rfl)) ?_; (with_reducible refine (laws_heldMatroid.calls kj73 t11024 _ _ t11046 1 t11047 _ ?side1 ?side2 A108.out).mono ?_); (case side1 => repeat (first | exact (Kd.R_reads' HO_11030001.out).2.2 | (with_reducible refine Kd.C_alloc ?_ _) | (with_reducible refine Kd.C_drewN ?_ _) | (with_reducible refine Kd.C_drew ?_))); (case side2 => rw [show t11046.length = t11025.length from (Kd.R_reads' HO_11030001.out).1.symm]; exact (Kd.R_reads' HO_11030001.out).2.1); rintro e w128 ⟨rfl, hb⟩; refine ⟨_, rfl, ?_⟩; replace HO_11016001 := aQ (Kd.R_below (pR HO_11016001.out) hb); replace HO_11021001 := aQ (Kd.R_below (pR HO_11021001.out) hb); replace HO_11030001 := aQ (Kd.R_below (pR HO_11030001.out) hb); replace BK11001 := aQ (blk_below (g := gb11001) (o := .cells #[.int .i64 a0_0, .slice A0_1 l0_1.length c0_1] 24 (0, 0)) (pk BK11001.out) hb); replace BK11015 := aQ (blk_below (g := gb11015) (o := .cells #[.int .i64 t11010, .slice Ao29 t11011.length co29] 26 (0, 0)) (pk BK11015.out) hb); replace BK11020 := aQ (blk_below (g := gb11020) (o := .cells #[.int .i64 t11016, .slice Ao36 t11041.length co36] 26 (0, 0)) (pk BK11020.out) hb); replace BK11029 := aQ (blk_below (g := gb11029) (o := .cells #[.int .i64 t11024, .slice Ao46 t11025.length co46] 26 (0, 0)) (pk BK11029.out) hb); replace HB := aQ (below_step (pB4 HB.out GE11001.out GE11015.out GE11020.out GE11029.out) hb); (try clear hb); have hnb129 := NB11001_11015.out; have hnc129 := NB11015_11001.out; have hnb130 := NB11001_11020.out; have hnc130 := NB11020_11001.out; have hcz131_0 := bc (v := (.int .i64 a0_0)) BK11001.out 0; have hcz131_1 := bc (v := (.slice A0_1 l0_1.length c0_1)) BK11001.out 1; have hfz131_0 := blk_frozen BK11001.out 0; have hfz131_1 := blk_frozen BK11001.out 1) | ((with_reducible refine gate_callee (f := 18) rfl ?_); refine goesL_ (some 94) rfl rfl Try.func18 (by kernel_rfl) rfl #[.agg #[.int .i64 a0_0, .slice A0_1 l0_1.length c0_1]] rfl lm ?_; (with_reducible refine (laws_toMatroid.calls kj73 a0_0 _ _ l0_1 t11048 t11049 _ ?side1 ?side2 A118.out).mono ?_); (case side1 => exact pC (Kd.C_below HR0_1.out HB.out)); (case side2 => exact HC0_1.out); rintro e w132 ⟨v11050, rfl, ho0, hb⟩; refine ⟨_, rfl, ?_⟩; have HO11051 := aQ (Kd.R_lower (Kd.R_new' (Kd.R_new' (Kd.R_new' ho0 (Kd.R_lt (pR HO_11016001.out))) (Kd.R_lt (pR HO_11021001.out))) (Kd.R_lt (pR HO_11030001.out))) (below_size (pB4 HB.out GE11001.out GE11015.out GE11020.out GE11029.out))); replace HO_11016001 := aQ (Kd.R_elder' (pR HO_11016001.out) (Kd.R_base ho0) hb); replace HO_11021001 := aQ (Kd.R_elder' (pR HO_11021001.out) (Kd.R_base ho0) hb); replace HO_11030001 := aQ (Kd.R_elder' (pR HO_11030001.out) (Kd.R_base ho0) hb); replace BK11001 := aQ (blk_below (g := gb11001) (o := .cells #[.int .i64 a0_0, .slice A0_1 l0_1.length c0_1] 24 (0, 0)) (pk BK11001.out) hb); replace BK11015 := aQ (blk_below (g := gb11015) (o := .cells #[.int .i64 t11010, .slice Ao29 t11011.length co29] 26 (0, 0)) (pk BK11015.out) hb); replace BK11020 := aQ (blk_below (g := gb11020) (o := .cells #[.int .i64 t11016, .slice Ao36 t11041.length co36] 26 (0, 0)) (pk BK11020.out) hb); replace BK11029 := aQ (blk_below (g := gb11029) (o := .cells #[.int .i64 t11024, .slice Ao46 t11025.length co46] 26 (0, 0)) (pk BK11029.out) hb); replace HB := aQ (below_step (pB4 HB.out GE11001.out GE11015.out GE11020.out GE11029.out) hb); (try clear hb); (try clear ho0)) | ((with_reducible refine gate_callee (f := 31) rfl ?_); refine goesL_ (some 96) rfl rfl Try.func31 (by kernel_rfl) rfl #[.slice A1 l1.length c1] rfl lm ?_; (with_reducible refine (laws_toIntS.calls kj73 _ _ l1 t11052 _ ?side1 ?side2 A119.out).mono ?_); (case side1 => exact pC (Kd.C_below HR1.out HB.out)); (case side2 => exact HC1.out); rintro e w133 ⟨v11053, rfl, ho0, hb⟩; refine ⟨_, rfl, ?_⟩; have HO11054 := aQ (Kd.R_lower (Kd.R_new' (Kd.R_new' (Kd.R_new' (Kd.R_new' ho0 (Kd.R_lt (pR HO_11016001.out))) (Kd.R_lt (pR HO_11021001.out))) (Kd.R_lt (pR HO_11030001.out))) (Kd.R_lt (pR HO11051.out))) (below_size (pB4 HB.out GE11001.out GE11015.out GE11020.out GE11029.out))); replace HO_11016001 := aQ (Kd.R_elder' (pR HO_11016001.out) (Kd.R_base ho0) hb); replace HO_11021001 := aQ (Kd.R_elder' (pR HO_11021001.out) (Kd.R_base ho0) hb); replace HO_11030001 := aQ (Kd.R_elder' (pR HO_11030001.out) (Kd.R_base ho0) hb); replace HO11051 := aQ (Kd.R_elder' (pR HO11051.out) (Kd.R_base ho0) hb); replace BK11001 := aQ (blk_below (g := gb11001) (o := .cells #[.int .i64 a0_0, .slice A0_1 l0_1.length c0_1] 24 (0, 0)) (pk BK11001.out) hb); replace BK11015 := aQ (blk_below (g := gb11015) (o := .cells #[.int .i64 t11010, .slice Ao29 t11011.length co29] 26 (0, 0)) (pk BK11015.out) hb); replace BK11020 := aQ (blk_below (g := gb11020) (o := .cells #[.int .i64 t11016, .slice Ao36 t11041.length co36] 26 (0, 0)) (pk BK11020.out) hb); replace BK11029 := aQ (blk_below (g := gb11029) (o := .cells #[.int .i64 t11024, .slice Ao46 t11025.length co46] 26 (0, 0)) (pk BK11029.out) hb); replace HB := aQ (below_step (pB4 HB.out GE11001.out GE11015.out GE11020.out GE11029.out) hb); (try clear hb); (try clear ho0); obtain ⟨Ao134, co134, eo134⟩ := Kd.R_slice HO11051.out; subst eo134; obtain ⟨Ao135, co135, eo135⟩ := Kd.R_slice HO11054.out; subst eo135) | ((with_reducible refine gate_callee (f := 40) rfl ?_); refine goesL_ (some 97) rfl rfl Try.func40 (by kernel_rfl) rfl #[.agg #[.int .i64 t11048, .slice Ao134 t11049.length co134], .slice Ao135 t11052.length co135] rfl lm ?_; (with_reducible refine (impl_Extend.calls kj73 t11048 _ _ t11049 _ _ t11052 t11055 t11056 t11059 _ ?side1 ?side2 ?side3 ?side4 A120.out).mono ?_); (case side1 => repeat (first | exact (Kd.R_reads' HO11051.out).2.2 | (with_reducible refine Kd.C_alloc ?_ _) | (with_reducible refine Kd.C_drewN ?_ _) | (with_reducible refine Kd.C_drew ?_))); (case side2 => exact (Kd.R_reads' HO11051.out).2.1); (case side3 => repeat (first | exact (Kd.R_reads' HO11054.out).2.2 | (with_reducible refine Kd.C_alloc ?_ _) | (with_reducible refine Kd.C_drewN ?_ _) | (with_reducible refine Kd.C_drew ?_))); (case side4 => exact (Kd.R_reads' HO11054.out).2.1); rintro e w136 ⟨v11057, rfl, ho0, hb⟩; refine ⟨_, rfl, ?_⟩; have HO11058 := aQ (Kd.R_lower (Kd.R_new' (Kd.R_new' (Kd.R_new' (Kd.R_new' (Kd.R_new' ho0 (Kd.R_lt (pR HO_11016001.out))) (Kd.R_lt (pR HO_11021001.out))) (Kd.R_lt (pR HO_11030001.out))) (Kd.R_lt (pR HO11051.out))) (Kd.R_lt (pR HO11054.out))) (below_size (pB4 HB.out GE11001.out GE11015.out GE11020.out GE11029.out))); replace HO_11016001 := aQ (Kd.R_elder' (pR HO_11016001.out) (Kd.R_base ho0) hb); replace HO_11021001 := aQ (Kd.R_elder' (pR HO_11021001.out) (Kd.R_base ho0) hb); replace HO_11030001 := aQ (Kd.R_elder' (pR HO_11030001.out) (Kd.R_base ho0) hb); replace HO11051 := aQ (Kd.R_elder' (pR HO11051.out) (Kd.R_base ho0) hb); replace HO11054 := aQ (Kd.R_elder' (pR HO11054.out) (Kd.R_base ho0) hb); replace BK11001 := aQ (blk_below (g := gb11001) (o := .cells #[.int .i64 a0_0, .slice A0_1 l0_1.length c0_1] 24 (0, 0)) (pk BK11001.out) hb); replace BK11015 := aQ (blk_below (g := gb11015) (o := .cells #[.int .i64 t11010, .slice Ao29 t11011.length co29] 26 (0, 0)) (pk BK11015.out) hb); replace BK11020 := aQ (blk_below (g := gb11020) (o := .cells #[.int .i64 t11016, .slice Ao36 t11041.length co36] 26 (0, 0)) (pk BK11020.out) hb); replace BK11029 := aQ (blk_below (g := gb11029) (o := .cells #[.int .i64 t11024, .slice Ao46 t11025.length co46] 26 (0, 0)) (pk BK11029.out) hb); replace HB := aQ (below_step (pB4 HB.out GE11001.out GE11015.out GE11020.out GE11029.out) hb); (try clear hb); (try clear ho0)) | ((with_reducible refine gate_dst (N := 15) rfl ?_); refine box_event ?hg (N := 15) ?hd (cs := #[.int .i64 0, .slice none 0 0]) (t := 26) ?hr ?_; (case hd => rfl); (case hg => rfl); (case hr => first | (go_simp; done) | (go_simp; rfl)); intro gb11060 hg w137 hbox hb; replace HO_11016001 := aQ (Kd.R_below (pR HO_11016001.out) hb); replace HO_11021001 := aQ (Kd.R_below (pR HO_11021001.out) hb); replace HO_11030001 := aQ (Kd.R_below (pR HO_11030001.out) hb); replace HO11051 := aQ (Kd.R_below (pR HO11051.out) hb); replace HO11054 := aQ (Kd.R_below (pR HO11054.out) hb); replace HO11058 := aQ (Kd.R_below (pR HO11058.out) hb); have BK11060 := aQ (hbox); have GW11060 := aQ ((by rw [hg]; exact (below_size (pB4 HB.out GE11001.out GE11015.out GE11020.out GE11029.out)) : w.heap.size ≤ gb11060)); have GE11060 := aQ ((by rw [hg]; exact (below_size (pB4 HB.out GE11001.out GE11015.out GE11020.out GE11029.out)) : w.heap.size ≤ gb11060)); replace HB := aQ (below_step (pB4 HB.out GE11001.out GE11015.out GE11020.out GE11029.out) hb); have NB11001_11060 := aQ ((by rw [hg]; exact Nat.ne_of_lt (blk_lt (g := gb11001) (o := .cells #[.int .i64 a0_0, .slice A0_1 l0_1.length c0_1] 24 (0, 0)) (pk BK11001.out)) : gb11001 ≠ gb11060)); have NB11060_11001 := aQ ((by rw [hg]; exact Nat.ne_of_gt (blk_lt (g := gb11001) (o := .cells #[.int .i64 a0_0, .slice A0_1 l0_1.length c0_1] 24 (0, 0)) (pk BK11001.out)) : gb11060 ≠ gb11001)); replace BK11001 := aQ (blk_below (g := gb11001) (o := .cells #[.int .i64 a0_0, .slice A0_1 l0_1.length c0_1] 24 (0, 0)) (pk BK11001.out) hb); have NB11015_11060 := aQ ((by rw [hg]; exact Nat.ne_of_lt (blk_lt (g := gb11015) (o := .cells #[.int .i64 t11010, .slice Ao29 t11011.length co29] 26 (0, 0)) (pk BK11015.out)) : gb11015 ≠ gb11060)); have NB11060_11015 := aQ ((by rw [hg]; exact Nat.ne_of_gt (blk_lt (g := gb11015) (o := .cells #[.int .i64 t11010, .slice Ao29 t11011.length co29] 26 (0, 0)) (pk BK11015.out)) : gb11060 ≠ gb11015)); replace BK11015 := aQ (blk_below (g := gb11015) (o := .cells #[.int .i64 t11010, .slice Ao29 t11011.length co29] 26 (0, 0)) (pk BK11015.out) hb); have NB11020_11060 := aQ ((by rw [hg]; exact Nat.ne_of_lt (blk_lt (g := gb11020) (o := .cells #[.int .i64 t11016, .slice Ao36 t11041.length co36] 26 (0, 0)) (pk BK11020.out)) : gb11020 ≠ gb11060)); have NB11060_11020 := aQ ((by rw [hg]; exact Nat.ne_of_gt (blk_lt (g := gb11020) (o := .cells #[.int .i64 t11016, .slice Ao36 t11041.length co36] 26 (0, 0)) (pk BK11020.out)) : gb11060 ≠ gb11020)); replace BK11020 := aQ (blk_below (g := gb11020) (o := .cells #[.int .i64 t11016, .slice Ao36 t11041.length co36] 26 (0, 0)) (pk BK11020.out) hb); have NB11029_11060 := aQ ((by rw [hg]; exact Nat.ne_of_lt (blk_lt (g := gb11029) (o := .cells #[.int .i64 t11024, .slice Ao46 t11025.length co46] 26 (0, 0)) (pk BK11029.out)) : gb11029 ≠ gb11060)); have NB11060_11029 := aQ ((by rw [hg]; exact Nat.ne_of_gt (blk_lt (g := gb11029) (o := .cells #[.int .i64 t11024, .slice Ao46 t11025.length co46] 26 (0, 0)) (pk BK11029.out)) : gb11060 ≠ gb11029)); replace BK11029 := aQ (blk_below (g := gb11029) (o := .cells #[.int .i64 t11024, .slice Ao46 t11025.length co46] 26 (0, 0)) (pk BK11029.out) hb); clear hb hbox hg; have hnb138 := NB11060_11001.out; have hnc138 := NB11001_11060.out; have hnb139 := NB11060_11015.out; have hnc139 := NB11015_11060.out; have hnb140 := NB11060_11020.out; have hnc140 := NB11020_11060.out; have hnb141 := NB11060_11029.out; have hnc141 := NB11029_11060.out; have hcz142_0 := bc (v := (.int .i64 0)) BK11060.out 0; have hcz142_1 := bc (v := (.slice none 0 0)) BK11060.out 1; have hfz142_0 := blk_frozen BK11060.out 0; have hfz142_1 := blk_frozen BK11060.out 1; obtain ⟨Ao143, co143, eo143⟩ := Kd.R_slice HO11058.out; subst eo143))
             (try simp only [Act.put, List.setIfInBounds_toArray, List.set_cons_zero, List.set_cons_succ])
             go_cut [108] (fun v108 wc => ∃ (kq : Nat) (x108_120 : Bool), v108 = .bool x108_120 ∧ Aside0 (laws_FnExactExtend.j2 kq t11045 x108_120 t11024 t11046 = some true) ∧ Aside0 (kq ≤ kj73) ∧ Aside0 (Kd.R (Kd.int .i64) 3 wc w.heap.size (fun k_ => some k_ ≠ ((.slice Ao36 t11041.length co36) : Value).ownBlock ∧ some k_ ≠ ((.slice Ao46 t11025.length co46) : Value).ownBlock ∧ some k_ ≠ ((.slice Ao143 t11056.length co143) : Value).ownBlock) (.slice Ao29 t11011.length co29) t11011) ∧ Aside0 (Kd.R (Kd.int .i64) 3 wc w.heap.size (fun k_ => some k_ ≠ ((.slice Ao29 t11011.length co29) : Value).ownBlock ∧ some k_ ≠ ((.slice Ao46 t11025.length co46) : Value).ownBlock ∧ some k_ ≠ ((.slice Ao143 t11056.length co143) : Value).ownBlock) (.slice Ao36 t11041.length co36) t11041) ∧ Aside0 (Kd.R (Kd.int .i64) 3 wc w.heap.size (fun k_ => some k_ ≠ ((.slice Ao29 t11011.length co29) : Value).ownBlock ∧ some k_ ≠ ((.slice Ao36 t11041.length co36) : Value).ownBlock ∧ some k_ ≠ ((.slice Ao143 t11056.length co143) : Value).ownBlock) (.slice Ao46 t11025.length co46) t11046) ∧ Aside0 (Kd.R (Kd.int .i64) 3 wc w.heap.size (fun k_ => some k_ ≠ ((.slice Ao29 t11011.length co29) : Value).ownBlock ∧ some k_ ≠ ((.slice Ao36 t11041.length co36) : Value).ownBlock ∧ some k_ ≠ ((.slice Ao46 t11025.length co46) : Value).ownBlock) (.slice Ao143 t11056.length co143) t11056) ∧ Aside0 (wc.heap[gb11001]? = some (.cells #[.int .i64 a0_0, (.slice A0_1 l0_1.length c0_1)] 24 (0, 0))) ∧ Aside0 (wc.heap[gb11015]? = some (.cells #[.int .i64 t11010, (.slice Ao29 t11011.length co29)] 26 (0, 0))) ∧ Aside0 (wc.heap[gb11020]? = some (.cells #[.int .i64 t11016, (.slice Ao36 t11041.length co36)] 26 (0, 0))) ∧ Aside0 (wc.heap[gb11029]? = some (.cells #[.int .i64 t11024, (.slice Ao46 t11025.length co46)] 26 (0, 0))) ∧ Aside0 (wc.heap[gb11060]? = some (.cells #[.int .i64 t11055, (.slice Ao143 t11056.length co143)] 26 (0, 0))) ∧ Aside0 (Below w.heap.size w wc))
             case first =>
              have H := HC121.out
              clear HC121
              replace H := Option.bind_eq_some_iff.mp H
              obtain ⟨t11061, A1440, H⟩ := H
              replace H : (if t11061 = true then (laws_FnExactExtend.j2 kj73 t11045 (t11059 != t11014) t11024 t11046) else (laws_FnExactExtend.j2 kj73 t11045 true t11024 t11046)) = some true := H
              have A144 := aQ A1440
              clear A1440
              by_cases c145 : t11061 = true
              ·subst c145
               have H1 : (laws_FnExactExtend.j2 kj73 t11045 (t11059 != t11014) t11024 t11046) = some true := by rw [if_pos rfl] at H; exact H
               clear H
               have H := H1
               clear H1
               have H' := aQ H
               clear H
               have hnb146 := NB11060_11001.out
               have hnc146 := NB11001_11060.out
               have hnb147 := NB11060_11015.out
               have hnc147 := NB11015_11060.out
               have hnb148 := NB11060_11020.out
               have hnc148 := NB11020_11060.out
               have hnb149 := NB11060_11029.out
               have hnc149 := NB11029_11060.out
               have hcz150_0 := bc (v := (.int .i64 0)) BK11060.out 0
               have hcz150_1 := bc (v := (.slice none 0 0)) BK11060.out 1
               have hfz150_0 := blk_frozen BK11060.out 0
               have hfz150_1 := blk_frozen BK11060.out 1
               have hnb151 := NB11015_11001.out
               have hnc151 := NB11001_11015.out
               have hnb152 := NB11015_11020.out
               have hnc152 := NB11020_11015.out
               have hnb153 := NB11015_11029.out
               have hnc153 := NB11029_11015.out
               have hcz154_0 := bc (v := (.int .i64 t11010)) BK11015.out 0
               have hcz154_1 := bc (v := (.slice Ao29 t11011.length co29)) BK11015.out 1
               have hfz154_0 := blk_frozen BK11015.out 0
               have hfz154_1 := blk_frozen BK11015.out 1
               go_wp2_with (first | ((with_reducible refine gate_callee (f := 20) rfl ?_); refine goesL_ (some 102) rfl rfl Try.func20 (by kernel_rfl) rfl #[.agg #[.int .i64 t11055, .slice Ao143 t11056.length co143], .agg #[.int .i64 t11010, .slice Ao29 t11011.length co29]] rfl lm ?_; (with_reducible refine (laws_eqMatroid.calls kj73 t11055 _ _ t11056 t11010 _ _ t11011 true _ ?side1 ?side2 ?side3 ?side4 A144.out).mono ?_); (case side1 => refine (Kd.R_reads' (e := 3) (base := w.heap.size) (ok := fun k_ => (((((True ∧ some k_ ≠ (.slice Ao29 t11011.length co29 : Value).ownBlock) ∧ some k_ ≠ (.slice Ao36 t11041.length co36 : Value).ownBlock) ∧ some k_ ≠ (.slice Ao46 t11025.length co46 : Value).ownBlock) ∧ some k_ ≠ (.slice Ao134 t11049.length co134 : Value).ownBlock) ∧ some k_ ≠ (.slice Ao135 t11052.length co135 : Value).ownBlock)) (n := t11056.length) (c := co143) ?_).2.2; exact (by (with_reducible repeat (first | apply Kd.R_alloc | apply Kd.R_drewN | apply Kd.R_drew)); exact (Kd.R_mono (Kd.R_far (p := ⟨gb11060, 1, none⟩) (Kd.R_far (p := ⟨gb11060, 0, none⟩) (Kd.R_types HO11058.out BK11060.out (by decide)) (fun _ hk => hk.2) (.int .i64 t11055)) (fun _ hk => hk.2) (.slice Ao143 t11056.length co143)) (fun _ h_ => h_.1)))); (case side2 => exact (Kd.R_reads' HO11058.out).2.1); (case side3 => refine (Kd.R_reads' (e := 3) (base := w.heap.size) (ok := fun k_ => ((((some k_ ≠ (.slice Ao36 t11041.length co36 : Value).ownBlock ∧ some k_ ≠ (.slice Ao46 t11025.length co46 : Value).ownBlock) ∧ some k_ ≠ (.slice Ao134 t11049.length co134 : Value).ownBlock) ∧ some k_ ≠ (.slice Ao135 t11052.length co135 : Value).ownBlock) ∧ some k_ ≠ (.slice Ao143 t11056.length co143 : Value).ownBlock)) (n := t11011.length) (c := co29) ?_).2.2; exact (by (with_reducible repeat (first | apply Kd.R_alloc | apply Kd.R_drewN | apply Kd.R_drew)); exact (Kd.R_mono (Kd.R_far (p := ⟨gb11060, 1, none⟩) (Kd.R_far (p := ⟨gb11060, 0, none⟩) (Kd.R_types HO_11016001.out BK11060.out (by decide)) (fun _ hk => hk.2) (.int .i64 t11055)) (fun _ hk => hk.2) (.slice Ao143 t11056.length co143)) (fun _ h_ => h_.1)))); (case side4 => exact (Kd.R_reads' HO_11016001.out).2.1); rintro e w155 ⟨rfl, hb⟩; refine ⟨_, rfl, ?_⟩; replace HO_11016001 := aQ (Kd.R_below (by (with_reducible repeat (first | apply Kd.R_alloc | apply Kd.R_drewN | apply Kd.R_drew)); exact (Kd.R_mono (Kd.R_far (p := ⟨gb11060, 1, none⟩) (Kd.R_far (p := ⟨gb11060, 0, none⟩) (Kd.R_types HO_11016001.out BK11060.out (by decide)) (fun _ hk => hk.2) (.int .i64 t11055)) (fun _ hk => hk.2) (.slice Ao143 t11056.length co143)) (fun _ h_ => h_.1))) hb); replace HO_11021001 := aQ (Kd.R_below (by (with_reducible repeat (first | apply Kd.R_alloc | apply Kd.R_drewN | apply Kd.R_drew)); exact (Kd.R_mono (Kd.R_far (p := ⟨gb11060, 1, none⟩) (Kd.R_far (p := ⟨gb11060, 0, none⟩) (Kd.R_types HO_11021001.out BK11060.out (by decide)) (fun _ hk => hk.2) (.int .i64 t11055)) (fun _ hk => hk.2) (.slice Ao143 t11056.length co143)) (fun _ h_ => h_.1))) hb); replace HO_11030001 := aQ (Kd.R_below (by (with_reducible repeat (first | apply Kd.R_alloc | apply Kd.R_drewN | apply Kd.R_drew)); exact (Kd.R_mono (Kd.R_far (p := ⟨gb11060, 1, none⟩) (Kd.R_far (p := ⟨gb11060, 0, none⟩) (Kd.R_types HO_11030001.out BK11060.out (by decide)) (fun _ hk => hk.2) (.int .i64 t11055)) (fun _ hk => hk.2) (.slice Ao143 t11056.length co143)) (fun _ h_ => h_.1))) hb); replace HO11051 := aQ (Kd.R_below (by (with_reducible repeat (first | apply Kd.R_alloc | apply Kd.R_drewN | apply Kd.R_drew)); exact (Kd.R_mono (Kd.R_far (p := ⟨gb11060, 1, none⟩) (Kd.R_far (p := ⟨gb11060, 0, none⟩) (Kd.R_types HO11051.out BK11060.out (by decide)) (fun _ hk => hk.2) (.int .i64 t11055)) (fun _ hk => hk.2) (.slice Ao143 t11056.length co143)) (fun _ h_ => h_.1))) hb); replace HO11054 := aQ (Kd.R_below (by (with_reducible repeat (first | apply Kd.R_alloc | apply Kd.R_drewN | apply Kd.R_drew)); exact (Kd.R_mono (Kd.R_far (p := ⟨gb11060, 1, none⟩) (Kd.R_far (p := ⟨gb11060, 0, none⟩) (Kd.R_types HO11054.out BK11060.out (by decide)) (fun _ hk => hk.2) (.int .i64 t11055)) (fun _ hk => hk.2) (.slice Ao143 t11056.length co143)) (fun _ h_ => h_.1))) hb); replace HO11058 := aQ (Kd.R_below (by (with_reducible repeat (first | apply Kd.R_alloc | apply Kd.R_drewN | apply Kd.R_drew)); exact (Kd.R_mono (Kd.R_far (p := ⟨gb11060, 1, none⟩) (Kd.R_far (p := ⟨gb11060, 0, none⟩) (Kd.R_types HO11058.out BK11060.out (by decide)) (fun _ hk => hk.2) (.int .i64 t11055)) (fun _ hk => hk.2) (.slice Ao143 t11056.length co143)) (fun _ h_ => h_.1))) hb); replace BK11001 := aQ (blk_below (g := gb11001) (o := .cells #[.int .i64 a0_0, .slice A0_1 l0_1.length c0_1] 24 (0, 0)) (by (with_reducible repeat (first | refine blk_drewN ?_ _ | refine blk_drew ?_ | refine blk_alloc ?_ _)); refine blk_far ?_ NB11001_11060.out _; (with_reducible repeat (first | refine blk_drewN ?_ _ | refine blk_drew ?_ | refine blk_alloc ?_ _)); refine blk_far ?_ NB11001_11060.out _; (with_reducible repeat (first | refine blk_drewN ?_ _ | refine blk_drew ?_ | refine blk_alloc ?_ _)); exact BK11001.out) hb); replace BK11015 := aQ (blk_below (g := gb11015) (o := .cells #[.int .i64 t11010, .slice Ao29 t11011.length co29] 26 (0, 0)) (by (with_reducible repeat (first | refine blk_drewN ?_ _ | refine blk_drew ?_ | refine blk_alloc ?_ _)); refine blk_far ?_ NB11015_11060.out _; (with_reducible repeat (first | refine blk_drewN ?_ _ | refine blk_drew ?_ | refine blk_alloc ?_ _)); refine blk_far ?_ NB11015_11060.out _; (with_reducible repeat (first | refine blk_drewN ?_ _ | refine blk_drew ?_ | refine blk_alloc ?_ _)); exact BK11015.out) hb); replace BK11020 := aQ (blk_below (g := gb11020) (o := .cells #[.int .i64 t11016, .slice Ao36 t11041.length co36] 26 (0, 0)) (by (with_reducible repeat (first | refine blk_drewN ?_ _ | refine blk_drew ?_ | refine blk_alloc ?_ _)); refine blk_far ?_ NB11020_11060.out _; (with_reducible repeat (first | refine blk_drewN ?_ _ | refine blk_drew ?_ | refine blk_alloc ?_ _)); refine blk_far ?_ NB11020_11060.out _; (with_reducible repeat (first | refine blk_drewN ?_ _ | refine blk_drew ?_ | refine blk_alloc ?_ _)); exact BK11020.out) hb); replace BK11029 := aQ (blk_below (g := gb11029) (o := .cells #[.int .i64 t11024, .slice Ao46 t11025.length co46] 26 (0, 0)) (by (with_reducible repeat (first | refine blk_drewN ?_ _ | refine blk_drew ?_ | refine blk_alloc ?_ _)); refine blk_far ?_ NB11029_11060.out _; (with_reducible repeat (first | refine blk_drewN ?_ _ | refine blk_drew ?_ | refine blk_alloc ?_ _)); refine blk_far ?_ NB11029_11060.out _; (with_reducible repeat (first | refine blk_drewN ?_ _ | refine blk_drew ?_ | refine blk_alloc ?_ _)); exact BK11029.out) hb); replace BK11060 := aQ (blk_below (g := gb11060) (o := .cells #[.int .i64 t11055, .slice Ao143 t11056.length co143] 26 (0, 0)) (by (with_reducible repeat (first | refine blk_drewN ?_ _ | refine blk_drew ?_ | refine blk_alloc ?_ _)); refine blk_put (cs := #[.int .i64 t11055, .slice none 0 0]) ?_ 1 _ rfl; (with_reducible repeat (first | refine blk_drewN ?_ _ | refine blk_drew ?_ | refine blk_alloc ?_ _)); refine blk_put (cs := #[.int .i64 0, .slice none 0 0]) ?_ 0 _ rfl; (with_reducible repeat (first | refine blk_drewN ?_ _ | refine blk_drew ?_ | refine blk_alloc ?_ _)); exact BK11060.out) hb); replace HB := aQ (below_step (by repeat (first | (with_reducible first | exact HB.out | apply below_alloc | apply pw_below_drewN | apply below_drew1 | refine below_set ?_ GE11001.out | refine below_set ?_ GE11015.out | refine below_set ?_ GE11020.out | refine below_set ?_ GE11029.out | refine below_set ?_ GE11060.out) | exact HB.out)) hb); (try clear hb); (try clear hk)))
               go_meet
               case rel => exact ⟨_, ((t11059 != t11014)), rs_, H', ⟨by have := HJ15.out; have := HJ73.out; first | omega | exact Nat.le_refl _⟩, ⟨by (try simp only [hl11021001_73]); (with_reducible repeat (first | apply Kd.R_alloc | apply Kd.R_drewN | apply Kd.R_drew)); exact Kd.R_mono HO_11016001.out (fun _ hk => ⟨hk.1.1.1.1, ⟨hk.1.1.1.2, hk.2⟩⟩)⟩, ⟨by (try simp only [hl11021001_73]); (with_reducible repeat (first | apply Kd.R_alloc | apply Kd.R_drewN | apply Kd.R_drew)); exact Kd.R_mono HO_11021001.out (fun _ hk => ⟨hk.1.1.1.1, ⟨hk.1.1.1.2, hk.2⟩⟩)⟩, ⟨by (try simp only [hl11021001_73]); (with_reducible repeat (first | apply Kd.R_alloc | apply Kd.R_drewN | apply Kd.R_drew)); exact Kd.R_mono HO_11030001.out (fun _ hk => ⟨hk.1.1.1.1, ⟨hk.1.1.1.2, hk.2⟩⟩)⟩, ⟨by (try simp only [hl11021001_73]); (with_reducible repeat (first | apply Kd.R_alloc | apply Kd.R_drewN | apply Kd.R_drew)); exact Kd.R_mono HO11058.out (fun _ hk => ⟨hk.1.1.1.1.2, ⟨hk.1.1.1.2, hk.1.1.2⟩⟩)⟩, ⟨by (try simp only [hl11021001_73]); (with_reducible repeat (first | refine blk_drewN ?_ _ | refine blk_drew ?_ | refine blk_alloc ?_ _)); exact BK11001.out⟩, ⟨by (try simp only [hl11021001_73]); (with_reducible repeat (first | refine blk_drewN ?_ _ | refine blk_drew ?_ | refine blk_alloc ?_ _)); exact BK11015.out⟩, ⟨by (try simp only [hl11021001_73]); (with_reducible repeat (first | refine blk_drewN ?_ _ | refine blk_drew ?_ | refine blk_alloc ?_ _)); exact BK11020.out⟩, ⟨by (try simp only [hl11021001_73]); (with_reducible repeat (first | refine blk_drewN ?_ _ | refine blk_drew ?_ | refine blk_alloc ?_ _)); exact BK11029.out⟩, ⟨by (try simp only [hl11021001_73]); (with_reducible repeat (first | refine blk_drewN ?_ _ | refine blk_drew ?_ | refine blk_alloc ?_ _)); exact BK11060.out⟩, ⟨by repeat (first | (with_reducible first | exact HB.out | apply below_alloc | apply pw_below_drewN | apply below_drew1 | refine below_set ?_ GE11001.out | refine below_set ?_ GE11015.out | refine below_set ?_ GE11020.out | refine below_set ?_ GE11029.out | refine below_set ?_ GE11060.out) | exact HB.out)⟩⟩
              ·replace c145 := Bool.eq_false_iff.mpr c145
               subst c145
               have H1 : (laws_FnExactExtend.j2 kj73 t11045 true t11024 t11046) = some true := by rw [if_neg (show ¬ (false = true) by decide)] at H; exact H
               clear H
               have H := H1
               clear H1
               have H' := aQ H
               clear H
               have hnb156 := NB11060_11001.out
               have hnc156 := NB11001_11060.out
               have hnb157 := NB11060_11015.out
               have hnc157 := NB11015_11060.out
               have hnb158 := NB11060_11020.out
               have hnc158 := NB11020_11060.out
               have hnb159 := NB11060_11029.out
               have hnc159 := NB11029_11060.out
               have hcz160_0 := bc (v := (.int .i64 0)) BK11060.out 0
               have hcz160_1 := bc (v := (.slice none 0 0)) BK11060.out 1
               have hfz160_0 := blk_frozen BK11060.out 0
               have hfz160_1 := blk_frozen BK11060.out 1
               have hnb161 := NB11015_11001.out
               have hnc161 := NB11001_11015.out
               have hnb162 := NB11015_11020.out
               have hnc162 := NB11020_11015.out
               have hnb163 := NB11015_11029.out
               have hnc163 := NB11029_11015.out
               have hcz164_0 := bc (v := (.int .i64 t11010)) BK11015.out 0
               have hcz164_1 := bc (v := (.slice Ao29 t11011.length co29)) BK11015.out 1
               have hfz164_0 := blk_frozen BK11015.out 0
               have hfz164_1 := blk_frozen BK11015.out 1
               go_wp2_with (first | ((with_reducible refine gate_callee (f := 20) rfl ?_); refine goesL_ (some 102) rfl rfl Try.func20 (by kernel_rfl) rfl #[.agg #[.int .i64 t11055, .slice Ao143 t11056.length co143], .agg #[.int .i64 t11010, .slice Ao29 t11011.length co29]] rfl lm ?_; (with_reducible refine (laws_eqMatroid.calls kj73 t11055 _ _ t11056 t11010 _ _ t11011 false _ ?side1 ?side2 ?side3 ?side4 A144.out).mono ?_); (case side1 => refine (Kd.R_reads' (e := 3) (base := w.heap.size) (ok := fun k_ => (((((True ∧ some k_ ≠ (.slice Ao29 t11011.length co29 : Value).ownBlock) ∧ some k_ ≠ (.slice Ao36 t11041.length co36 : Value).ownBlock) ∧ some k_ ≠ (.slice Ao46 t11025.length co46 : Value).ownBlock) ∧ some k_ ≠ (.slice Ao134 t11049.length co134 : Value).ownBlock) ∧ some k_ ≠ (.slice Ao135 t11052.length co135 : Value).ownBlock)) (n := t11056.length) (c := co143) ?_).2.2; exact (by (with_reducible repeat (first | apply Kd.R_alloc | apply Kd.R_drewN | apply Kd.R_drew)); exact (Kd.R_mono (Kd.R_far (p := ⟨gb11060, 1, none⟩) (Kd.R_far (p := ⟨gb11060, 0, none⟩) (Kd.R_types HO11058.out BK11060.out (by decide)) (fun _ hk => hk.2) (.int .i64 t11055)) (fun _ hk => hk.2) (.slice Ao143 t11056.length co143)) (fun _ h_ => h_.1)))); (case side2 => exact (Kd.R_reads' HO11058.out).2.1); (case side3 => refine (Kd.R_reads' (e := 3) (base := w.heap.size) (ok := fun k_ => ((((some k_ ≠ (.slice Ao36 t11041.length co36 : Value).ownBlock ∧ some k_ ≠ (.slice Ao46 t11025.length co46 : Value).ownBlock) ∧ some k_ ≠ (.slice Ao134 t11049.length co134 : Value).ownBlock) ∧ some k_ ≠ (.slice Ao135 t11052.length co135 : Value).ownBlock) ∧ some k_ ≠ (.slice Ao143 t11056.length co143 : Value).ownBlock)) (n := t11011.length) (c := co29) ?_).2.2; exact (by (with_reducible repeat (first | apply Kd.R_alloc | apply Kd.R_drewN | apply Kd.R_drew)); exact (Kd.R_mono (Kd.R_far (p := ⟨gb11060, 1, none⟩) (Kd.R_far (p := ⟨gb11060, 0, none⟩) (Kd.R_types HO_11016001.out BK11060.out (by decide)) (fun _ hk => hk.2) (.int .i64 t11055)) (fun _ hk => hk.2) (.slice Ao143 t11056.length co143)) (fun _ h_ => h_.1)))); (case side4 => exact (Kd.R_reads' HO_11016001.out).2.1); rintro e w165 ⟨rfl, hb⟩; refine ⟨_, rfl, ?_⟩; replace HO_11016001 := aQ (Kd.R_below (by (with_reducible repeat (first | apply Kd.R_alloc | apply Kd.R_drewN | apply Kd.R_drew)); exact (Kd.R_mono (Kd.R_far (p := ⟨gb11060, 1, none⟩) (Kd.R_far (p := ⟨gb11060, 0, none⟩) (Kd.R_types HO_11016001.out BK11060.out (by decide)) (fun _ hk => hk.2) (.int .i64 t11055)) (fun _ hk => hk.2) (.slice Ao143 t11056.length co143)) (fun _ h_ => h_.1))) hb); replace HO_11021001 := aQ (Kd.R_below (by (with_reducible repeat (first | apply Kd.R_alloc | apply Kd.R_drewN | apply Kd.R_drew)); exact (Kd.R_mono (Kd.R_far (p := ⟨gb11060, 1, none⟩) (Kd.R_far (p := ⟨gb11060, 0, none⟩) (Kd.R_types HO_11021001.out BK11060.out (by decide)) (fun _ hk => hk.2) (.int .i64 t11055)) (fun _ hk => hk.2) (.slice Ao143 t11056.length co143)) (fun _ h_ => h_.1))) hb); replace HO_11030001 := aQ (Kd.R_below (by (with_reducible repeat (first | apply Kd.R_alloc | apply Kd.R_drewN | apply Kd.R_drew)); exact (Kd.R_mono (Kd.R_far (p := ⟨gb11060, 1, none⟩) (Kd.R_far (p := ⟨gb11060, 0, none⟩) (Kd.R_types HO_11030001.out BK11060.out (by decide)) (fun _ hk => hk.2) (.int .i64 t11055)) (fun _ hk => hk.2) (.slice Ao143 t11056.length co143)) (fun _ h_ => h_.1))) hb); replace HO11051 := aQ (Kd.R_below (by (with_reducible repeat (first | apply Kd.R_alloc | apply Kd.R_drewN | apply Kd.R_drew)); exact (Kd.R_mono (Kd.R_far (p := ⟨gb11060, 1, none⟩) (Kd.R_far (p := ⟨gb11060, 0, none⟩) (Kd.R_types HO11051.out BK11060.out (by decide)) (fun _ hk => hk.2) (.int .i64 t11055)) (fun _ hk => hk.2) (.slice Ao143 t11056.length co143)) (fun _ h_ => h_.1))) hb); replace HO11054 := aQ (Kd.R_below (by (with_reducible repeat (first | apply Kd.R_alloc | apply Kd.R_drewN | apply Kd.R_drew)); exact (Kd.R_mono (Kd.R_far (p := ⟨gb11060, 1, none⟩) (Kd.R_far (p := ⟨gb11060, 0, none⟩) (Kd.R_types HO11054.out BK11060.out (by decide)) (fun _ hk => hk.2) (.int .i64 t11055)) (fun _ hk => hk.2) (.slice Ao143 t11056.length co143)) (fun _ h_ => h_.1))) hb); replace HO11058 := aQ (Kd.R_below (by (with_reducible repeat (first | apply Kd.R_alloc | apply Kd.R_drewN | apply Kd.R_drew)); exact (Kd.R_mono (Kd.R_far (p := ⟨gb11060, 1, none⟩) (Kd.R_far (p := ⟨gb11060, 0, none⟩) (Kd.R_types HO11058.out BK11060.out (by decide)) (fun _ hk => hk.2) (.int .i64 t11055)) (fun _ hk => hk.2) (.slice Ao143 t11056.length co143)) (fun _ h_ => h_.1))) hb); replace BK11001 := aQ (blk_below (g := gb11001) (o := .cells #[.int .i64 a0_0, .slice A0_1 l0_1.length c0_1] 24 (0, 0)) (by (with_reducible repeat (first | refine blk_drewN ?_ _ | refine blk_drew ?_ | refine blk_alloc ?_ _)); refine blk_far ?_ NB11001_11060.out _; (with_reducible repeat (first | refine blk_drewN ?_ _ | refine blk_drew ?_ | refine blk_alloc ?_ _)); refine blk_far ?_ NB11001_11060.out _; (with_reducible repeat (first | refine blk_drewN ?_ _ | refine blk_drew ?_ | refine blk_alloc ?_ _)); exact BK11001.out) hb); replace BK11015 := aQ (blk_below (g := gb11015) (o := .cells #[.int .i64 t11010, .slice Ao29 t11011.length co29] 26 (0, 0)) (by (with_reducible repeat (first | refine blk_drewN ?_ _ | refine blk_drew ?_ | refine blk_alloc ?_ _)); refine blk_far ?_ NB11015_11060.out _; (with_reducible repeat (first | refine blk_drewN ?_ _ | refine blk_drew ?_ | refine blk_alloc ?_ _)); refine blk_far ?_ NB11015_11060.out _; (with_reducible repeat (first | refine blk_drewN ?_ _ | refine blk_drew ?_ | refine blk_alloc ?_ _)); exact BK11015.out) hb); replace BK11020 := aQ (blk_below (g := gb11020) (o := .cells #[.int .i64 t11016, .slice Ao36 t11041.length co36] 26 (0, 0)) (by (with_reducible repeat (first | refine blk_drewN ?_ _ | refine blk_drew ?_ | refine blk_alloc ?_ _)); refine blk_far ?_ NB11020_11060.out _; (with_reducible repeat (first | refine blk_drewN ?_ _ | refine blk_drew ?_ | refine blk_alloc ?_ _)); refine blk_far ?_ NB11020_11060.out _; (with_reducible repeat (first | refine blk_drewN ?_ _ | refine blk_drew ?_ | refine blk_alloc ?_ _)); exact BK11020.out) hb); replace BK11029 := aQ (blk_below (g := gb11029) (o := .cells #[.int .i64 t11024, .slice Ao46 t11025.length co46] 26 (0, 0)) (by (with_reducible repeat (first | refine blk_drewN ?_ _ | refine blk_drew ?_ | refine blk_alloc ?_ _)); refine blk_far ?_ NB11029_11060.out _; (with_reducible repeat (first | refine blk_drewN ?_ _ | refine blk_drew ?_ | refine blk_alloc ?_ _)); refine blk_far ?_ NB11029_11060.out _; (with_reducible repeat (first | refine blk_drewN ?_ _ | refine blk_drew ?_ | refine blk_alloc ?_ _)); exact BK11029.out) hb); replace BK11060 := aQ (blk_below (g := gb11060) (o := .cells #[.int .i64 t11055, .slice Ao143 t11056.length co143] 26 (0, 0)) (by (with_reducible repeat (first | refine blk_drewN ?_ _ | refine blk_drew ?_ | refine blk_alloc ?_ _)); refine blk_put (cs := #[.int .i64 t11055, .slice none 0 0]) ?_ 1 _ rfl; (with_reducible repeat (first | refine blk_drewN ?_ _ | refine blk_drew ?_ | refine blk_alloc ?_ _)); refine blk_put (cs := #[.int .i64 0, .slice none 0 0]) ?_ 0 _ rfl; (with_reducible repeat (first | refine blk_drewN ?_ _ | refine blk_drew ?_ | refine blk_alloc ?_ _)); exact BK11060.out) hb); replace HB := aQ (below_step (by repeat (first | (with_reducible first | exact HB.out | apply below_alloc | apply pw_below_drewN | apply below_drew1 | refine below_set ?_ GE11001.out | refine below_set ?_ GE11015.out | refine below_set ?_ GE11020.out | refine below_set ?_ GE11029.out | refine below_set ?_ GE11060.out) | exact HB.out)) hb); (try clear hb); (try clear hk)))
               go_meet
               case rel => exact ⟨_, (true), rs_, H', ⟨by have := HJ15.out; have := HJ73.out; first | omega | exact Nat.le_refl _⟩, ⟨by (try simp only [hl11021001_73]); (with_reducible repeat (first | apply Kd.R_alloc | apply Kd.R_drewN | apply Kd.R_drew)); exact Kd.R_mono HO_11016001.out (fun _ hk => ⟨hk.1.1.1.1, ⟨hk.1.1.1.2, hk.2⟩⟩)⟩, ⟨by (try simp only [hl11021001_73]); (with_reducible repeat (first | apply Kd.R_alloc | apply Kd.R_drewN | apply Kd.R_drew)); exact Kd.R_mono HO_11021001.out (fun _ hk => ⟨hk.1.1.1.1, ⟨hk.1.1.1.2, hk.2⟩⟩)⟩, ⟨by (try simp only [hl11021001_73]); (with_reducible repeat (first | apply Kd.R_alloc | apply Kd.R_drewN | apply Kd.R_drew)); exact Kd.R_mono HO_11030001.out (fun _ hk => ⟨hk.1.1.1.1, ⟨hk.1.1.1.2, hk.2⟩⟩)⟩, ⟨by (try simp only [hl11021001_73]); (with_reducible repeat (first | apply Kd.R_alloc | apply Kd.R_drewN | apply Kd.R_drew)); exact Kd.R_mono HO11058.out (fun _ hk => ⟨hk.1.1.1.1.2, ⟨hk.1.1.1.2, hk.1.1.2⟩⟩)⟩, ⟨by (try simp only [hl11021001_73]); (with_reducible repeat (first | refine blk_drewN ?_ _ | refine blk_drew ?_ | refine blk_alloc ?_ _)); exact BK11001.out⟩, ⟨by (try simp only [hl11021001_73]); (with_reducible repeat (first | refine blk_drewN ?_ _ | refine blk_drew ?_ | refine blk_alloc ?_ _)); exact BK11015.out⟩, ⟨by (try simp only [hl11021001_73]); (with_reducible repeat (first | refine blk_drewN ?_ _ | refine blk_drew ?_ | refine blk_alloc ?_ _)); exact BK11020.out⟩, ⟨by (try simp only [hl11021001_73]); (with_reducible repeat (first | refine blk_drewN ?_ _ | refine blk_drew ?_ | refine blk_alloc ?_ _)); exact BK11029.out⟩, ⟨by (try simp only [hl11021001_73]); (with_reducible repeat (first | refine blk_drewN ?_ _ | refine blk_drew ?_ | refine blk_alloc ?_ _)); exact BK11060.out⟩, ⟨by repeat (first | (with_reducible first | exact HB.out | apply below_alloc | apply pw_below_drewN | apply below_drew1 | refine below_set ?_ GE11001.out | refine below_set ?_ GE11015.out | refine below_set ?_ GE11020.out | refine below_set ?_ GE11029.out | refine below_set ?_ GE11060.out) | exact HB.out)⟩⟩
             case rest =>
              clear HC121
              try clear c1
              try clear c2
              try clear p2
              try clear c3
              try clear c3b0
              try clear c3b1
              try clear c4
              try clear c5
              try clear c6
              try clear c6b0
              try clear c7
              try clear c8
              try clear c9
              try clear c10
              try clear c11
              try clear c12
              try clear c13
              try clear c14
              try clear c15
              try clear c16
              try clear c18
              try clear c20
              try clear c21
              try clear c22
              try clear c25
              try clear c26
              try clear c27
              try clear c31
              try clear c33
              try clear c34
              try clear c39
              try clear c40
              try clear c42
              try clear c43
              try clear c44
              try clear c48
              try clear c49
              try clear c50
              try clear c51
              try clear c53
              try clear c54
              try clear c57
              try clear c58
              try clear c59
              try clear c61
              try clear c62
              try clear c65
              try clear c68
              try clear c71
              try clear c81
              try clear c82
              try clear c83
              try clear c87
              try clear c87b0
              try clear c89
              try clear c90
              try clear c91
              try clear c92
              try clear c94
              try clear c95
              try clear c98
              try clear c99
              try clear c100
              try clear c102
              try clear c103
              try clear c106
              try clear c109
              try clear c109b0
              try clear c110
              try clear c111
              try clear c112
              try clear c117
              try clear c117b0
              try clear c117b1
              try clear c122
              try clear c123
              try clear c124
              try clear c129
              try clear c130
              try clear c138
              try clear c139
              try clear c140
              try clear c141
              try clear c145
              try clear c146
              try clear c147
              try clear c148
              try clear c149
              try clear c151
              try clear c152
              try clear c153
              try clear c156
              try clear c157
              try clear c158
              try clear c159
              try clear c161
              try clear c162
              try clear c163
              try clear hcz101_0
              try clear hcz101_1
              try clear hcz104_0
              try clear hcz104_1
              try clear hcz113_0
              try clear hcz113_1
              try clear hcz115_0
              try clear hcz115_1
              try clear hcz125_0
              try clear hcz125_1
              try clear hcz127_0
              try clear hcz127_1
              try clear hcz131_0
              try clear hcz131_1
              try clear hcz142_0
              try clear hcz142_1
              try clear hcz150_0
              try clear hcz150_1
              try clear hcz154_0
              try clear hcz154_1
              try clear hcz160_0
              try clear hcz160_1
              try clear hcz164_0
              try clear hcz164_1
              try clear hcz18_0
              try clear hcz18_1
              try clear hcz20_0
              try clear hcz20_1
              try clear hcz28_0
              try clear hcz28_1
              try clear hcz30_0
              try clear hcz30_1
              try clear hcz35_0
              try clear hcz35_1
              try clear hcz38_0
              try clear hcz38_1
              try clear hcz45_0
              try clear hcz45_1
              try clear hcz52_0
              try clear hcz52_1
              try clear hcz55_0
              try clear hcz55_1
              try clear hcz60_0
              try clear hcz60_1
              try clear hcz63_0
              try clear hcz63_1
              try clear hcz84_0
              try clear hcz84_1
              try clear hcz8_0
              try clear hcz8_1
              try clear hcz93_0
              try clear hcz93_1
              try clear hcz96_0
              try clear hcz96_1
              try clear hfz101_0
              try clear hfz101_1
              try clear hfz104_0
              try clear hfz104_1
              try clear hfz113_0
              try clear hfz113_1
              try clear hfz115_0
              try clear hfz115_1
              try clear hfz125_0
              try clear hfz125_1
              try clear hfz127_0
              try clear hfz127_1
              try clear hfz131_0
              try clear hfz131_1
              try clear hfz142_0
              try clear hfz142_1
              try clear hfz150_0
              try clear hfz150_1
              try clear hfz154_0
              try clear hfz154_1
              try clear hfz160_0
              try clear hfz160_1
              try clear hfz164_0
              try clear hfz164_1
              try clear hfz18_0
              try clear hfz18_1
              try clear hfz20_0
              try clear hfz20_1
              try clear hfz28_0
              try clear hfz28_1
              try clear hfz30_0
              try clear hfz30_1
              try clear hfz35_0
              try clear hfz35_1
              try clear hfz38_0
              try clear hfz38_1
              try clear hfz45_0
              try clear hfz45_1
              try clear hfz52_0
              try clear hfz52_1
              try clear hfz55_0
              try clear hfz55_1
              try clear hfz60_0
              try clear hfz60_1
              try clear hfz63_0
              try clear hfz63_1
              try clear hfz84_0
              try clear hfz84_1
              try clear hfz8_0
              try clear hfz8_1
              try clear hfz93_0
              try clear hfz93_1
              try clear hfz96_0
              try clear hfz96_1
              try clear p2
              obtain ⟨kq, x108_120, rfl, HA, HJ120, HO_11016001, HO_11021001, HO_11030001, HO_11061001, BK11001, BK11015, BK11020, BK11029, BK11060, HB⟩ := hcut
              have hl11030001_120 := (Kd.R_reads' HO_11030001.out).1
              rw [hl11030001_120] at HO_11030001
              (try simp only [hl11030001_120])
              (try simp only [hl11030001_120] at BK11001)
              (try simp only [hl11030001_120] at BK11015)
              (try simp only [hl11030001_120] at BK11020)
              (try simp only [hl11030001_120] at BK11029)
              (try simp only [hl11030001_120] at BK11060)
              (try simp only [hl11030001_120] at HO_11016001)
              (try simp only [hl11030001_120] at HO_11021001)
              (try simp only [hl11030001_120] at HO_11061001)
              cases kq with
              | zero => exact absurd HA.out (by simp [laws_FnExactExtend.j2])
              | succ kj120 =>
               have H := HA.out
               clear HA
               simp only [laws_FnExactExtend.j2] at H
               by_cases c166 : x108_120 = true
               ·subst c166
                have H1 : (some false) = some true := by rw [if_pos rfl] at H; exact H
                clear H
                have H := H1
                clear H1
                exact absurd (Option.some.inj H) (by decide)
               ·replace c166 := Bool.eq_false_iff.mpr c166
                subst c166
                have H1 : ((laws_heldMatroid.f kj120 t11024 t11046 1).bind fun t11062 => (if t11062 < 0 then (some false) else (if t11062 = t11045 then (some true) else (some false)))) = some true := by rw [if_neg (show ¬ (false = true) by decide)] at H; exact H
                clear H
                have H := H1
                clear H1
                replace H := Option.bind_eq_some_iff.mp H
                obtain ⟨t11062, A1670, H⟩ := H
                replace H : (if t11062 < 0 then (some false) else (if t11062 = t11045 then (some true) else (some false))) = some true := H
                have A167 := aQ A1670
                clear A1670
                by_cases c168 : t11062 < 0
                ·rw [if_pos c168] at H
                 have c168b0 : decide (t11062 < 0) = true := decide_eq_true c168
                 clear c168
                 exact absurd (Option.some.inj H) (by decide)
                ·rw [if_neg c168] at H
                 have c168b0 : decide (t11062 < 0) = false := decide_eq_false c168
                 clear c168
                 by_cases c175 : t11062 = t11045
                 ·rw [if_pos c175] at H
                  have c175b0 : (t11062 == t11045) = true := beq_iff_eq.mpr c175
                  have c175b1 : (t11062 != t11045) = false := bne_eq_false_iff_eq.mpr c175
                  clear c175
                  clear H
                  have hnb176 := NB11029_11001.out
                  have hnc176 := NB11001_11029.out
                  have hnb177 := NB11029_11015.out
                  have hnc177 := NB11015_11029.out
                  have hnb178 := NB11029_11020.out
                  have hnc178 := NB11020_11029.out
                  have hnb179 := NB11029_11060.out
                  have hnc179 := NB11060_11029.out
                  have hcz180_0 := bc (v := (.int .i64 t11024)) BK11029.out 0
                  have hcz180_1 := bc (v := (.slice Ao46 t11046.length co46)) BK11029.out 1
                  have hfz180_0 := blk_frozen BK11029.out 0
                  have hfz180_1 := blk_frozen BK11029.out 1
                  go_wp2_with (first | ((with_reducible refine gate_callee (f := 22) rfl ?_); refine goesL_ (some 111) rfl rfl Try.func22 (by kernel_rfl) rfl #[.agg #[.int .i64 t11024, .slice Ao46 t11046.length co46], .int .i64 1] rfl lm ?_; (with_reducible refine (laws_heldMatroid.calls kj120 t11024 _ _ t11046 1 t11062 _ ?side1 ?side2 A167.out).mono ?_); (case side1 => repeat (first | exact (Kd.R_reads' HO_11030001.out).2.2 | (with_reducible refine Kd.C_alloc ?_ _) | (with_reducible refine Kd.C_drewN ?_ _) | (with_reducible refine Kd.C_drew ?_))); (case side2 => exact (Kd.R_reads' HO_11030001.out).2.1); rintro e w181 ⟨rfl, hb⟩; refine ⟨_, rfl, ?_⟩; replace HO_11016001 := aQ (Kd.R_below (pR HO_11016001.out) hb); replace HO_11021001 := aQ (Kd.R_below (pR HO_11021001.out) hb); replace HO_11030001 := aQ (Kd.R_below (pR HO_11030001.out) hb); replace HO_11061001 := aQ (Kd.R_below (pR HO_11061001.out) hb); replace BK11001 := aQ (blk_below (g := gb11001) (o := .cells #[.int .i64 a0_0, .slice A0_1 l0_1.length c0_1] 24 (0, 0)) (pk BK11001.out) hb); replace BK11015 := aQ (blk_below (g := gb11015) (o := .cells #[.int .i64 t11010, .slice Ao29 t11011.length co29] 26 (0, 0)) (pk BK11015.out) hb); replace BK11020 := aQ (blk_below (g := gb11020) (o := .cells #[.int .i64 t11016, .slice Ao36 t11041.length co36] 26 (0, 0)) (pk BK11020.out) hb); replace BK11029 := aQ (blk_below (g := gb11029) (o := .cells #[.int .i64 t11024, .slice Ao46 t11046.length co46] 26 (0, 0)) (pk BK11029.out) hb); replace BK11060 := aQ (blk_below (g := gb11060) (o := .cells #[.int .i64 t11055, .slice Ao143 t11056.length co143] 26 (0, 0)) (pk BK11060.out) hb); replace HB := aQ (below_step (by repeat (first | (with_reducible first | exact HB.out | apply below_alloc | apply pw_below_drewN | apply below_drew1 | refine below_set ?_ GE11001.out | refine below_set ?_ GE11015.out | refine below_set ?_ GE11020.out | refine below_set ?_ GE11029.out | refine below_set ?_ GE11060.out) | exact HB.out)) hb); (try clear hb)))
                  go_ret
                  exact ⟨re_, by repeat (first | (with_reducible first | exact HB.out | apply below_alloc | apply pw_below_drewN | apply below_drew1 | refine below_set ?_ GE11001.out | refine below_set ?_ GE11015.out | refine below_set ?_ GE11020.out | refine below_set ?_ GE11029.out | refine below_set ?_ GE11060.out) | exact HB.out)⟩
                 ·rw [if_neg c175] at H
                  have c175b0 : (t11062 == t11045) = false := beq_eq_false_iff_ne.mpr c175
                  have c175b1 : (t11062 != t11045) = true := bne_iff_ne.mpr c175
                  exact absurd (Option.some.inj H) (by decide)
            ·rw [if_neg c117] at H
             have c117b0 : (t11047 == t11045) = false := beq_eq_false_iff_ne.mpr c117
             have c117b1 : (t11047 != t11045) = true := bne_iff_ne.mpr c117
             exact absurd (Option.some.inj H) (by decide)
       ·replace c71 := Bool.eq_false_iff.mpr c71
        subst c71
        have H1 : (some false) = some true := by rw [if_neg (show ¬ (false = true) by decide)] at H; exact H
        clear H
        have H := H1
        clear H1
        exact absurd (Option.some.inj H) (by decide)
      ·replace c68 := Bool.eq_false_iff.mpr c68
       subst c68
       have H1 : (some false) = some true := by rw [if_neg (show ¬ (false = true) by decide)] at H; exact H
       clear H
       have H := H1
       clear H1
       exact absurd (Option.some.inj H) (by decide)
end Go.Proofs.Ytagncnjllpebjaa.A
